/-
  The small machine and Go's: maps; append. Of no program.
-/
import Derived.Test.YtmikcpgkppkmiaaAi10
set_option linter.unusedVariables false
set_option linter.unusedSimpArgs false
namespace Go.Proofs.YtmikcpgkppkmiaaW.Ai
variable {P : Program} {nb lim : Nat} {r : Rho} {h h' : AH} {w : World} {e : Env} {a : Act} {v : Value} {o : Oper}

/-! ### maps -/
def KeyK (kk : Nat) (dt : TypeDesc) : Prop := (kk = 1 ∧ ∃ q, dt = .int q) ∨ (kk = 2 ∧ dt = .string)
theorem keyOk_inv {t : TypeId} {kk : Nat} (hk : Rs.keyOk P t = some kk) : ∃ dt, P.underlying t = some dt ∧ KeyK kk dt := by
  unfold Rs.keyOk at hk
  split at hk
  · rename_i q hu; injection hk with hk; exact ⟨_, hu, .inl ⟨hk.symm, q, rfl⟩⟩
  · rename_i hu; injection hk with hk; exact ⟨_, hu, .inr ⟨hk.symm, rfl⟩⟩
  · cases hk
theorem checkKey_run {b : Bool} {t : TypeId} {dt : TypeDesc} {kk : Nat} (hu : P.underlying t = some dt) (hk : KeyK kk dt) (v : Value) : (Instr.checkKey b 10000 t v).run P w = .ok () w := by
  rw [Instr.checkKey, Sem.run_bind, run_underlying hu]
  rcases hk with ⟨_, q, rfl⟩ | ⟨_, rfl⟩ <;> rfl
theorem bytes_beq {x y : ByteArray} : (x == y) = true ↔ x = y := by
  rw [beq_toListBytes, beq_iff_eq, ByteArray.toList_eq, ByteArray.toList_eq]
  constructor
  · intro h
    cases x
    cases y
    simp at h
    rw [h]
  · intro h; rw [h]
theorem sameNow_of {kk : Nat} {dt : TypeDesc} (hk : KeyK kk dt) {x y : Value} {b : Bool} (he : eqK kk x y = some b) : Instr.sameNow dt x y = some b ∧ (b = true → y = x) := by
  rcases hk with ⟨rfl, q, rfl⟩ | ⟨rfl, rfl⟩
  · obtain ⟨k, p, p', rfl, rfl, rfl⟩ := eqK1 he
    exact ⟨by simp [Instr.sameNow], fun h => by simp at h; rw [h]⟩
  · obtain ⟨p, p', rfl, rfl, rfl⟩ := eqK2 he
    exact ⟨by simp [Instr.sameNow], fun h => by rw [bytes_beq.1 h]⟩
theorem eqK_self {kk : Nat} {x y x' : Value} {b : Bool} (he : eqK kk x y = some b) (hv : VR r x x') : x' = x := by
  unfold eqK at he
  split at he <;> first | (cases he; done) | (cases hv; rfl)
theorem findNow_of {kk : Nat} {dt : TypeDesc} (hk : KeyK kk dt) {k k' : Value} (hv : VR r k k') : ∀ (es : List (Value × Value)) (ces : List MapEntry) (i : Nat) (res : Option Value), ME r es ces → mapFind kk k es = some res →
    (res = none ∧ Instr.findNow dt k' ces i = some none ∧ ∀ x, mapPut kk k x es = es ++ [(k, x)]) ∨
    (∃ v j u q, res = some v ∧ Instr.findNow dt k' ces i = some (some (i + j, u)) ∧ VR r v u ∧ ces[j]? = some q ∧ q.key = k ∧ k' = k ∧ j < es.length ∧ ∀ x, mapPut kk k x es = es.set j (k, x))
  | [], ces, i, res, hm, hf => by
    have : ces = [] := List.eq_nil_of_length_eq_zero hm.1.symm
    subst this
    simp [mapFind] at hf
    exact .inl ⟨hf.symm, rfl, fun x => rfl⟩
  | (k1, v1) :: es, ces, i, res, hm, hf => by
    cases ces with
    | nil => have := hm.1; simp at this
    | cons c ces =>
      have h0 := hm.2 0 (k1, v1) c rfl rfl
      have hm' : ME r es ces := ⟨by have := hm.1; simpa using this, fun j e c he hc => hm.2 (j + 1) e c (by simpa using he) (by simpa using hc)⟩
      simp only [mapFind] at hf
      cases he : eqK kk k k1 with
      | none => simp [he] at hf
      | some b =>
        obtain ⟨h1, h2⟩ := sameNow_of hk he
        have hkk := eqK_self he hv
        subst hkk
        have h3 : Instr.sameNow dt k' c.key = some b := by rw [h0.1]; exact h1
        cases b with
        | true =>
          simp [he] at hf
          refine .inr ⟨v1, 0, c.val, c, hf.symm, by simp [Instr.findNow, h3], h0.2, rfl, by rw [h0.1]; exact h2 rfl, rfl, by simp, fun x => by simp [mapPut, he]⟩
        | false =>
          simp [he] at hf
          rcases findNow_of hk hv es ces (i + 1) res hm' hf with ⟨g1, g2, g3⟩ | ⟨v, j, u, q, g1, g2, g3, g4, g5, g6, g7, g8⟩
          · exact .inl ⟨g1, by simp [Instr.findNow, h3, g2], fun x => by simp [mapPut, he, g3]⟩
          · exact .inr ⟨v, j + 1, u, q, g1, by simp [Instr.findNow, h3, g2]; omega, g3, by simpa using g4, g5, g6, by simp; omega, fun x => by simp [mapPut, he, g8]⟩
theorem findKey_of {t : TypeId} {dt : TypeDesc} (hu : P.underlying t = some dt) {k : Value} {ces : List MapEntry} {q : Option (Nat × Value)} (hf : Instr.findNow dt k ces 0 = some q) : (Instr.findKey t k ces).run P w = .ok q w := by
  unfold Instr.findKey
  simp [run_underlying hu, hf]

theorem good_lookup0 (hr : HR nb r h w) {t kt et : TypeId} {m k : Operand} {ok : Bool} (ho : o.op = .lookup t m k ok) (hu : P.underlying t = some (.map kt et)) {kk : Nat} (hk : Rs.keyOk P kt = some kk) {z : Value} (hz : Rs.zero1 P et = some z) (hm : VR r (ev e m) (a.eval m)) (hme : ev e m = .map none) :
    Good P nb lim r h w o a (lookV z ok none) h := by
  obtain ⟨dt, hd, hK⟩ := keyOk_inv hk
  obtain ⟨z1, z2⟩ := run_zero1 (w := w) hz
  rw [hme] at hm
  have hm' : a.eval m = .map none := by generalize a.eval m = q at hm; cases hm; rfl
  have hfk : (Instr.findKey kt (a.eval k) []).run P w = .ok none w := findKey_of hd (by simp [Instr.findNow])
  refine Good.same hr (v' := if ok then .tuple #[z, .bool false] else z) ?_ ?_
  · rw [execOp, ho]
    simp [Instr.lookup, run_underlying hu, hm', checkKey_run hd hK, hfk, z1]
  · cases ok
    · exact VR.flat z2
    · exact VR.tupleL (VL.cons (VR.flat z2) (VL.cons (.bool _) (VL.nil _)))
theorem good_lookup (hr : HR nb r h w) {t kt et : TypeId} {m k : Operand} {ok : Bool} (ho : o.op = .lookup t m k ok) (hu : P.underlying t = some (.map kt et)) {kk : Nat} (hk : Rs.keyOk P kt = some kk) {z : Value} (hz : Rs.zero1 P et = some z) (hm : VR r (ev e m) (a.eval m)) (hv : VR r (ev e k) (a.eval k)) {b : Nat} (hme : ev e m = .map (some b)) {es : List (Value × Value)} (hb : h[b]? = some (.map es)) {res : Option Value} (hf : mapFind kk (ev e k) es = some res) :
    Good P nb lim r h w o a (lookV z ok res) h := by
  obtain ⟨dt, hd, hK⟩ := keyOk_inv hk
  obtain ⟨z1, z2⟩ := run_zero1 (w := w) hz
  rw [hme] at hm
  obtain ⟨i, hi, hm'⟩ := hm.map_inv
  obtain ⟨ces, clk, g1, g2⟩ := hr.map hi hb
  rcases findNow_of hK hv es ces.toList 0 res g2 hf with ⟨rfl, k1, k2⟩ | ⟨v, j, u, q, rfl, k1, k2, k3⟩
  · have hfk := findKey_of (w := w) hd k1
    refine Good.same hr (v' := if ok then .tuple #[z, .bool false] else z) ?_ ?_
    · rw [execOp, ho]
      simp [Instr.lookup, run_underlying hu, hm', run_getMap g1, checkKey_run hd hK, hfk, z1]
    · cases ok
      · exact VR.flat z2
      · exact VR.tupleL (VL.cons (VR.flat z2) (VL.cons (.bool _) (VL.nil _)))
  · have hfk := findKey_of (w := w) hd k1
    refine Good.same hr (v' := if ok then .tuple #[u, .bool true] else u) ?_ ?_
    · rw [execOp, ho]
      simp [Instr.lookup, run_underlying hu, hm', run_getMap g1, checkKey_run hd hK, hfk, z1]
    · cases ok
      · exact k2
      · exact VR.tupleL (VL.cons k2 (VL.cons (.bool _) (VL.nil _)))
theorem setObj_run {g : Nat} {ces : Array MapEntry} {clk : Nat} (hg : w.heap[g]? = some (.map ces clk)) (x : Obj) : (setObj g x).run P w = .ok () { w with heap := w.heap.setIfInBounds g x } := by simp [setObj, Sem.run, hg]
theorem sameBits_self {kk : Nat} {v : Value} {b : Bool} (he : eqK kk v v = some b) : Instr.sameBits 10000 v v = true := by
  cases v <;> unfold eqK at he <;> (try (split at he <;> cases ‹Value.bool _ = _›; done)) <;> first
    | (simp [Instr.sameBits]; done)
    | exact bytes_beq.2 rfl
    | (split at he <;> simp_all; done)
theorem good_mapSet (hr : HR nb r h w) (hlim : nb ≤ lim) {t kt et : TypeId} {m k x : Operand} (ho : o.op = .mapUpdate t m k x ∨ o.op = .insert t m k x) (hu : P.underlying t = some (.map kt et)) {kk : Nat} (hk : Rs.keyOk P kt = some kk) (hm : VR r (ev e m) (a.eval m)) (hv : VR r (ev e k) (a.eval k)) (hx : VR r (ev e x) (a.eval x)) {b : Nat} (hme : ev e m = .map (some b)) {es : List (Value × Value)} (hb : h[b]? = some (.map es)) (hl : lim ≤ b) (hkk : (eqK kk (ev e k) (ev e k)).isSome = true) {res : Option Value} (hf : mapFind kk (ev e k) es = some res) :
    Good P nb lim r h w o a undef (h.set b (.map (mapPut kk (ev e k) (ev e x) es))) := by
  obtain ⟨dt, hd, hK⟩ := keyOk_inv hk
  rw [hme] at hm
  obtain ⟨i, hi, hm'⟩ := hm.map_inv
  obtain ⟨ces, clk, g1, g2⟩ := hr.map hi hb
  have hown := hr.mine hi (Nat.le_trans hlim hl)
  obtain ⟨q0, hq0⟩ := Option.isSome_iff_exists.1 hkk
  have hke := eqK_self hq0 hv
  have hlt : i.blk < w.heap.size := hr.bd hi (by rw [hb]; rfl)
  have turn : ∀ (ces' : Array MapEntry) clk' es', ME r es' ces'.toList → Post nb lim r h w r (h.set b (.map es')) { w with heap := w.heap.setIfInBounds i.blk (.map ces' clk') } := fun ces' clk' es' hme => by
    refine Post.turn hr hi hown hl (by rw [hb]; rfl) (o := .map ces' clk') (fun c hc => ?_) ?_ (by simp) rfl rfl rfl hme
    · simp [Array.getElem?_setIfInBounds, Ne.symm hc]
    · simp [Array.getElem?_setIfInBounds, hlt]
  rcases findNow_of hK hv es ces.toList 0 res g2 hf with ⟨rfl, k1, k2⟩ | ⟨v, j, u, q, rfl, k1, k2, k3, k4, k5, k6, k7⟩
  · have hfk := findKey_of (w := w) hd k1
    rw [k2]
    refine Good.skip (w' := { w with heap := w.heap.setIfInBounds i.blk (.map (ces.push { key := a.eval k, val := a.eval x, born := clk }) (clk + 1)) }) ?_ (turn _ _ _ ?_)
    · rw [execOp]
      rcases ho with ho | ho <;> rw [ho] <;> simp [Instr.mapUpdate, run_underlying hu, hm', run_getMap g1, checkKey_run hd hK, hfk, setObj_run g1]
    · refine ⟨by have := g2.1; simp; simpa using this, fun n e' c' he hc => ?_⟩
      simp only [Array.toList_push] at hc
      rw [List.getElem?_append] at he hc
      rw [← g2.1] at hc
      split at he
      · rename_i hn; rw [if_pos hn] at hc; exact g2.2 n e' c' he hc
      · rename_i hn
        rw [if_neg hn] at hc
        generalize n - es.length = p at he hc
        cases p with
        | zero => simp at he hc; subst he; subst hc; exact ⟨hke, hx⟩
        | succ p => simp at he
  · have hfk := findKey_of (w := w) hd k1
    rw [k7]
    rw [k5] at hfk
    have hcj : ces[j]? = some q := by simpa using k3
    have hsame : Instr.sameBits 10000 q.key (ev e k) = true := by
      rw [k4]
      exact sameBits_self hq0
    have hstay : (Instr.keyThatStays q.key (ev e k)).run P w = .ok (ev e k) w := by unfold Instr.keyThatStays; rw [if_pos hsame]; rfl
    refine Good.skip (w' := { w with heap := w.heap.setIfInBounds i.blk (.map (ces.modify j fun c => { c with key := ev e k, val := a.eval x }) clk) }) ?_ (turn _ _ _ ?_)
    · rw [execOp]
      rcases ho with ho | ho <;> rw [ho] <;> simp [Instr.mapUpdate, run_underlying hu, hm', hke, run_getMap g1, checkKey_run hd hK, hfk, hcj, hstay, setObj_run g1]
    · refine ⟨by have := g2.1; simp; simpa using this, fun n e' c' he hc => ?_⟩
      rw [Array.toList_modify, List.getElem?_modify] at hc
      rw [List.getElem?_set] at he
      by_cases hn : j = n
      · subst hn
        rw [if_pos rfl, if_pos k6] at he
        injection he with he
        subst he
        simp [hcj] at hc
        subst hc
        exact ⟨rfl, hx⟩
      · rw [if_neg hn] at he
        simp [hn] at hc
        exact g2.2 n e' c' he (by simpa using hc)

end Go.Proofs.YtmikcpgkppkmiaaW.Ai
