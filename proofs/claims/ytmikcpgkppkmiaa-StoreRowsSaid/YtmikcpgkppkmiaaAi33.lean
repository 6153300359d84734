/-
  Slices written to: records, fields; stores that a waiting load must not meet. Of no program.
-/
import Derived.Test.YtmikcpgkppkmiaaAi32
set_option linter.unusedVariables false
set_option linter.unusedSimpArgs false
namespace Go.Proofs.YtmikcpgkppkmiaaW.Ai

theorem overC_get {cs vs : List Value} {f : Nat} (hf : f + vs.length ≤ cs.length) (i : Nat) : (over cs f vs)[i]? = if i < f then cs[i]? else if i < f + vs.length then vs[i - f]? else cs[i]? := by
  unfold over
  rw [List.append_assoc, List.getElem?_append, List.length_take, List.getElem?_append, List.getElem?_take, List.getElem?_drop, Nat.min_eq_left (by omega)]
  by_cases h1 : i < f
  · simp only [h1, if_true]
  · simp only [h1, if_false]
    by_cases h2 : i < f + vs.length
    · rw [if_pos (by omega), if_pos h2]
    · rw [if_neg (by omega), if_neg h2]
      congr 1; omega
theorem overC_len {cs vs : List Value} {f : Nat} (hf : f + vs.length ≤ cs.length) : (over cs f vs).length = cs.length := by
  unfold over; simp; omega
theorem Sl.storeC {h : AH} {lim lo hi sz n c f : Nat} {a : Option Addr} {cs vs : List Value} (hs : Sl sz h a n c cs) (hz : 0 < sz) (hpos : 0 < vs.length) (hf : f + vs.length ≤ n * sz) (hw : Within lo hi sz a n) (hlim : lim ≤ lo) (hok : vs.all cellOk = true) :
    ∃ b o m h', a = some ⟨b, o, m⟩ ∧ aWrite lim h b (o + f) vs = some h' ∧ Sl sz h' a n c (over cs f vs) ∧ h'.length = h.length ∧ ∀ b, (b < lo ∨ hi ≤ b) → h'[b]? = h[b]? := by
  have hs0 := hs
  have hn : 0 < n := by
    rcases Nat.eq_zero_or_pos n with h0 | h0
    · subst h0; rw [Nat.zero_mul] at hf; omega
    · exact h0
  obtain ⟨b, o, m, ds, rfl, h1, h2, rfl⟩ := hs.cells hz hn
  have hwb := hw _ rfl (Nat.mul_pos hn hz)
  simp only at hwb
  have hbl := (List.getElem?_eq_some_iff.1 h1).1
  have hdl : (over ds (o + f) vs).length = ds.length := overC_len (by omega)
  refine ⟨b, o, m, h.set b (.cells (over ds (o + f) vs)), rfl, ?_, ⟨?_, hs0.2.1, ?_, fun h0 => by cases h0⟩, by simp, fun d hd => List.getElem?_set_ne (by omega)⟩
  · unfold aWrite
    rw [if_neg (by intro h0; rw [h0] at hpos; simp at hpos), if_pos ⟨by omega, hok⟩]
    simp only [cellsOf, h1, Option.bind_some]
    rw [if_pos (by omega)]
  · simp only [aElems]
    rw [if_pos hs0.2.1, if_neg (by have := Nat.mul_pos hn hz; omega)]
    simp only [cellsOf, List.getElem?_set_self hbl, Option.bind_some]
    rw [if_pos (by omega)]
    congr 1
    apply List.ext_getElem?
    intro i
    rw [overC_get (by rw [List.length_take, List.length_drop]; omega), List.getElem?_take, List.getElem?_drop, overC_get (by omega), List.getElem?_take, List.getElem?_drop]
    by_cases h3 : i < n * sz
    · simp only [h3, if_true]
      by_cases h4 : i < f
      · rw [if_pos (by omega), if_pos h4]
      · rw [if_neg (by omega), if_neg h4]
        by_cases h5 : i < f + vs.length
        · rw [if_pos (by omega), if_pos h5]; congr 1; omega
        · rw [if_neg (by omega), if_neg h5]
    · simp only [h3, if_false]
      rw [if_neg (by omega), if_neg (by omega)]
  · rw [overC_len (by rw [hs0.2.2.1]; exact hf)]; exact hs0.2.2.1

section
variable {α : Type} {enc : α → List Value} {sz : Nat}
theorem over_recs (he : ∀ s, (enc s).length = sz) : ∀ (ss : List α) (j : Nat) (t : α), j < ss.length → over (recs enc ss) (j * sz) (enc t) = recs enc (ss.set j t)
  | [], j, t, hj => by simp at hj
  | s :: ss, 0, t, hj => by
    show over (enc s ++ recs enc ss) (0 * sz) (enc t) = enc t ++ recs enc ss
    unfold over
    rw [Nat.zero_mul, List.take_zero, List.nil_append, Nat.zero_add, he t, ← he s, List.drop_left]
  | s :: ss, j + 1, t, hj => by
    show over (enc s ++ recs enc ss) ((j + 1) * sz) (enc t) = enc s ++ recs enc (ss.set j t)
    rw [← over_recs he ss j t (by simpa using hj)]
    unfold over
    have e1 : (j + 1) * sz = (enc s).length + j * sz := by rw [he s, Nat.succ_mul]; omega
    rw [e1, List.take_length_add_append, Nat.add_assoc, List.drop_length_add_append]
    simp
end
section
variable {X : Ext} {F : FuncId → Option RFunc} {lim : Nat} {L : Al} {h0 h : AH} {K : Value → AH → Prop} {Q : Al → AH → Prop} {l : List Item}
variable {α : Type} {enc : α → List Value} {sz : Nat}
theorem OP.storeR {x y : Operand} {a : Option Addr} {n c j lo hi : Nat} {ss : List α} {t : α} (he : ∀ s, (enc s).length = sz) (hok : (enc t).all cellOk = true) (hz : 0 < sz) (hs : Sl sz h a n c (recs enc ss)) (hw : Within lo hi sz a n) (hlim : lim ≤ lo) (hx : lev L x = some (eptr sz a j)) (hy : lev L y = some (.agg (enc t).toArray)) (hj : j < n)
    (hk : ∀ h', Sl sz h' a n c (recs enc (ss.set j t)) → h'.length = h.length → (∀ b, (b < lo ∨ hi ≤ b) → h'[b]? = h[b]?) → K undef h') : OP X F lim (.store sz x y) L h K := fun e hE => by
  have hl := hs.rlen he hz
  have h1 : (j + 1) * sz ≤ n * sz := Nat.mul_le_mul_right _ hj
  rw [Nat.succ_mul] at h1
  obtain ⟨b, o, m, h', rfl, g1, g2, g3, g4⟩ := hs.storeC (f := j * sz) (vs := enc t) hz (by rw [he]; exact hz) (by rw [he]; omega) hw hlim hok
  rw [over_recs he ss j t (by omega)] at g2
  refine ⟨0, undef, h', ?_, hk h' g2 g3 g4⟩
  simp only [aop, hE.ev hx, hE.ev hy, eptr, aStore, Value.cells, List.size_toArray, he t, if_true, g1, Option.map_some]
theorem OL.storeSl {x y : Operand} {a : Option Addr} {n c j lo hi k : Nat} {ss : List α} {t : α} (he : ∀ s, (enc s).length = sz) (hok : (enc t).all cellOk = true) (hz : 0 < sz) (hL : Loc h0 h l) (hlim : lim ≤ h0.length) (hk0 : l[k]? = some (sl lo hi sz a n c (recs enc ss))) (hx : lev L x = some (eptr sz a j)) (hy : lev L y = some (.agg (enc t).toArray)) (hj : j < n)
    (hk : ∀ h', Loc h0 h' (l.set k (sl lo hi sz a n c (recs enc (ss.set j t)))) → K undef h') : OP X F lim (.store sz x y) L h K :=
  .storeR he hok hz (hL.get hk0).1 (hL.get hk0).2 (Nat.le_trans hlim (hL.lo hk0)) hx hy hj fun h' h1 h2 h3 => hk h' (hL.put (by omega) hk0 (sl lo hi sz a n c _) rfl rfl ⟨h1, (hL.get hk0).2⟩ fun b hb _ => h3 b hb)
/-- One cell of an element written. -/
theorem OP.storeF {x y : Operand} {a : Option Addr} {n c j f lo hi : Nat} {cs : List Value} {v : Value} (hz : 0 < sz) (hs : Sl sz h a n c cs) (hw : Within lo hi sz a n) (hlim : lim ≤ lo) (hx : lev L x = some (fptr sz a j f)) (hy : lev L y = some v) (hj : j < n) (hf : f < sz) (hv : cellOk v = true)
    (hk : ∀ h', Sl sz h' a n c (over cs (j * sz + f) [v]) → h'.length = h.length → (∀ b, (b < lo ∨ hi ≤ b) → h'[b]? = h[b]?) → K undef h') : OP X F lim (.store 1 x y) L h K := fun e hE => by
  have h1 : (j + 1) * sz ≤ n * sz := Nat.mul_le_mul_right _ hj
  rw [Nat.succ_mul] at h1
  obtain ⟨b, o, m, h', rfl, g1, g2, g3, g4⟩ := hs.storeC (f := j * sz + f) (vs := [v]) hz (by simp) (by simp; omega) hw hlim (by simp [hv])
  have hc := cells_one hv
  have hsz : v.cells.size = 1 := by rw [← Array.length_toList, hc]; rfl
  refine ⟨0, undef, h', ?_, hk h' g2 g3 g4⟩
  simp only [aop, hE.ev hx, hE.ev hy, fptr, aStore, hsz, if_true, hc]
  rw [show o + j * sz + f = o + (j * sz + f) by omega, g1]; rfl
theorem Loc.ne (hL : Loc h0 h l) {i j b c : Nat} {cs ds : List Value} (hi : l[i]? = some (bx b cs)) (hj : l[j]? = some (bx c ds)) (hij : i < j) : c < b := by
  have key : ∀ {l : List Item} {t : Nat}, LocB h0 h t l → ∀ {i j : Nat} {x y : Item}, l[i]? = some x → l[j]? = some y → i < j → y.hi ≤ x.lo := by
    intro l
    induction l with
    | nil => intro t _ i j x y hx; simp at hx
    | cons z l ih =>
      intro t hl i j x y hx hy hij
      cases i with
      | zero =>
        cases j with
        | zero => omega
        | succ j =>
          simp at hx hy
          subst hx
          exact (LocB.get hl.2.2.2 hy).2.2.2
      | succ i =>
        cases j with
        | zero => omega
        | succ j =>
          simp at hx hy
          exact ih hl.2.2.2 hx hy (by omega)
  exact key hL hi hj hij
theorem Loc.slM (hL : Loc h0 h l) {lo hi n c : Nat} {a : Option Addr} {cs : List Value} (hm : sl lo hi sz a n c cs ∈ l) : Sl sz h a n c cs := let ⟨k, hk⟩ := List.getElem?_of_mem hm; hL.slAt hk
theorem Loc.apM (hL : Loc h0 h l) {lo hi n : Nat} {a : Option Addr} {cs : List Value} (hm : ap lo hi sz a n cs ∈ l) : Sl sz h a n n cs := let ⟨k, hk⟩ := List.getElem?_of_mem hm; hL.apAt hk
theorem Loc.bxM (hL : Loc h0 h l) {b : Nat} {cs : List Value} (hm : bx b cs ∈ l) : h[b]? = some (.cells cs) := let ⟨k, hk⟩ := List.getElem?_of_mem hm; hL.cell hk
/-- A store that a load waits across. -/
theorem WO.cons0A {r : List RO} {n : Nat} {y z : Operand} {av : List Operand} {b o : Nat} (hy : lev L y = some (.pointer (some ⟨b, o, none⟩))) (hav : ∀ x ∈ av, ∃ c p m, lev L x = some (.pointer (some ⟨c, p, m⟩)) ∧ b ≠ c) (W : OP X F lim (.store n y z) L h fun v h' => WO X F lim r L h' Q) : WO X F lim (⟨none, .store n y z, none, false, av⟩ :: r) L h Q := fun e he => by
  obtain ⟨k, v, h', h1, h2⟩ := W e he
  refine wo_run ?_ rfl h1 (agr_dst he none v) h2
  rw [List.all_eq_true]
  intro x hx
  obtain ⟨c, p, m, g1, g2⟩ := hav x hx
  simp only [apart, he.ev g1, he.ev hy]
  simpa using g2
theorem OP.eqSlot {neg : Bool} {x y : Operand} {s t : SlotR} (hx : lev L x = some (.agg (slotC s).toArray)) (hy : lev L y = some (.agg (slotC t).toArray)) (ht : s = t → K (.bool (!neg)) h) (hf : s ≠ t → K (.bool neg) h) : OP X F lim (.eq neg (some [1, 1, 1, 1, 1]) x y) L h K := by
  have e : aEq (some [1, 1, 1, 1, 1]) (.agg (slotC s).toArray) (.agg (slotC t).toArray) = some (decide (s = t)) := by
    simp only [aEq, slotC, eqKs, eqK, if_true, Option.bind_some, Option.map_some, Bool.and_true]
    congr 1
    by_cases hst : s = t
    · subst hst; simp
    · rw [decide_eq_false hst]
      cases s; cases t
      simp only [SlotR.mk.injEq] at hst
      simp only [Bool.and_eq_false_iff, beq_eq_false_iff_ne, ne_eq]
      grind
  by_cases hst : s = t
  · exact .eq hx hy (e.trans (by rw [decide_eq_true hst])) (by cases neg <;> exact ht hst)
  · exact .eq hx hy (e.trans (by rw [decide_eq_false hst])) (by cases neg <;> exact hf hst)
theorem OP.eqOp {neg : Bool} {x y : Operand} {s t : OpR} (hx : lev L x = some (.agg (opC s).toArray)) (hy : lev L y = some (.agg (opC t).toArray)) (ht : s = t → K (.bool (!neg)) h) (hf : s ≠ t → K (.bool neg) h) : OP X F lim (.eq neg (some [1, 1, 1]) x y) L h K := by
  have e : aEq (some [1, 1, 1]) (.agg (opC s).toArray) (.agg (opC t).toArray) = some (decide (s = t)) := by
    simp only [aEq, opC, eqKs, eqK, if_true, Option.bind_some, Option.map_some, Bool.and_true]
    congr 1
    by_cases hst : s = t
    · subst hst; simp
    · rw [decide_eq_false hst]
      cases s; cases t
      simp only [OpR.mk.injEq] at hst
      simp only [Bool.and_eq_false_iff, beq_eq_false_iff_ne, ne_eq]
      grind
  by_cases hst : s = t
  · exact .eq hx hy (e.trans (by rw [decide_eq_true hst])) (by cases neg <;> exact ht hst)
  · exact .eq hx hy (e.trans (by rw [decide_eq_false hst])) (by cases neg <;> exact hf hst)
theorem OP.andN {x y : Operand} {a b : Int} (hx : lev L x = some (.int .i64 a)) (hy : lev L y = some (.int .i64 b)) (hb : 0 ≤ b ∧ b < 4611686018427387904) (hk : 0 ≤ mask a b ∧ mask a b ≤ b → K (.int .i64 (mask a b)) h) : OP X F lim (.bin .and x y) L h K := .andC hx hy hb fun m hm h2 => hm ▸ hk (hm ▸ h2)
/-- A value with a slice in it that was made, not too long. -/
def MadeN (sz : Nat) (h h' : AH) (W : Option Addr → Nat → Value) (cs : List Value) (v : Value) : Prop := ∃ a n, v = W a n ∧ (Sl sz h' a n n cs ∧ Within h.length h'.length sz a n) ∧ n ≤ 4398046511104
theorem Made.short {enc : α → List Value} {h h' : AH} {W : Option Addr → Nat → Value} {ss : List α} {v : Value} (hm : Made sz h h' W (recs enc ss) v) (he : ∀ s, (enc s).length = sz) (hz : 0 < sz) (hs : ss.length ≤ 4398046511104) : MadeN sz h h' W (recs enc ss) v :=
  let ⟨a, n, h1, h2, h3⟩ := hm
  ⟨a, n, h1, ⟨h2, h3⟩, by have := h2.rlen he hz; omega⟩
/-- A call that makes a slice. -/
theorem OL.callSn {f : Operand} {g : FuncId} {xs : List Operand} {vs : List Value} {sz : Nat} {W : Option Addr → Nat → Value} {cs : List Value} (hL : Loc h0 h l) (hf : lev L f = some (.func (.func g) #[] #[])) (ha : levs L xs = some vs) (hr : Ret X F lim g vs h fun v h' => Pfx h h' ∧ MadeN sz h h' W cs v)
    (hk : ∀ a n h', n ≤ 4398046511104 → Pfx h h' → Loc h0 h' (sl h.length h'.length sz a n n cs :: l) → K (W a n) h') : OP X F lim (.call f xs) L h K :=
  .call hf ha (hr.mono fun v h' ⟨hp, a, n, hv, ⟨hs, hw⟩, hn⟩ => hv ▸ hk a n h' hn hp (hL.add hp _ rfl rfl ⟨hs, hw⟩))
theorem OL.callSn5 {f : Operand} {g : FuncId} {xs : List Operand} {vs : List Value} {W : Option Addr → Nat → Value} {ss : List SlotR} (hL : Loc h0 h l) (hf : lev L f = some (.func (.func g) #[] #[])) (ha : levs L xs = some vs) (hr : Ret X F lim g vs h fun v h' => Pfx h h' ∧ MadeN 5 h h' W (recs slotC ss) v)
    (hk : ∀ a n h', n ≤ 4398046511104 → ss.length = n → Pfx h h' → Loc h0 h' (sl h.length h'.length 5 a n n (recs slotC ss) :: l) → K (W a n) h') : OP X F lim (.call f xs) L h K :=
  .call hf ha (hr.mono fun v h' ⟨hp, a, n, hv, ⟨hs, hw⟩, hn⟩ => hv ▸ hk a n h' hn (hs.rlen slotC_len (by decide)) hp (hL.add hp _ rfl rfl ⟨hs, hw⟩))
/-- A call that writes over a slice of one's own. -/
theorem OL.spoilSl {f : Operand} {g : FuncId} {xs : List Operand} {vs : List Value} {k lo hi sz n c : Nat} {a : Option Addr} {cs : List Value} (hL : Loc h0 h l) (hk0 : l[k]? = some (sl lo hi sz a n c cs)) (hf : lev L f = some (.func (.func g) #[] #[])) (ha : levs L xs = some vs)
    (hr : Ret X F lim g vs h fun v h' => h'.length = h.length ∧ ∀ b, (b < lo ∨ hi ≤ b) → h'[b]? = h[b]?) (hk : ∀ v h', Loc h0 h' (l.set k (junk lo hi)) → K v h') : OP X F lim (.call f xs) L h K :=
  .call hf ha (hr.mono fun v h' hs => hk v h' (hL.put (by omega) hk0 (junk lo hi) rfl rfl trivial fun b hb _ => hs.2 b hb))
theorem OL.spoilG {f : Operand} {g : FuncId} {xs : List Operand} {vs : List Value} {k lo hi sz n c : Nat} {a : Option Addr} {cs : List Value} (hL : Loc h0 h l) (hk0 : l[k]? = some (sl lo hi sz a n c cs)) (hf : lev L f = some (.func (.func g) #[] #[])) (ha : levs L xs = some vs)
    (hr : Ret X F lim g vs h fun v h' => h.length ≤ h'.length ∧ ∀ b, (b < lo ∨ hi ≤ b) → b < h.length → h'[b]? = h[b]?) (hk : ∀ v h', Loc h0 h' (l.set k (junk lo hi)) → K v h') : OP X F lim (.call f xs) L h K :=
  .call hf ha (hr.mono fun v h' hs => hk v h' (hL.put hs.1 hk0 (junk lo hi) rfl rfl trivial fun b hb hbl => hs.2 b hb hbl))
end
end Go.Proofs.YtmikcpgkppkmiaaW.Ai
