/-
  The small machine and Go's: operations, one by one. Of no program.
-/
import Derived.Test.YtmikcpgkppkmiaaAi6
set_option linter.unusedVariables false
set_option linter.unusedSimpArgs false
namespace Go.Proofs.YtmikcpgkppkmiaaW.Ai
variable {P : Program} {nb lim : Nat} {r : Rho} {h h' : AH} {w : World} {dst : Option Tmp} {ty : TypeId} {pos : String} {after : Array Edge} {guard : Option (Nat × Bool)} {e : Env} {a : Act} {v : Value}

theorem good_mv (hr : HR nb r h w) {x : Operand} {o : Oper} (ho : o.op = .move x ∨ o.op = .assign x) (hx : VR r (ev e x) (a.eval x)) : Good P nb lim r h w o a (ev e x) h :=
  Good.same hr (by rcases ho with ho | ho <;> simp [execOp, ho]) hx
theorem good_pick (hr : HR nb r h w) {c x y : Operand} {o : Oper} (ho : o.op = .pick c x y) {t : Bool} (hc : ev e c = .bool t) (hc' : VR r (ev e c) (a.eval c)) (hx : VR r (ev e x) (a.eval x)) (hy : VR r (ev e y) (a.eval y)) :
    Good P nb lim r h w o a (if t then ev e x else ev e y) h := by
  rw [hc] at hc'
  have h1 : a.eval c = .bool t := by
    generalize a.eval c = z at hc'
    cases hc'
    rfl
  refine Good.same hr (v' := if t then a.eval x else a.eval y) (by simp [execOp, ho, h1, asBool]) ?_
  cases t <;> simp [hx, hy]
theorem good_new (hr : HR nb r h w) {t : TypeId} {z : List Value} {o : Oper} (ho : o.op = .alloc t) (hz : Rs.zero P t = some z) (hf : Fresh r h (h ++ [.cells z])) :
    Good P nb lim r h w o a (.pointer (some ⟨h.length, 0, none⟩)) (h ++ [.cells z]) := by
  obtain ⟨v, h1, h2, h3, h4⟩ := run_zero (w := w) hz
  have hfl : VL r z z := VL.flat (by simp only [List.all_eq_true, Bool.and_eq_true] at h4 ⊢; exact fun x hx => (h4 x hx).1)
  refine Good.value (w' := w.alloc (.cells v.cells t)) (v' := .pointer (some ⟨w.heap.size, 0 + 0, none⟩)) (by simp [execOp, ho, Instr.alloc, h1, newVar, newRow])
    (Post.alloc (csz := v.cells.size) hr (hf _ (Nat.le_refl _) (by simp)) ⟨rfl, rfl, by rw [← h2]; simp, fun j u hu => ?_⟩) (.ptr _ _ ⟨w.heap.size, 0, _, true⟩ (Rho.put_same _ _))
  obtain ⟨u', g1, g2⟩ := hfl.get hu
  exact ⟨u', by rw [← Array.getElem?_toList, h2]; exact g1, g2⟩
theorem good_box (hr : HR nb r h w) {t : TypeId} {x : Operand} {o : Oper} (ho : o.op = .box t x) (hx : VR r (ev e x) (a.eval x)) (ha : aBox h (ev e x) = some (v, h')) (hf : Fresh r h h') : Good P nb lim r h w o a v h' := by
  unfold aBox at ha
  split at ha
  · injection ha with ha
    injection ha with h1 h2
    subst h1; subst h2
    refine Good.value (w' := w.alloc (.cells (a.eval x).cells t)) (v' := .pointer (some ⟨w.heap.size, 0 + 0, none⟩)) (by simp [execOp, ho, Instr.box, newVar, newRow])
      (Post.alloc (csz := (a.eval x).cells.size) hr (hf _ (Nat.le_refl _) (by simp)) ⟨rfl, rfl, by simp [hx.cells_size], fun j u hu => ?_⟩) (.ptr _ _ ⟨w.heap.size, 0, _, true⟩ (Rho.put_same _ _))
    obtain ⟨u', g1, g2⟩ := hx.cells.get hu
    exact ⟨u', by simpa using g1, g2⟩
  · cases ha
theorem good_load (hr : HR nb r h w) {t : TypeId} {n : Option Nat} {x : Operand} {o : Oper} (ho : o.op = .load t x) (hn : Rs.aggN P t = some n) (hx : VR r (ev e x) (a.eval x)) (ha : aLoad n h (ev e x) = some v) : Good P nb lim r h w o a v h := by
  obtain ⟨ad, v', h1, h2, h3⟩ := loadVar_run (P := P) hr hn ha hx
  exact Good.same hr (v' := v') (by simp [execOp, ho, h1, Instr.loadAt, Instr.sureAddr, h2]) h3
theorem aStore_inv {n : Nat} {x y : Value} (ha : aStore lim n h x y = some h') : ∃ b o, x = .pointer (some ⟨b, o, none⟩) ∧ y.cells.size = n ∧ aWrite lim h b o y.cells.toList = some h' := by
  unfold aStore at ha
  split at ha
  · split at ha
    · exact ⟨_, _, rfl, ‹_›, ha⟩
    · cases ha
  · cases ha
theorem good_store (hr : HR nb r h w) (hlim : nb ≤ lim) {t : TypeId} {n : Nat} {x y : Operand} {o : Oper} (ho : o.op = .store t x y) (hn : Rs.size P t = some n) (hx : VR r (ev e x) (a.eval x)) (hy : VR r (ev e y) (a.eval y)) (ha : aStore lim n h (ev e x) (ev e y) = some h') : Good P nb lim r h w o a undef h' := by
  obtain ⟨b, of, hxe, hsz, ha⟩ := aStore_inv ha
  rw [hxe] at hx
  obtain ⟨i, hi, hx'⟩ := hx.ptr_inv
  obtain ⟨w', g1, g2⟩ := Post.write (P := P) hr hi hlim ha hy.cells (a := ⟨i.blk, i.base + of, none⟩) rfl (fun _ => ⟨rfl, rfl⟩)
  refine Good.skip (w' := w') ?_ g2
  have hsz' : (a.eval y).cells.size = n := by rw [hy.cells_size, hsz]
  simp [execOp, ho, hx', Instr.storeAt, Instr.sureAddr, storeVar, run_size hn, hsz', g1]
theorem good_nilCheck (hr : HR nb r h w) {x : Operand} {o : Oper} (ho : o.op = .nilCheck x) (hx : VR r (ev e x) (a.eval x))
    (ha : (match ev e x with
      | .pointer (some a) => some (Value.pointer (some a), h)
      | .func (.func f) a b => some (.func (.func f) a b, h)
      | _ => none) = some (v, h')) : Good P nb lim r h w o a v h' := by
  generalize hu : ev e x = u at ha hx
  split at ha
  · injection ha with ha
    injection ha with h1 h2
    subst h1; subst h2
    generalize hz : a.eval x = z at hx
    cases hx with
    | ptr b o' i hi => exact Good.same hr (v' := .pointer (some ⟨i.blk, i.base + o', none⟩)) (by simp [execOp, ho, hz]) (.ptr _ _ _ hi)
  · injection ha with ha
    injection ha with h1 h2
    subst h1; subst h2
    generalize hz : a.eval x = z at hx
    cases hx with
    | func fn f f' c c' e1 e2 k1 k2 => exact Good.same hr (v' := .func (.func _) f' c') (by simp [execOp, ho, hz]) (.func _ _ _ _ _ e1 e2 k1 k2)
  · cases ha
theorem good_bin (hr : HR nb r h w) {op : BinOp} {t yt : TypeId} {x y : Operand} {o : Oper} (ho : o.op = .binOp op t x y yt) (hx : VR r (ev e x) (a.eval x)) (hy : VR r (ev e y) (a.eval y)) (ha : aBin op (ev e x) (ev e y) = some v) : Good P nb lim r h w o a v h := by
  obtain ⟨h1, h2, h3, h4⟩ := bin_run (P := P) (w := w) (r := r) (t := t) (x := x) (y := y) ha
  have e1 := h3 _ hx
  have e2 := h4 _ hy
  refine Good.same hr (v' := v) ?_ (VR.flat h2)
  rw [execOp, ho]
  simp only [e1, e2]
  rw [Sem.run_bind, h1]
  rfl
theorem good_un (hr : HR nb r h w) {op : UnOp} {t : TypeId} {x : Operand} {o : Oper} (ho : o.op = .unOp op t x) (hx : VR r (ev e x) (a.eval x)) (ha : aUn op (ev e x) = some v) : Good P nb lim r h w o a v h := by
  generalize hu : ev e x = u at ha hx
  generalize hz : a.eval x = z at hx
  cases u <;> simp only [aUn] at ha <;> try (cases ha; done)
  · cases hx
    cases op <;> simp at ha
    subst ha
    exact Good.same hr (v' := .bool _) (by simp [execOp, ho, hz, Op.unary]) (.bool _)
  · cases hx
    cases op <;> simp at ha
    subst ha
    exact Good.same hr (v' := .int _ _) (by simp [execOp, ho, hz, Op.unary, Op.intArith]) (.int _ _)
theorem aEq_inv {l : List Nat} {x y : Value} {b : Bool} (ha : aEq (some l) x y = some b) : ∃ xs ys, x = .agg xs ∧ y = .agg ys ∧ eqKs l xs.toList ys.toList = some b := by
  cases x <;> cases y <;> simp [aEq] at ha
  exact ⟨_, _, rfl, rfl, ha⟩
theorem good_eq (hr : HR nb r h w) {neg : Bool} {t yt : TypeId} {x y : Operand} {o : Oper} (ho : o.op = .binOp (if neg then .neq else .eql) t x y yt) {ks : Option (List Nat)}
    (hk : (P.underlying t = some .bool ∧ ks = none) ∨ ((∃ fs, P.underlying t = some (.struct fs)) ∧ ∃ l, ks = some l ∧ Rs.eqKinds P t = some l))
    (hx : VR r (ev e x) (a.eval x)) (hy : VR r (ev e y) (a.eval y)) {b : Bool} (ha : aEq ks (ev e x) (ev e y) = some b) : Good P nb lim r h w o a (.bool (if neg then !b else b)) h := by
  refine Good.same hr (v' := .bool (if neg then !b else b)) ?_ (.bool _)
  generalize hu : ev e x = u at ha hx
  generalize hz : a.eval x = z at hx
  generalize hu2 : ev e y = u2 at ha hy
  generalize hz2 : a.eval y = z2 at hy
  rcases hk with ⟨hb, rfl⟩ | ⟨⟨fs, hs⟩, l, rfl, hl⟩
  · simp only [aEq] at ha
    obtain ⟨p, q, rfl, rfl, rfl⟩ := eqK0 ha
    cases hx
    cases hy
    have h1 := run_equalIn_bool' w 9999 t p q hb
    cases neg <;> simp [execOp, ho, hz, hz2, eqGuard, binOp, Op.equal, Op.maxDepth, h1]
  · unfold Rs.eqKinds at hl
    split at hl
    · rename_i hg
      obtain ⟨xs, ys, rfl, rfl, ha⟩ := aEq_inv ha
      · obtain ⟨xs', rfl, hxs⟩ := hx.agg_inv
        obtain ⟨ys', rfl, hys⟩ := hy.agg_inv
        have hxf : ∀ (l : List Nat) (xs ys xs' ys' : List Value) b, VL r xs xs' → VL r ys ys' → eqKs l xs ys = some b → xs' = xs ∧ ys' = ys := by
          intro l
          induction l with
          | nil =>
            intro xs ys xs' ys' b h1 h2 h3
            have := eqKs_length h3
            obtain rfl := List.eq_nil_of_length_eq_zero this.1
            obtain rfl := List.eq_nil_of_length_eq_zero this.2
            exact ⟨h1.nil_inv, h2.nil_inv⟩
          | cons k l ih =>
            intro xs ys xs' ys' b h1 h2 h3
            cases xs with
            | nil => simp [eqKs] at h3
            | cons p xs =>
              cases ys with
              | nil => simp [eqKs] at h3
              | cons q ys =>
                obtain ⟨p', xs', rfl, g1, g2⟩ := h1.cons_inv
                obtain ⟨q', ys', rfl, g3, g4⟩ := h2.cons_inv
                simp only [eqKs] at h3
                cases hq : eqK k p q with
                | none => simp [hq] at h3
                | some c =>
                  cases hq2 : eqKs l xs ys with
                  | none => simp [hq, hq2] at h3
                  | some d =>
                    obtain ⟨rfl, rfl⟩ := ih xs ys xs' ys' d g2 g4 hq2
                    have : p' = p ∧ q' = q := by
                      unfold eqK at hq
                      split at hq <;> first | (cases hq; done) | (cases g1; cases g3; exact ⟨rfl, rfl⟩)
                    exact ⟨by rw [this.1], by rw [this.2]⟩
        obtain ⟨e1, e2⟩ := hxf _ _ _ _ _ _ hxs hys ha
        have e1 := Array.ext' e1
        have e2 := Array.ext' e2
        subst e1; subst e2
        have ha' : eqKs l xs'.toList ys'.toList = some b := ha
        have hn : ∃ n, Rs.aggN P t = some (some n) := by
          unfold Rs.aggN
          rw [hs]
          simp only
          unfold Rs.size
          unfold Program.underlying at hs
          cases hi : P.info? t with
          | none => simp [hi] at hs
          | some i => exact ⟨i.size, rfl⟩
        obtain ⟨n, hn⟩ := hn
        have h1 := equalIn_run (w := w) 8 t l hl 10000 (by omega) (.agg xs') (.agg ys') b (some n) hn rfl rfl ha'
        cases neg <;> simp [execOp, ho, hz, hz2, run_eqGuard_agg _ _ _ _ _ _ _ hg, run_eql_struct, run_neq_struct, h1]
    · cases hl

theorem isNilConst_eq {k : Nat} {x : Operand} (hx : Rs.isNilConst k x = true) :
    (k = 0 ∧ x = .const (.slice none 0 0)) ∨ (k = 1 ∧ x = .const (.pointer none)) ∨ (k = 2 ∧ x = .const (.map none)) ∨ (k = 3 ∧ x = .const .nilFunc) ∨ (k = 4 ∧ x = .const .nilIface) := by
  unfold Rs.isNilConst at hx
  split at hx <;> first | (cases hx; done) | simp
theorem equal_nil {t : TypeId} {k : Nat} (hk : Rs.nilKind P t = some k) {z n : Value} {b : Bool} (hn : Rs.isNilConst k (.const n) = true) (hz : aIsNil k z = some b) :
    (Op.equal t z n).run P w = .ok b w ∧ (Op.equal t n z).run P w = .ok b w := by
  unfold Rs.nilKind at hk
  split at hk <;> first | (cases hk; done) | skip
  all_goals
    rename_i hu
    injection hk with hk
    subst hk
    rcases isNilConst_eq hn with ⟨e, h1⟩ | ⟨e, h1⟩ | ⟨e, h1⟩ | ⟨e, h1⟩ | ⟨e, h1⟩ <;> first | (cases e; done) | skip
    injection h1 with h1
    subst h1
    unfold Op.equal Op.maxDepth
    cases z <;> simp [aIsNil] at hz
  all_goals
    subst hz
    constructor <;> (rw [Op.equalIn, Sem.run_bind, run_underlying hu]; simp only [Result.andThen_ok])
  all_goals
    first
    | rfl
    | (rename_i q _ _; cases q <;> rfl)
    | (rename_i q; cases q <;> rfl)
theorem eqGuard_nil {op : BinOp} {t : TypeId} {k : Nat} {x y : Operand} {u v : Value} {b : Bool} {n : Value} (hn : Rs.isNilConst k (.const n) = true) (hz : aIsNil k u = some b ∧ y = .const n ∧ v = n ∨ aIsNil k v = some b ∧ x = .const n ∧ u = n) : (eqGuard op t x y u v).run P w = .ok () w := by
  rcases isNilConst_eq hn with ⟨rfl, h1⟩ | ⟨rfl, h1⟩ | ⟨rfl, h1⟩ | ⟨rfl, h1⟩ | ⟨rfl, h1⟩ <;> injection h1 with h1 <;> subst h1 <;> rcases hz with ⟨hz, rfl, rfl⟩ | ⟨hz, rfl, rfl⟩
  all_goals
    first | (cases u <;> simp [aIsNil] at hz <;> unfold eqGuard <;> cases op <;> simp; done) | (cases v <;> simp [aIsNil] at hz <;> unfold eqGuard <;> cases op <;> simp; done)
theorem good_isNil (hr : HR nb r h w) {neg : Bool} {t yt : TypeId} {x y : Operand} {o : Oper} (ho : o.op = .binOp (if neg then .neq else .eql) t x y yt) {k : Nat} (hk : Rs.nilKind P t = some k)
    {z : Operand} (hz : (Rs.isNilConst k y = true ∧ z = x) ∨ (Rs.isNilConst k x = true ∧ z = y)) (hx : VR r (ev e z) (a.eval z)) {b : Bool} (ha : aIsNil k (ev e z) = some b) : Good P nb lim r h w o a (.bool (if neg then !b else b)) h := by
  have hb : aIsNil k (a.eval z) = some b := by
    generalize ev e z = u at ha hx
    generalize a.eval z = u' at hx
    unfold aIsNil at ha
    split at ha <;> first | (cases ha; done) | (cases hx <;> exact ha)
  refine Good.same hr (v' := .bool (if neg then !b else b)) ?_ (.bool _)
  have hc : ∀ {n : Operand}, Rs.isNilConst k n = true → ∃ v, n = .const v ∧ a.eval n = v := fun {n} hn => by
    rcases isNilConst_eq hn with ⟨_, rfl⟩ | ⟨_, rfl⟩ | ⟨_, rfl⟩ | ⟨_, rfl⟩ | ⟨_, rfl⟩ <;> exact ⟨_, rfl, rfl⟩
  have noint : ∀ (u v : Value), aIsNil k u = some b → Rs.isNilConst k (.const v) = true → ∀ op : BinOp, op = .eql ∨ op = .neq → (binOp op t u v = (do let q ← Op.equal t u v; pure (.bool (if op = .neq then !q else q)))) ∧ (binOp op t v u = (do let q ← Op.equal t v u; pure (.bool (if op = .neq then !q else q)))) := by
    intro u v h1 h2 op hop
    rcases isNilConst_eq h2 with ⟨rfl, h3⟩ | ⟨rfl, h3⟩ | ⟨rfl, h3⟩ | ⟨rfl, h3⟩ | ⟨rfl, h3⟩ <;> injection h3 with h3 <;> subst h3 <;> cases u <;> simp [aIsNil] at h1 <;> rcases hop with rfl | rfl <;> exact ⟨rfl, rfl⟩
  rcases hz with ⟨hn, rfl⟩ | ⟨hn, rfl⟩
  · obtain ⟨v, rfl, hv⟩ := hc hn
    have h1 := equal_nil (w := w) hk hn hb
    have h2 := noint _ _ hb hn (if neg then .neq else .eql) (by cases neg <;> simp)
    have h3 := eqGuard_nil (P := P) (w := w) (op := if neg then .neq else .eql) (t := t) (x := z) (y := .const v) hn (.inl ⟨hb, rfl, rfl⟩)
    rw [execOp, ho]
    simp only [hv]
    cases neg <;> simp only [if_true, if_false, Bool.false_eq_true] at h2 h3 ⊢ <;> rw [h2.1] <;> simp [h3, h1.1]
  · obtain ⟨v, rfl, hv⟩ := hc hn
    have h1 := equal_nil (w := w) hk hn hb
    have h2 := noint _ _ hb hn (if neg then .neq else .eql) (by cases neg <;> simp)
    have h3 := eqGuard_nil (P := P) (w := w) (op := if neg then .neq else .eql) (t := t) (y := z) (x := .const v) hn (.inr ⟨hb, rfl, rfl⟩)
    rw [execOp, ho]
    simp only [hv]
    cases neg <;> simp only [if_true, if_false, Bool.false_eq_true] at h2 h3 ⊢ <;> rw [h2.2] <;> simp [h3, h1.2]

end Go.Proofs.YtmikcpgkppkmiaaW.Ai
