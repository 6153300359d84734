/-
  The small machine and Go's: each operation that is no call, no append. Of no program.
-/
import Derived.Test.YtmikcpgkppkmiaaAi4
set_option linter.unusedVariables false
set_option linter.unusedSimpArgs false
namespace Go.Proofs.YtmikcpgkppkmiaaW.Ai
variable {P : Program} {nb lim : Nat} {r : Rho} {h : AH} {w : World}

/-! ### types -/
theorem run_size {t : TypeId} {n : Nat} (hs : Rs.size P t = some n) : (sizeOf t).run P w = .ok n w := by
  unfold Rs.size at hs
  cases hi : P.info? t with
  | none => simp [hi] at hs
  | some i =>
    simp [hi] at hs
    simp [sizeOf, typeInfo, hi, hs]
theorem run_bytes {t : TypeId} {n : Nat} (hs : Rs.bytes P t = some n) : ∃ i, (typeInfo t).run P w = .ok i w ∧ i.bytes = n := by
  unfold Rs.bytes at hs
  cases hi : P.info? t with
  | none => simp [hi] at hs
  | some i =>
    simp [hi] at hs
    exact ⟨i, by simp [typeInfo, hi], hs⟩
theorem run_aggN {t : TypeId} {n : Option Nat} (hs : Rs.aggN P t = some n) : (isAgg t).run P w = .ok n.isSome w ∧ ∀ m, n = some m → Rs.size P t = some m := by
  unfold Rs.aggN at hs
  cases hu : P.underlying t with
  | none => simp [hu] at hs
  | some d =>
    rw [hu] at hs
    cases d <;> simp only at hs <;>
      first
      | (injection hs with hs; subst hs; exact ⟨by simp [isAgg, run_underlying hu], fun m hm => by cases hm⟩)
      | (cases hz : Rs.size P t with
         | none => simp [hz] at hs
         | some m => simp [hz] at hs; subst hs; exact ⟨by simp [isAgg, run_underlying hu], fun m' hm => by injection hm with hm; rw [hm]⟩)
theorem run_zero {t : TypeId} {z : List Value} (hs : Rs.zero P t = some z) : ∃ v, (zeroValue t).run P w = .ok v w ∧ v.cells.toList = z ∧ Rs.size P t = some z.length ∧ z.all (fun c => flat c && cellOk c) = true := by
  unfold Rs.zero at hs
  cases hi : P.info? t with
  | none => simp [hi] at hs
  | some i =>
    cases hz : i.zero with
    | none => simp [hi, hz] at hs
    | some v =>
      cases hn : Rs.size P t with
      | none => simp [hi, hz, hn] at hs
      | some n =>
        simp only [hi, Option.bind_some, hz, hn] at hs
        split at hs
        · rename_i hc
          injection hs with hs
          subst hs
          exact ⟨v, by simp [zeroValue, typeInfo, hi, hz], rfl, by simp [hc.1], hc.2⟩
        · cases hs
theorem run_zero1 {t : TypeId} {z : Value} (hs : Rs.zero1 P t = some z) : (zeroValue t).run P w = .ok z w ∧ flat z = true := by
  unfold Rs.zero1 at hs
  cases hi : P.info? t with
  | none => simp [hi] at hs
  | some i =>
    cases hz : i.zero with
    | none => simp [hi, hz] at hs
    | some v =>
      simp only [hi, Option.bind_some, hz] at hs
      split at hs
      · rename_i hc
        injection hs with hs
        subst hs
        exact ⟨by simp [zeroValue, typeInfo, hi, hz], hc.1⟩
      · cases hs

/-! ### values out of cells -/
theorem aLoad_inv {n : Option Nat} {x v : Value} (hl : aLoad n h x = some v) : ∃ b o cs, x = .pointer (some ⟨b, o, none⟩) ∧ cellsOf h b = some cs ∧ loadAt n cs o = some v := by
  unfold aLoad at hl
  split at hl
  · rename_i b o
    cases hc : cellsOf h b with
    | none => simp [hc] at hl
    | some cs => exact ⟨b, o, cs, rfl, hc, by simpa [hc] using hl⟩
  · cases hl
theorem VR.ptr_inv {b o : Nat} {x : Value} (hv : VR r (.pointer (some ⟨b, o, none⟩)) x) : ∃ i, r b = some i ∧ x = .pointer (some ⟨i.blk, i.base + o, none⟩) := by
  cases hv with
  | ptr _ _ i hi => exact ⟨i, hi, rfl⟩
theorem loadVar_run (hr : HR nb r h w) {t : TypeId} {n : Option Nat} (hn : Rs.aggN P t = some n) {x x' v : Value} (hl : aLoad n h x = some v) (hx : VR r x x') :
    ∃ a v', x' = .pointer (some a) ∧ (loadVar t a).run P w = .ok v' w ∧ VR r v v' := by
  obtain ⟨b, o, cs, rfl, hc, hl⟩ := aLoad_inv hl
  obtain ⟨i, hi, rfl⟩ := hx.ptr_inv
  obtain ⟨h1, h2⟩ := run_aggN (w := w) hn
  refine ⟨⟨i.blk, i.base + o, none⟩, ?_⟩
  cases n with
  | none =>
    simp only [loadAt] at hl
    obtain ⟨v', h3, h4⟩ := hr.cells hi (cellsOf_iff.1 hc) o v hl
    refine ⟨v', rfl, ?_, h4⟩
    simp [loadVar, h1, h3]
  | some n =>
    simp only [loadAt] at hl
    split at hl
    · rename_i hle
      injection hl with hl
      subst hl
      obtain ⟨vs, h3, h4⟩ := hr.loads (P := P) hi hc hle (a := ⟨i.blk, i.base + o, none⟩) rfl (fun _ => ⟨rfl, rfl⟩)
      refine ⟨.agg vs.toArray, rfl, ?_, VR.aggL h3⟩
      simp [loadVar, h1, run_size (h2 n rfl), h4]
    · cases hl
theorem part_run {t : TypeId} {n : Option Nat} (hn : Rs.aggN P t = some n) {cs cs' : Array Value} (hcs : VL r cs.toList cs'.toList) {o : Nat} {v : Value} (hl : loadAt n cs.toList o = some v) :
    ∃ v', (part t cs' o).run P w = .ok v' w ∧ VR r v v' := by
  obtain ⟨h1, h2⟩ := run_aggN (w := w) hn
  cases n with
  | none =>
    simp only [loadAt] at hl
    obtain ⟨v', h3, h4⟩ := hcs.get hl
    refine ⟨v', ?_, h4⟩
    have h5 : cs'[o]? = some v' := by simpa using h3
    simp [part, h1, h5]
  | some n =>
    simp only [loadAt] at hl
    split at hl
    · rename_i hle
      injection hl with hl
      subst hl
      refine ⟨.agg (cs'.extract o (o + n)), by simp [part, h1, run_size (h2 n rfl)], ?_⟩
      refine VR.agg' ?_
      have := (hcs.drop o).take n
      simpa [Array.toList_extract, List.extract_eq_take_drop] using this
    · cases hl

/-! ### the shape of an operation's case -/
def Good (P : Program) (nb lim : Nat) (r : Rho) (h : AH) (w : World) (o : Oper) (a : Act) (v : Value) (h' : AH) : Prop :=
  ∀ (K : Act → World → Prop) (Q : Exit → Act → World → Prop), (∀ r' v' w', Post nb lim r h w r' h' w' → VR r' v v' → K (a.put o.dst v') w') → o.wp P a w K Q
theorem Good.value {o : Oper} {a : Act} {v v' : Value} {h' : AH} {r' : Rho} {w' : World} (he : (execOp a.eval o).run P w = .ok (.value v') w') (hp : Post nb lim r h w r' h' w') (hv : VR r' v v') : Good P nb lim r h w o a v h' :=
  fun K Q hK => by unfold Oper.wp; rw [he]; exact hK r' v' w' hp hv
theorem Good.same {o : Oper} {a : Act} {v v' : Value} (hr : HR nb r h w) (he : (execOp a.eval o).run P w = .ok (.value v') w) (hv : VR r v v') : Good P nb lim r h w o a v h := Good.value he (Post.refl hr) hv
theorem Good.skip {o : Oper} {a : Act} {h' : AH} {r' : Rho} {w' : World} (he : (execOp a.eval o).run P w = .ok .skip w') (hp : Post nb lim r h w r' h' w') : Good P nb lim r h w o a undef h' :=
  fun K Q hK => by unfold Oper.wp; rw [he]; exact hK r' _ w' hp (VR.undef _)

theorem alloc_eq (w : World) (o : Obj) : ({ w with heap := w.heap.push o } : World) = w.alloc o := rfl

/-! ### whole numbers, texts -/
theorem eqGuard_int {op : BinOp} {t : TypeId} {x y : Operand} {k k' : IntKind} {a b : Int} : (eqGuard op t x y (.int k a) (.int k' b)).run P w = .ok () w := by
  unfold eqGuard
  split <;> simp
theorem eqGuard_string {op : BinOp} {t : TypeId} {x y : Operand} {a b : ByteArray} : (eqGuard op t x y (.string a) (.string b)).run P w = .ok () w := by
  unfold eqGuard
  split <;> simp
theorem aBin_int {op : BinOp} {t : TypeId} {k k' : IntKind} {a b : Int} {v : Value} (hb : aBin op (.int k a) (.int k' b) = some v) : (binOp op t (.int k a) (.int k' b)).run P w = .ok v w ∧ flat v = true := by
  cases op <;> simp only [aBin] at hb <;>
    first
    | (split at hb <;> first | (cases hb; done) | (split at hb <;> first | (cases hb; done) | (injection hb with hb; subst hb; rename_i h1 h2; subst h1; simp [binOp, Op.intDiv, h2, flat])) | (injection hb with hb; subst hb; rename_i h1; first | (subst h1; simp [binOp, Op.intArith, Op.intBits, Op.intCmp, flat]; done) | (simp [binOp, Op.shift, h1, flat]; done)))
    | (cases hb; done)
theorem aBin_string {op : BinOp} {t : TypeId} {a b : ByteArray} {v : Value} (hb : aBin op (.string a) (.string b) = some v) : (binOp op t (.string a) (.string b)).run P w = .ok v w ∧ flat v = true := by
  cases op <;> simp only [aBin] at hb <;>
    first
    | (cases hb; done)
    | (injection hb with hb; subst hb; simp [binOp, Op.stringOp, flat]; done)
    | (split at hb <;> first | (cases hb; done) | (injection hb with hb; subst hb; rename_i h1; simp only [binOp, Op.stringOp, if_neg h1]; exact ⟨rfl, rfl⟩))
theorem bin_run {op : BinOp} {t : TypeId} {x y : Operand} {u v : Value} {z : Value} (hb : aBin op u v = some z) : (do eqGuard op t x y u v; binOp op t u v : Sem Value).run P w = .ok z w ∧ flat z = true ∧ (∀ u', VR r u u' → u' = u) ∧ (∀ v', VR r v v' → v' = v) := by
  have hb' := hb
  unfold aBin at hb
  split at hb
  · rename_i k a k' b
    have := aBin_int (P := P) (w := w) (t := t) hb'
    exact ⟨by rw [Sem.run_bind, eqGuard_int]; exact this.1, this.2, fun u' h => by cases h; rfl, fun u' h => by cases h; rfl⟩
  · rename_i a b
    have := aBin_string (P := P) (w := w) (t := t) hb'
    exact ⟨by rw [Sem.run_bind, eqGuard_string]; exact this.1, this.2, fun u' h => by cases h; rfl, fun u' h => by cases h; rfl⟩
  · cases hb

end Go.Proofs.YtmikcpgkppkmiaaW.Ai
