/-
 Stores (chapter 3), as the small machine runs them: arguments, sums, rows put together.
-/
import Derived.Test.YtkdjbkfcfbignaaFn20
import Derived.Test.YtkdjbkfcfbignaaMf
set_option linter.unusedVariables false
set_option linter.unusedSimpArgs false
set_option maxHeartbeats 4000000
set_option maxRecDepth 100000
namespace Go.Proofs.YtkdjbkfcfbignaaW.Ai
def ArgsOk (xs : List Int) : Prop := ∀ x ∈ xs, 0 ≤ x ∧ x ≤ 255
instance (xs : List Int) : Decidable (ArgsOk xs) := inferInstanceAs (Decidable (∀ x ∈ xs, 0 ≤ x ∧ x ≤ 255))
def sumL (xs : List Int) : Int := xs.foldl (· + ·) 0
section
variable (X : Ext) (F : FuncId → Option RFunc) (g : FuncId)
end
theorem Loc.pick {h0 h : AH} (hL : Loc h0 h []) {b : Nat} {cs : List Value} (hb : h0.length ≤ b) (hc : h[b]? = some (.cells cs)) : Loc h0 h [bx b cs] := ⟨Nat.le_succ b, (List.getElem?_eq_some_iff.1 hc).1, hc, hb, hL.pfx⟩
theorem sumL_snoc {xs : List Int} {i : Nat} (hi : i < xs.length) : sumL (xs.take (i + 1)) = sumL (xs.take i) + xs[i] := by
 unfold sumL
 rw [List.take_succ_eq_append_getElem hi, List.foldl_append]
 rfl
theorem sumL_rng {xs : List Int} (hx : ArgsOk xs) : ∀ i, i ≤ xs.length → 0 ≤ sumL (xs.take i) ∧ sumL (xs.take i) ≤ 255 * i := by
 intro i
 induction i with
 | zero => intro _; simp [sumL]
 | succ i ih =>
  intro hi
  have h1 := ih (by omega)
  have h2 := hx _ (List.getElem_mem (show i < xs.length by omega))
  rw [sumL_snoc (by omega)]
  omega
section
variable {X : Ext} {F : FuncId → Option RFunc} {f : FuncId}
end
end Go.Proofs.YtkdjbkfcfbignaaW.Ai
