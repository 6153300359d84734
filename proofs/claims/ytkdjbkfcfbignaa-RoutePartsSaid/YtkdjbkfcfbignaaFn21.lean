/-
 Stores (chapter 3), as the small machine runs them: arguments, sums, rows put together.
-/
import Derived.Test.YtkdjbkfcfbignaaFn20
import Derived.Test.YtkdjbkfcfbignaaMf
set_option linter.unusedVariables false
set_option linter.unusedSimpArgs false
set_option maxHeartbeats 4000000
set_option maxRecDepth 100000
namespace Go.Proofs.YtkdjbkfcfbignaaW.Ai
def ArgsOk (xs : List Int) : Prop := ∀ x ∈ xs, 0 ≤ x ∧ x ≤ 255
instance (xs : List Int) : Decidable (ArgsOk xs) := inferInstanceAs (Decidable (∀ x ∈ xs, 0 ≤ x ∧ x ≤ 255))
section
variable (X : Ext) (F : FuncId → Option RFunc) (g : FuncId)
end
theorem Loc.pick {h0 h : AH} (hL : Loc h0 h []) {b : Nat} {cs : List Value} (hb : h0.length ≤ b) (hc : h[b]? = some (.cells cs)) : Loc h0 h [bx b cs] := ⟨Nat.le_succ b, (List.getElem?_eq_some_iff.1 hc).1, hc, hb, hL.pfx⟩
section
variable {X : Ext} {F : FuncId → Option RFunc} {f : FuncId}
end
end Go.Proofs.YtkdjbkfcfbignaaW.Ai
