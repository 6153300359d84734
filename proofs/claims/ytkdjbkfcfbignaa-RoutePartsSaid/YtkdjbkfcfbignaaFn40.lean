/-
  Tables (chapter 4), as the small machine runs them: where a number stands, what may be.
-/
import Derived.Test.YtkdjbkfcfbignaaFn33
import Derived.Test.YtkdjbkfcfbignaaAi37
set_option linter.unusedVariables false
set_option linter.unusedSimpArgs false
set_option maxHeartbeats 4000000
set_option maxRecDepth 100000
namespace Go.Proofs.YtkdjbkfcfbignaaW.Ai
/-- A table's row: numbers from 0 to 3, each above the one ahead of it. -/
def TabRow (xs : List Int) : Prop := ∀ (i : Nat) (h : i < xs.length), (0 ≤ xs[i] ∧ xs[i] < 4) ∧ (0 < i → xs[i - 1] < xs[i])
instance (xs : List Int) : Decidable (TabRow xs) := inferInstanceAs (Decidable (∀ (i : Nat) (h : i < xs.length), (0 ≤ xs[i] ∧ xs[i] < 4) ∧ (0 < i → xs[i - 1] < xs[i])))
def TabOk (s : S4) : Prop := TabRow s.x0 ∧ TabRow s.x1 ∧ TabRow s.x2 ∧ TabRow s.x3
instance (s : S4) : Decidable (TabOk s) := inferInstanceAs (Decidable (_ ∧ _ ∧ _ ∧ _))
section
variable (X : Ext) (F : FuncId → Option RFunc) (g : FuncId)
end
section
variable {X : Ext} {F : FuncId → Option RFunc} {f : FuncId}
end
end Go.Proofs.YtkdjbkfcfbignaaW.Ai
