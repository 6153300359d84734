/-
 An object (chapter 6), as the small machine runs it.
-/
import Derived.Test.YtkdjbkfcfbignaaFn46
import Derived.Test.YtkdjbkfcfbignaaFn32
set_option linter.unusedVariables false
set_option linter.unusedSimpArgs false
set_option maxHeartbeats 4000000
set_option maxRecDepth 100000
namespace Go.Proofs.YtkdjbkfcfbignaaW.Ai
section
variable (X : Ext) (F : FuncId → Option RFunc) (g : FuncId)
end
/-- May a state be an object's? -/
def ObMay (ob : Int) (s : S4) : Prop := (ob = 0 ∧ StoreOk s) ∨ (ob = 1 ∧ TabOk s) ∨ (ob = 2 ∧ QueueOk s)
instance (ob : Int) (s : S4) : Decidable (ObMay ob s) := inferInstanceAs (Decidable (_ ∨ _ ∨ _))
section
variable {X : Ext} {F : FuncId → Option RFunc} {f : FuncId}
end
end Go.Proofs.YtkdjbkfcfbignaaW.Ai
