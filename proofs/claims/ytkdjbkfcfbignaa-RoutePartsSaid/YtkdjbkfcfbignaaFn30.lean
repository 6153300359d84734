/-
 Queues (chapter 5), as the small machine runs them: what may be, in, out, how many.
-/
import Derived.Test.YtkdjbkfcfbignaaFn25
import Derived.Test.YtkdjbkfcfbignaaMf
set_option linter.unusedVariables false
set_option linter.unusedSimpArgs false
set_option maxHeartbeats 4000000
set_option maxRecDepth 100000
namespace Go.Proofs.YtkdjbkfcfbignaaW.Ai
def QueueOk (s : S4) : Prop := RowsOk 4 s
instance (s : S4) : Decidable (QueueOk s) := inferInstanceAs (Decidable (RowsOk 4 s))
section
variable (X : Ext) (F : FuncId → Option RFunc) (g : FuncId)
end
section
variable {X : Ext} {F : FuncId → Option RFunc} {f : FuncId}
end
end Go.Proofs.YtkdjbkfcfbignaaW.Ai
