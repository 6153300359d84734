/-
 What an operation on an object comes to.
-/
import Derived.Test.YtkdjbkfcfbignaaFn51
set_option linter.unusedVariables false
set_option linter.unusedSimpArgs false
set_option maxHeartbeats 4000000
set_option maxRecDepth 100000
namespace Go.Proofs.YtkdjbkfcfbignaaW.Ai
section
variable {X : Ext} {F : FuncId → Option RFunc}
end
end Go.Proofs.YtkdjbkfcfbignaaW.Ai
