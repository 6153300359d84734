/-
 Tables (chapter 4), as the small machine runs them: a number taken, a number freed.
-/
import Derived.Test.YtkdjbkfcfbignaaFn40
import Derived.Test.YtkdjbkfcfbignaaAi38
set_option linter.unusedVariables false
set_option linter.unusedSimpArgs false
set_option maxHeartbeats 4000000
set_option maxRecDepth 100000
namespace Go.Proofs.YtkdjbkfcfbignaaW.Ai
section
variable (X : Ext) (F : FuncId → Option RFunc) (g : FuncId)
end
section
variable {X : Ext} {F : FuncId → Option RFunc} {f : FuncId}
end
end Go.Proofs.YtkdjbkfcfbignaaW.Ai
