/-
 Cursors (chapter 11), as the small machine runs them: what may be.
-/
import Derived.Test.YtgjickapnfnkfaaFn8
import Derived.Test.YtgjickapnfnkfaaFn6
set_option linter.unusedVariables false
set_option linter.unusedSimpArgs false
set_option maxHeartbeats 4000000
set_option maxRecDepth 100000
namespace Go.Proofs.YtgjickapnfnkfaaW.Ai
section
variable (X : Ext) (F : FuncId → Option RFunc) (g : FuncId)
end
section
variable {X : Ext} {F : FuncId → Option RFunc} {f : FuncId}
end
end Go.Proofs.YtgjickapnfnkfaaW.Ai
