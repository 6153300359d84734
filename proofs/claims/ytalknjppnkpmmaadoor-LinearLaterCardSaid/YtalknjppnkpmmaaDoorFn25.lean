/-
 States written over (chapter 3), as the small machine runs them.
-/
import Derived.Test.YtalknjppnkpmmaaDoorFn24
set_option linter.unusedVariables false
set_option linter.unusedSimpArgs false
set_option maxHeartbeats 4000000
set_option maxRecDepth 100000
namespace Go.Proofs.YtalknjppnkpmmaaDoorW.Ai
section
variable (X : Ext) (F : FuncId → Option RFunc) (g : FuncId)
end
section
variable {X : Ext} {F : FuncId → Option RFunc} {f : FuncId}
end
end Go.Proofs.YtalknjppnkpmmaaDoorW.Ai
