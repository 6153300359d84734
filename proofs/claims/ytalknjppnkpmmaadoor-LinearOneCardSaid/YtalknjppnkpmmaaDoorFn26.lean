/-
 States (chapters 3 to 6): what is put into a row; an Apply at a state that is told.
-/
import Derived.Test.YtalknjppnkpmmaaDoorFn25
namespace Go.Proofs.YtalknjppnkpmmaaDoorW.Ai
namespace P
section
variable {X : Ext} {F : FuncId → Option RFunc}
end
end P
end Go.Proofs.YtalknjppnkpmmaaDoorW.Ai
set_option linter.unusedVariables false
set_option linter.unusedSimpArgs false
