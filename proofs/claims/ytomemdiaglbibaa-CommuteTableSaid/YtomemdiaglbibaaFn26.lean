/-
 States (chapters 3 to 6): what is put into a row; an Apply at a state that is told.
-/
import Derived.Test.YtomemdiaglbibaaFn25
set_option linter.unusedVariables false
set_option linter.unusedSimpArgs false
namespace Go.Proofs.YtomemdiaglbibaaW.Ai
namespace P
section
variable {X : Ext} {F : FuncId → Option RFunc}
end
end P
end Go.Proofs.YtomemdiaglbibaaW.Ai
