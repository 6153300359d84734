/-
 Functions on rows of numbers, as the small machine runs them. 
-/
import Derived.Test.YtgjickapnfnkfaaMd
set_option linter.unusedVariables false
set_option linter.unusedSimpArgs false
namespace Go.Proofs.YtgjickapnfnkfaaW.Ai
section
variable {X : Ext} {F : FuncId → Option RFunc} {lim : Nat} {f : FuncId} {h : AH}
end
end Go.Proofs.YtgjickapnfnkfaaW.Ai
