/-
 Functions on rows of numbers, as the small machine runs them. 
-/
import Derived.Test.YtalknjppnkpmmaaDoorMd
set_option linter.unusedVariables false
set_option linter.unusedSimpArgs false
namespace Go.Proofs.YtalknjppnkpmmaaDoorW.Ai
section
section
variable {X : Ext} {F : FuncId → Option RFunc} {lim : Nat} {f : FuncId} {h : AH}
theorem room8 {k : Nat} (hk : k ≤ 2 ^ 44 + 2) : Room k 8 := ⟨by omega, by omega, by omega⟩
end
end
end Go.Proofs.YtalknjppnkpmmaaDoorW.Ai
