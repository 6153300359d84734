/-
 The least of some numbers (chapter 11), as the small machine runs it.
-/
import Derived.Test.YtalknjppnkpmmaaDoorFn1
set_option linter.unusedVariables false
set_option linter.unusedSimpArgs false
set_option maxHeartbeats 2000000
namespace Go.Proofs.YtalknjppnkpmmaaDoorW.Ai
section
def least (x : Int) (xs : List Int) : Int := xs.foldl (fun a b => if b < a then b else a) x
section
variable {X : Ext} {F : FuncId → Option RFunc} {lim : Nat} {f : FuncId} {h : AH}
end
end
end Go.Proofs.YtalknjppnkpmmaaDoorW.Ai
