/-
 Tables (chapter 4), as the small machine runs them: a number taken, a number freed.
-/
import Derived.Test.YtkdjbkfcfbignaaFn40
import Derived.Test.YtkdjbkfcfbignaaAi38
set_option linter.unusedVariables false
set_option linter.unusedSimpArgs false
set_option maxHeartbeats 4000000
set_option maxRecDepth 100000
namespace Go.Proofs.YtkdjbkfcfbignaaW.Ai
def insL (xs : List Int) (x : Int) : List Int := xs.filter (fun y => decide (y < x)) ++ x :: xs.filter (fun y => decide (x < y))
def takeL (xs : List Int) : List Int × Int := if 0 ∉ xs then (insL xs 0, 0) else if 1 ∉ xs then (insL xs 1, 1) else if 2 ∉ xs then (insL xs 2, 2) else if 3 ∉ xs then (insL xs 3, 3) else (xs, -1)
def outL (xs : List Int) (x : Int) : List Int := xs.filter (fun y => decide (y ≠ x))
def freeL (xs : List Int) (x : Int) : List Int × Int := if x ∈ xs then (outL xs x, 1) else (xs, 0)
section
variable (X : Ext) (F : FuncId → Option RFunc) (g : FuncId)
end
section
variable {X : Ext} {F : FuncId → Option RFunc} {f : FuncId}
end
end Go.Proofs.YtkdjbkfcfbignaaW.Ai
