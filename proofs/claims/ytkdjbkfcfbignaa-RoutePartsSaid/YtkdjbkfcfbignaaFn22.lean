/-
 Stores (chapter 3), as the small machine runs them: what may be, what an operation does.
-/
import Derived.Test.YtkdjbkfcfbignaaFn21
set_option linter.unusedVariables false
set_option linter.unusedSimpArgs false
set_option maxHeartbeats 4000000
set_option maxRecDepth 100000
namespace Go.Proofs.YtkdjbkfcfbignaaW.Ai
def S4.put (s : S4) (r : Int) (xs : List Int) : S4 := if r = 0 then ⟨xs, s.x1, s.x2, s.x3⟩ else if r = 1 then ⟨s.x0, xs, s.x2, s.x3⟩ else if r = 2 then ⟨s.x0, s.x1, xs, s.x3⟩ else ⟨s.x0, s.x1, s.x2, xs⟩
abbrev RowsOk (m : Int) (s : S4) : Prop := ((s.x0.length : Int) ≤ m ∧ ArgsOk s.x0) ∧ ((s.x1.length : Int) ≤ m ∧ ArgsOk s.x1) ∧ ((s.x2.length : Int) ≤ m ∧ ArgsOk s.x2) ∧ ((s.x3.length : Int) ≤ m ∧ ArgsOk s.x3)
def StoreOk (s : S4) : Prop := RowsOk 1 s
instance (s : S4) : Decidable (StoreOk s) := inferInstanceAs (Decidable (RowsOk 1 s))
section
variable (X : Ext) (F : FuncId → Option RFunc) (g : FuncId)
end
section
variable {X : Ext} {F : FuncId → Option RFunc} {f : FuncId}
end
end Go.Proofs.YtkdjbkfcfbignaaW.Ai
