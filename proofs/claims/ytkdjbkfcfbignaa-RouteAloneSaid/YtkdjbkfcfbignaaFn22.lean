/-
 Stores (chapter 3), as the small machine runs them: what may be, what an operation does.
-/
import Derived.Test.YtkdjbkfcfbignaaFn21
set_option linter.unusedVariables false
set_option linter.unusedSimpArgs false
set_option maxHeartbeats 4000000
set_option maxRecDepth 100000
namespace Go.Proofs.YtkdjbkfcfbignaaW.Ai
def S4.get (s : S4) (r : Int) : List Int := if r = 0 then s.x0 else if r = 1 then s.x1 else if r = 2 then s.x2 else s.x3
def S4.put (s : S4) (r : Int) (xs : List Int) : S4 := if r = 0 then ⟨xs, s.x1, s.x2, s.x3⟩ else if r = 1 then ⟨s.x0, xs, s.x2, s.x3⟩ else if r = 2 then ⟨s.x0, s.x1, xs, s.x3⟩ else ⟨s.x0, s.x1, s.x2, xs⟩
def firstL : List Int → Int
 | [] => -1
 | x :: _ => x
abbrev RowsOk (m : Int) (s : S4) : Prop := ((s.x0.length : Int) ≤ m ∧ ArgsOk s.x0) ∧ ((s.x1.length : Int) ≤ m ∧ ArgsOk s.x1) ∧ ((s.x2.length : Int) ≤ m ∧ ArgsOk s.x2) ∧ ((s.x3.length : Int) ≤ m ∧ ArgsOk s.x3)
def StoreOk (s : S4) : Prop := RowsOk 1 s
instance (s : S4) : Decidable (StoreOk s) := inferInstanceAs (Decidable (RowsOk 1 s))
def allL (s : S4) : List Int := s.x0 ++ s.x1 ++ s.x2 ++ s.x3
/-- What a store answers. -/
def StoreM (e : Int) (s : S4) (c r a : Int) : S4 × Int × Int :=
 if StoreOk s ∧ OpOk c r a then
  if c = 0 then (s.put r [a], firstL (s.get r), 0) else if c = 1 then (s.put r [], firstL (s.get r), 0) else if c = 2 then (s, firstL (s.get r), 0) else (s, sumL (allL s), 0)
 else (S4.none, 0, e)
section
variable (X : Ext) (F : FuncId → Option RFunc) (g : FuncId)
end
theorem firstL_get {xs : List Int} (h : 0 < xs.length) : xs[0] = firstL xs := by
 cases xs with
 | nil => simp at h
 | cons x xs => rfl
theorem firstL_nil {xs : List Int} (h : xs.length = 0) : firstL xs = -1 := by
 rw [List.eq_nil_of_length_eq_zero h]; rfl
section
variable {X : Ext} {F : FuncId → Option RFunc} {f : FuncId}
end
end Go.Proofs.YtkdjbkfcfbignaaW.Ai
