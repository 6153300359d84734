/-
 What an operation on an object comes to.
-/
import Derived.Test.YtkdjbkfcfbignaaFn51
set_option linter.unusedVariables false
set_option linter.unusedSimpArgs false
set_option maxHeartbeats 4000000
set_option maxRecDepth 100000
namespace Go.Proofs.YtkdjbkfcfbignaaW.Ai
/-- What an operation on a row comes to. -/
def rowM (ob : Int) (xs : List Int) (c a : Int) : List Int × Int :=
 if ob = 0 then (if c = 0 then ([a], firstL xs) else if c = 1 then ([], firstL xs) else (xs, firstL xs))
 else if ob = 1 then (if c = 0 then takeL xs else if c = 1 then freeL xs a else (xs, (xs.length : Int)))
 else (if c = 0 then (if xs.length ≥ 4 then (xs, 0) else (xs ++ [a], 1)) else if c = 1 then (xs.tail, firstL xs) else (xs, (xs.length : Int)))
def RowMay (ob : Int) (xs : List Int) : Prop := if ob = 0 then ((xs.length : Int) ≤ 1 ∧ ArgsOk xs) else if ob = 1 then TabRow xs else ((xs.length : Int) ≤ 4 ∧ ArgsOk xs)
theorem ObMay_rows {ob : Int} {s : S4} : ObMay ob s ↔ (0 ≤ ob ∧ ob ≤ 2) ∧ RowMay ob s.x0 ∧ RowMay ob s.x1 ∧ RowMay ob s.x2 ∧ RowMay ob s.x3 := by
 by_cases h0 : ob = 0
 ·subst h0; rw [ObMay_0]; exact ⟨fun h => ⟨by decide, h⟩, fun h => h.2⟩
 by_cases h1 : ob = 1
 ·subst h1; rw [ObMay_1]; exact ⟨fun h => ⟨by decide, h⟩, fun h => h.2⟩
 by_cases h2 : ob = 2
 ·subst h2; rw [ObMay_2]; exact ⟨fun h => ⟨by decide, h⟩, fun h => h.2⟩
 exact ⟨fun h => absurd h (ObMay_x (by omega) s), fun h => by omega⟩
theorem RowMay_nil {ob : Int} : RowMay ob [] := by
 unfold RowMay
 repeat' split
 ·exact ⟨by decide, by decide⟩
 ·exact TabRow.nil
 ·exact ⟨by decide, by decide⟩
theorem S4.put_get (s : S4) {r : Int} (hr : 0 ≤ r ∧ r ≤ 3) : s.put r (s.get r) = s := by
 obtain h | h | h | h : r = 0 ∨ r = 1 ∨ r = 2 ∨ r = 3 := by omega
 all_goals subst h; rfl
theorem ObjM_row {e ob : Int} {s : S4} {c r a : Int} (h : ObMay ob s) (ho : OpOk c r a) (hc : c ≠ 3) : ObjM e ob s c r a = (s.put r (rowM ob (s.get r) c a).1, (rowM ob (s.get r) c a).2, 0) := by
 have hr : 0 ≤ r ∧ r ≤ 3 := by unfold OpOk at ho; omega
 have hp := S4.put_get s hr
 have hc3 : c = 0 ∨ c = 1 ∨ c = 2 := by unfold OpOk at ho; omega
 unfold ObjM
 split
 ·rename_i h0; subst h0; rw [ObMay_0] at h
  rw [StoreM, if_pos ⟨h, ho⟩]
  rcases hc3 with rfl | rfl | rfl <;> simp [rowM, hp]
 split
 ·rename_i h0; subst h0; rw [ObMay_1] at h
  rw [FdsM, if_pos ⟨h, ho⟩]
  rcases hc3 with rfl | rfl | rfl <;> simp [rowM, hp]
 split
 ·rename_i h0; subst h0; rw [ObMay_2] at h
  rw [QueueM, if_pos ⟨h, ho⟩]
  rcases hc3 with rfl | rfl | rfl
  ·simp only [rowM, if_true]
   by_cases h4 : (s.get r).length ≥ 4 <;> simp [h4, hp]
  ·simp [rowM]
  ·simp [rowM, hp]
 ·exact absurd h (ObMay_x (by omega) s)
section
variable {X : Ext} {F : FuncId → Option RFunc}
end
end Go.Proofs.YtkdjbkfcfbignaaW.Ai
