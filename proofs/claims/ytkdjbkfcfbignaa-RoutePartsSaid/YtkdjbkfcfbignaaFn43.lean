/-
 Tables (chapter 4), as the small machine runs them: what an operation does.
-/
import Derived.Test.YtkdjbkfcfbignaaFn42
set_option linter.unusedVariables false
set_option linter.unusedSimpArgs false
set_option maxHeartbeats 4000000
set_option maxRecDepth 100000
namespace Go.Proofs.YtkdjbkfcfbignaaW.Ai
/-- The rows a table may have. -/
def subs : List (List Int) := [[], [0], [1], [2], [3], [0, 1], [0, 2], [0, 3], [1, 2], [1, 3], [2, 3], [0, 1, 2], [0, 1, 3], [0, 2, 3], [1, 2, 3], [0, 1, 2, 3]]
theorem TabRow.mem {xs : List Int} (h : TabRow xs) : xs ∈ subs := by
 match xs, h with
 | [], _ => decide
 | [a], h =>
  have h0 := h 0 (by simp)
  simp at h0
  have : a = 0 ∨ a = 1 ∨ a = 2 ∨ a = 3 := by omega
  rcases this with rfl | rfl | rfl | rfl <;> decide
 | [a, b], h =>
  have h0 := h 0 (by simp)
  have h1 := h 1 (by simp)
  simp at h0 h1
  have : (a = 0 ∧ b = 1) ∨ (a = 0 ∧ b = 2) ∨ (a = 0 ∧ b = 3) ∨ (a = 1 ∧ b = 2) ∨ (a = 1 ∧ b = 3) ∨ (a = 2 ∧ b = 3) := by omega
  rcases this with ⟨rfl, rfl⟩ | ⟨rfl, rfl⟩ | ⟨rfl, rfl⟩ | ⟨rfl, rfl⟩ | ⟨rfl, rfl⟩ | ⟨rfl, rfl⟩ <;> decide
 | [a, b, c], h =>
  have h0 := h 0 (by simp)
  have h1 := h 1 (by simp)
  have h2 := h 2 (by simp)
  simp at h0 h1 h2
  have : (a = 0 ∧ b = 1 ∧ c = 2) ∨ (a = 0 ∧ b = 1 ∧ c = 3) ∨ (a = 0 ∧ b = 2 ∧ c = 3) ∨ (a = 1 ∧ b = 2 ∧ c = 3) := by omega
  rcases this with ⟨rfl, rfl, rfl⟩ | ⟨rfl, rfl, rfl⟩ | ⟨rfl, rfl, rfl⟩ | ⟨rfl, rfl, rfl⟩ <;> decide
 | [a, b, c, d], h =>
  have h0 := h 0 (by simp)
  have h1 := h 1 (by simp)
  have h2 := h 2 (by simp)
  have h3 := h 3 (by simp)
  simp at h0 h1 h2 h3
  have : a = 0 ∧ b = 1 ∧ c = 2 ∧ d = 3 := by omega
  obtain ⟨rfl, rfl, rfl, rfl⟩ := this
  decide
 | a :: b :: c :: d :: e :: t, h =>
  exfalso
  have h0 := h 0 (by simp)
  have h1 := h 1 (by simp)
  have h2 := h 2 (by simp)
  have h3 := h 3 (by simp)
  have h4 := h 4 (by simp)
  simp at h0 h1 h2 h3 h4
  omega
theorem TabRow.len {xs : List Int} (h : TabRow xs) : xs.length ≤ 4 := by
 have : ∀ ys ∈ subs, ys.length ≤ 4 := by decide
 exact this xs h.mem
section
variable (X : Ext) (F : FuncId → Option RFunc) (g : FuncId)
end
section
variable {X : Ext} {F : FuncId → Option RFunc} {f : FuncId}
end
end Go.Proofs.YtkdjbkfcfbignaaW.Ai
