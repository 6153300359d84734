/-
 Tables (chapter 4), as the small machine runs them: what an operation does.
-/
import Derived.Test.YtkdjbkfcfbignaaFn42
set_option linter.unusedVariables false
set_option linter.unusedSimpArgs false
set_option maxHeartbeats 4000000
set_option maxRecDepth 100000
namespace Go.Proofs.YtkdjbkfcfbignaaW.Ai
/-- The rows a table may have. -/
def subs : List (List Int) := [[], [0], [1], [2], [3], [0, 1], [0, 2], [0, 3], [1, 2], [1, 3], [2, 3], [0, 1, 2], [0, 1, 3], [0, 2, 3], [1, 2, 3], [0, 1, 2, 3]]
theorem TabRow.mem {xs : List Int} (h : TabRow xs) : xs ∈ subs := by
 match xs, h with
 | [], _ => decide
 | [a], h =>
  have h0 := h 0 (by simp)
  simp at h0
  have : a = 0 ∨ a = 1 ∨ a = 2 ∨ a = 3 := by omega
  rcases this with rfl | rfl | rfl | rfl <;> decide
 | [a, b], h =>
  have h0 := h 0 (by simp)
  have h1 := h 1 (by simp)
  simp at h0 h1
  have : (a = 0 ∧ b = 1) ∨ (a = 0 ∧ b = 2) ∨ (a = 0 ∧ b = 3) ∨ (a = 1 ∧ b = 2) ∨ (a = 1 ∧ b = 3) ∨ (a = 2 ∧ b = 3) := by omega
  rcases this with ⟨rfl, rfl⟩ | ⟨rfl, rfl⟩ | ⟨rfl, rfl⟩ | ⟨rfl, rfl⟩ | ⟨rfl, rfl⟩ | ⟨rfl, rfl⟩ <;> decide
 | [a, b, c], h =>
  have h0 := h 0 (by simp)
  have h1 := h 1 (by simp)
  have h2 := h 2 (by simp)
  simp at h0 h1 h2
  have : (a = 0 ∧ b = 1 ∧ c = 2) ∨ (a = 0 ∧ b = 1 ∧ c = 3) ∨ (a = 0 ∧ b = 2 ∧ c = 3) ∨ (a = 1 ∧ b = 2 ∧ c = 3) := by omega
  rcases this with ⟨rfl, rfl, rfl⟩ | ⟨rfl, rfl, rfl⟩ | ⟨rfl, rfl, rfl⟩ | ⟨rfl, rfl, rfl⟩ <;> decide
 | [a, b, c, d], h =>
  have h0 := h 0 (by simp)
  have h1 := h 1 (by simp)
  have h2 := h 2 (by simp)
  have h3 := h 3 (by simp)
  simp at h0 h1 h2 h3
  have : a = 0 ∧ b = 1 ∧ c = 2 ∧ d = 3 := by omega
  obtain ⟨rfl, rfl, rfl, rfl⟩ := this
  decide
 | a :: b :: c :: d :: e :: t, h =>
  exfalso
  have h0 := h 0 (by simp)
  have h1 := h 1 (by simp)
  have h2 := h 2 (by simp)
  have h3 := h 3 (by simp)
  have h4 := h 4 (by simp)
  simp at h0 h1 h2 h3 h4
  omega
theorem TabRow.len {xs : List Int} (h : TabRow xs) : xs.length ≤ 4 := by
 have : ∀ ys ∈ subs, ys.length ≤ 4 := by decide
 exact this xs h.mem
theorem takeL_full {xs : List Int} (h : (takeL xs).2 = -1) : takeL xs = (xs, -1) := by
 unfold takeL at h ⊢
 split at h
 ·exact absurd (show (0 : Int) = -1 from h) (by decide)
 split at h
 ·exact absurd (show (1 : Int) = -1 from h) (by decide)
 split at h
 ·exact absurd (show (2 : Int) = -1 from h) (by decide)
 split at h
 ·exact absurd (show (3 : Int) = -1 from h) (by decide)
 simp_all
def FdsM (e : Int) (s : S4) (c r a : Int) : S4 × Int × Int :=
 if TabOk s ∧ OpOk c r a then
  if c = 0 then (s.put r (takeL (s.get r)).1, (takeL (s.get r)).2, 0)
  else if c = 1 then (s.put r (freeL (s.get r) a).1, (freeL (s.get r) a).2, 0)
  else if c = 2 then (s, ((s.get r).length : Int), 0) else (s, ((allL s).length : Int), 0)
 else (S4.none, 0, e)
section
variable (X : Ext) (F : FuncId → Option RFunc) (g : FuncId)
end
section
variable {X : Ext} {F : FuncId → Option RFunc} {f : FuncId}
end
end Go.Proofs.YtkdjbkfcfbignaaW.Ai
