/-
 What an operation on a table comes to.
-/
import Derived.Test.YtalknjppnkpmmaaDoorFn45
import Derived.Test.YtalknjppnkpmmaaDoorFn26
set_option linter.unusedVariables false
set_option linter.unusedSimpArgs false
set_option maxHeartbeats 4000000
set_option maxRecDepth 100000
namespace Go.Proofs.YtalknjppnkpmmaaDoorW.Ai
section
theorem takeL_cases {xs : List Int} (hT : TabRow xs) : (takeL xs = (xs, -1) ∧ xs = [0, 1, 2, 3]) ∨ ∃ ys t, takeL xs = (ys, t) ∧ (0 ≤ t ∧ t ≤ 3) ∧ TabRow ys ∧ freeL ys t = (xs, 1) ∧ freeL xs t = (xs, 0) ∧ ys.length = xs.length + 1 ∧ t ∉ xs ∧ ((xs.filter (fun y => decide (y < t))).length : Int) = t ∧ (∀ k, k ∈ ys ↔ k = t ∨ k ∈ xs) := by
 have key : ∀ ys ∈ subs, (takeL ys = (ys, -1) ∧ ys = [0, 1, 2, 3]) ∨ ((0 ≤ (takeL ys).2 ∧ (takeL ys).2 ≤ 3) ∧ (takeL ys).1 ∈ subs ∧ freeL (takeL ys).1 (takeL ys).2 = (ys, 1) ∧ freeL ys (takeL ys).2 = (ys, 0) ∧ (takeL ys).1.length = ys.length + 1 ∧ (takeL ys).2 ∉ ys ∧ ((ys.filter (fun y => decide (y < (takeL ys).2))).length : Int) = (takeL ys).2 ∧ (takeL ys).1 = insL ys (takeL ys).2) := by decide
 have rows : ∀ ys ∈ subs, TabRow ys := by decide
 rcases key xs hT.mem with h | ⟨h1, h2, h3, h4, h5, h6, h7, h8⟩
 ·exact .inl h
 ·generalize hr : takeL xs = r at h1 h2 h3 h4 h5 h6 h7 h8
  refine .inr ⟨r.1, r.2, rfl, h1, rows _ h2, h3, h4, h5, h6, h7, fun k => ?_⟩
  rw [h8, insL]
  simp only [List.mem_append, List.mem_cons, List.mem_filter, decide_eq_true_eq]
  constructor
  ·rintro (⟨h, _⟩ | h | ⟨h, _⟩)
   ·exact .inr h
   ·exact .inl h
   ·exact .inr h
  ·rintro (h | h)
   ·exact .inr (.inl h)
   ·rcases Int.lt_trichotomy k r.2 with q | q | q
    ·exact .inl ⟨h, q⟩
    ·exact .inr (.inl q)
    ·exact .inr (.inr ⟨h, q⟩)
theorem freeL_in {xs : List Int} {x : Int} (h : x ∈ xs) : freeL xs x = (outL xs x, 1) := if_pos h
theorem freeL_no {xs : List Int} {x : Int} (h : x ∉ xs) : freeL xs x = (xs, 0) := if_neg h
theorem outL_row {xs : List Int} (hT : TabRow xs) (x : Int) : TabRow (outL xs x) := by
 by_cases hx : x ∈ xs
 ·have key : ∀ ys ∈ subs, ∀ u ∈ ([0, 1, 2, 3] : List Int), outL ys u ∈ subs := by decide
  have rows : ∀ ys ∈ subs, TabRow ys := by decide
  have := hT.rng hx
  exact rows _ (key xs hT.mem x (by simp; omega))
 ·have : outL xs x = xs := List.filter_eq_self.2 fun y hy => by
   have : y ≠ x := fun e => hx (e ▸ hy)
   simpa using this
  rw [this]; exact hT
theorem TabRow.nil : TabRow [] := fun i h => absurd h (Nat.not_lt_zero i)
end
end Go.Proofs.YtalknjppnkpmmaaDoorW.Ai
