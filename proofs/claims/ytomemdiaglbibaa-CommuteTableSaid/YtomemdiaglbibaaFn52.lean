/-
 What an operation on an object comes to.
-/
import Derived.Test.YtomemdiaglbibaaFn51
set_option linter.unusedVariables false
set_option linter.unusedSimpArgs false
set_option maxHeartbeats 4000000
set_option maxRecDepth 100000
namespace Go.Proofs.YtomemdiaglbibaaW.Ai
/-- What an operation on a row comes to. -/
def rowM (ob : Int) (xs : List Int) (c a : Int) : List Int × Int :=
 if ob = 0 then (if c = 0 then ([a], firstL xs) else if c = 1 then ([], firstL xs) else (xs, firstL xs))
 else if ob = 1 then (if c = 0 then takeL xs else if c = 1 then freeL xs a else (xs, (xs.length : Int)))
 else (if c = 0 then (if xs.length ≥ 4 then (xs, 0) else (xs ++ [a], 1)) else if c = 1 then (xs.tail, firstL xs) else (xs, (xs.length : Int)))
def RowMay (ob : Int) (xs : List Int) : Prop := if ob = 0 then ((xs.length : Int) ≤ 1 ∧ ArgsOk xs) else if ob = 1 then TabRow xs else ((xs.length : Int) ≤ 4 ∧ ArgsOk xs)
theorem ObMay_rows {ob : Int} {s : S4} : ObMay ob s ↔ (0 ≤ ob ∧ ob ≤ 2) ∧ RowMay ob s.x0 ∧ RowMay ob s.x1 ∧ RowMay ob s.x2 ∧ RowMay ob s.x3 := by
 by_cases h0 : ob = 0
 ·subst h0; rw [ObMay_0]; exact ⟨fun h => ⟨by decide, h⟩, fun h => h.2⟩
 by_cases h1 : ob = 1
 ·subst h1; rw [ObMay_1]; exact ⟨fun h => ⟨by decide, h⟩, fun h => h.2⟩
 by_cases h2 : ob = 2
 ·subst h2; rw [ObMay_2]; exact ⟨fun h => ⟨by decide, h⟩, fun h => h.2⟩
 exact ⟨fun h => absurd h (ObMay_x (by omega) s), fun h => by omega⟩
theorem RowMay_get {ob r : Int} {s : S4} (h : ObMay ob s) : RowMay ob (s.get r) := by
 have h := (ObMay_rows.1 h).2
 unfold S4.get
 repeat' split
 ·exact h.1
 ·exact h.2.1
 ·exact h.2.2.1
 ·exact h.2.2.2
theorem ObMay_put {ob r : Int} {s : S4} (h : ObMay ob s) {xs : List Int} (hx : RowMay ob xs) : ObMay ob (s.put r xs) := by
 have h := ObMay_rows.1 h
 refine ObMay_rows.2 ⟨h.1, ?_⟩
 unfold S4.put
 repeat' split
 ·exact ⟨hx, h.2.2⟩
 ·exact ⟨h.2.1, hx, h.2.2.2⟩
 ·exact ⟨h.2.1, h.2.2.1, hx, h.2.2.2.2⟩
 ·exact ⟨h.2.1, h.2.2.1, h.2.2.2.1, hx⟩
theorem S4.put_get (s : S4) {r : Int} (hr : 0 ≤ r ∧ r ≤ 3) : s.put r (s.get r) = s := by
 obtain h | h | h | h : r = 0 ∨ r = 1 ∨ r = 2 ∨ r = 3 := by omega
 all_goals subst h; rfl
theorem ObjM_no {e ob : Int} {s : S4} {c r a : Int} (h : ¬ (ObMay ob s ∧ OpOk c r a)) : ObjM e ob s c r a = (S4.none, 0, e) := by
 unfold ObjM
 split
 ·rename_i h0; subst h0; rw [ObMay_0] at h; exact if_neg h
 split
 ·rename_i h0; subst h0; rw [ObMay_1] at h; exact if_neg h
 split
 ·rename_i h0; subst h0; rw [ObMay_2] at h; exact if_neg h
 rfl
theorem ObjM_row {e ob : Int} {s : S4} {c r a : Int} (h : ObMay ob s) (ho : OpOk c r a) (hc : c ≠ 3) : ObjM e ob s c r a = (s.put r (rowM ob (s.get r) c a).1, (rowM ob (s.get r) c a).2, 0) := by
 have hr : 0 ≤ r ∧ r ≤ 3 := by unfold OpOk at ho; omega
 have hp := S4.put_get s hr
 have hc3 : c = 0 ∨ c = 1 ∨ c = 2 := by unfold OpOk at ho; omega
 unfold ObjM
 split
 ·rename_i h0; subst h0; rw [ObMay_0] at h
  rw [StoreM, if_pos ⟨h, ho⟩]
  rcases hc3 with rfl | rfl | rfl <;> simp [rowM, hp]
 split
 ·rename_i h0; subst h0; rw [ObMay_1] at h
  rw [FdsM, if_pos ⟨h, ho⟩]
  rcases hc3 with rfl | rfl | rfl <;> simp [rowM, hp]
 split
 ·rename_i h0; subst h0; rw [ObMay_2] at h
  rw [QueueM, if_pos ⟨h, ho⟩]
  rcases hc3 with rfl | rfl | rfl
  ·simp only [rowM, if_true]
   by_cases h4 : (s.get r).length ≥ 4 <;> simp [h4, hp]
  ·simp [rowM]
  ·simp [rowM, hp]
 ·exact absurd h (ObMay_x (by omega) s)
/-- What all rows come to. -/
def scanM (ob : Int) (s : S4) : Int := if ob = 0 then sumL (allL s) else ((allL s).length : Int)
theorem ObjM_scan {e ob : Int} {s : S4} {r a : Int} (h : ObMay ob s) (ho : OpOk 3 r a) : ObjM e ob s 3 r a = (s, scanM ob s, 0) := by
 unfold ObjM
 split
 ·rename_i h0; subst h0; rw [ObMay_0] at h
  rw [StoreM, if_pos ⟨h, ho⟩]; rfl
 split
 ·rename_i h0; subst h0; rw [ObMay_1] at h
  rw [FdsM, if_pos ⟨h, ho⟩]; rfl
 split
 ·rename_i h0; subst h0; rw [ObMay_2] at h
  rw [QueueM, if_pos ⟨h, ho⟩]; rfl
 ·exact absurd h (ObMay_x (by omega) s)
theorem rowM_may {ob : Int} {xs : List Int} {c a : Int} (h : RowMay ob xs) (ha : 0 ≤ a ∧ a ≤ 255) : RowMay ob (rowM ob xs c a).1 := by
 unfold RowMay rowM at *
 by_cases h0 : ob = 0
 ·simp only [h0, if_true] at h ⊢
  by_cases c0 : c = 0
  ·simp only [c0, if_true]
   exact ⟨by simp, fun x hx => by simp at hx; omega⟩
  by_cases c1 : c = 1
  ·simp [c1, ArgsOk]
  simp only [c0, c1, if_false]; exact h
 by_cases h1 : ob = 1
 ·simp only [h1, if_true] at h ⊢
  have h10 : ¬ (1 : Int) = 0 := by decide
  simp only [h10, if_false] at h ⊢
  by_cases c0 : c = 0
  ·simp only [c0, if_true]
   rcases takeL_cases h with ⟨hk, -⟩ | ⟨ys, t, hk, -, hT, -⟩
   ·rw [hk]; exact h
   ·rw [hk]; exact hT
  by_cases c1 : c = 1
  ·simp only [c0, c1, if_true, if_false, h10]
   by_cases hx : a ∈ xs
   ·rw [freeL_in hx]; exact outL_row h a
   ·rw [freeL_no hx]; exact h
  simp only [c0, c1, if_false]; exact h
 simp only [h0, h1, if_false] at h ⊢
 by_cases c0 : c = 0
 ·simp only [c0, if_true]
  split
  ·exact h
  ·refine ⟨by simp; omega, fun x hx => ?_⟩
   rcases List.mem_append.1 hx with hx | hx
   ·exact h.2 x hx
   ·simp at hx; omega
 by_cases c1 : c = 1
 ·have h10 : ¬ (1 : Int) = 0 := by decide
  simp only [c0, c1, if_true, if_false, h10]
  exact ⟨by simp only [List.length_tail]; omega, fun x hx => h.2 x (List.mem_of_mem_tail hx)⟩
 simp only [c0, c1, if_false]; exact h
section
variable {X : Ext} {F : FuncId → Option RFunc}
theorem applyO {g : FuncId} (e1 : S_oApply X F g) (ob : Int) (s : S4) (c r a : Int) (N : S4 × Int × Int) (hN : ObjM 600 ob s c r a = N) : ∀ (lim : Nat) (h' : AH) {r0 r1 r2 r3 : Row}, lim ≤ h'.length → St h' r0 r1 r2 r3 → r0.xs = s.x0 → r1.xs = s.x1 → r2.xs = s.x2 → r3.xs = s.x3 → Ret X F lim g [.int .i64 ob, stV r0 r1 r2 r3, .agg #[.int .i64 c, .int .i64 r, .int .i64 a]] h' fun v h'' => Pfx h' h'' ∧ MadeS h' h'' (fun s0 s1 s2 s3 => .tuple #[stV s0 s1 s2 s3, .int .i64 N.2.1, .int .i64 N.2.2]) N.1 v := by
 intro lim h' r0 r1 r2 r3 hl hst q0 q1 q2 q3
 have := e1 lim h' (ob := ob) (c := c) (r := r) (a := a) hl hst
 rw [q0, q1, q2, q3] at this
 subst hN
 exact this
end
end Go.Proofs.YtomemdiaglbibaaW.Ai
