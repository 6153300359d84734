/-
 What an operation's answer may be; an answer of a history stored over.
-/
import Derived.Test.YtalknjppnkpmmaaDoorFn94
set_option linter.unusedVariables false
set_option linter.unusedSimpArgs false
set_option maxHeartbeats 4000000
set_option maxRecDepth 100000
namespace Go.Proofs.YtalknjppnkpmmaaDoorW.Ai
section
theorem firstL_rng2 {xs : List Int} (h : ArgsOk xs) : -1 ≤ firstL xs ∧ firstL xs ≤ 255 := by
 by_cases h0 : xs.length = 0
 ·rw [firstL_nil h0]; decide
 ·rw [← firstL_get (show 0 < xs.length by omega)]
  have := h _ (List.getElem_mem (show 0 < xs.length by omega))
  omega
theorem takeL_rng2 {xs : List Int} (h : TabRow xs) : -1 ≤ (takeL xs).2 ∧ (takeL xs).2 ≤ 3 := by
 rcases takeL_cases h with ⟨hk, -⟩ | ⟨ys, t, hk, ht, -⟩
 ·rw [hk]; exact ⟨Int.le_refl _, (by decide : (-1 : Int) ≤ 3)⟩
 ·rw [hk]; dsimp only; omega
theorem rowM_rng2 {ob : Int} {xs : List Int} {c a : Int} (h : RowMay ob xs) : (-1 ≤ (rowM ob xs c a).2 ∧ (rowM ob xs c a).2 ≤ 255) ∧ (ob ≠ 0 → c ≠ 0 → c ≠ 1 → 0 ≤ (rowM ob xs c a).2 ∧ (rowM ob xs c a).2 ≤ 4) := by
 unfold RowMay at h
 unfold rowM
 by_cases h0 : ob = 0
 ·simp only [h0, if_true] at h ⊢
  have := firstL_rng2 h.2
  refine ⟨?_, fun hh => absurd rfl hh⟩
  repeat' split
  all_goals exact this
 by_cases h1 : ob = 1
 ·simp only [h0, h1, if_true, if_false] at h ⊢
  have h10 : ¬ (1 : Int) = 0 := by decide
  simp only [h10, if_false] at h ⊢
  have h2 := takeL_rng2 h
  have h3 := h.len
  have h4 : (freeL xs a).2 = 1 ∨ (freeL xs a).2 = 0 := by
   unfold freeL; split <;> simp
  repeat' split
  all_goals refine ⟨?_, fun _ _ _ => ?_⟩
  all_goals first | omega | (dsimp only; omega)
 simp only [h0, h1, if_false] at h ⊢
 have h2 := firstL_rng2 h.2
 have h3 := h.1
 repeat' split
 all_goals refine ⟨?_, fun _ _ _ => ?_⟩
 all_goals first | omega | (dsimp only; omega)
theorem scanM_rng2 {ob : Int} {s : S4} (h : ObMay ob s) : 0 ≤ scanM ob s ∧ (ob = 0 → scanM ob s ≤ 1020) ∧ (ob ≠ 0 → scanM ob s ≤ 16) := by
 have hr := ObMay_rows.1 h
 unfold scanM
 by_cases h0 : ob = 0
 ·subst h0
  rw [ObMay_0] at h
  have ha := all_args h
  have hs := sumL_full ha
  have hl : (allL s).length ≤ 4 := by
   have := h
   have h1 := this.1.1
   have h2 := this.2.1.1
   have h3 := this.2.2.1.1
   have h4 := this.2.2.2.1
   simp [allL]; omega
  simp only [if_true]
  refine ⟨hs.1, fun _ => by omega, fun hh => absurd rfl hh⟩
 ·simp only [h0, if_false]
  have hl : ∀ xs, RowMay ob xs → xs.length ≤ 4 := fun xs hx => by
   unfold RowMay at hx
   simp only [h0, if_false] at hx
   split at hx
   ·exact hx.len
   ·have := hx.1; omega
  have h1 := hl _ hr.2.1
  have h2 := hl _ hr.2.2.1
  have h3 := hl _ hr.2.2.2.1
  have h4 := hl _ hr.2.2.2.2
  refine ⟨by omega, fun hh => hh.elim, fun _ => ?_⟩
  simp [allL]; omega
theorem ObjM_ans {ob : Int} {s : S4} {c r a : Int} (h : ObMay ob s) (ho : OpOk c r a) : -1 ≤ (ObjM 600 ob s c r a).2.1 ∧ (ObjM 600 ob s c r a).2.1 ≤ 1020 := by
 by_cases h3 : c = 3
 ·subst h3
  rw [ObjM_scan h ho]
  have := scanM_rng2 h
  simp only
  by_cases h0 : ob = 0
  ·have := this.2.1 h0; omega
  ·have := this.2.2 h0; omega
 ·rw [ObjM_row h ho h3]
  have := (rowM_rng2 (c := c) (a := a) (RowMay_get (r := r) h)).1
  simp only
  omega
theorem Leg_rng {ob : Int} : ∀ {l : List (OpR × Int)} {s : S4}, ObMay ob s → (∀ p ∈ l, OpOk p.1.c p.1.r p.1.a) → Leg ob s l → ∀ p ∈ l, -1 ≤ p.2 ∧ p.2 ≤ 1020
 | [], s, _, _, _, p, hp => by cases hp
 | (o, x) :: l, s, hs, ho, hl, p, hp => by
  have h1 := ho _ (List.mem_cons_self ..)
  simp only at h1
  rcases List.mem_cons.1 hp with rfl | hp
  ·have := ObjM_ans hs h1
   rw [hl.1] at this
   exact this
  ·obtain ⟨s', y, hN, hm⟩ := ObjM_fine hs h1
   have h2 := hl.2
   rw [hN 600] at h2
   exact Leg_rng hm (fun q hq => ho q (List.mem_cons_of_mem _ hq)) h2 p hp
end
end Go.Proofs.YtalknjppnkpmmaaDoorW.Ai
