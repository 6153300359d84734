/- SlotAlive: a slot bears an entry's place just if its bit is the place's, so at just one of two laps: the call returns true for every slot and all numbers; the arguments read as they did. -/
import Derived.Test.YtmllmmdfcpameaaPSlotAlivex1
import Derived.Test.YtmllmmdfcpameaaPlain
set_option linter.unusedVariables false
set_option linter.unusedSimpArgs false
namespace Go.Proofs.Ytmllmmdfcpameaa.Pure
open Go.RowKit Go.Proofs.Ytmllmmdfcpameaa.PSlotAlive Go.Proofs.YtmllmmdfcpameaaW.PrintWords Go.Proofs.YtmllmmdfcpameaaW.PrintLast Go.Proofs.YtmllmmdfcpameaaW.PrintMore Go.Proofs.YtmllmmdfcpameaaW.Plain

theorem many_f (k : Int) : slot_Many.f k = some (decide (k = 2 ∨ k = 4 ∨ k = 8 ∨ k = 16)) := by
  unfold slot_Many.f
  by_cases h1 : k ≥ 2
  · rw [if_pos h1]
    by_cases h2 : k ≤ 16
    · rw [if_pos h2]
      have h3 : k = 2 ∨ k = 3 ∨ k = 4 ∨ k = 5 ∨ k = 6 ∨ k = 7 ∨ k = 8 ∨ k = 9 ∨ k = 10 ∨ k = 11 ∨ k = 12 ∨ k = 13 ∨ k = 14 ∨ k = 15 ∨ k = 16 := by omega
      rcases h3 with h | h | h | h | h | h | h | h | h | h | h | h | h | h | h <;> subst h <;> decide +kernel
    · rw [if_neg h2]
      have : ¬ (k = 2 ∨ k = 4 ∨ k = 8 ∨ k = 16) := by omega
      simp [this]
  · rw [if_neg h1]
    have : ¬ (k = 2 ∨ k = 4 ∨ k = 8 ∨ k = 16) := by omega
    simp [this]
theorem number_f (x : Int) : cell_Number.f x = some (decide (0 ≤ x ∧ x ≤ 1048576)) := by
  unfold cell_Number.f
  by_cases h1 : x ≥ 0
  · rw [if_pos h1]
    have : 0 ≤ x := h1
    simp [this]
  · rw [if_neg h1]
    have : ¬ (0 ≤ x) := by omega
    simp [this]
theorem bit_good (x k : Int) (hk : k = 2 ∨ k = 4 ∨ k = 8 ∨ k = 16) (hx : 0 ≤ x ∧ x ≤ 1048576) : slot_Bit.f x k = some (1 - x / k % 2, 0) := by
  unfold slot_Bit.f
  rw [many_f, number_f]
  have h0 : ¬ k = 0 := by omega
  have hd : 0 ≤ x / k ∧ x / k ≤ 1048576 := by rcases hk with h | h | h | h <;> subst h <;> omega
  simp only [Option.bind_some, hk, hx, and_self, decide_true, if_true, h0, if_false]
  rw [tdiv_pos hx.1, w64 (x := x / k) (by omega), tmod_pos hd.1, w64 (by omega)]
theorem bit_bad (x k : Int) (h : ¬ (k = 2 ∨ k = 4 ∨ k = 8 ∨ k = 16) ∨ ¬ (0 ≤ x ∧ x ≤ 1048576)) : slot_Bit.f x k = some (0, 900) := by
  unfold slot_Bit.f
  rw [many_f, number_f]
  by_cases hk : k = 2 ∨ k = 4 ∨ k = 8 ∨ k = 16
  · have hx : ¬ (0 ≤ x ∧ x ≤ 1048576) := by rcases h with h | h; exact absurd hk h; exact h
    simp only [Option.bind_some, hk, hx, decide_true, decide_false, if_true, if_false, Bool.false_eq_true]
  · simp only [Option.bind_some, hk, decide_false, Bool.false_eq_true, if_false]
theorem alive_good (a0 a1 a2 a3 a4 x k : Int) (hk : k = 2 ∨ k = 4 ∨ k = 8 ∨ k = 16) (hx : 0 ≤ x ∧ x ≤ 1048576) : slot_Alive.f a0 a1 a2 a3 a4 x k = some (a4 == 1 - x / k % 2, 0) := by
  unfold slot_Alive.f
  rw [bit_good x k hk hx]
  simp
theorem alive_bad (a0 a1 a2 a3 a4 x k : Int) (h : ¬ (k = 2 ∨ k = 4 ∨ k = 8 ∨ k = 16) ∨ ¬ (0 ≤ x ∧ x ≤ 1048576)) : slot_Alive.f a0 a1 a2 a3 a4 x k = some (false, 900) := by
  unfold slot_Alive.f
  rw [bit_bad x k h]
  simp
theorem awake_f : choruslaw9_awake.f = some true := by kernel_rfl
theorem two_shl (n : Int) : shl .i64 2 (n % 4) = 2 ∨ shl .i64 2 (n % 4) = 4 ∨ shl .i64 2 (n % 4) = 8 ∨ shl .i64 2 (n % 4) = 16 := by
  rcases mod4 n with h | h | h | h <;> rw [h]
  · exact .inl (by kernel_rfl)
  · exact .inr (.inl (by kernel_rfl))
  · exact .inr (.inr (.inl (by kernel_rfl)))
  · exact .inr (.inr (.inr (by kernel_rfl)))

theorem SlotAlive : choruslaw9_SlotAlive.Pure := by
  intro b0 b1 b2 b3 b4 a0 a1 _ _ _ _ _ _ _
  unfold choruslaw9_SlotAlive.f
  rw [awake_f, and3, and65535]
  have hx : 0 ≤ a0 % 65536 ∧ a0 % 65536 < 65536 := by omega
  have hk := two_shl a1
  generalize a0 % 65536 = x at hx ⊢
  generalize shl .i64 2 (a1 % 4) = k at hk ⊢
  simp only [Option.bind_some, if_true, show 0 ≤ a1 % 4 by omega]
  rw [w64 (x := x + k) (by omega)]
  rw [bit_good _ _ hk (by omega), alive_good _ _ _ _ _ _ _ hk (by omega), alive_good _ _ _ _ _ _ _ hk (by omega)]
  have e1 : 1 - (x + k) / k % 2 = 1 - (1 - x / k % 2) := by rcases hk with h | h | h | h <;> subst h <;> omega
  rw [e1]
  have hb : x / k % 2 = 0 ∨ x / k % 2 = 1 := by omega
  simp only [choruslaw0_Num.f, Option.bind_some, if_true]
  by_cases c0 : b4 = 0
  · subst c0
    rcases hb with h | h <;> rw [h] <;> rfl
  · by_cases c1 : b4 = 1
    · subst c1
      rcases hb with h | h <;> rw [h] <;> rfl
    · have n0 : (b4 == (0 : Int)) = false := by simpa using c0
      have n1 : (b4 == (1 : Int)) = false := by simpa using c1
      rcases hb with h | h <;> rw [h] <;> simp [n0, n1, c0, c1]

end Go.Proofs.Ytmllmmdfcpameaa.Pure
