/- SlotForms: places and numbers of slots that may not be are told as such: the call returns true for all numbers; the arguments read as they did. -/
import Derived.Test.YtmllmmdfcpameaaPSlotFormsx1
import Derived.Test.YtmllmmdfcpameaaPlain
set_option linter.unusedVariables false
set_option linter.unusedSimpArgs false
namespace Go.Proofs.Ytmllmmdfcpameaa.Pure
open Go.RowKit Go.Proofs.Ytmllmmdfcpameaa.PSlotForms Go.Proofs.YtmllmmdfcpameaaW.PrintWords Go.Proofs.YtmllmmdfcpameaaW.PrintLast Go.Proofs.YtmllmmdfcpameaaW.PrintMore Go.Proofs.YtmllmmdfcpameaaW.Plain

theorem many_f (k : Int) : slot_Many.f k = some (decide (k = 2 ∨ k = 4 ∨ k = 8 ∨ k = 16)) := by
  unfold slot_Many.f
  by_cases h1 : k ≥ 2
  · rw [if_pos h1]
    by_cases h2 : k ≤ 16
    · rw [if_pos h2]
      have h3 : k = 2 ∨ k = 3 ∨ k = 4 ∨ k = 5 ∨ k = 6 ∨ k = 7 ∨ k = 8 ∨ k = 9 ∨ k = 10 ∨ k = 11 ∨ k = 12 ∨ k = 13 ∨ k = 14 ∨ k = 15 ∨ k = 16 := by omega
      rcases h3 with h | h | h | h | h | h | h | h | h | h | h | h | h | h | h <;> subst h <;> decide +kernel
    · rw [if_neg h2]
      have : ¬ (k = 2 ∨ k = 4 ∨ k = 8 ∨ k = 16) := by omega
      simp [this]
  · rw [if_neg h1]
    have : ¬ (k = 2 ∨ k = 4 ∨ k = 8 ∨ k = 16) := by omega
    simp [this]
theorem number_f (x : Int) : cell_Number.f x = some (decide (0 ≤ x ∧ x ≤ 1048576)) := by
  unfold cell_Number.f
  by_cases h1 : x ≥ 0
  · rw [if_pos h1]
    have : 0 ≤ x := h1
    simp [this]
  · rw [if_neg h1]
    have : ¬ (0 ≤ x) := by omega
    simp [this]
theorem bit_good (x k : Int) (hk : k = 2 ∨ k = 4 ∨ k = 8 ∨ k = 16) (hx : 0 ≤ x ∧ x ≤ 1048576) : slot_Bit.f x k = some (1 - x / k % 2, 0) := by
  unfold slot_Bit.f
  rw [many_f, number_f]
  have h0 : ¬ k = 0 := by omega
  have hd : 0 ≤ x / k ∧ x / k ≤ 1048576 := by rcases hk with h | h | h | h <;> subst h <;> omega
  simp only [Option.bind_some, hk, hx, and_self, decide_true, if_true, h0, if_false]
  rw [tdiv_pos hx.1, w64 (x := x / k) (by omega), tmod_pos hd.1, w64 (by omega)]
theorem bit_bad (x k : Int) (h : ¬ (k = 2 ∨ k = 4 ∨ k = 8 ∨ k = 16) ∨ ¬ (0 ≤ x ∧ x ≤ 1048576)) : slot_Bit.f x k = some (0, 900) := by
  unfold slot_Bit.f
  rw [many_f, number_f]
  by_cases hk : k = 2 ∨ k = 4 ∨ k = 8 ∨ k = 16
  · have hx : ¬ (0 ≤ x ∧ x ≤ 1048576) := by rcases h with h | h; exact absurd hk h; exact h
    simp only [Option.bind_some, hk, hx, decide_true, decide_false, if_true, if_false, Bool.false_eq_true]
  · simp only [Option.bind_some, hk, decide_false, Bool.false_eq_true, if_false]
theorem alive_good (a0 a1 a2 a3 a4 x k : Int) (hk : k = 2 ∨ k = 4 ∨ k = 8 ∨ k = 16) (hx : 0 ≤ x ∧ x ≤ 1048576) : slot_Alive.f a0 a1 a2 a3 a4 x k = some (a4 == 1 - x / k % 2, 0) := by
  unfold slot_Alive.f
  rw [bit_good x k hk hx]
  simp
theorem alive_bad (a0 a1 a2 a3 a4 x k : Int) (h : ¬ (k = 2 ∨ k = 4 ∨ k = 8 ∨ k = 16) ∨ ¬ (0 ≤ x ∧ x ≤ 1048576)) : slot_Alive.f a0 a1 a2 a3 a4 x k = some (false, 900) := by
  unfold slot_Alive.f
  rw [bit_bad x k h]
  simp
theorem awake_f : choruslaw9_awake.f = some true := by kernel_rfl
theorem two_shl (n : Int) : shl .i64 2 (n % 4) = 2 ∨ shl .i64 2 (n % 4) = 4 ∨ shl .i64 2 (n % 4) = 8 ∨ shl .i64 2 (n % 4) = 16 := by
  rcases mod4 n with h | h | h | h <;> rw [h]
  · exact .inl (by kernel_rfl)
  · exact .inr (.inl (by kernel_rfl))
  · exact .inr (.inr (.inl (by kernel_rfl)))
  · exact .inr (.inr (.inr (by kernel_rfl)))

theorem SlotForms : choruslaw9_SlotForms.Pure := by
  intro a0 a1 _ _
  unfold choruslaw9_SlotForms.f
  rw [awake_f, and1023, u64w]
  have hd : 0 ≤ a1 % 1024 ∧ a1 % 1024 < 1024 := by omega
  generalize a1 % 1024 = d at hd ⊢
  have hi : 0 ≤ a0 % 18446744073709551616 ∧ a0 % 18446744073709551616 < 18446744073709551616 := by omega
  rw [w64 (x := 1 + d) (by omega), w64 (x := -(1 + d)) (by omega), w64 (x := 16 + (1 + d)) (by omega), w64 (x := 1048576 + (1 + d)) (by omega), tmod_pos hi.1, w64 (x := a0 % 18446744073709551616 % 12) (by omega)]
  have hj : 0 ≤ a0 % 18446744073709551616 % 12 ∧ a0 % 18446744073709551616 % 12 < 12 := by omega
  generalize a0 % 18446744073709551616 % 12 = j at hj ⊢
  simp only [Option.bind_some, if_true, hj.1, List.length_cons, List.length_nil, show j < ((0 + 1 + 1 + 1 + 1 + 1 + 1 + 1 + 1 + 1 + 1 + 1 + 1 : Nat) : Int) by omega]
  have hb : ¬ (rd [-(1 + d), 0, 1, 3, 5, 6, 7, 12, 15, 17, 32, 16 + (1 + d)] j = 2 ∨ rd [-(1 + d), 0, 1, 3, 5, 6, 7, 12, 15, 17, 32, 16 + (1 + d)] j = 4 ∨ rd [-(1 + d), 0, 1, 3, 5, 6, 7, 12, 15, 17, 32, 16 + (1 + d)] j = 8 ∨ rd [-(1 + d), 0, 1, 3, 5, 6, 7, 12, 15, 17, 32, 16 + (1 + d)] j = 16) := by
    have h : j = 0 ∨ j = 1 ∨ j = 2 ∨ j = 3 ∨ j = 4 ∨ j = 5 ∨ j = 6 ∨ j = 7 ∨ j = 8 ∨ j = 9 ∨ j = 10 ∨ j = 11 := by omega
    rcases h with h | h | h | h | h | h | h | h | h | h | h | h <;> subst h <;> simp [rd] <;> omega
  generalize rd [-(1 + d), 0, 1, 3, 5, 6, 7, 12, 15, 17, 32, 16 + (1 + d)] j = k at hb ⊢
  rw [bit_bad 0 k (.inl hb), bit_bad (-(1 + d)) 4 (.inr (by omega)), bit_bad (1048576 + (1 + d)) 4 (.inr (by omega)), alive_bad _ _ _ _ _ 0 k (.inl hb), alive_bad _ _ _ _ _ (-(1 + d)) 4 (.inr (by omega))]
  simp [choruslaw0_Num.f]

end Go.Proofs.Ytmllmmdfcpameaa.Pure
