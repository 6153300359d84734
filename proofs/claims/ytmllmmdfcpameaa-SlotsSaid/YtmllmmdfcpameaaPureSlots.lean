/- Slots: for every slot and all numbers the program's Bit and Alive answer what the document's do: the call returns true; the arguments read as they did. -/
import Derived.Test.YtmllmmdfcpameaaPSlotsx1
import Derived.Test.YtmllmmdfcpameaaPlain
set_option linter.unusedVariables false
set_option linter.unusedSimpArgs false
namespace Go.Proofs.Ytmllmmdfcpameaa.Pure
open Go.RowKit Go.Proofs.Ytmllmmdfcpameaa.PSlots Go.Proofs.YtmllmmdfcpameaaW.PrintWords Go.Proofs.YtmllmmdfcpameaaW.PrintLast Go.Proofs.YtmllmmdfcpameaaW.PrintMore Go.Proofs.YtmllmmdfcpameaaW.Plain

theorem many_f (k : Int) : slot_Many.f k = some (decide (k = 2 ∨ k = 4 ∨ k = 8 ∨ k = 16)) := by
  unfold slot_Many.f
  by_cases h1 : k ≥ 2
  · rw [if_pos h1]
    by_cases h2 : k ≤ 16
    · rw [if_pos h2]
      have h3 : k = 2 ∨ k = 3 ∨ k = 4 ∨ k = 5 ∨ k = 6 ∨ k = 7 ∨ k = 8 ∨ k = 9 ∨ k = 10 ∨ k = 11 ∨ k = 12 ∨ k = 13 ∨ k = 14 ∨ k = 15 ∨ k = 16 := by omega
      rcases h3 with h | h | h | h | h | h | h | h | h | h | h | h | h | h | h <;> subst h <;> decide +kernel
    · rw [if_neg h2]
      have : ¬ (k = 2 ∨ k = 4 ∨ k = 8 ∨ k = 16) := by omega
      simp [this]
  · rw [if_neg h1]
    have : ¬ (k = 2 ∨ k = 4 ∨ k = 8 ∨ k = 16) := by omega
    simp [this]
theorem number_f (x : Int) : cell_Number.f x = some (decide (0 ≤ x ∧ x ≤ 1048576)) := by
  unfold cell_Number.f
  by_cases h1 : x ≥ 0
  · rw [if_pos h1]
    have : 0 ≤ x := h1
    simp [this]
  · rw [if_neg h1]
    have : ¬ (0 ≤ x) := by omega
    simp [this]
theorem bit_good (x k : Int) (hk : k = 2 ∨ k = 4 ∨ k = 8 ∨ k = 16) (hx : 0 ≤ x ∧ x ≤ 1048576) : slot_Bit.f x k = some (1 - x / k % 2, 0) := by
  unfold slot_Bit.f
  rw [many_f, number_f]
  have h0 : ¬ k = 0 := by omega
  have hd : 0 ≤ x / k ∧ x / k ≤ 1048576 := by rcases hk with h | h | h | h <;> subst h <;> omega
  simp only [Option.bind_some, hk, hx, and_self, decide_true, if_true, h0, if_false]
  rw [tdiv_pos hx.1, w64 (x := x / k) (by omega), tmod_pos hd.1, w64 (by omega)]
theorem bit_bad (x k : Int) (h : ¬ (k = 2 ∨ k = 4 ∨ k = 8 ∨ k = 16) ∨ ¬ (0 ≤ x ∧ x ≤ 1048576)) : slot_Bit.f x k = some (0, 900) := by
  unfold slot_Bit.f
  rw [many_f, number_f]
  by_cases hk : k = 2 ∨ k = 4 ∨ k = 8 ∨ k = 16
  · have hx : ¬ (0 ≤ x ∧ x ≤ 1048576) := by rcases h with h | h; exact absurd hk h; exact h
    simp only [Option.bind_some, hk, hx, decide_true, decide_false, if_true, if_false, Bool.false_eq_true]
  · simp only [Option.bind_some, hk, decide_false, Bool.false_eq_true, if_false]
theorem alive_good (a0 a1 a2 a3 a4 x k : Int) (hk : k = 2 ∨ k = 4 ∨ k = 8 ∨ k = 16) (hx : 0 ≤ x ∧ x ≤ 1048576) : slot_Alive.f a0 a1 a2 a3 a4 x k = some (a4 == 1 - x / k % 2, 0) := by
  unfold slot_Alive.f
  rw [bit_good x k hk hx]
  simp
theorem alive_bad (a0 a1 a2 a3 a4 x k : Int) (h : ¬ (k = 2 ∨ k = 4 ∨ k = 8 ∨ k = 16) ∨ ¬ (0 ≤ x ∧ x ≤ 1048576)) : slot_Alive.f a0 a1 a2 a3 a4 x k = some (false, 900) := by
  unfold slot_Alive.f
  rw [bit_bad x k h]
  simp
theorem awake_f : choruslaw9_awake.f = some true := by kernel_rfl
theorem two_shl (n : Int) : shl .i64 2 (n % 4) = 2 ∨ shl .i64 2 (n % 4) = 4 ∨ shl .i64 2 (n % 4) = 8 ∨ shl .i64 2 (n % 4) = 16 := by
  rcases mod4 n with h | h | h | h <;> rw [h]
  · exact .inl (by kernel_rfl)
  · exact .inr (.inl (by kernel_rfl))
  · exact .inr (.inr (.inl (by kernel_rfl)))
  · exact .inr (.inr (.inr (by kernel_rfl)))
theorem many_r (k : Int) : chorusref1_SlotsMay.f k = some (decide (k = 2 ∨ k = 4 ∨ k = 8 ∨ k = 16)) := by
  unfold chorusref1_SlotsMay.f
  by_cases h1 : k = 2
  · simp [h1]
  · by_cases h2 : k = 4
    · simp [h2]
    · by_cases h3 : k = 8
      · simp [h3]
      · simp [h1, h2, h3, Bool.beq_eq_decide_eq]
theorem number_r (x : Int) : chorusref1_cellMay.f x = some (decide (0 ≤ x ∧ x ≤ 1048576)) := by
  unfold chorusref1_cellMay.f chorusref1_upTo.f
  by_cases h1 : x ≥ 0
  · have : 0 ≤ x := h1
    simp [this]
  · have : ¬ (0 ≤ x) := by omega
    simp [this]
theorem bit_r (x k : Int) : chorusref1_Bit.f x k = slot_Bit.f x k := by
  unfold chorusref1_Bit.f slot_Bit.f
  rw [many_r, number_r, many_f, number_f]
theorem alive_r (a0 a1 a2 a3 a4 x k : Int) : chorusref1_Alive.f a0 a1 a2 a3 a4 x k = slot_Alive.f a0 a1 a2 a3 a4 x k := by
  unfold chorusref1_Alive.f slot_Alive.f
  rw [bit_r]

theorem Slots : choruslaw9_Slots.Pure := by
  intro b0 b1 b2 b3 b4 x k _ _ _ _ _ _ _
  unfold choruslaw9_Slots.f
  rw [bit_r, alive_r, awake_f]
  by_cases h : (k = 2 ∨ k = 4 ∨ k = 8 ∨ k = 16) ∧ (0 ≤ x ∧ x ≤ 1048576)
  · rw [bit_good x k h.1 h.2, alive_good _ _ _ _ _ x k h.1 h.2]
    simp [choruslaw0_Num.f]
  · have h' : ¬ (k = 2 ∨ k = 4 ∨ k = 8 ∨ k = 16) ∨ ¬ (0 ≤ x ∧ x ≤ 1048576) := Classical.not_and_iff_not_or_not.1 h
    rw [bit_bad x k h', alive_bad _ _ _ _ _ x k h']
    simp [choruslaw0_Num.f]

end Go.Proofs.Ytmllmmdfcpameaa.Pure
