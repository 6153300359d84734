/- SlotRow: going on one by one from a place, the bit is as many times 1 as there are slots, then as often 0, again and again: the call returns true for all numbers; the arguments read as they did. -/
import Derived.Test.YtmllmmdfcpameaaPSlotRowx1
import Derived.Test.YtmllmmdfcpameaaPlain
set_option linter.unusedVariables false
set_option linter.unusedSimpArgs false
namespace Go.Proofs.Ytmllmmdfcpameaa.Pure
open Go.RowKit Go.Proofs.Ytmllmmdfcpameaa.PSlotRow Go.Proofs.YtmllmmdfcpameaaW.PrintWords Go.Proofs.YtmllmmdfcpameaaW.PrintLast Go.Proofs.YtmllmmdfcpameaaW.PrintMore Go.Proofs.YtmllmmdfcpameaaW.Plain

theorem many_f (k : Int) : slot_Many.f k = some (decide (k = 2 ∨ k = 4 ∨ k = 8 ∨ k = 16)) := by
  unfold slot_Many.f
  by_cases h1 : k ≥ 2
  · rw [if_pos h1]
    by_cases h2 : k ≤ 16
    · rw [if_pos h2]
      have h3 : k = 2 ∨ k = 3 ∨ k = 4 ∨ k = 5 ∨ k = 6 ∨ k = 7 ∨ k = 8 ∨ k = 9 ∨ k = 10 ∨ k = 11 ∨ k = 12 ∨ k = 13 ∨ k = 14 ∨ k = 15 ∨ k = 16 := by omega
      rcases h3 with h | h | h | h | h | h | h | h | h | h | h | h | h | h | h <;> subst h <;> decide +kernel
    · rw [if_neg h2]
      have : ¬ (k = 2 ∨ k = 4 ∨ k = 8 ∨ k = 16) := by omega
      simp [this]
  · rw [if_neg h1]
    have : ¬ (k = 2 ∨ k = 4 ∨ k = 8 ∨ k = 16) := by omega
    simp [this]
theorem number_f (x : Int) : cell_Number.f x = some (decide (0 ≤ x ∧ x ≤ 1048576)) := by
  unfold cell_Number.f
  by_cases h1 : x ≥ 0
  · rw [if_pos h1]
    have : 0 ≤ x := h1
    simp [this]
  · rw [if_neg h1]
    have : ¬ (0 ≤ x) := by omega
    simp [this]
theorem bit_good (x k : Int) (hk : k = 2 ∨ k = 4 ∨ k = 8 ∨ k = 16) (hx : 0 ≤ x ∧ x ≤ 1048576) : slot_Bit.f x k = some (1 - x / k % 2, 0) := by
  unfold slot_Bit.f
  rw [many_f, number_f]
  have h0 : ¬ k = 0 := by omega
  have hd : 0 ≤ x / k ∧ x / k ≤ 1048576 := by rcases hk with h | h | h | h <;> subst h <;> omega
  simp only [Option.bind_some, hk, hx, and_self, decide_true, if_true, h0, if_false]
  rw [tdiv_pos hx.1, w64 (x := x / k) (by omega), tmod_pos hd.1, w64 (by omega)]
theorem bit_bad (x k : Int) (h : ¬ (k = 2 ∨ k = 4 ∨ k = 8 ∨ k = 16) ∨ ¬ (0 ≤ x ∧ x ≤ 1048576)) : slot_Bit.f x k = some (0, 900) := by
  unfold slot_Bit.f
  rw [many_f, number_f]
  by_cases hk : k = 2 ∨ k = 4 ∨ k = 8 ∨ k = 16
  · have hx : ¬ (0 ≤ x ∧ x ≤ 1048576) := by rcases h with h | h; exact absurd hk h; exact h
    simp only [Option.bind_some, hk, hx, decide_true, decide_false, if_true, if_false, Bool.false_eq_true]
  · simp only [Option.bind_some, hk, decide_false, Bool.false_eq_true, if_false]
theorem alive_good (a0 a1 a2 a3 a4 x k : Int) (hk : k = 2 ∨ k = 4 ∨ k = 8 ∨ k = 16) (hx : 0 ≤ x ∧ x ≤ 1048576) : slot_Alive.f a0 a1 a2 a3 a4 x k = some (a4 == 1 - x / k % 2, 0) := by
  unfold slot_Alive.f
  rw [bit_good x k hk hx]
  simp
theorem alive_bad (a0 a1 a2 a3 a4 x k : Int) (h : ¬ (k = 2 ∨ k = 4 ∨ k = 8 ∨ k = 16) ∨ ¬ (0 ≤ x ∧ x ≤ 1048576)) : slot_Alive.f a0 a1 a2 a3 a4 x k = some (false, 900) := by
  unfold slot_Alive.f
  rw [bit_bad x k h]
  simp
theorem awake_f : choruslaw9_awake.f = some true := by kernel_rfl
theorem two_shl (n : Int) : shl .i64 2 (n % 4) = 2 ∨ shl .i64 2 (n % 4) = 4 ∨ shl .i64 2 (n % 4) = 8 ∨ shl .i64 2 (n % 4) = 16 := by
  rcases mod4 n with h | h | h | h <;> rw [h]
  · exact .inl (by kernel_rfl)
  · exact .inr (.inl (by kernel_rfl))
  · exact .inr (.inr (.inl (by kernel_rfl)))
  · exact .inr (.inr (.inr (by kernel_rfl)))

theorem turn (k x i lap : Int) (hl : 0 ≤ lap) (hk : k = 2 ∨ k = 4 ∨ k = 8 ∨ k = 16) (hx : 0 ≤ x + i ∧ x + i ≤ 1048576) (hi : 0 ≤ i ∧ i ≤ 1000) (hlap : lap = (x + i) / k)
    (next : Ev (fun q => choruslaw9_SlotRow.l0 q k x (i + 1)) true) : Ev (fun q => choruslaw9_SlotRow.j2 q k x i (1 - (x + i) / k % 2) 0 lap 1) true := by
  refine Ev.step (f := fun q => choruslaw9_SlotRow.l0 q k x (i + 1)) (fun q => ?_) next
  simp only [choruslaw9_SlotRow.j2]
  rw [and1, ← hlap, w64 (x := i + 1) (by omega)]
  simp only [choruslaw0_Num.f, Option.bind_some, if_true]
  by_cases h : lap % 2 = 1
  · rw [if_pos h, if_pos (by omega)]
  · rw [if_neg h, if_pos (by omega)]

theorem laps (k x i : Int) (hk : k = 2 ∨ k = 4 ∨ k = 8 ∨ k = 16) (hx : 0 ≤ x + i ∧ x + i ≤ 100000) (hi : 0 ≤ i ∧ i ≤ 1000)
    (next : Ev (fun q => choruslaw9_SlotRow.l0 q k x (i + 1)) true) (m : Nat) : ∀ j lap : Int, 0 ≤ j → j ≤ x + i → 0 ≤ lap → j / k = m → lap + m = (x + i) / k →
      Ev (fun q => choruslaw9_SlotRow.l1 q k x i (1 - (x + i) / k % 2) 0 lap 1 j) true := by
  induction m with
  | zero =>
    intro j lap hj hj2 hl hm hs
    refine Ev.step (f := fun q => choruslaw9_SlotRow.j2 q k x i (1 - (x + i) / k % 2) 0 lap 1) (fun q => ?_) (turn k x i lap hl hk (by omega) hi (by omega) next)
    simp only [choruslaw9_SlotRow.l1]
    rw [if_neg (by rcases hk with h | h | h | h <;> subst h <;> omega)]
  | succ m ih =>
    intro j lap hj hj2 hl hm hs
    have hjk : k ≤ j := by rcases hk with h | h | h | h <;> subst h <;> omega
    have hlap : lap < 131072 := by
      have : (x + i) / k ≤ 100000 := by rcases hk with h | h | h | h <;> subst h <;> omega
      omega
    refine Ev.step (f := fun q => choruslaw9_SlotRow.l1 q k x i (1 - (x + i) / k % 2) 0 (lap + 1) 1 (j - k)) (fun q => ?_) (ih (j - k) (lap + 1) (by omega) (by omega) (by omega) (by rcases hk with h | h | h | h <;> subst h <;> omega) (by omega))
    simp only [choruslaw9_SlotRow.l1]
    rw [if_pos hjk, if_pos hlap, w64 (x := lap + 1) (by omega), w64 (x := j - k) (by omega)]

theorem row (k x : Int) (hk : k = 2 ∨ k = 4 ∨ k = 8 ∨ k = 16) (hx : 0 ≤ x ∧ x < 1024) (n : Nat) : ∀ i : Int, 0 ≤ i → i + n = 3 * k → Ev (fun q => choruslaw9_SlotRow.l0 q k x i) true := by
  induction n with
  | zero =>
    intro i hi hs
    refine Ev.step (f := fun _ => some true) (fun q => ?_) (Ev.now true)
    simp only [choruslaw9_SlotRow.l0]
    rw [w64 (x := 3 * k) (by omega), if_neg (by omega)]
  | succ n ih =>
    intro i hi hs
    have h1 := laps k x i hk (by omega) (by omega) (ih (i + 1) (by omega) (by omega)) ((x + i) / k).toNat (x + i) 0 (by omega) (by omega) (by omega)
      (by have : 0 ≤ (x + i) / k := by { rcases hk with h | h | h | h <;> subst h <;> omega }; omega) (by have : 0 ≤ (x + i) / k := by { rcases hk with h | h | h | h <;> subst h <;> omega }; omega)
    refine Ev.step (f := fun q => choruslaw9_SlotRow.l1 q k x i (1 - (x + i) / k % 2) 0 0 1 (x + i)) (fun q => ?_) h1
    simp only [choruslaw9_SlotRow.l0]
    rw [w64 (x := 3 * k) (by omega), if_pos (by omega), w64 (x := x + i) (by omega), bit_good _ _ hk (by omega)]
    rfl

theorem SlotRow : choruslaw9_SlotRow.Pure := by
  intro a0 a1 _ _
  have h := row (shl .i64 2 (a1 % 4)) (a0 % 1024) (two_shl a1) (by omega) (3 * shl .i64 2 (a1 % 4)).toNat 0 (by omega) (by have := two_shl a1; omega)
  obtain ⟨q, hq⟩ := h.rounds
  refine ⟨q, ?_⟩
  unfold choruslaw9_SlotRow.f
  rw [awake_f, and3, and1023]
  simp only [Option.bind_some, if_true, show 0 ≤ a1 % 4 by omega]
  exact hq

end Go.Proofs.Ytmllmmdfcpameaa.Pure
