/- ConfigSlots: of all numbers of slots just 2, 4, 8, 16 may be, and at least twice as many as threads: the call returns true for all numbers; the arguments read as they did. -/
import Derived.Test.YtjnpbeekdljohaaPConfigSlotsx1
import Derived.Test.YtjnpbeekdljohaaPlain
set_option linter.unusedVariables false
set_option linter.unusedSimpArgs false
namespace Go.Proofs.Ytjnpbeekdljohaa.Pure
open Go.RowKit Go.Proofs.Ytjnpbeekdljohaa.PConfigSlots Go.Proofs.YtjnpbeekdljohaaW.PrintWords Go.Proofs.YtjnpbeekdljohaaW.PrintLast Go.Proofs.YtjnpbeekdljohaaW.PrintMore Go.Proofs.YtjnpbeekdljohaaW.Plain

theorem many_f (k : Int) : slot_Many.f k = some (decide (k = 2 ∨ k = 4 ∨ k = 8 ∨ k = 16)) := by
  unfold slot_Many.f
  by_cases h1 : k ≥ 2
  · rw [if_pos h1]
    by_cases h2 : k ≤ 16
    · rw [if_pos h2]
      have h3 : k = 2 ∨ k = 3 ∨ k = 4 ∨ k = 5 ∨ k = 6 ∨ k = 7 ∨ k = 8 ∨ k = 9 ∨ k = 10 ∨ k = 11 ∨ k = 12 ∨ k = 13 ∨ k = 14 ∨ k = 15 ∨ k = 16 := by omega
      rcases h3 with h | h | h | h | h | h | h | h | h | h | h | h | h | h | h <;> subst h <;> decide +kernel
    · rw [if_neg h2]
      have : ¬ (k = 2 ∨ k = 4 ∨ k = 8 ∨ k = 16) := by omega
      simp [this]
  · rw [if_neg h1]
    have : ¬ (k = 2 ∨ k = 4 ∨ k = 8 ∨ k = 16) := by omega
    simp [this]
theorem is_f (a : Int) : object_Is.f a = some (decide (0 ≤ a ∧ a ≤ 2)) := by
  unfold object_Is.f
  by_cases h : a ≥ 0
  · have : 0 ≤ a := h
    simp [this]
  · have : ¬ (0 ≤ a) := by omega
    simp [this]
theorem logs_f (a : Int) : route_Logs.f a = some (decide (1 ≤ a ∧ a ≤ 2)) := by
  unfold route_Logs.f
  by_cases h : a ≥ 1
  · have : 1 ≤ a := h
    simp [this]
  · have : ¬ (1 ≤ a) := by omega
    simp [this]
def May (a b c d e : Int) : Prop := (0 ≤ a ∧ a ≤ 2) ∧ (1 ≤ b ∧ b ≤ 2) ∧ (1 ≤ c ∧ c ≤ 2) ∧ (1 ≤ d ∧ d ≤ 4) ∧ (e = 2 ∨ e = 4 ∨ e = 8 ∨ e = 16) ∧ 2 * d ≤ e
instance (a b c d e : Int) : Decidable (May a b c d e) := by unfold May; infer_instance
theorem may_f (a b c d e : Int) : config_May.f a b c d e = some (decide (May a b c d e)) := by
  have key : ∀ p : Bool, p = decide (May a b c d e) → config_May.f a b c d e = some p → config_May.f a b c d e = some (decide (May a b c d e)) := fun p hp h => by rw [h, hp]
  unfold config_May.f at key ⊢
  rw [is_f, logs_f, many_f] at key ⊢
  by_cases h1 : 0 ≤ a ∧ a ≤ 2
  · by_cases h2 : b ≥ 1
    · by_cases h3 : b ≤ 2
      · by_cases h4 : 1 ≤ c ∧ c ≤ 2
        · by_cases h5 : d ≥ 1
          · by_cases h6 : d ≤ 4
            · by_cases h7 : e = 2 ∨ e = 4 ∨ e = 8 ∨ e = 16
              · by_cases h8 : 2 * d ≤ e
                · exact key true (by symm; rw [decide_eq_true_eq]; exact ⟨h1, ⟨h2, h3⟩, h4, ⟨h5, h6⟩, h7, h8⟩) (by simp only [Option.bind_some, h1, h2, h3, h4, h5, h6, h7, decide_true, if_true, and_self]; rw [w64 (by omega)]; simp [h8])
                · exact key false (by symm; rw [decide_eq_false_iff_not]; exact fun h => h8 h.2.2.2.2.2) (by simp only [Option.bind_some, h1, h2, h3, h4, h5, h6, h7, decide_true, if_true, and_self]; rw [w64 (by omega)]; simp [h8])
              · exact key false (by symm; rw [decide_eq_false_iff_not]; exact fun h => h7 h.2.2.2.2.1) (by simp only [Option.bind_some, h1, h2, h3, h4, h5, h6, h7, decide_true, decide_false, if_true, if_false, Bool.false_eq_true, and_self])
            · exact key false (by symm; rw [decide_eq_false_iff_not]; exact fun h => h6 h.2.2.2.1.2) (by simp only [Option.bind_some, h1, h2, h3, h4, h5, h6, decide_true, if_true, if_false, and_self])
          · exact key false (by symm; rw [decide_eq_false_iff_not]; exact fun h => h5 h.2.2.2.1.1) (by simp only [Option.bind_some, h1, h2, h3, h4, h5, decide_true, if_true, if_false, and_self])
        · exact key false (by symm; rw [decide_eq_false_iff_not]; exact fun h => h4 h.2.2.1) (by simp only [Option.bind_some, h1, h2, h3, h4, decide_true, decide_false, if_true, if_false, Bool.false_eq_true, and_self])
      · exact key false (by symm; rw [decide_eq_false_iff_not]; exact fun h => h3 h.2.1.2) (by simp only [Option.bind_some, h1, h2, h3, decide_true, if_true, if_false, and_self])
    · exact key false (by symm; rw [decide_eq_false_iff_not]; exact fun h => h2 h.2.1.1) (by simp only [Option.bind_some, h1, h2, decide_true, if_true, if_false, and_self])
  · exact key false (by symm; rw [decide_eq_false_iff_not]; exact fun h => h1 h.1) (by simp only [Option.bind_some, h1, decide_false, if_false, Bool.false_eq_true])
theorem replica_good (a b c d e x : Int) (h : May a b c d e) (h0 : 0 ≤ x) (h1 : x < d) : config_Replica.f a b c d e x = some (x % b, 0) := by
  unfold config_Replica.f config_Thread.f
  rw [may_f]
  have hb := h.2.1
  have hb0 : ¬ b = 0 := by omega
  have h0' : x ≥ 0 := h0
  simp only [h, decide_true, Option.bind_some, if_true, h0', h1, hb0, if_false]
  rw [tmod_pos h0]
theorem replica_bad (a b c d e x : Int) (h : ¬ (May a b c d e ∧ 0 ≤ x ∧ x < d)) : config_Replica.f a b c d e x = some (0, 1300) := by
  unfold config_Replica.f config_Thread.f
  rw [may_f]
  by_cases hm : May a b c d e
  · by_cases h0 : x ≥ 0
    · have h1 : ¬ x < d := fun h1 => h ⟨hm, h0, h1⟩
      simp only [hm, decide_true, Option.bind_some, if_true, h0, h1, decide_false, Bool.false_eq_true, if_false]
    · simp only [hm, decide_true, Option.bind_some, if_true, h0, if_false, Bool.false_eq_true]
  · simp only [hm, decide_false, Option.bind_some, if_false, Bool.false_eq_true]
theorem awake_f : choruslaw13_awake.f = some true := by decide +kernel

theorem ConfigSlots : choruslaw13_ConfigSlots.Pure := by
  intro a0 a1 _ _
  unfold choruslaw13_ConfigSlots.f
  rw [awake_f, and3, and31]
  have ht : 0 ≤ a0 % 4 ∧ a0 % 4 < 4 := by omega
  generalize a0 % 4 = t at ht ⊢
  generalize a1 % 32 = k
  rw [w64 (x := 1 + t) (by omega), w64 (x := 2 * (1 + t)) (by omega)]
  simp only [Option.bind_some, if_true, may_f, choruslaw0_Num.f]
  have hm : May 0 1 1 (1 + t) k ↔ (k = 2 ∨ k = 4 ∨ k = 8 ∨ k = 16) ∧ 2 * (1 + t) ≤ k := by unfold May; constructor <;> intro h <;> omega
  have hd : ∀ h : (k = 2 ∨ k = 4 ∨ k = 8 ∨ k = 16), decide (May 0 1 1 (1 + t) k) = decide (k ≥ 2 * (1 + t)) := fun h => by
    rw [decide_eq_decide, hm]
    exact ⟨fun x => x.2, fun x => ⟨h, x⟩⟩
  by_cases h2 : k = 2
  · rw [if_pos h2, hd (.inl h2)]; simp
  · rw [if_neg h2]
    by_cases h4 : k = 4
    · rw [if_pos h4, hd (.inr (.inl h4))]; simp
    · rw [if_neg h4]
      by_cases h8 : k = 8
      · rw [if_pos h8, hd (.inr (.inr (.inl h8)))]; simp
      · rw [if_neg h8]
        by_cases h16 : k = 16
        · rw [if_pos h16, hd (.inr (.inr (.inr h16)))]; simp
        · rw [if_neg h16]
          have : ¬ May 0 1 1 (1 + t) k := by rw [hm]; omega
          simp [this]

end Go.Proofs.Ytjnpbeekdljohaa.Pure
