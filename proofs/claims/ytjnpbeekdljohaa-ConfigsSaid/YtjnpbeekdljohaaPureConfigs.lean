/- Configs: for every Config and thread the program's May and Replica answer what the document's do: the call returns true; the arguments read as they did. -/
import Derived.Test.YtjnpbeekdljohaaPConfigsx2
import Derived.Test.YtjnpbeekdljohaaPlain
set_option linter.unusedVariables false
set_option linter.unusedSimpArgs false
namespace Go.Proofs.Ytjnpbeekdljohaa.Pure
open Go.RowKit Go.Proofs.Ytjnpbeekdljohaa.PConfigs Go.Proofs.YtjnpbeekdljohaaW.PrintWords Go.Proofs.YtjnpbeekdljohaaW.PrintLast Go.Proofs.YtjnpbeekdljohaaW.PrintMore Go.Proofs.YtjnpbeekdljohaaW.Plain

theorem many_f (k : Int) : slot_Many.f k = some (decide (k = 2 ∨ k = 4 ∨ k = 8 ∨ k = 16)) := by
  unfold slot_Many.f
  by_cases h1 : k ≥ 2
  · rw [if_pos h1]
    by_cases h2 : k ≤ 16
    · rw [if_pos h2]
      have h3 : k = 2 ∨ k = 3 ∨ k = 4 ∨ k = 5 ∨ k = 6 ∨ k = 7 ∨ k = 8 ∨ k = 9 ∨ k = 10 ∨ k = 11 ∨ k = 12 ∨ k = 13 ∨ k = 14 ∨ k = 15 ∨ k = 16 := by omega
      rcases h3 with h | h | h | h | h | h | h | h | h | h | h | h | h | h | h <;> subst h <;> decide +kernel
    · rw [if_neg h2]
      have : ¬ (k = 2 ∨ k = 4 ∨ k = 8 ∨ k = 16) := by omega
      simp [this]
  · rw [if_neg h1]
    have : ¬ (k = 2 ∨ k = 4 ∨ k = 8 ∨ k = 16) := by omega
    simp [this]
theorem is_f (a : Int) : object_Is.f a = some (decide (0 ≤ a ∧ a ≤ 2)) := by
  unfold object_Is.f
  by_cases h : a ≥ 0
  · have : 0 ≤ a := h
    simp [this]
  · have : ¬ (0 ≤ a) := by omega
    simp [this]
theorem logs_f (a : Int) : route_Logs.f a = some (decide (1 ≤ a ∧ a ≤ 2)) := by
  unfold route_Logs.f
  by_cases h : a ≥ 1
  · have : 1 ≤ a := h
    simp [this]
  · have : ¬ (1 ≤ a) := by omega
    simp [this]
def May (a b c d e : Int) : Prop := (0 ≤ a ∧ a ≤ 2) ∧ (1 ≤ b ∧ b ≤ 2) ∧ (1 ≤ c ∧ c ≤ 2) ∧ (1 ≤ d ∧ d ≤ 4) ∧ (e = 2 ∨ e = 4 ∨ e = 8 ∨ e = 16) ∧ 2 * d ≤ e
instance (a b c d e : Int) : Decidable (May a b c d e) := by unfold May; infer_instance
theorem may_f (a b c d e : Int) : config_May.f a b c d e = some (decide (May a b c d e)) := by
  have key : ∀ p : Bool, p = decide (May a b c d e) → config_May.f a b c d e = some p → config_May.f a b c d e = some (decide (May a b c d e)) := fun p hp h => by rw [h, hp]
  unfold config_May.f at key ⊢
  rw [is_f, logs_f, many_f] at key ⊢
  by_cases h1 : 0 ≤ a ∧ a ≤ 2
  · by_cases h2 : b ≥ 1
    · by_cases h3 : b ≤ 2
      · by_cases h4 : 1 ≤ c ∧ c ≤ 2
        · by_cases h5 : d ≥ 1
          · by_cases h6 : d ≤ 4
            · by_cases h7 : e = 2 ∨ e = 4 ∨ e = 8 ∨ e = 16
              · by_cases h8 : 2 * d ≤ e
                · exact key true (by symm; rw [decide_eq_true_eq]; exact ⟨h1, ⟨h2, h3⟩, h4, ⟨h5, h6⟩, h7, h8⟩) (by simp only [Option.bind_some, h1, h2, h3, h4, h5, h6, h7, decide_true, if_true, and_self]; rw [w64 (by omega)]; simp [h8])
                · exact key false (by symm; rw [decide_eq_false_iff_not]; exact fun h => h8 h.2.2.2.2.2) (by simp only [Option.bind_some, h1, h2, h3, h4, h5, h6, h7, decide_true, if_true, and_self]; rw [w64 (by omega)]; simp [h8])
              · exact key false (by symm; rw [decide_eq_false_iff_not]; exact fun h => h7 h.2.2.2.2.1) (by simp only [Option.bind_some, h1, h2, h3, h4, h5, h6, h7, decide_true, decide_false, if_true, if_false, Bool.false_eq_true, and_self])
            · exact key false (by symm; rw [decide_eq_false_iff_not]; exact fun h => h6 h.2.2.2.1.2) (by simp only [Option.bind_some, h1, h2, h3, h4, h5, h6, decide_true, if_true, if_false, and_self])
          · exact key false (by symm; rw [decide_eq_false_iff_not]; exact fun h => h5 h.2.2.2.1.1) (by simp only [Option.bind_some, h1, h2, h3, h4, h5, decide_true, if_true, if_false, and_self])
        · exact key false (by symm; rw [decide_eq_false_iff_not]; exact fun h => h4 h.2.2.1) (by simp only [Option.bind_some, h1, h2, h3, h4, decide_true, decide_false, if_true, if_false, Bool.false_eq_true, and_self])
      · exact key false (by symm; rw [decide_eq_false_iff_not]; exact fun h => h3 h.2.1.2) (by simp only [Option.bind_some, h1, h2, h3, decide_true, if_true, if_false, and_self])
    · exact key false (by symm; rw [decide_eq_false_iff_not]; exact fun h => h2 h.2.1.1) (by simp only [Option.bind_some, h1, h2, decide_true, if_true, if_false, and_self])
  · exact key false (by symm; rw [decide_eq_false_iff_not]; exact fun h => h1 h.1) (by simp only [Option.bind_some, h1, decide_false, if_false, Bool.false_eq_true])
theorem replica_good (a b c d e x : Int) (h : May a b c d e) (h0 : 0 ≤ x) (h1 : x < d) : config_Replica.f a b c d e x = some (x % b, 0) := by
  unfold config_Replica.f config_Thread.f
  rw [may_f]
  have hb := h.2.1
  have hb0 : ¬ b = 0 := by omega
  have h0' : x ≥ 0 := h0
  simp only [h, decide_true, Option.bind_some, if_true, h0', h1, hb0, if_false]
  rw [tmod_pos h0]
theorem replica_bad (a b c d e x : Int) (h : ¬ (May a b c d e ∧ 0 ≤ x ∧ x < d)) : config_Replica.f a b c d e x = some (0, 1300) := by
  unfold config_Replica.f config_Thread.f
  rw [may_f]
  by_cases hm : May a b c d e
  · by_cases h0 : x ≥ 0
    · have h1 : ¬ x < d := fun h1 => h ⟨hm, h0, h1⟩
      simp only [hm, decide_true, Option.bind_some, if_true, h0, h1, decide_false, Bool.false_eq_true, if_false]
    · simp only [hm, decide_true, Option.bind_some, if_true, h0, if_false, Bool.false_eq_true]
  · simp only [hm, decide_false, Option.bind_some, if_false, Bool.false_eq_true]
theorem awake_f : choruslaw13_awake.f = some true := by decide +kernel
theorem upto_r (x a b : Int) : chorusref13_upTo.f x a b = some (decide (a ≤ x ∧ x ≤ b)) := by
  unfold chorusref13_upTo.f
  by_cases h : x ≥ a
  · have : a ≤ x := h
    simp [this]
  · have : ¬ (a ≤ x) := by omega
    simp [this]
theorem many_r (k : Int) : chorusref1_SlotsMay.f k = some (decide (k = 2 ∨ k = 4 ∨ k = 8 ∨ k = 16)) := by
  unfold chorusref1_SlotsMay.f
  by_cases h1 : k = 2
  · simp [h1]
  · by_cases h2 : k = 4
    · simp [h2]
    · by_cases h3 : k = 8
      · simp [h3]
      · simp [h1, h2, h3, Bool.beq_eq_decide_eq]
theorem may_r (a b c d e : Int) : chorusref13_ConfigMay.f a b c d e = some (decide (May a b c d e)) := by
  have key : ∀ p : Bool, p = decide (May a b c d e) → chorusref13_ConfigMay.f a b c d e = some p → chorusref13_ConfigMay.f a b c d e = some (decide (May a b c d e)) := fun p hp h => by rw [h, hp]
  unfold chorusref13_ConfigMay.f at key ⊢
  rw [upto_r, upto_r, upto_r, upto_r, many_r] at key ⊢
  by_cases h1 : 0 ≤ a ∧ a ≤ 2
  · by_cases h2 : 1 ≤ b ∧ b ≤ 2
    · by_cases h4 : 1 ≤ c ∧ c ≤ 2
      · by_cases h5 : 1 ≤ d ∧ d ≤ 4
        · by_cases h7 : e = 2 ∨ e = 4 ∨ e = 8 ∨ e = 16
          · by_cases h8 : 2 * d ≤ e
            · exact key true (by symm; rw [decide_eq_true_eq]; exact ⟨h1, h2, h4, h5, h7, h8⟩) (by simp only [Option.bind_some, h1, h2, h4, h5, h7, decide_true, if_true, and_self]; rw [w64 (by omega)]; simp [h8])
            · exact key false (by symm; rw [decide_eq_false_iff_not]; exact fun h => h8 h.2.2.2.2.2) (by simp only [Option.bind_some, h1, h2, h4, h5, h7, decide_true, if_true, and_self]; rw [w64 (by omega)]; simp [h8])
          · exact key false (by symm; rw [decide_eq_false_iff_not]; exact fun h => h7 h.2.2.2.2.1) (by simp only [Option.bind_some, h1, h2, h4, h5, h7, decide_true, decide_false, if_true, if_false, Bool.false_eq_true, and_self])
        · exact key false (by symm; rw [decide_eq_false_iff_not]; exact fun h => h5 h.2.2.2.1) (by simp only [Option.bind_some, h1, h2, h4, h5, decide_true, decide_false, if_true, if_false, Bool.false_eq_true, and_self])
      · exact key false (by symm; rw [decide_eq_false_iff_not]; exact fun h => h4 h.2.2.1) (by simp only [Option.bind_some, h1, h2, h4, decide_true, decide_false, if_true, if_false, Bool.false_eq_true, and_self])
    · exact key false (by symm; rw [decide_eq_false_iff_not]; exact fun h => h2 h.2.1) (by simp only [Option.bind_some, h1, h2, decide_true, decide_false, if_true, if_false, Bool.false_eq_true, and_self])
  · exact key false (by symm; rw [decide_eq_false_iff_not]; exact fun h => h1 h.1) (by simp only [Option.bind_some, h1, decide_false, if_false, Bool.false_eq_true])

theorem Configs : choruslaw13_Configs.Pure := by
  intro a b c d e x _ _ _ _ _ _
  unfold choruslaw13_Configs.f chorusref13_ReplicaOf.f
  rw [may_f, may_r, awake_f]
  by_cases h : May a b c d e
  · by_cases h0 : 0 ≤ x
    · by_cases h1 : x < d
      · rw [replica_good a b c d e x h h0 h1]
        have hb := h.2.1
        have hb0 : ¬ b = 0 := by omega
        have hx : ¬ x < 0 := by omega
        have hx2 : ¬ x ≥ d := by omega
        simp only [h, hx, hx2, hb0, decide_true, Option.bind_some, if_true, if_false, tmod_pos h0, choruslaw0_Num.f, beq_self_eq_true]
      · rw [replica_bad a b c d e x (fun hh => h1 hh.2.2)]
        have hx : ¬ x < 0 := by omega
        have hx2 : x ≥ d := by omega
        simp only [h, hx, hx2, decide_true, Option.bind_some, if_true, if_false, choruslaw0_Num.f, beq_self_eq_true]
    · rw [replica_bad a b c d e x (fun hh => h0 hh.2.1)]
      have hx : x < 0 := by omega
      simp only [h, hx, decide_true, Option.bind_some, if_true, if_false, choruslaw0_Num.f, beq_self_eq_true]
  · rw [replica_bad a b c d e x (fun hh => h hh.1)]
    simp only [h, decide_false, Option.bind_some, if_true, if_false, choruslaw0_Num.f, beq_self_eq_true, Bool.false_eq_true]

end Go.Proofs.Ytjnpbeekdljohaa.Pure
