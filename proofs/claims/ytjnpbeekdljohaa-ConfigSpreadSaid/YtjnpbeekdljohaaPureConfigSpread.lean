/- ConfigSpread: threads are spread over the replicas by turns: the call returns true for every number of threads, one replica or two; the arguments read as they did. -/
import Derived.Test.YtjnpbeekdljohaaPConfigSpreadx1
import Derived.Test.YtjnpbeekdljohaaPlain
set_option linter.unusedVariables false
set_option linter.unusedSimpArgs false
namespace Go.Proofs.Ytjnpbeekdljohaa.Pure
open Go.RowKit Go.Proofs.Ytjnpbeekdljohaa.PConfigSpread Go.Proofs.YtjnpbeekdljohaaW.PrintWords Go.Proofs.YtjnpbeekdljohaaW.PrintLast Go.Proofs.YtjnpbeekdljohaaW.PrintMore Go.Proofs.YtjnpbeekdljohaaW.Plain

theorem many_f (k : Int) : slot_Many.f k = some (decide (k = 2 ∨ k = 4 ∨ k = 8 ∨ k = 16)) := by
  unfold slot_Many.f
  by_cases h1 : k ≥ 2
  · rw [if_pos h1]
    by_cases h2 : k ≤ 16
    · rw [if_pos h2]
      have h3 : k = 2 ∨ k = 3 ∨ k = 4 ∨ k = 5 ∨ k = 6 ∨ k = 7 ∨ k = 8 ∨ k = 9 ∨ k = 10 ∨ k = 11 ∨ k = 12 ∨ k = 13 ∨ k = 14 ∨ k = 15 ∨ k = 16 := by omega
      rcases h3 with h | h | h | h | h | h | h | h | h | h | h | h | h | h | h <;> subst h <;> decide +kernel
    · rw [if_neg h2]
      have : ¬ (k = 2 ∨ k = 4 ∨ k = 8 ∨ k = 16) := by omega
      simp [this]
  · rw [if_neg h1]
    have : ¬ (k = 2 ∨ k = 4 ∨ k = 8 ∨ k = 16) := by omega
    simp [this]
theorem is_f (a : Int) : object_Is.f a = some (decide (0 ≤ a ∧ a ≤ 2)) := by
  unfold object_Is.f
  by_cases h : a ≥ 0
  · have : 0 ≤ a := h
    simp [this]
  · have : ¬ (0 ≤ a) := by omega
    simp [this]
theorem logs_f (a : Int) : route_Logs.f a = some (decide (1 ≤ a ∧ a ≤ 2)) := by
  unfold route_Logs.f
  by_cases h : a ≥ 1
  · have : 1 ≤ a := h
    simp [this]
  · have : ¬ (1 ≤ a) := by omega
    simp [this]
def May (a b c d e : Int) : Prop := (0 ≤ a ∧ a ≤ 2) ∧ (1 ≤ b ∧ b ≤ 2) ∧ (1 ≤ c ∧ c ≤ 2) ∧ (1 ≤ d ∧ d ≤ 4) ∧ (e = 2 ∨ e = 4 ∨ e = 8 ∨ e = 16) ∧ 2 * d ≤ e
instance (a b c d e : Int) : Decidable (May a b c d e) := by unfold May; infer_instance
theorem may_f (a b c d e : Int) : config_May.f a b c d e = some (decide (May a b c d e)) := by
  have key : ∀ p : Bool, p = decide (May a b c d e) → config_May.f a b c d e = some p → config_May.f a b c d e = some (decide (May a b c d e)) := fun p hp h => by rw [h, hp]
  unfold config_May.f at key ⊢
  rw [is_f, logs_f, many_f] at key ⊢
  by_cases h1 : 0 ≤ a ∧ a ≤ 2
  · by_cases h2 : b ≥ 1
    · by_cases h3 : b ≤ 2
      · by_cases h4 : 1 ≤ c ∧ c ≤ 2
        · by_cases h5 : d ≥ 1
          · by_cases h6 : d ≤ 4
            · by_cases h7 : e = 2 ∨ e = 4 ∨ e = 8 ∨ e = 16
              · by_cases h8 : 2 * d ≤ e
                · exact key true (by symm; rw [decide_eq_true_eq]; exact ⟨h1, ⟨h2, h3⟩, h4, ⟨h5, h6⟩, h7, h8⟩) (by simp only [Option.bind_some, h1, h2, h3, h4, h5, h6, h7, decide_true, if_true, and_self]; rw [w64 (by omega)]; simp [h8])
                · exact key false (by symm; rw [decide_eq_false_iff_not]; exact fun h => h8 h.2.2.2.2.2) (by simp only [Option.bind_some, h1, h2, h3, h4, h5, h6, h7, decide_true, if_true, and_self]; rw [w64 (by omega)]; simp [h8])
              · exact key false (by symm; rw [decide_eq_false_iff_not]; exact fun h => h7 h.2.2.2.2.1) (by simp only [Option.bind_some, h1, h2, h3, h4, h5, h6, h7, decide_true, decide_false, if_true, if_false, Bool.false_eq_true, and_self])
            · exact key false (by symm; rw [decide_eq_false_iff_not]; exact fun h => h6 h.2.2.2.1.2) (by simp only [Option.bind_some, h1, h2, h3, h4, h5, h6, decide_true, if_true, if_false, and_self])
          · exact key false (by symm; rw [decide_eq_false_iff_not]; exact fun h => h5 h.2.2.2.1.1) (by simp only [Option.bind_some, h1, h2, h3, h4, h5, decide_true, if_true, if_false, and_self])
        · exact key false (by symm; rw [decide_eq_false_iff_not]; exact fun h => h4 h.2.2.1) (by simp only [Option.bind_some, h1, h2, h3, h4, decide_true, decide_false, if_true, if_false, Bool.false_eq_true, and_self])
      · exact key false (by symm; rw [decide_eq_false_iff_not]; exact fun h => h3 h.2.1.2) (by simp only [Option.bind_some, h1, h2, h3, decide_true, if_true, if_false, and_self])
    · exact key false (by symm; rw [decide_eq_false_iff_not]; exact fun h => h2 h.2.1.1) (by simp only [Option.bind_some, h1, h2, decide_true, if_true, if_false, and_self])
  · exact key false (by symm; rw [decide_eq_false_iff_not]; exact fun h => h1 h.1) (by simp only [Option.bind_some, h1, decide_false, if_false, Bool.false_eq_true])
theorem replica_good (a b c d e x : Int) (h : May a b c d e) (h0 : 0 ≤ x) (h1 : x < d) : config_Replica.f a b c d e x = some (x % b, 0) := by
  unfold config_Replica.f config_Thread.f
  rw [may_f]
  have hb := h.2.1
  have hb0 : ¬ b = 0 := by omega
  have h0' : x ≥ 0 := h0
  simp only [h, decide_true, Option.bind_some, if_true, h0', h1, hb0, if_false]
  rw [tmod_pos h0]
theorem replica_bad (a b c d e x : Int) (h : ¬ (May a b c d e ∧ 0 ≤ x ∧ x < d)) : config_Replica.f a b c d e x = some (0, 1300) := by
  unfold config_Replica.f config_Thread.f
  rw [may_f]
  by_cases hm : May a b c d e
  · by_cases h0 : x ≥ 0
    · have h1 : ¬ x < d := fun h1 => h ⟨hm, h0, h1⟩
      simp only [hm, decide_true, Option.bind_some, if_true, h0, h1, decide_false, Bool.false_eq_true, if_false]
    · simp only [hm, decide_true, Option.bind_some, if_true, h0, if_false, Bool.false_eq_true]
  · simp only [hm, decide_false, Option.bind_some, if_false, Bool.false_eq_true]
theorem awake_f : choruslaw13_awake.f = some true := by decide +kernel

theorem turns (two : Bool) (t : Int) (ht : 1 ≤ t ∧ t ≤ 4) (n : Nat) : ∀ i : Int, 0 ≤ i → i + n = t → Ev (fun k => choruslaw13_ConfigSpread.l0 k two i 0 (if two then 2 else 1) 1 t 16) true := by
  have hm : May 0 (if two then 2 else 1) 1 t 16 := by
    unfold May
    cases two <;> simp <;> omega
  induction n with
  | zero =>
    intro i hi hs
    refine Ev.step (f := fun _ => some true) (fun q => ?_) (Ev.now true)
    simp only [choruslaw13_ConfigSpread.l0]
    rw [if_neg (by omega), may_f]
    simp only [hm, decide_true, Option.bind_some, if_true]
  | succ n ih =>
    intro i hi hs
    have h := ih (i + 1) (by omega) (by omega)
    have hw : wrap64 (i + 1) = i + 1 := w64 (by omega)
    cases two with
    | true =>
      refine Ev.step (f := fun k => choruslaw13_ConfigSpread.j2 k true i (i % 2) 0 0 ((Go.bits .and .i64 i 1) == 1) 0 2 1 t 16) (fun q => ?_) ?_
      · simp only [choruslaw13_ConfigSpread.l0]
        rw [if_pos (by omega)]
        simp only [if_true]
        rw [replica_good 0 2 1 t 16 i (by simpa using hm) hi (by omega)]
        rfl
      · refine Ev.step (f := fun k => choruslaw13_ConfigSpread.l0 k true (i + 1) 0 2 1 t 16) (fun q => ?_) (by simpa using h)
        simp only [choruslaw13_ConfigSpread.j2]
        rw [and1, hw]
        by_cases h1 : i % 2 = 1
        · simp only [h1, beq_self_eq_true, if_true, choruslaw0_Num.f, Option.bind_some]
        · have h2 : i % 2 = 0 := by omega
          simp only [h2, choruslaw0_Num.f, Option.bind_some, if_true]
          simp
    | false =>
      refine Ev.step (f := fun k => choruslaw13_ConfigSpread.j2 k false i (i % 1) 0 0 false 0 1 1 t 16) (fun q => ?_) ?_
      · simp only [choruslaw13_ConfigSpread.l0]
        simp only [Bool.false_eq_true, if_false]
        rw [if_pos (by omega), replica_good 0 1 1 t 16 i (by simpa using hm) hi (by omega)]
        rfl
      · refine Ev.step (f := fun k => choruslaw13_ConfigSpread.l0 k false (i + 1) 0 1 1 t 16) (fun q => ?_) (by simpa using h)
        simp only [choruslaw13_ConfigSpread.j2]
        rw [hw]
        have h2 : i % 1 = 0 := by omega
        simp only [h2, choruslaw0_Num.f, Option.bind_some, if_true, if_false, Bool.false_eq_true]

theorem ConfigSpread : choruslaw13_ConfigSpread.Pure := by
  intro a0 two _
  have h := turns two (1 + a0 % 4) (by omega) (1 + a0 % 4).toNat 0 (by omega) (by omega)
  have h1 : Ev (fun k => choruslaw13_ConfigSpread.j0 k two 0 (if two then 2 else 1) 1 (1 + a0 % 4) 16) true := Ev.step (fun q => rfl) h
  obtain ⟨q, hq⟩ := h1.rounds
  refine ⟨q, ?_⟩
  unfold choruslaw13_ConfigSpread.f
  rw [awake_f, and3, w64 (x := 1 + a0 % 4) (by omega)]
  cases two <;> simpa using hq

end Go.Proofs.Ytjnpbeekdljohaa.Pure
