/- RouteForms: operations and numbers that may not be are told as such: the call returns true for all numbers; the arguments read as they did. -/
import Derived.Test.YtkdjbkfcfbignaaPRouteFormsx3
import Derived.Test.YtkdjbkfcfbignaaPlain
set_option linter.unusedVariables false
set_option linter.unusedSimpArgs false
namespace Go.Proofs.Ytkdjbkfcfbignaa.Pure
open Go.RowKit Go.Proofs.Ytkdjbkfcfbignaa.PRouteForms Go.Proofs.YtkdjbkfcfbignaaW.PrintWords Go.Proofs.YtkdjbkfcfbignaaW.PrintLast Go.Proofs.YtkdjbkfcfbignaaW.PrintMore Go.Proofs.YtkdjbkfcfbignaaW.Plain

/-- An operation that may be. -/
def OMay (c r a : Int) : Prop := 0 ≤ r ∧ r ≤ 3 ∧ 0 ≤ a ∧ a ≤ 255 ∧ (c = 0 ∨ c = 1 ∨ (c = 2 ∧ a = 0) ∨ (c = 3 ∧ a = 0 ∧ r = 0))
instance (c r a : Int) : Decidable (OMay c r a) := by unfold OMay; infer_instance
theorem arg_f (a : Int) : oper_Arg.f a = some (decide (0 ≤ a ∧ a ≤ 255)) := by
  unfold oper_Arg.f
  by_cases h : a ≥ 0
  · have : 0 ≤ a := h
    simp [this]
  · have : ¬ (0 ≤ a) := by omega
    simp [this]
theorem omay_f (k : Nat) (hk : 2 ≤ k) (c r a : Int) : oper_May.f k c r a = some (decide (OMay c r a)) := by
  obtain ⟨m, rfl⟩ : ∃ m, k = m + 2 := ⟨k - 2, by omega⟩
  have key : ∀ p : Bool, p = decide (OMay c r a) → oper_May.f (m + 2) c r a = some p → oper_May.f (m + 2) c r a = some (decide (OMay c r a)) := fun p hp h => by rw [h, hp]
  have no : (OMay c r a → False) → false = decide (OMay c r a) := fun h => by symm; rw [decide_eq_false_iff_not]; exact h
  have yes : OMay c r a → true = decide (OMay c r a) := fun h => by symm; rw [decide_eq_true_eq]; exact h
  unfold oper_May.f at key ⊢
  rw [arg_f] at key ⊢
  by_cases h1 : r < 0
  · exact key false (no (by unfold OMay; omega)) (by rw [if_pos h1]; simp [oper_May.j0])
  · by_cases h2 : r ≥ 4
    · exact key false (no (by unfold OMay; omega)) (by rw [if_neg h1, if_pos h2]; simp [oper_May.j0])
    · by_cases h3 : 0 ≤ a ∧ a ≤ 255
      · by_cases c0 : c = 0
        · exact key true (yes (by unfold OMay; omega)) (by rw [if_neg h1, if_neg h2]; simp [oper_May.j0, oper_May.j1, h3, c0])
        · by_cases c1 : c = 1
          · exact key true (yes (by unfold OMay; omega)) (by rw [if_neg h1, if_neg h2]; simp [oper_May.j0, oper_May.j1, h3, c1])
          · have b1 : (c == (1 : Int)) = false := by simpa using c1
            by_cases c2 : c = 2
            · by_cases ha : a = 0
              · exact key true (yes (by unfold OMay; omega)) (by rw [if_neg h1, if_neg h2]; simp [oper_May.j0, oper_May.j1, c2, ha])
              · exact key false (no (by unfold OMay; omega)) (by rw [if_neg h1, if_neg h2]; simp [oper_May.j0, oper_May.j1, h3, c2, ha])
            · by_cases c3 : c = 3
              · by_cases ha : a = 0
                · by_cases hr : r = 0
                  · exact key true (yes (by unfold OMay; omega)) (by rw [if_neg h1, if_neg h2]; simp [oper_May.j0, oper_May.j1, c3, ha, hr])
                  · exact key false (no (by unfold OMay; omega)) (by rw [if_neg h1, if_neg h2]; simp [oper_May.j0, oper_May.j1, c3, ha, hr])
                · exact key false (no (by unfold OMay; omega)) (by rw [if_neg h1, if_neg h2]; simp [oper_May.j0, oper_May.j1, h3, c3, ha])
              · exact key false (no (by unfold OMay; omega)) (by rw [if_neg h1, if_neg h2]; simp [oper_May.j0, oper_May.j1, h3, c0, b1, c2, c3])
      · exact key false (no (by unfold OMay; omega)) (by rw [if_neg h1, if_neg h2]; simp [oper_May.j0, h3])
theorem logs_f (a : Int) : route_Logs.f a = some (decide (1 ≤ a ∧ a ≤ 2)) := by
  unfold route_Logs.f
  by_cases h : a ≥ 1
  · have : 1 ≤ a := h
    simp [this]
  · have : ¬ (1 ≤ a) := by omega
    simp [this]
/-- The log of an operation, as it is told. -/
def LogR (c r a logs : Int) : Int × Int := if OMay c r a ∧ c ≠ 3 ∧ 1 ≤ logs ∧ logs ≤ 2 then (Int.tmod r logs, 0) else (0, 700)
theorem log_f (k : Nat) (hk : 2 ≤ k) (c r a logs : Int) : route_Log.f k c r a logs = some (LogR c r a logs) := by
  unfold route_Log.f LogR
  rw [omay_f k hk, logs_f, Option.bind_some, Option.bind_some]
  by_cases h : OMay c r a
  · rw [if_pos (decide_eq_true h)]
    by_cases h3 : c = 3
    · rw [if_pos h3, if_neg (fun x => x.2.1 h3)]
    · rw [if_neg h3]
      by_cases hl : 1 ≤ logs ∧ logs ≤ 2
      · rw [if_pos (decide_eq_true hl), if_neg (by omega), if_pos ⟨h, h3, hl⟩]
      · rw [if_neg (by rw [decide_eq_true_eq]; exact hl), if_neg (fun x => hl x.2.2)]
  · rw [if_neg (by rw [decide_eq_true_eq]; exact h), if_neg (fun x => h x.1)]
theorem log_bad (k : Nat) (hk : 2 ≤ k) (c r a logs : Int) (h : ¬ (OMay c r a ∧ c ≠ 3 ∧ 1 ≤ logs ∧ logs ≤ 2)) : route_Log.f k c r a logs = some (0, 700) := by
  rw [log_f k hk]
  unfold LogR
  rw [if_neg h]
theorem part_bad (k : Nat) (a b c d : List Int) (log logs : Int) (h : ¬ (1 ≤ logs ∧ logs ≤ 2 ∧ 0 ≤ log ∧ log < logs)) : route_Part.f (k + 1) a b c d log logs = some ([], [], [], [], 700) := by
  unfold route_Part.f
  rw [logs_f, Option.bind_some]
  by_cases hl : 1 ≤ logs ∧ logs ≤ 2
  · rw [if_pos (decide_eq_true hl)]
    by_cases h0 : log < 0
    · rw [if_pos h0]; rfl
    · rw [if_neg h0, decide_eq_true (show log ≥ logs by omega)]; rfl
  · rw [if_neg (by rw [decide_eq_true_eq]; exact hl)]; rfl
theorem clone_f (a : List Int) (h : a.length ≤ 17592186043904) : slices_Clone_int_int.f a = some a := if_pos (by omega)
theorem pt0 (k : Nat) (g : Int) (a b c d p q r s : List Int) : route_Part.l0 (k + 1) g 0 a b c d p q r s = (slices_Clone_int_int.f a).bind fun t => route_Part.l0 k g (wrap64 (0 + g)) a b c d t q r s := rfl
theorem pt1 (k : Nat) (g : Int) (a b c d p q r s : List Int) : route_Part.l0 (k + 1) g 1 a b c d p q r s = (slices_Clone_int_int.f b).bind fun t => route_Part.l0 k g (wrap64 (1 + g)) a b c d p t r s := rfl
theorem pt2 (k : Nat) (g : Int) (a b c d p q r s : List Int) : route_Part.l0 (k + 1) g 2 a b c d p q r s = (slices_Clone_int_int.f c).bind fun t => route_Part.l0 k g (wrap64 (2 + g)) a b c d p q t s := rfl
theorem pt3 (k : Nat) (g : Int) (a b c d p q r s : List Int) : route_Part.l0 (k + 1) g 3 a b c d p q r s = (slices_Clone_int_int.f d).bind fun t => route_Part.l0 k g (wrap64 (3 + g)) a b c d p q r t := rfl
theorem pt4 (k : Nat) (g : Int) (a b c d p q r s : List Int) : route_Part.l0 (k + 1) g 4 a b c d p q r s = some (p, q, r, s, 0) := rfl
theorem pt5 (k : Nat) (g : Int) (a b c d p q r s : List Int) : route_Part.l0 (k + 1) g 5 a b c d p q r s = some (p, q, r, s, 0) := rfl
/-- The rows of a log, as they are told. -/
def PartR (a b c d : List Int) (log logs : Int) : List Int × List Int × List Int × List Int × Int :=
  if 1 ≤ logs ∧ logs ≤ 2 ∧ 0 ≤ log ∧ log < logs then (if logs = 1 then (a, b, c, d, 0) else if log = 0 then (a, [], c, [], 0) else ([], b, [], d, 0)) else ([], [], [], [], 700)
theorem part_f (k : Nat) (a b c d : List Int) (log logs : Int) (ha : a.length ≤ 17592186043904) (hb : b.length ≤ 17592186043904) (hc : c.length ≤ 17592186043904) (hd : d.length ≤ 17592186043904) :
    route_Part.f (k + 6) a b c d log logs = some (PartR a b c d log logs) := by
  unfold PartR
  by_cases h : 1 ≤ logs ∧ logs ≤ 2 ∧ 0 ≤ log ∧ log < logs
  · rw [if_pos h]
    unfold route_Part.f
    rw [logs_f, Option.bind_some, if_pos (decide_eq_true ⟨h.1, h.2.1⟩), if_neg (by omega), decide_eq_false (show ¬ log ≥ logs by omega)]
    rw [show route_Part.j0 (k + 6) log logs false a b c d = route_Part.l0 (k + 5) logs log a b c d [] [] [] [] from rfl]
    by_cases h1 : logs = 1
    · rw [if_pos h1, h1, show log = 0 by omega]
      rw [pt0, clone_f a ha, Option.bind_some, show wrap64 (0 + 1) = 1 from by decide +kernel, pt1, clone_f b hb, Option.bind_some, show wrap64 (1 + 1) = 2 from by decide +kernel, pt2, clone_f c hc, Option.bind_some, show wrap64 (2 + 1) = 3 from by decide +kernel, pt3, clone_f d hd, Option.bind_some, show wrap64 (3 + 1) = 4 from by decide +kernel, pt4]
    · rw [if_neg h1, show logs = 2 by omega]
      by_cases h0 : log = 0
      · rw [if_pos h0, h0]
        rw [pt0, clone_f a ha, Option.bind_some, show wrap64 (0 + 2) = 2 from by decide +kernel, pt2, clone_f c hc, Option.bind_some, show wrap64 (2 + 2) = 4 from by decide +kernel, pt4]
      · rw [if_neg h0, show log = 1 by omega]
        rw [pt1, clone_f b hb, Option.bind_some, show wrap64 (1 + 2) = 3 from by decide +kernel, pt3, clone_f d hd, Option.bind_some, show wrap64 (3 + 2) = 5 from by decide +kernel, pt5]
  · rw [if_neg h]
    exact part_bad (k + 5) a b c d log logs h

theorem RouteForms : choruslaw7_RouteForms.Pure := by
  intro a0 a1 _ _
  refine ⟨12, ?_⟩
  unfold choruslaw7_RouteForms.f
  rw [show choruslaw7_awake.f 12 = some true from by decide +kernel, and1023, u64w, Option.bind_some, if_pos rfl]
  have hd : 0 ≤ a1 % 1024 ∧ a1 % 1024 < 1024 := by omega
  generalize a1 % 1024 = d at hd ⊢
  have hi : 0 ≤ a0 % 18446744073709551616 ∧ a0 % 18446744073709551616 < 18446744073709551616 := by omega
  rw [w64 (x := 1 + d) (by omega), w64 (x := -(1 + d)) (by omega), w64 (x := 2 + (1 + d)) (by omega), w64 (x := 3 + (1 + d)) (by omega), w64 (x := 1 + (1 + d)) (by omega), tmod_pos hi.1, w64 (x := a0 % 18446744073709551616 % 3) (by omega)]
  have hj : a0 % 18446744073709551616 % 3 = 0 ∨ a0 % 18446744073709551616 % 3 = 1 ∨ a0 % 18446744073709551616 % 3 = 2 := by omega
  generalize a0 % 18446744073709551616 % 3 = j at hj ⊢
  rw [Option.bind_some]
  have hl : ¬ (1 ≤ rd [-(1 + d), 0, 2 + (1 + d)] j ∧ rd [-(1 + d), 0, 2 + (1 + d)] j ≤ 2) := by
    rcases hj with h | h | h <;> rw [h]
    · show ¬ (1 ≤ -(1 + d) ∧ -(1 + d) ≤ 2)
      omega
    · show ¬ (1 ≤ (0 : Int) ∧ (0 : Int) ≤ 2)
      omega
    · show ¬ (1 ≤ 2 + (1 + d) ∧ 2 + (1 + d) ≤ 2)
      omega
  rw [if_pos (by omega), if_pos (by show j < 3; omega)]
  generalize rd [-(1 + d), 0, 2 + (1 + d)] j = logs at hl ⊢
  rw [log_bad 12 (by decide) 0 0 0 logs (fun x => hl x.2.2), log_bad 12 (by decide) 3 0 0 1 (fun x => x.2.1 rfl), log_bad 12 (by decide) 0 (3 + (1 + d)) 0 1 (fun x => by have := x.1; unfold OMay at this; omega)]
  rw [part_bad 11 [] [] [] [] 0 logs (fun x => hl ⟨x.1, x.2.1⟩), part_bad 11 [] [] [] [] (-(1 + d)) 2 (by omega), part_bad 11 [] [] [] [] (1 + (1 + d)) 2 (by omega)]
  decide +kernel

end Go.Proofs.Ytkdjbkfcfbignaa.Pure
