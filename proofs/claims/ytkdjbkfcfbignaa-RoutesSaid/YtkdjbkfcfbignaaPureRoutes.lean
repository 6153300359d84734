/- Routes: the program's log and rows of a log are the plain ones, and the state stays: the call returns true for all operations, states and numbers; the arguments read as they did. -/
import Derived.Test.YtkdjbkfcfbignaaPRoutesx6
import Derived.Test.YtkdjbkfcfbignaaPlain
set_option linter.unusedVariables false
set_option linter.unusedSimpArgs false
namespace Go.Proofs.Ytkdjbkfcfbignaa.Pure
open Go.RowKit Go.Proofs.Ytkdjbkfcfbignaa.PRoutes Go.Proofs.YtkdjbkfcfbignaaW.PrintWords Go.Proofs.YtkdjbkfcfbignaaW.PrintLast Go.Proofs.YtkdjbkfcfbignaaW.PrintMore Go.Proofs.YtkdjbkfcfbignaaW.Plain

/-- An operation that may be. -/
def OMay (c r a : Int) : Prop := 0 ≤ r ∧ r ≤ 3 ∧ 0 ≤ a ∧ a ≤ 255 ∧ (c = 0 ∨ c = 1 ∨ (c = 2 ∧ a = 0) ∨ (c = 3 ∧ a = 0 ∧ r = 0))
instance (c r a : Int) : Decidable (OMay c r a) := by unfold OMay; infer_instance
theorem arg_f (a : Int) : oper_Arg.f a = some (decide (0 ≤ a ∧ a ≤ 255)) := by
  unfold oper_Arg.f
  by_cases h : a ≥ 0
  · have : 0 ≤ a := h
    simp [this]
  · have : ¬ (0 ≤ a) := by omega
    simp [this]
theorem omay_f (k : Nat) (hk : 2 ≤ k) (c r a : Int) : oper_May.f k c r a = some (decide (OMay c r a)) := by
  obtain ⟨m, rfl⟩ : ∃ m, k = m + 2 := ⟨k - 2, by omega⟩
  have key : ∀ p : Bool, p = decide (OMay c r a) → oper_May.f (m + 2) c r a = some p → oper_May.f (m + 2) c r a = some (decide (OMay c r a)) := fun p hp h => by rw [h, hp]
  have no : (OMay c r a → False) → false = decide (OMay c r a) := fun h => by symm; rw [decide_eq_false_iff_not]; exact h
  have yes : OMay c r a → true = decide (OMay c r a) := fun h => by symm; rw [decide_eq_true_eq]; exact h
  unfold oper_May.f at key ⊢
  rw [arg_f] at key ⊢
  by_cases h1 : r < 0
  · exact key false (no (by unfold OMay; omega)) (by rw [if_pos h1]; simp [oper_May.j0])
  · by_cases h2 : r ≥ 4
    · exact key false (no (by unfold OMay; omega)) (by rw [if_neg h1, if_pos h2]; simp [oper_May.j0])
    · by_cases h3 : 0 ≤ a ∧ a ≤ 255
      · by_cases c0 : c = 0
        · exact key true (yes (by unfold OMay; omega)) (by rw [if_neg h1, if_neg h2]; simp [oper_May.j0, oper_May.j1, h3, c0])
        · by_cases c1 : c = 1
          · exact key true (yes (by unfold OMay; omega)) (by rw [if_neg h1, if_neg h2]; simp [oper_May.j0, oper_May.j1, h3, c1])
          · have b1 : (c == (1 : Int)) = false := by simpa using c1
            by_cases c2 : c = 2
            · by_cases ha : a = 0
              · exact key true (yes (by unfold OMay; omega)) (by rw [if_neg h1, if_neg h2]; simp [oper_May.j0, oper_May.j1, c2, ha])
              · exact key false (no (by unfold OMay; omega)) (by rw [if_neg h1, if_neg h2]; simp [oper_May.j0, oper_May.j1, h3, c2, ha])
            · by_cases c3 : c = 3
              · by_cases ha : a = 0
                · by_cases hr : r = 0
                  · exact key true (yes (by unfold OMay; omega)) (by rw [if_neg h1, if_neg h2]; simp [oper_May.j0, oper_May.j1, c3, ha, hr])
                  · exact key false (no (by unfold OMay; omega)) (by rw [if_neg h1, if_neg h2]; simp [oper_May.j0, oper_May.j1, c3, ha, hr])
                · exact key false (no (by unfold OMay; omega)) (by rw [if_neg h1, if_neg h2]; simp [oper_May.j0, oper_May.j1, h3, c3, ha])
              · exact key false (no (by unfold OMay; omega)) (by rw [if_neg h1, if_neg h2]; simp [oper_May.j0, oper_May.j1, h3, c0, b1, c2, c3])
      · exact key false (no (by unfold OMay; omega)) (by rw [if_neg h1, if_neg h2]; simp [oper_May.j0, h3])
theorem logs_f (a : Int) : route_Logs.f a = some (decide (1 ≤ a ∧ a ≤ 2)) := by
  unfold route_Logs.f
  by_cases h : a ≥ 1
  · have : 1 ≤ a := h
    simp [this]
  · have : ¬ (1 ≤ a) := by omega
    simp [this]
/-- The log of an operation, as it is told. -/
def LogR (c r a logs : Int) : Int × Int := if OMay c r a ∧ c ≠ 3 ∧ 1 ≤ logs ∧ logs ≤ 2 then (Int.tmod r logs, 0) else (0, 700)
theorem log_f (k : Nat) (hk : 2 ≤ k) (c r a logs : Int) : route_Log.f k c r a logs = some (LogR c r a logs) := by
  unfold route_Log.f LogR
  rw [omay_f k hk, logs_f, Option.bind_some, Option.bind_some]
  by_cases h : OMay c r a
  · rw [if_pos (decide_eq_true h)]
    by_cases h3 : c = 3
    · rw [if_pos h3, if_neg (fun x => x.2.1 h3)]
    · rw [if_neg h3]
      by_cases hl : 1 ≤ logs ∧ logs ≤ 2
      · rw [if_pos (decide_eq_true hl), if_neg (by omega), if_pos ⟨h, h3, hl⟩]
      · rw [if_neg (by rw [decide_eq_true_eq]; exact hl), if_neg (fun x => hl x.2.2)]
  · rw [if_neg (by rw [decide_eq_true_eq]; exact h), if_neg (fun x => h x.1)]
theorem log_bad (k : Nat) (hk : 2 ≤ k) (c r a logs : Int) (h : ¬ (OMay c r a ∧ c ≠ 3 ∧ 1 ≤ logs ∧ logs ≤ 2)) : route_Log.f k c r a logs = some (0, 700) := by
  rw [log_f k hk]
  unfold LogR
  rw [if_neg h]
theorem part_bad (k : Nat) (a b c d : List Int) (log logs : Int) (h : ¬ (1 ≤ logs ∧ logs ≤ 2 ∧ 0 ≤ log ∧ log < logs)) : route_Part.f (k + 1) a b c d log logs = some ([], [], [], [], 700) := by
  unfold route_Part.f
  rw [logs_f, Option.bind_some]
  by_cases hl : 1 ≤ logs ∧ logs ≤ 2
  · rw [if_pos (decide_eq_true hl)]
    by_cases h0 : log < 0
    · rw [if_pos h0]; rfl
    · rw [if_neg h0, decide_eq_true (show log ≥ logs by omega)]; rfl
  · rw [if_neg (by rw [decide_eq_true_eq]; exact hl)]; rfl
theorem clone_f (a : List Int) (h : a.length ≤ 17592186043904) : slices_Clone_int_int.f a = some a := if_pos (by omega)
theorem pt0 (k : Nat) (g : Int) (a b c d p q r s : List Int) : route_Part.l0 (k + 1) g 0 a b c d p q r s = (slices_Clone_int_int.f a).bind fun t => route_Part.l0 k g (wrap64 (0 + g)) a b c d t q r s := rfl
theorem pt1 (k : Nat) (g : Int) (a b c d p q r s : List Int) : route_Part.l0 (k + 1) g 1 a b c d p q r s = (slices_Clone_int_int.f b).bind fun t => route_Part.l0 k g (wrap64 (1 + g)) a b c d p t r s := rfl
theorem pt2 (k : Nat) (g : Int) (a b c d p q r s : List Int) : route_Part.l0 (k + 1) g 2 a b c d p q r s = (slices_Clone_int_int.f c).bind fun t => route_Part.l0 k g (wrap64 (2 + g)) a b c d p q t s := rfl
theorem pt3 (k : Nat) (g : Int) (a b c d p q r s : List Int) : route_Part.l0 (k + 1) g 3 a b c d p q r s = (slices_Clone_int_int.f d).bind fun t => route_Part.l0 k g (wrap64 (3 + g)) a b c d p q r t := rfl
theorem pt4 (k : Nat) (g : Int) (a b c d p q r s : List Int) : route_Part.l0 (k + 1) g 4 a b c d p q r s = some (p, q, r, s, 0) := rfl
theorem pt5 (k : Nat) (g : Int) (a b c d p q r s : List Int) : route_Part.l0 (k + 1) g 5 a b c d p q r s = some (p, q, r, s, 0) := rfl
/-- The rows of a log, as they are told. -/
def PartR (a b c d : List Int) (log logs : Int) : List Int × List Int × List Int × List Int × Int :=
  if 1 ≤ logs ∧ logs ≤ 2 ∧ 0 ≤ log ∧ log < logs then (if logs = 1 then (a, b, c, d, 0) else if log = 0 then (a, [], c, [], 0) else ([], b, [], d, 0)) else ([], [], [], [], 700)
theorem part_f (k : Nat) (a b c d : List Int) (log logs : Int) (ha : a.length ≤ 17592186043904) (hb : b.length ≤ 17592186043904) (hc : c.length ≤ 17592186043904) (hd : d.length ≤ 17592186043904) :
    route_Part.f (k + 6) a b c d log logs = some (PartR a b c d log logs) := by
  unfold PartR
  by_cases h : 1 ≤ logs ∧ logs ≤ 2 ∧ 0 ≤ log ∧ log < logs
  · rw [if_pos h]
    unfold route_Part.f
    rw [logs_f, Option.bind_some, if_pos (decide_eq_true ⟨h.1, h.2.1⟩), if_neg (by omega), decide_eq_false (show ¬ log ≥ logs by omega)]
    rw [show route_Part.j0 (k + 6) log logs false a b c d = route_Part.l0 (k + 5) logs log a b c d [] [] [] [] from rfl]
    by_cases h1 : logs = 1
    · rw [if_pos h1, h1, show log = 0 by omega]
      rw [pt0, clone_f a ha, Option.bind_some, show wrap64 (0 + 1) = 1 from by decide +kernel, pt1, clone_f b hb, Option.bind_some, show wrap64 (1 + 1) = 2 from by decide +kernel, pt2, clone_f c hc, Option.bind_some, show wrap64 (2 + 1) = 3 from by decide +kernel, pt3, clone_f d hd, Option.bind_some, show wrap64 (3 + 1) = 4 from by decide +kernel, pt4]
    · rw [if_neg h1, show logs = 2 by omega]
      by_cases h0 : log = 0
      · rw [if_pos h0, h0]
        rw [pt0, clone_f a ha, Option.bind_some, show wrap64 (0 + 2) = 2 from by decide +kernel, pt2, clone_f c hc, Option.bind_some, show wrap64 (2 + 2) = 4 from by decide +kernel, pt4]
      · rw [if_neg h0, show log = 1 by omega]
        rw [pt1, clone_f b hb, Option.bind_some, show wrap64 (1 + 2) = 3 from by decide +kernel, pt3, clone_f d hd, Option.bind_some, show wrap64 (3 + 2) = 5 from by decide +kernel, pt5]
  · rw [if_neg h]
    exact part_bad (k + 5) a b c d log logs h
theorem num_f (a : Int) : choruslaw0_Num.f a = some a := rfl
theorem same_l0 (k : Nat) : ∀ (a b : List Int) (i : Nat), a.length = b.length → i ≤ a.length → a.length ≤ 17592186044416 → a.length - i < k → choruslaw0_SameInts.l0 k a b i = some (decide (a.drop i = b.drop i)) := by
  induction k with
  | zero => intro a b i _ _ _ h; exact absurd h (by omega)
  | succ k ih =>
    intro a b i hl hi hm hk
    simp only [choruslaw0_SameInts.l0]
    by_cases h : i < a.length
    · rw [if_pos (by omega), if_pos (by omega), if_pos (by omega)]
      rw [List.drop_eq_getElem_cons h, List.drop_eq_getElem_cons (by omega : i < b.length)]
      have ea : rd a (i : Int) = a[i] := by simp [rd, List.getD_eq_getElem?_getD, h]
      have eb : rd b (i : Int) = b[i]'(by omega) := by simp [rd, List.getD_eq_getElem?_getD, (by omega : i < b.length)]
      rw [ea, eb]
      by_cases e : a[i] = b[i]'(by omega)
      · rw [if_pos e, show wrap64 ((i : Int) + 1) = ((i + 1 : Nat) : Int) from by rw [w64 (by omega)]; omega, ih a b (i + 1) hl (by omega) hm (by omega)]
        congr 1
        by_cases d : a.drop (i + 1) = b.drop (i + 1)
        · rw [decide_eq_true d, decide_eq_true (by rw [e, d])]
        · rw [decide_eq_false d, decide_eq_false (fun x => d (List.cons.inj x).2)]
      · rw [if_neg e, decide_eq_false (fun x => e (List.cons.inj x).1)]
    · rw [if_neg (by omega), List.drop_of_length_le (by omega), List.drop_of_length_le (by omega), decide_eq_true rfl]
theorem same_ints (k : Nat) (a b : List Int) (hm : a.length ≤ 17592186044416) (hk : a.length < k) : choruslaw0_SameInts.f k a b = some (decide (a = b)) := by
  unfold choruslaw0_SameInts.f
  by_cases h : a.length = b.length
  · rw [if_pos (by omega), show (0 : Int) = ((0 : Nat) : Int) from rfl, same_l0 k a b 0 h (by omega) hm (by omega), List.drop_zero, List.drop_zero]
  · rw [if_neg (by omega), decide_eq_false (fun x => h (by rw [x]))]
theorem ss0 (k : Nat) (a b c d a' b' c' d' : List Int) : choruslaw0_SameState.l0 (k + 1) 0 a b c d a' b' c' d' = (choruslaw0_SameInts.f k a a').bind fun t => if t = true then choruslaw0_SameState.l0 k 1 a b c d a' b' c' d' else some false := by kernel_rfl
theorem ss1 (k : Nat) (a b c d a' b' c' d' : List Int) : choruslaw0_SameState.l0 (k + 1) 1 a b c d a' b' c' d' = (choruslaw0_SameInts.f k b b').bind fun t => if t = true then choruslaw0_SameState.l0 k 2 a b c d a' b' c' d' else some false := by kernel_rfl
theorem ss2 (k : Nat) (a b c d a' b' c' d' : List Int) : choruslaw0_SameState.l0 (k + 1) 2 a b c d a' b' c' d' = (choruslaw0_SameInts.f k c c').bind fun t => if t = true then choruslaw0_SameState.l0 k 3 a b c d a' b' c' d' else some false := by kernel_rfl
theorem ss3 (k : Nat) (a b c d a' b' c' d' : List Int) : choruslaw0_SameState.l0 (k + 1) 3 a b c d a' b' c' d' = (choruslaw0_SameInts.f k d d').bind fun t => if t = true then choruslaw0_SameState.l0 k 4 a b c d a' b' c' d' else some false := by kernel_rfl
theorem ss4 (k : Nat) (a b c d a' b' c' d' : List Int) : choruslaw0_SameState.l0 (k + 1) 4 a b c d a' b' c' d' = some true := by kernel_rfl
/-- A row that is short enough for the fuel. -/
def Short (k : Nat) (l : List Int) : Prop := l.length ≤ 17592186043904 ∧ l.length + 40 ≤ k
theorem same_state (k : Nat) (a b c d a' b' c' d' : List Int) (ha : Short (k + 20) a) (hb : Short (k + 20) b) (hc : Short (k + 20) c) (hd : Short (k + 20) d) : choruslaw0_SameState.f (k + 5) a b c d a' b' c' d' = some (decide (a = a' ∧ b = b' ∧ c = c' ∧ d = d')) := by
  unfold Short at ha hb hc hd
  unfold choruslaw0_SameState.f
  rw [ss0, same_ints _ a a' (by omega) (by omega), Option.bind_some]
  by_cases h0 : a = a'
  · rw [if_pos (decide_eq_true h0), ss1, same_ints _ b b' (by omega) (by omega), Option.bind_some]
    by_cases h1 : b = b'
    · rw [if_pos (decide_eq_true h1), ss2, same_ints _ c c' (by omega) (by omega), Option.bind_some]
      by_cases h2 : c = c'
      · rw [if_pos (decide_eq_true h2), ss3, same_ints _ d d' (by omega) (by omega), Option.bind_some]
        by_cases h3 : d = d'
        · rw [if_pos (decide_eq_true h3), ss4, decide_eq_true ⟨h0, h1, h2, h3⟩]
        · rw [if_neg (by rw [decide_eq_true_eq]; exact h3), decide_eq_false (fun x => h3 x.2.2.2)]
      · rw [if_neg (by rw [decide_eq_true_eq]; exact h2), decide_eq_false (fun x => h2 x.2.2.1)]
    · rw [if_neg (by rw [decide_eq_true_eq]; exact h1), decide_eq_false (fun x => h1 x.2.1)]
  · rw [if_neg (by rw [decide_eq_true_eq]; exact h0), decide_eq_false (fun x => h0 x.1)]
theorem same_state_refl (k : Nat) (a b c d : List Int) (ha : Short k a) (hb : Short k b) (hc : Short k c) (hd : Short k d) : choruslaw0_SameState.f k a b c d a b c d = some true := by
  have h := ha
  unfold Short at h
  obtain ⟨m, rfl⟩ : ∃ m, k = m + 5 := ⟨k - 5, by omega⟩
  unfold Short at ha hb hc hd
  rw [same_state m a b c d a b c d (by unfold Short; omega) (by unfold Short; omega) (by unfold Short; omega) (by unfold Short; omega), decide_eq_true ⟨rfl, rfl, rfl, rfl⟩]
theorem cp0 (k : Nat) (a b c d p q r s : List Int) (h : a.length ≤ 17592186043904) : choruslaw0_CopyState.l0 (k + 1) 0 a b c d p q r s = choruslaw0_CopyState.l0 k 1 a b c d a q r s := by
  simp only [choruslaw0_CopyState.l0]
  rw [if_pos (by decide), Option.bind_some, if_pos trivial, if_pos (by rw [List.length_nil]; omega)]
  kernel_rfl
theorem cp1 (k : Nat) (a b c d p q r s : List Int) (h : b.length ≤ 17592186043904) : choruslaw0_CopyState.l0 (k + 1) 1 a b c d p q r s = choruslaw0_CopyState.l0 k 2 a b c d p b r s := by
  simp only [choruslaw0_CopyState.l0]
  rw [if_pos (by decide), Option.bind_some, if_neg (by decide), if_pos trivial, if_pos (by rw [List.length_nil]; omega)]
  kernel_rfl
theorem cp2 (k : Nat) (a b c d p q r s : List Int) (h : c.length ≤ 17592186043904) : choruslaw0_CopyState.l0 (k + 1) 2 a b c d p q r s = choruslaw0_CopyState.l0 k 3 a b c d p q c s := by
  simp only [choruslaw0_CopyState.l0]
  rw [if_pos (by decide), Option.bind_some, if_neg (by decide), if_neg (by decide), if_pos trivial, if_pos (by rw [List.length_nil]; omega)]
  kernel_rfl
theorem cp3 (k : Nat) (a b c d p q r s : List Int) (h : d.length ≤ 17592186043904) : choruslaw0_CopyState.l0 (k + 1) 3 a b c d p q r s = choruslaw0_CopyState.l0 k 4 a b c d p q r d := by
  simp only [choruslaw0_CopyState.l0]
  rw [if_pos (by decide), Option.bind_some, if_neg (by decide), if_neg (by decide), if_neg (by decide), if_pos trivial, if_pos (by rw [List.length_nil]; omega)]
  kernel_rfl
theorem cp4 (k : Nat) (a b c d p q r s : List Int) : choruslaw0_CopyState.l0 (k + 1) 4 a b c d p q r s = some (p, q, r, s) := rfl
theorem copy_state (k : Nat) (a b c d : List Int) (ha : Short k a) (hb : Short k b) (hc : Short k c) (hd : Short k d) : choruslaw0_CopyState.f k a b c d = some (a, b, c, d) := by
  unfold Short at ha hb hc hd
  obtain ⟨m, rfl⟩ : ∃ m, k = m + 5 := ⟨k - 5, by omega⟩
  unfold choruslaw0_CopyState.f
  rw [cp0 _ _ _ _ _ _ _ _ _ ha.1, cp1 _ _ _ _ _ _ _ _ _ hb.1, cp2 _ _ _ _ _ _ _ _ _ hc.1, cp3 _ _ _ _ _ _ _ _ _ hd.1, cp4]
theorem spoil_l0 (k : Nat) : ∀ (a : List Int) (i : Nat), i ≤ a.length → a.length ≤ 17592186044416 → a.length - i < k → ∃ b, choruslaw0_SpoilInts.l0 k a i = some b := by
  induction k with
  | zero => intro a i _ _ h; exact absurd h (by omega)
  | succ k ih =>
    intro a i hi hm hk
    simp only [choruslaw0_SpoilInts.l0]
    by_cases h : i < a.length
    · rw [if_pos (by omega), if_pos (by omega), show wrap64 ((i : Int) + 1) = ((i + 1 : Nat) : Int) from by rw [w64 (by omega)]; omega]
      exact ih _ (i + 1) (by rw [List.length_set]; omega) (by rw [List.length_set]; omega) (by rw [List.length_set]; omega)
    · exact ⟨a, if_neg (by omega)⟩
theorem spoil_ints (k : Nat) (a : List Int) (hm : a.length ≤ 17592186044416) (hk : a.length < k) : ∃ b, choruslaw0_SpoilInts.f k a = some b := spoil_l0 k a 0 (by omega) hm (by omega)
theorem sp0 (k : Nat) (a b c d : List Int) : choruslaw0_SpoilState.l0 (k + 1) 0 a b c d = (choruslaw0_SpoilInts.f k a).bind fun t => choruslaw0_SpoilState.l0 k 1 t b c d := by kernel_rfl
theorem sp1 (k : Nat) (a b c d : List Int) : choruslaw0_SpoilState.l0 (k + 1) 1 a b c d = (choruslaw0_SpoilInts.f k b).bind fun t => choruslaw0_SpoilState.l0 k 2 a t c d := by kernel_rfl
theorem sp2 (k : Nat) (a b c d : List Int) : choruslaw0_SpoilState.l0 (k + 1) 2 a b c d = (choruslaw0_SpoilInts.f k c).bind fun t => choruslaw0_SpoilState.l0 k 3 a b t d := by kernel_rfl
theorem sp3 (k : Nat) (a b c d : List Int) : choruslaw0_SpoilState.l0 (k + 1) 3 a b c d = (choruslaw0_SpoilInts.f k d).bind fun t => choruslaw0_SpoilState.l0 k 4 a b c t := by kernel_rfl
theorem sp4 (k : Nat) (a b c d : List Int) : choruslaw0_SpoilState.l0 (k + 1) 4 a b c d = some (a, b, c, d) := by kernel_rfl
theorem spoil_state (k : Nat) (a b c d : List Int) (ha : Short k a) (hb : Short k b) (hc : Short k c) (hd : Short k d) : ∃ s, choruslaw0_SpoilState.f k a b c d = some s := by
  unfold Short at ha hb hc hd
  obtain ⟨m, rfl⟩ : ∃ m, k = m + 5 := ⟨k - 5, by omega⟩
  unfold choruslaw0_SpoilState.f
  obtain ⟨a', ea⟩ := spoil_ints (m + 4) a (by omega) (by omega)
  obtain ⟨b', eb⟩ := spoil_ints (m + 3) b (by omega) (by omega)
  obtain ⟨c', ec⟩ := spoil_ints (m + 2) c (by omega) (by omega)
  obtain ⟨d', ed⟩ := spoil_ints (m + 1) d (by omega) (by omega)
  exact ⟨_, by rw [sp0, ea, Option.bind_some, sp1, eb, Option.bind_some, sp2, ec, Option.bind_some, sp3, ed, Option.bind_some, sp4]⟩
theorem rcp0 (k : Nat) (a b c d p q r s : List Int) (h : a.length ≤ 17592186043904) : chorusref1_CopyState.l0 (k + 1) 0 a b c d p q r s = chorusref1_CopyState.l0 k 1 a b c d a q r s := by
  simp only [chorusref1_CopyState.l0]
  rw [if_pos (by decide), Option.bind_some, if_pos trivial, if_pos (by rw [List.length_nil]; omega)]
  kernel_rfl
theorem rcp1 (k : Nat) (a b c d p q r s : List Int) (h : b.length ≤ 17592186043904) : chorusref1_CopyState.l0 (k + 1) 1 a b c d p q r s = chorusref1_CopyState.l0 k 2 a b c d p b r s := by
  simp only [chorusref1_CopyState.l0]
  rw [if_pos (by decide), Option.bind_some, if_neg (by decide), if_pos trivial, if_pos (by rw [List.length_nil]; omega)]
  kernel_rfl
theorem rcp2 (k : Nat) (a b c d p q r s : List Int) (h : c.length ≤ 17592186043904) : chorusref1_CopyState.l0 (k + 1) 2 a b c d p q r s = chorusref1_CopyState.l0 k 3 a b c d p q c s := by
  simp only [chorusref1_CopyState.l0]
  rw [if_pos (by decide), Option.bind_some, if_neg (by decide), if_neg (by decide), if_pos trivial, if_pos (by rw [List.length_nil]; omega)]
  kernel_rfl
theorem rcp3 (k : Nat) (a b c d p q r s : List Int) (h : d.length ≤ 17592186043904) : chorusref1_CopyState.l0 (k + 1) 3 a b c d p q r s = chorusref1_CopyState.l0 k 4 a b c d p q r d := by
  simp only [chorusref1_CopyState.l0]
  rw [if_pos (by decide), Option.bind_some, if_neg (by decide), if_neg (by decide), if_neg (by decide), if_pos trivial, if_pos (by rw [List.length_nil]; omega)]
  kernel_rfl
theorem rcp4 (k : Nat) (a b c d p q r s : List Int) : chorusref1_CopyState.l0 (k + 1) 4 a b c d p q r s = some (p, q, r, s) := rfl
theorem rcopy_state (k : Nat) (a b c d : List Int) (ha : Short k a) (hb : Short k b) (hc : Short k c) (hd : Short k d) : chorusref1_CopyState.f k a b c d = some (a, b, c, d) := by
  unfold Short at ha hb hc hd
  obtain ⟨m, rfl⟩ : ∃ m, k = m + 5 := ⟨k - 5, by omega⟩
  unfold chorusref1_CopyState.f
  rw [rcp0 _ _ _ _ _ _ _ _ _ ha.1, rcp1 _ _ _ _ _ _ _ _ _ hb.1, rcp2 _ _ _ _ _ _ _ _ _ hc.1, rcp3 _ _ _ _ _ _ _ _ _ hd.1, rcp4]
theorem upto_f (a lo hi : Int) : chorusref1_upTo.f a lo hi = some (decide (lo ≤ a ∧ a ≤ hi)) := by
  unfold chorusref1_upTo.f
  by_cases h : a ≥ lo
  · have : lo ≤ a := h
    simp [this]
  · have : ¬ (lo ≤ a) := by omega
    simp [this]
theorem rmay_f (c r a : Int) : chorusref1_OperMay.f c r a = some (decide (OMay c r a)) := by
  unfold chorusref1_OperMay.f
  rw [upto_f, upto_f, upto_f, Option.bind_some]
  by_cases h0 : 0 ≤ c ∧ c ≤ 3
  · rw [if_pos (by simp [h0]), Option.bind_some]
    by_cases h1 : 0 ≤ r ∧ r ≤ 3
    · rw [if_pos (by simp [h1]), Option.bind_some]
      by_cases h2 : 0 ≤ a ∧ a ≤ 255
      · rw [if_pos (by simp [h2])]
        by_cases h3 : c < 2
        · rw [if_pos h3, decide_eq_true (by unfold OMay; omega)]
        · rw [if_neg h3]
          by_cases h4 : a = 0
          · rw [if_pos h4]
            by_cases h5 : c = 2
            · rw [if_pos h5, decide_eq_true (by unfold OMay; omega)]
            · rw [if_neg h5]
              by_cases h6 : r = 0
              · rw [decide_eq_true (by unfold OMay; omega), h6]; rfl
              · rw [decide_eq_false (by unfold OMay; omega)]; simpa using h6
          · rw [if_neg h4, decide_eq_false (by unfold OMay; omega)]
      · rw [if_neg (by simp only [decide_eq_true_eq]; exact h2), decide_eq_false (by unfold OMay; omega)]
    · rw [if_neg (by simp only [decide_eq_true_eq]; exact h1), decide_eq_false (by unfold OMay; omega)]
  · rw [if_neg (by simp only [decide_eq_true_eq]; exact h0), decide_eq_false (by unfold OMay; omega)]

/-- The document's log. -/
theorem rlog_f (c r a logs : Int) : chorusref1_LogOf.f c r a logs = some (LogR c r a logs) := by
  unfold chorusref1_LogOf.f LogR
  rw [rmay_f, upto_f, Option.bind_some, Option.bind_some]
  by_cases h : OMay c r a
  · rw [if_pos (decide_eq_true h)]
    by_cases h3 : c = 3
    · rw [if_pos h3, if_neg (fun x => x.2.1 h3)]
    · rw [if_neg h3]
      by_cases hl : 1 ≤ logs ∧ logs ≤ 2
      · rw [if_pos (decide_eq_true hl), if_neg (by omega), if_pos ⟨h, h3, hl⟩]
      · rw [if_neg (by rw [decide_eq_true_eq]; exact hl), if_neg (fun x => hl x.2.2)]
  · rw [if_neg (by rw [decide_eq_true_eq]; exact h), if_neg (fun x => h x.1)]
/-- The document's rows of a log. -/
theorem rpart_f (k : Nat) (a b c d : List Int) (log logs : Int) (hw : -9223372036854775808 ≤ logs ∧ logs ≤ 9223372036854775807) (ha : Short k a) (hb : Short k b) (hc : Short k c) (hd : Short k d) :
    chorusref1_Part.f (k + 6) a b c d log logs = some (PartR a b c d log logs) := by
  unfold PartR chorusref1_Part.f
  rw [upto_f, upto_f, Option.bind_some, Option.bind_some]
  by_cases hl : 1 ≤ logs ∧ logs ≤ 2
  · rw [if_pos (decide_eq_true hl), w64 (x := logs - 1) (by omega)]
    by_cases h0 : 0 ≤ log ∧ log ≤ logs - 1
    · rw [decide_eq_true h0, if_pos (by omega)]
      rw [show chorusref1_Part.j0 (k + 6) log logs (!true) a b c d = (chorusref1_CopyState.f (k + 5) a b c d).bind fun bt => chorusref1_Part.l0 (k + 5) log logs 0 bt.1 bt.2.1 bt.2.2.1 bt.2.2.2 from rfl]
      have sh : ∀ l, Short k l → Short (k + 5) l := fun l h => by unfold Short at h ⊢; omega
      rw [rcopy_state (k + 5) a b c d (sh a ha) (sh b hb) (sh c hc) (sh d hd), Option.bind_some]
      by_cases h1 : logs = 1
      · rw [if_pos h1, h1, show log = 0 by omega]; show _ = _; kernel_rfl
      · rw [if_neg h1, show logs = 2 by omega]
        by_cases h2 : log = 0
        · rw [if_pos h2, h2]; show _ = _; kernel_rfl
        · rw [if_neg h2, show log = 1 by omega]; show _ = _; kernel_rfl
    · rw [decide_eq_false h0, if_neg (by omega)]; show _ = _; kernel_rfl
  · rw [if_neg (by rw [decide_eq_true_eq]; exact hl), if_neg (fun x => hl ⟨x.1, x.2.1⟩)]; show _ = _; kernel_rfl
theorem part_short (k : Nat) (a b c d : List Int) (log logs : Int) (ha : Short k a) (hb : Short k b) (hc : Short k c) (hd : Short k d) :
    ∃ p q r s e, PartR a b c d log logs = (p, q, r, s, e) ∧ Short k p ∧ Short k q ∧ Short k r ∧ Short k s := by
  have hn : Short k [] := by unfold Short at ha ⊢; rw [List.length_nil]; omega
  unfold PartR
  split
  · split
    · exact ⟨_, _, _, _, _, rfl, ha, hb, hc, hd⟩
    · split
      · exact ⟨_, _, _, _, _, rfl, ha, hn, hc, hn⟩
      · exact ⟨_, _, _, _, _, rfl, hn, hb, hn, hd⟩
  · exact ⟨_, _, _, _, _, rfl, hn, hn, hn, hn⟩

theorem Routes : choruslaw7_Routes.Pure := by
  intro a0 a1 a2 l0 l1 l2 l3 log logs _ _ _ h0 h1 h2 h3 _ hw
  have hw' := wf_i64 hw
  refine ⟨l0.length + l1.length + l2.length + l3.length + 47, ?_⟩
  generalize hk : l0.length + l1.length + l2.length + l3.length + 40 = k
  rw [show l0.length + l1.length + l2.length + l3.length + 47 = k + 7 by omega]
  have hs : ∀ n, Short (k + n) l0 ∧ Short (k + n) l1 ∧ Short (k + n) l2 ∧ Short (k + n) l3 := fun n => by unfold Short; omega
  unfold choruslaw7_Routes.f
  rw [copy_state (k + 7) l0 l1 l2 l3 (hs 7).1 (hs 7).2.1 (hs 7).2.2.1 (hs 7).2.2.2, Option.bind_some, log_f (k + 7) (by omega), Option.bind_some, rlog_f, Option.bind_some]
  rw [part_f (k + 1) l0 l1 l2 l3 log logs (by omega) (by omega) (by omega) (by omega), Option.bind_some, rpart_f (k + 1) l0 l1 l2 l3 log logs (by omega) (hs 1).1 (hs 1).2.1 (hs 1).2.2.1 (hs 1).2.2.2, Option.bind_some]
  obtain ⟨p, q, r, s, e, hp, bp, bq, br, bs⟩ := part_short k l0 l1 l2 l3 log logs (hs 0).1 (hs 0).2.1 (hs 0).2.2.1 (hs 0).2.2.2
  have up : ∀ n l, Short k l → Short (k + n) l := fun n l h => by unfold Short at h ⊢; omega
  rw [hp, if_pos rfl, num_f, Option.bind_some, if_pos rfl, same_state_refl (k + 7) p q r s (up 7 p bp) (up 7 q bq) (up 7 r br) (up 7 s bs), Option.bind_some, if_pos rfl, num_f, Option.bind_some, bne_self_eq_false]
  obtain ⟨w, ew⟩ := spoil_state (k + 6) p q r s (up 6 p bp) (up 6 q bq) (up 6 r br) (up 6 s bs)
  simp only [choruslaw7_Routes.j0]
  rw [if_neg (by decide), ew, Option.bind_some, same_state_refl (k + 6) l0 l1 l2 l3 (hs 6).1 (hs 6).2.1 (hs 6).2.2.1 (hs 6).2.2.2, Option.bind_some, if_pos rfl]
  rw [show choruslaw7_awake.f (k + 6) = some true from by
    obtain ⟨m, rfl⟩ : ∃ m, k = m + 10 := ⟨k - 10, by omega⟩
    kernel_rfl]
  rfl

end Go.Proofs.Ytkdjbkfcfbignaa.Pure
