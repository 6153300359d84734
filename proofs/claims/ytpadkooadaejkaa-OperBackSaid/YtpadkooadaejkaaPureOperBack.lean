/- OperBack: an operation that may be comes back out of its three bytes; it updates just by its code: the call returns true for all numbers; the arguments read as they did. -/
import Derived.Test.YtpadkooadaejkaaPOperBackx4
import Derived.Test.YtpadkooadaejkaaPlain
set_option linter.unusedVariables false
set_option linter.unusedSimpArgs false
namespace Go.Proofs.Ytpadkooadaejkaa.Pure
open Go.RowKit Go.Proofs.Ytpadkooadaejkaa.POperBack Go.Proofs.YtpadkooadaejkaaW.PrintWords Go.Proofs.YtpadkooadaejkaaW.PrintLast Go.Proofs.YtpadkooadaejkaaW.PrintMore Go.Proofs.YtpadkooadaejkaaW.Plain

/-- An operation that may be. -/
def OMay (c r a : Int) : Prop := 0 ≤ r ∧ r ≤ 3 ∧ 0 ≤ a ∧ a ≤ 255 ∧ (c = 0 ∨ c = 1 ∨ (c = 2 ∧ a = 0) ∨ (c = 3 ∧ a = 0 ∧ r = 0))
instance (c r a : Int) : Decidable (OMay c r a) := by unfold OMay; infer_instance
theorem arg_f (a : Int) : oper_Arg.f a = some (decide (0 ≤ a ∧ a ≤ 255)) := by
  unfold oper_Arg.f
  by_cases h : a ≥ 0
  · have : 0 ≤ a := h
    simp [this]
  · have : ¬ (0 ≤ a) := by omega
    simp [this]
theorem omay_f (k : Nat) (hk : 2 ≤ k) (c r a : Int) : oper_May.f k c r a = some (decide (OMay c r a)) := by
  obtain ⟨m, rfl⟩ : ∃ m, k = m + 2 := ⟨k - 2, by omega⟩
  have key : ∀ p : Bool, p = decide (OMay c r a) → oper_May.f (m + 2) c r a = some p → oper_May.f (m + 2) c r a = some (decide (OMay c r a)) := fun p hp h => by rw [h, hp]
  have no : (OMay c r a → False) → false = decide (OMay c r a) := fun h => by symm; rw [decide_eq_false_iff_not]; exact h
  have yes : OMay c r a → true = decide (OMay c r a) := fun h => by symm; rw [decide_eq_true_eq]; exact h
  unfold oper_May.f at key ⊢
  rw [arg_f] at key ⊢
  by_cases h1 : r < 0
  · exact key false (no (by unfold OMay; omega)) (by rw [if_pos h1]; simp [oper_May.j0])
  · by_cases h2 : r ≥ 4
    · exact key false (no (by unfold OMay; omega)) (by rw [if_neg h1, if_pos h2]; simp [oper_May.j0])
    · by_cases h3 : 0 ≤ a ∧ a ≤ 255
      · by_cases c0 : c = 0
        · exact key true (yes (by unfold OMay; omega)) (by rw [if_neg h1, if_neg h2]; simp [oper_May.j0, oper_May.j1, h3, c0])
        · by_cases c1 : c = 1
          · exact key true (yes (by unfold OMay; omega)) (by rw [if_neg h1, if_neg h2]; simp [oper_May.j0, oper_May.j1, h3, c1])
          · have b1 : (c == (1 : Int)) = false := by simpa using c1
            by_cases c2 : c = 2
            · by_cases ha : a = 0
              · exact key true (yes (by unfold OMay; omega)) (by rw [if_neg h1, if_neg h2]; simp [oper_May.j0, oper_May.j1, c2, ha])
              · exact key false (no (by unfold OMay; omega)) (by rw [if_neg h1, if_neg h2]; simp [oper_May.j0, oper_May.j1, h3, c2, ha])
            · by_cases c3 : c = 3
              · by_cases ha : a = 0
                · by_cases hr : r = 0
                  · exact key true (yes (by unfold OMay; omega)) (by rw [if_neg h1, if_neg h2]; simp [oper_May.j0, oper_May.j1, c3, ha, hr])
                  · exact key false (no (by unfold OMay; omega)) (by rw [if_neg h1, if_neg h2]; simp [oper_May.j0, oper_May.j1, c3, ha, hr])
                · exact key false (no (by unfold OMay; omega)) (by rw [if_neg h1, if_neg h2]; simp [oper_May.j0, oper_May.j1, h3, c3, ha])
              · exact key false (no (by unfold OMay; omega)) (by rw [if_neg h1, if_neg h2]; simp [oper_May.j0, oper_May.j1, h3, c0, b1, c2, c3])
      · exact key false (no (by unfold OMay; omega)) (by rw [if_neg h1, if_neg h2]; simp [oper_May.j0, h3])
theorem updates_f (k : Nat) (hk : 2 ≤ k) (c r a : Int) : oper_Updates.f k c r a = some (decide (OMay c r a ∧ c < 2)) := by
  unfold oper_Updates.f
  rw [omay_f k hk]
  by_cases h : OMay c r a
  · have h' := h
    unfold OMay at h'
    by_cases c0 : c = 0
    · subst c0; simp [h]
    · by_cases c1 : c = 1
      · subst c1; simp [h]
      · have : ¬ c < 2 := by omega
        simp [h, c0, c1, this]
  · simp [h]
theorem put_good (k : Nat) (hk : 2 ≤ k) (c r a : Int) (h : OMay c r a) : oper_Put.f k c r a = some (strOfNums [c, r, a], 0) := by
  unfold oper_Put.f
  rw [omay_f k hk]
  have h' := h
  unfold OMay at h'
  rw [show c % 256 = c by omega, show r % 256 = r by omega, show a % 256 = a by omega]
  simp [h]
theorem put_bad (k : Nat) (hk : 2 ≤ k) (c r a : Int) (h : ¬ OMay c r a) : oper_Put.f k c r a = some (⟨#[]⟩, 200) := by
  unfold oper_Put.f
  rw [omay_f k hk]
  simp [h]
theorem bt_w (s : ByteArray) (i : Int) : wrap64 (bt s i) = bt s i := w64 (by have := bt_range s i; omega)
theorem get_f (k : Nat) (hk : 2 ≤ k) (s : ByteArray) : oper_Get.f k s = if s.size = 3 ∧ OMay (bt s 0) (bt s 1) (bt s 2) then some (bt s 0, bt s 1, bt s 2, 0) else some (0, 0, 0, 200) := by
  unfold oper_Get.f
  rw [omay_f k hk, bt_w, bt_w, bt_w]
  by_cases h : s.size = 3
  · have e : (s.size : Int) = 3 := by omega
    rw [if_pos e, if_pos (by omega), if_pos (by omega), if_pos (by omega)]
    by_cases hm : OMay (bt s 0) (bt s 1) (bt s 2)
    · simp [h, hm]
    · simp [hm]
  · have e : ¬ (s.size : Int) = 3 := by omega
    rw [if_neg e, if_neg (fun x => h x.1)]
theorem bt_nums (c r a : Int) (h : OMay c r a) : bt (strOfNums [c, r, a]) 0 = c ∧ bt (strOfNums [c, r, a]) 1 = r ∧ bt (strOfNums [c, r, a]) 2 = a := by
  unfold OMay at h
  have g : ∀ x : Int, 0 ≤ x → x < 256 → ((UInt8.ofNat x.toNat).toNat : Int) = x := fun x h0 h1 => by
    rw [UInt8.toNat_ofNat']
    omega
  refine ⟨?_, ?_, ?_⟩
  · exact g c (by omega) (by omega)
  · exact g r (by omega) (by omega)
  · exact g a (by omega) (by omega)
theorem size_nums (c r a : Int) : (strOfNums [c, r, a]).size = 3 := strOfNums_size _
theorem get_put (k : Nat) (hk : 2 ≤ k) (c r a : Int) (h : OMay c r a) : oper_Get.f k (strOfNums [c, r, a]) = some (c, r, a, 0) := by
  obtain ⟨b0, b1, b2⟩ := bt_nums c r a h
  have hs := size_nums c r a
  generalize strOfNums [c, r, a] = s at b0 b1 b2 hs ⊢
  rw [get_f k hk, b0, b1, b2]
  exact if_pos ⟨hs, h⟩
theorem get_none (k : Nat) (hk : 2 ≤ k) : oper_Get.f k (⟨#[]⟩ : ByteArray) = some (0, 0, 0, 200) := by
  rw [get_f k hk]
  exact if_neg (fun h => absurd h.1 (by decide))
theorem list_127 : (strOfNums [1, 2, 7]).toList = ([1, 2, 7] : List UInt8) := by
  rw [ByteArray.toList_eq]; decide +kernel
theorem awake_f (k : Nat) (hk : 2 ≤ k) : choruslaw2_awake.f k = some true := by
  unfold choruslaw2_awake.f
  have h1 : OMay 1 2 7 := by decide
  have h2 : ¬ OMay 3 1 0 := by decide
  have h3 : ¬ (OMay 2 0 0 ∧ (2 : Int) < 2) := by decide
  have h4 : OMay 1 2 7 ∧ (1 : Int) < 2 := by decide
  have hl := list_127
  have hg := get_put k hk 1 2 7 h1
  rw [put_good k hk 1 2 7 h1, put_bad k hk 3 1 0 h2, updates_f k hk, updates_f k hk, omay_f k hk]
  generalize strOfNums [1, 2, 7] = s at hl hg ⊢
  simp only [Option.bind_some]
  rw [hg, get_none k hk, hl, decide_eq_true h1, decide_eq_true h4, decide_eq_false h3]
  decide +kernel

theorem num_f (a : Int) : choruslaw0_Num.f a = some a := rfl
theorem back (k : Nat) (hk : 2 ≤ k) (c r a : Int) (h : OMay c r a) : choruslaw2_OperBack.j1 (k + 1) c r a = some true := by
  have hg := get_put k hk c r a h
  have hs := size_nums c r a
  have hp := put_good k hk c r a h
  have hm := omay_f k hk c r a
  have hu := updates_f k hk c r a
  generalize strOfNums [c, r, a] = s at hg hs hp
  rw [decide_eq_true h] at hm
  rw [show decide (OMay c r a ∧ c < 2) = decide (c < 2) from by simp [h]] at hu
  have hs' : (s.size : Int) = 3 := by omega
  simp only [choruslaw2_OperBack.j1]
  rw [hp, Option.bind_some, hg, Option.bind_some, num_f, Option.bind_some, if_pos rfl, if_pos hs', Option.bind_some, if_pos rfl, if_pos (by simp), hm, Option.bind_some, if_pos rfl, hu, Option.bind_some, if_pos (by simp)]

theorem OperBack : choruslaw2_OperBack.Pure := by
  intro a0 a1 a2 _ _ _
  refine ⟨4, ?_⟩
  unfold choruslaw2_OperBack.f
  rw [awake_f 4 (by decide), and3, and3, and255]
  simp only [Option.bind_some, if_true]
  by_cases h2 : a0 % 4 ≥ 2
  · rw [if_pos h2]
    simp only [choruslaw2_OperBack.j0]
    by_cases h3 : a0 % 4 = 3
    · rw [if_pos h3]
      exact back 2 (by decide) _ _ _ (by unfold OMay; omega)
    · rw [if_neg h3]
      exact back 2 (by decide) _ _ _ (by unfold OMay; omega)
  · rw [if_neg h2]
    simp only [choruslaw2_OperBack.j0]
    rw [if_neg (by omega)]
    exact back 2 (by decide) _ _ _ (by unfold OMay; omega)

end Go.Proofs.Ytpadkooadaejkaa.Pure
