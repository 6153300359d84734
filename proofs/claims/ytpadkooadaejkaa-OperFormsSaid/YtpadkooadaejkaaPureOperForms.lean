/- OperForms: operations that may not be, and texts that are none, are told as such: the call returns true for all numbers; the arguments read as they did. -/
import Derived.Test.YtpadkooadaejkaaPOperFormsx3
import Derived.Test.YtpadkooadaejkaaPlain
set_option linter.unusedVariables false
set_option linter.unusedSimpArgs false
namespace Go.Proofs.Ytpadkooadaejkaa.Pure
open Go.RowKit Go.Proofs.Ytpadkooadaejkaa.POperForms Go.Proofs.YtpadkooadaejkaaW.PrintWords Go.Proofs.YtpadkooadaejkaaW.PrintLast Go.Proofs.YtpadkooadaejkaaW.PrintMore Go.Proofs.YtpadkooadaejkaaW.Plain

/-- An operation that may be. -/
def OMay (c r a : Int) : Prop := 0 ≤ r ∧ r ≤ 3 ∧ 0 ≤ a ∧ a ≤ 255 ∧ (c = 0 ∨ c = 1 ∨ (c = 2 ∧ a = 0) ∨ (c = 3 ∧ a = 0 ∧ r = 0))
instance (c r a : Int) : Decidable (OMay c r a) := by unfold OMay; infer_instance
theorem arg_f (a : Int) : oper_Arg.f a = some (decide (0 ≤ a ∧ a ≤ 255)) := by
  unfold oper_Arg.f
  by_cases h : a ≥ 0
  · have : 0 ≤ a := h
    simp [this]
  · have : ¬ (0 ≤ a) := by omega
    simp [this]
theorem omay_f (k : Nat) (hk : 2 ≤ k) (c r a : Int) : oper_May.f k c r a = some (decide (OMay c r a)) := by
  obtain ⟨m, rfl⟩ : ∃ m, k = m + 2 := ⟨k - 2, by omega⟩
  have key : ∀ p : Bool, p = decide (OMay c r a) → oper_May.f (m + 2) c r a = some p → oper_May.f (m + 2) c r a = some (decide (OMay c r a)) := fun p hp h => by rw [h, hp]
  have no : (OMay c r a → False) → false = decide (OMay c r a) := fun h => by symm; rw [decide_eq_false_iff_not]; exact h
  have yes : OMay c r a → true = decide (OMay c r a) := fun h => by symm; rw [decide_eq_true_eq]; exact h
  unfold oper_May.f at key ⊢
  rw [arg_f] at key ⊢
  by_cases h1 : r < 0
  · exact key false (no (by unfold OMay; omega)) (by rw [if_pos h1]; simp [oper_May.j0])
  · by_cases h2 : r ≥ 4
    · exact key false (no (by unfold OMay; omega)) (by rw [if_neg h1, if_pos h2]; simp [oper_May.j0])
    · by_cases h3 : 0 ≤ a ∧ a ≤ 255
      · by_cases c0 : c = 0
        · exact key true (yes (by unfold OMay; omega)) (by rw [if_neg h1, if_neg h2]; simp [oper_May.j0, oper_May.j1, h3, c0])
        · by_cases c1 : c = 1
          · exact key true (yes (by unfold OMay; omega)) (by rw [if_neg h1, if_neg h2]; simp [oper_May.j0, oper_May.j1, h3, c1])
          · have b1 : (c == (1 : Int)) = false := by simpa using c1
            by_cases c2 : c = 2
            · by_cases ha : a = 0
              · exact key true (yes (by unfold OMay; omega)) (by rw [if_neg h1, if_neg h2]; simp [oper_May.j0, oper_May.j1, c2, ha])
              · exact key false (no (by unfold OMay; omega)) (by rw [if_neg h1, if_neg h2]; simp [oper_May.j0, oper_May.j1, h3, c2, ha])
            · by_cases c3 : c = 3
              · by_cases ha : a = 0
                · by_cases hr : r = 0
                  · exact key true (yes (by unfold OMay; omega)) (by rw [if_neg h1, if_neg h2]; simp [oper_May.j0, oper_May.j1, c3, ha, hr])
                  · exact key false (no (by unfold OMay; omega)) (by rw [if_neg h1, if_neg h2]; simp [oper_May.j0, oper_May.j1, c3, ha, hr])
                · exact key false (no (by unfold OMay; omega)) (by rw [if_neg h1, if_neg h2]; simp [oper_May.j0, oper_May.j1, h3, c3, ha])
              · exact key false (no (by unfold OMay; omega)) (by rw [if_neg h1, if_neg h2]; simp [oper_May.j0, oper_May.j1, h3, c0, b1, c2, c3])
      · exact key false (no (by unfold OMay; omega)) (by rw [if_neg h1, if_neg h2]; simp [oper_May.j0, h3])
theorem updates_f (k : Nat) (hk : 2 ≤ k) (c r a : Int) : oper_Updates.f k c r a = some (decide (OMay c r a ∧ c < 2)) := by
  unfold oper_Updates.f
  rw [omay_f k hk]
  by_cases h : OMay c r a
  · have h' := h
    unfold OMay at h'
    by_cases c0 : c = 0
    · subst c0; simp [h]
    · by_cases c1 : c = 1
      · subst c1; simp [h]
      · have : ¬ c < 2 := by omega
        simp [h, c0, c1, this]
  · simp [h]
theorem put_good (k : Nat) (hk : 2 ≤ k) (c r a : Int) (h : OMay c r a) : oper_Put.f k c r a = some (strOfNums [c, r, a], 0) := by
  unfold oper_Put.f
  rw [omay_f k hk]
  have h' := h
  unfold OMay at h'
  rw [show c % 256 = c by omega, show r % 256 = r by omega, show a % 256 = a by omega]
  simp [h]
theorem put_bad (k : Nat) (hk : 2 ≤ k) (c r a : Int) (h : ¬ OMay c r a) : oper_Put.f k c r a = some (⟨#[]⟩, 200) := by
  unfold oper_Put.f
  rw [omay_f k hk]
  simp [h]
theorem bt_w (s : ByteArray) (i : Int) : wrap64 (bt s i) = bt s i := w64 (by have := bt_range s i; omega)
theorem get_f (k : Nat) (hk : 2 ≤ k) (s : ByteArray) : oper_Get.f k s = if s.size = 3 ∧ OMay (bt s 0) (bt s 1) (bt s 2) then some (bt s 0, bt s 1, bt s 2, 0) else some (0, 0, 0, 200) := by
  unfold oper_Get.f
  rw [omay_f k hk, bt_w, bt_w, bt_w]
  by_cases h : s.size = 3
  · have e : (s.size : Int) = 3 := by omega
    rw [if_pos e, if_pos (by omega), if_pos (by omega), if_pos (by omega)]
    by_cases hm : OMay (bt s 0) (bt s 1) (bt s 2)
    · simp [h, hm]
    · simp [hm]
  · have e : ¬ (s.size : Int) = 3 := by omega
    rw [if_neg e, if_neg (fun x => h x.1)]
theorem bt_nums (c r a : Int) (h : OMay c r a) : bt (strOfNums [c, r, a]) 0 = c ∧ bt (strOfNums [c, r, a]) 1 = r ∧ bt (strOfNums [c, r, a]) 2 = a := by
  unfold OMay at h
  have g : ∀ x : Int, 0 ≤ x → x < 256 → ((UInt8.ofNat x.toNat).toNat : Int) = x := fun x h0 h1 => by
    rw [UInt8.toNat_ofNat']
    omega
  refine ⟨?_, ?_, ?_⟩
  · exact g c (by omega) (by omega)
  · exact g r (by omega) (by omega)
  · exact g a (by omega) (by omega)
theorem size_nums (c r a : Int) : (strOfNums [c, r, a]).size = 3 := strOfNums_size _
theorem get_put (k : Nat) (hk : 2 ≤ k) (c r a : Int) (h : OMay c r a) : oper_Get.f k (strOfNums [c, r, a]) = some (c, r, a, 0) := by
  obtain ⟨b0, b1, b2⟩ := bt_nums c r a h
  have hs := size_nums c r a
  generalize strOfNums [c, r, a] = s at b0 b1 b2 hs ⊢
  rw [get_f k hk, b0, b1, b2]
  exact if_pos ⟨hs, h⟩
theorem get_none (k : Nat) (hk : 2 ≤ k) : oper_Get.f k (⟨#[]⟩ : ByteArray) = some (0, 0, 0, 200) := by
  rw [get_f k hk]
  exact if_neg (fun h => absurd h.1 (by decide))
theorem list_127 : (strOfNums [1, 2, 7]).toList = ([1, 2, 7] : List UInt8) := by
  rw [ByteArray.toList_eq]; decide +kernel
theorem awake_f (k : Nat) (hk : 2 ≤ k) : choruslaw2_awake.f k = some true := by
  unfold choruslaw2_awake.f
  have h1 : OMay 1 2 7 := by decide
  have h2 : ¬ OMay 3 1 0 := by decide
  have h3 : ¬ (OMay 2 0 0 ∧ (2 : Int) < 2) := by decide
  have h4 : OMay 1 2 7 ∧ (1 : Int) < 2 := by decide
  have hl := list_127
  have hg := get_put k hk 1 2 7 h1
  rw [put_good k hk 1 2 7 h1, put_bad k hk 3 1 0 h2, updates_f k hk, updates_f k hk, omay_f k hk]
  generalize strOfNums [1, 2, 7] = s at hl hg ⊢
  simp only [Option.bind_some]
  rw [hg, get_none k hk, hl, decide_eq_true h1, decide_eq_true h4, decide_eq_false h3]
  decide +kernel

theorem OperForms : choruslaw2_OperForms.Pure := by
  intro a0 a1 _ _
  refine ⟨2, ?_⟩
  unfold choruslaw2_OperForms.f
  rw [awake_f 2 (by decide), and1023, u64w]
  have hd : 0 ≤ a1 % 1024 ∧ a1 % 1024 < 1024 := by omega
  generalize a1 % 1024 = d at hd ⊢
  have hi : 0 ≤ a0 % 18446744073709551616 ∧ a0 % 18446744073709551616 < 18446744073709551616 := by omega
  rw [w64 (x := 1 + d) (by omega), w64 (x := -(1 + d)) (by omega), w64 (x := 3 + (1 + d)) (by omega), w64 (x := 255 + (1 + d)) (by omega), tmod_pos hi.1, w64 (x := a0 % 18446744073709551616 % 9) (by omega)]
  have hj : a0 % 18446744073709551616 % 9 = 0 ∨ a0 % 18446744073709551616 % 9 = 1 ∨ a0 % 18446744073709551616 % 9 = 2 ∨ a0 % 18446744073709551616 % 9 = 3 ∨ a0 % 18446744073709551616 % 9 = 4 ∨ a0 % 18446744073709551616 % 9 = 5 ∨ a0 % 18446744073709551616 % 9 = 6 ∨ a0 % 18446744073709551616 % 9 = 7 ∨ a0 % 18446744073709551616 % 9 = 8 := by omega
  generalize a0 % 18446744073709551616 % 9 = j at hj ⊢
  simp only [Option.bind_some, if_true]
  have fin : ∀ (c r a : Int) (s : ByteArray), ¬ OMay c r a → ¬ (s.size = 3 ∧ OMay (bt s 0) (bt s 1) (bt s 2)) →
      (oper_Put.f 2 c r a).bind (fun bt141 => (oper_Get.f 2 s).bind fun bt147 => (oper_May.f 2 c r a).bind fun t152 => (if t152 = true then (some false) else ((oper_Updates.f 2 c r a).bind fun t153 => (if t153 = true then (some false) else (if bt141.1.toList = ([] : List UInt8) then ((choruslaw0_Num.f bt141.2).bind fun t154 => (if t154 = 200 then ((choruslaw0_Num.f bt147.2.2.2).bind fun t155 => (if t155 = 200 then (some true) else (some false))) else (some false))) else (some false)))))) = some true := by
    intro c r a s h1 h2
    rw [put_bad 2 (by decide) c r a h1, get_f 2 (by decide), if_neg h2, omay_f 2 (by decide), updates_f 2 (by decide)]
    simp only [Option.bind_some]
    rw [if_neg (by simp [h1])]
    simp only [h1, false_and, decide_false, Bool.false_eq_true, if_false, choruslaw0_Num.f, Option.bind_some, if_true]
    rw [if_pos (by rw [ByteArray.toList_eq])]
  rcases hj with h | h | h | h | h | h | h | h | h <;> subst h
  · rw [if_pos (by omega), if_pos (by simp)]
    exact fin (-(1 + d)) 0 0 (⟨#[]⟩) (by unfold OMay; omega) (by decide +kernel)
  · rw [if_pos (by omega), if_pos (by simp)]
    exact fin (3 + (1 + d)) 0 0 (⟨#[0]⟩) (by unfold OMay; omega) (by decide +kernel)
  · rw [if_pos (by omega), if_pos (by simp)]
    exact fin 0 (-(1 + d)) 0 (⟨#[0, 0]⟩) (by unfold OMay; omega) (by decide +kernel)
  · rw [if_pos (by omega), if_pos (by simp)]
    exact fin 0 (3 + (1 + d)) 0 (⟨#[0, 0, 0, 0]⟩) (by unfold OMay; omega) (by decide +kernel)
  · rw [if_pos (by omega), if_pos (by simp)]
    exact fin 0 0 (-(1 + d)) (⟨#[4, 0, 0]⟩) (by unfold OMay; omega) (by decide +kernel)
  · rw [if_pos (by omega), if_pos (by simp)]
    exact fin 0 0 (255 + (1 + d)) (⟨#[0, 4, 0]⟩) (by unfold OMay; omega) (by decide +kernel)
  · rw [if_pos (by omega), if_pos (by simp)]
    exact fin 2 0 1 (⟨#[2, 0, 1]⟩) (by decide) (by decide +kernel)
  · rw [if_pos (by omega), if_pos (by simp)]
    exact fin 3 0 1 (⟨#[3, 0, 1]⟩) (by decide) (by decide +kernel)
  · rw [if_pos (by omega), if_pos (by simp)]
    exact fin 3 1 0 (⟨#[3, 1, 0]⟩) (by decide) (by decide +kernel)

end Go.Proofs.Ytpadkooadaejkaa.Pure
