/- Opers: the program's codec of operations answers as the plain one, and the text tells an operation: the call returns true for all operations and texts; the arguments read as they did. -/
import Derived.Test.YtpadkooadaejkaaPOpersx5
import Derived.Test.YtpadkooadaejkaaPlain
set_option linter.unusedVariables false
set_option linter.unusedSimpArgs false
namespace Go.Proofs.Ytpadkooadaejkaa.Pure
open Go.RowKit Go.Proofs.Ytpadkooadaejkaa.POpers Go.Proofs.YtpadkooadaejkaaW.PrintWords Go.Proofs.YtpadkooadaejkaaW.PrintLast Go.Proofs.YtpadkooadaejkaaW.PrintMore Go.Proofs.YtpadkooadaejkaaW.Plain

/-- An operation that may be. -/
def OMay (c r a : Int) : Prop := 0 ≤ r ∧ r ≤ 3 ∧ 0 ≤ a ∧ a ≤ 255 ∧ (c = 0 ∨ c = 1 ∨ (c = 2 ∧ a = 0) ∨ (c = 3 ∧ a = 0 ∧ r = 0))
instance (c r a : Int) : Decidable (OMay c r a) := by unfold OMay; infer_instance
theorem arg_f (a : Int) : oper_Arg.f a = some (decide (0 ≤ a ∧ a ≤ 255)) := by
  unfold oper_Arg.f
  by_cases h : a ≥ 0
  · have : 0 ≤ a := h
    simp [this]
  · have : ¬ (0 ≤ a) := by omega
    simp [this]
theorem omay_f (k : Nat) (hk : 2 ≤ k) (c r a : Int) : oper_May.f k c r a = some (decide (OMay c r a)) := by
  obtain ⟨m, rfl⟩ : ∃ m, k = m + 2 := ⟨k - 2, by omega⟩
  have key : ∀ p : Bool, p = decide (OMay c r a) → oper_May.f (m + 2) c r a = some p → oper_May.f (m + 2) c r a = some (decide (OMay c r a)) := fun p hp h => by rw [h, hp]
  have no : (OMay c r a → False) → false = decide (OMay c r a) := fun h => by symm; rw [decide_eq_false_iff_not]; exact h
  have yes : OMay c r a → true = decide (OMay c r a) := fun h => by symm; rw [decide_eq_true_eq]; exact h
  unfold oper_May.f at key ⊢
  rw [arg_f] at key ⊢
  by_cases h1 : r < 0
  · exact key false (no (by unfold OMay; omega)) (by rw [if_pos h1]; simp [oper_May.j0])
  · by_cases h2 : r ≥ 4
    · exact key false (no (by unfold OMay; omega)) (by rw [if_neg h1, if_pos h2]; simp [oper_May.j0])
    · by_cases h3 : 0 ≤ a ∧ a ≤ 255
      · by_cases c0 : c = 0
        · exact key true (yes (by unfold OMay; omega)) (by rw [if_neg h1, if_neg h2]; simp [oper_May.j0, oper_May.j1, h3, c0])
        · by_cases c1 : c = 1
          · exact key true (yes (by unfold OMay; omega)) (by rw [if_neg h1, if_neg h2]; simp [oper_May.j0, oper_May.j1, h3, c1])
          · have b1 : (c == (1 : Int)) = false := by simpa using c1
            by_cases c2 : c = 2
            · by_cases ha : a = 0
              · exact key true (yes (by unfold OMay; omega)) (by rw [if_neg h1, if_neg h2]; simp [oper_May.j0, oper_May.j1, c2, ha])
              · exact key false (no (by unfold OMay; omega)) (by rw [if_neg h1, if_neg h2]; simp [oper_May.j0, oper_May.j1, h3, c2, ha])
            · by_cases c3 : c = 3
              · by_cases ha : a = 0
                · by_cases hr : r = 0
                  · exact key true (yes (by unfold OMay; omega)) (by rw [if_neg h1, if_neg h2]; simp [oper_May.j0, oper_May.j1, c3, ha, hr])
                  · exact key false (no (by unfold OMay; omega)) (by rw [if_neg h1, if_neg h2]; simp [oper_May.j0, oper_May.j1, c3, ha, hr])
                · exact key false (no (by unfold OMay; omega)) (by rw [if_neg h1, if_neg h2]; simp [oper_May.j0, oper_May.j1, h3, c3, ha])
              · exact key false (no (by unfold OMay; omega)) (by rw [if_neg h1, if_neg h2]; simp [oper_May.j0, oper_May.j1, h3, c0, b1, c2, c3])
      · exact key false (no (by unfold OMay; omega)) (by rw [if_neg h1, if_neg h2]; simp [oper_May.j0, h3])
theorem updates_f (k : Nat) (hk : 2 ≤ k) (c r a : Int) : oper_Updates.f k c r a = some (decide (OMay c r a ∧ c < 2)) := by
  unfold oper_Updates.f
  rw [omay_f k hk]
  by_cases h : OMay c r a
  · have h' := h
    unfold OMay at h'
    by_cases c0 : c = 0
    · subst c0; simp [h]
    · by_cases c1 : c = 1
      · subst c1; simp [h]
      · have : ¬ c < 2 := by omega
        simp [h, c0, c1, this]
  · simp [h]
theorem put_good (k : Nat) (hk : 2 ≤ k) (c r a : Int) (h : OMay c r a) : oper_Put.f k c r a = some (strOfNums [c, r, a], 0) := by
  unfold oper_Put.f
  rw [omay_f k hk]
  have h' := h
  unfold OMay at h'
  rw [show c % 256 = c by omega, show r % 256 = r by omega, show a % 256 = a by omega]
  simp [h]
theorem put_bad (k : Nat) (hk : 2 ≤ k) (c r a : Int) (h : ¬ OMay c r a) : oper_Put.f k c r a = some (⟨#[]⟩, 200) := by
  unfold oper_Put.f
  rw [omay_f k hk]
  simp [h]
theorem bt_w (s : ByteArray) (i : Int) : wrap64 (bt s i) = bt s i := w64 (by have := bt_range s i; omega)
theorem get_f (k : Nat) (hk : 2 ≤ k) (s : ByteArray) : oper_Get.f k s = if s.size = 3 ∧ OMay (bt s 0) (bt s 1) (bt s 2) then some (bt s 0, bt s 1, bt s 2, 0) else some (0, 0, 0, 200) := by
  unfold oper_Get.f
  rw [omay_f k hk, bt_w, bt_w, bt_w]
  by_cases h : s.size = 3
  · have e : (s.size : Int) = 3 := by omega
    rw [if_pos e, if_pos (by omega), if_pos (by omega), if_pos (by omega)]
    by_cases hm : OMay (bt s 0) (bt s 1) (bt s 2)
    · simp [h, hm]
    · simp [hm]
  · have e : ¬ (s.size : Int) = 3 := by omega
    rw [if_neg e, if_neg (fun x => h x.1)]
theorem bt_nums (c r a : Int) (h : OMay c r a) : bt (strOfNums [c, r, a]) 0 = c ∧ bt (strOfNums [c, r, a]) 1 = r ∧ bt (strOfNums [c, r, a]) 2 = a := by
  unfold OMay at h
  have g : ∀ x : Int, 0 ≤ x → x < 256 → ((UInt8.ofNat x.toNat).toNat : Int) = x := fun x h0 h1 => by
    rw [UInt8.toNat_ofNat']
    omega
  refine ⟨?_, ?_, ?_⟩
  · exact g c (by omega) (by omega)
  · exact g r (by omega) (by omega)
  · exact g a (by omega) (by omega)
theorem size_nums (c r a : Int) : (strOfNums [c, r, a]).size = 3 := strOfNums_size _
theorem get_put (k : Nat) (hk : 2 ≤ k) (c r a : Int) (h : OMay c r a) : oper_Get.f k (strOfNums [c, r, a]) = some (c, r, a, 0) := by
  obtain ⟨b0, b1, b2⟩ := bt_nums c r a h
  have hs := size_nums c r a
  generalize strOfNums [c, r, a] = s at b0 b1 b2 hs ⊢
  rw [get_f k hk, b0, b1, b2]
  exact if_pos ⟨hs, h⟩
theorem get_none (k : Nat) (hk : 2 ≤ k) : oper_Get.f k (⟨#[]⟩ : ByteArray) = some (0, 0, 0, 200) := by
  rw [get_f k hk]
  exact if_neg (fun h => absurd h.1 (by decide))
theorem list_127 : (strOfNums [1, 2, 7]).toList = ([1, 2, 7] : List UInt8) := by
  rw [ByteArray.toList_eq]; decide +kernel
theorem awake_f (k : Nat) (hk : 2 ≤ k) : choruslaw2_awake.f k = some true := by
  unfold choruslaw2_awake.f
  have h1 : OMay 1 2 7 := by decide
  have h2 : ¬ OMay 3 1 0 := by decide
  have h3 : ¬ (OMay 2 0 0 ∧ (2 : Int) < 2) := by decide
  have h4 : OMay 1 2 7 ∧ (1 : Int) < 2 := by decide
  have hl := list_127
  have hg := get_put k hk 1 2 7 h1
  rw [put_good k hk 1 2 7 h1, put_bad k hk 3 1 0 h2, updates_f k hk, updates_f k hk, omay_f k hk]
  generalize strOfNums [1, 2, 7] = s at hl hg ⊢
  simp only [Option.bind_some]
  rw [hg, get_none k hk, hl, decide_eq_true h1, decide_eq_true h4, decide_eq_false h3]
  decide +kernel
theorem num_f (a : Int) : choruslaw0_Num.f a = some a := rfl
theorem upto_f (a lo hi : Int) : chorusref1_upTo.f a lo hi = some (decide (lo ≤ a ∧ a ≤ hi)) := by
  unfold chorusref1_upTo.f
  by_cases h : a ≥ lo
  · have : lo ≤ a := h
    simp [this]
  · have : ¬ (lo ≤ a) := by omega
    simp [this]
theorem rmay_f (c r a : Int) : chorusref1_OperMay.f c r a = some (decide (OMay c r a)) := by
  unfold chorusref1_OperMay.f
  rw [upto_f, upto_f, upto_f, Option.bind_some]
  by_cases h0 : 0 ≤ c ∧ c ≤ 3
  · rw [if_pos (by simp [h0]), Option.bind_some]
    by_cases h1 : 0 ≤ r ∧ r ≤ 3
    · rw [if_pos (by simp [h1]), Option.bind_some]
      by_cases h2 : 0 ≤ a ∧ a ≤ 255
      · rw [if_pos (by simp [h2])]
        by_cases h3 : c < 2
        · rw [if_pos h3, decide_eq_true (by unfold OMay; omega)]
        · rw [if_neg h3]
          by_cases h4 : a = 0
          · rw [if_pos h4]
            by_cases h5 : c = 2
            · rw [if_pos h5, decide_eq_true (by unfold OMay; omega)]
            · rw [if_neg h5]
              by_cases h6 : r = 0
              · rw [decide_eq_true (by unfold OMay; omega), h6]; rfl
              · rw [decide_eq_false (by unfold OMay; omega)]; simpa using h6
          · rw [if_neg h4, decide_eq_false (by unfold OMay; omega)]
      · rw [if_neg (by simp only [decide_eq_true_eq]; exact h2), decide_eq_false (by unfold OMay; omega)]
    · rw [if_neg (by simp only [decide_eq_true_eq]; exact h1), decide_eq_false (by unfold OMay; omega)]
  · rw [if_neg (by simp only [decide_eq_true_eq]; exact h0), decide_eq_false (by unfold OMay; omega)]
theorem put_ref (k : Nat) (hk : 2 ≤ k) (c r a : Int) : chorusref1_PutOper.f c r a = oper_Put.f k c r a := by
  unfold chorusref1_PutOper.f
  rw [rmay_f, Option.bind_some]
  by_cases h : OMay c r a
  · rw [if_pos (by simp [h]), put_good k hk c r a h]
    have h' := h
    unfold OMay at h'
    rw [show c % 256 = c by omega, show r % 256 = r by omega, show a % 256 = a by omega]
  · rw [if_neg (by simp [h]), put_bad k hk c r a h]
theorem get_ref (k : Nat) (hk : 2 ≤ k) (s : ByteArray) : chorusref1_GetOper.f s = oper_Get.f k s := by
  rw [get_f k hk]
  unfold chorusref1_GetOper.f
  rw [rmay_f, bt_w, bt_w, bt_w]
  by_cases h : s.size = 3
  · have e : (s.size : Int) = 3 := by omega
    rw [if_pos e, if_pos (by omega), if_pos (by omega), if_pos (by omega), Option.bind_some]
    by_cases hm : OMay (bt s 0) (bt s 1) (bt s 2)
    · rw [if_pos (by simp [hm]), if_pos ⟨h, hm⟩]
    · rw [if_neg (by simp [hm]), if_neg (fun x => hm x.2)]
  · have e : ¬ (s.size : Int) = 3 := by omega
    rw [if_neg e, if_neg (fun x => h x.1)]
theorem upd_ref (c r a : Int) : chorusref1_Updates.f c r a = some (decide (OMay c r a ∧ c < 2)) := by
  unfold chorusref1_Updates.f
  rw [rmay_f, Option.bind_some]
  by_cases h : OMay c r a
  · rw [if_pos (by simp [h])]
    simp only [h, true_and]
  · rw [if_neg (by simp [h])]
    simp only [h, false_and, decide_false]
theorem put_get (k : Nat) (hk : 2 ≤ k) (c r a : Int) : ∃ s e, oper_Put.f k c r a = some (s, e) ∧ (e = 0 → OMay c r a ∧ s = strOfNums [c, r, a]) := by
  by_cases h : OMay c r a
  · exact ⟨_, _, put_good k hk c r a h, fun _ => ⟨h, rfl⟩⟩
  · exact ⟨_, _, put_bad k hk c r a h, fun e => absurd e (by decide)⟩
theorem get_get (k : Nat) (hk : 2 ≤ k) (s : ByteArray) : ∃ c r a e, oper_Get.f k s = some (c, r, a, e) := by
  rw [get_f k hk]
  by_cases h : s.size = 3 ∧ OMay (bt s 0) (bt s 1) (bt s 2)
  · exact ⟨_, _, _, _, if_pos h⟩
  · exact ⟨_, _, _, _, if_neg h⟩
theorem nums_inj (c r a c' r' a' : Int) (h : OMay c r a) (h' : OMay c' r' a') (e : (strOfNums [c, r, a]).toList = (strOfNums [c', r', a']).toList) : c = c' ∧ r = r' ∧ a = a' := by
  have e' : strOfNums [c, r, a] = strOfNums [c', r', a'] := by
    rw [ByteArray.toList_eq, ByteArray.toList_eq] at e
    exact ByteArray.ext (Array.toList_inj.1 e)
  obtain ⟨b0, b1, b2⟩ := bt_nums c r a h
  obtain ⟨d0, d1, d2⟩ := bt_nums c' r' a' h'
  rw [e'] at b0 b1 b2
  exact ⟨b0.symm.trans d0, b1.symm.trans d1, b2.symm.trans d2⟩
theorem last (k : Nat) (hk : 2 ≤ k) (c r a c' r' a' : Int) (s s' : ByteArray) (e e' : Int) (h : e = 0 → OMay c r a ∧ s = strOfNums [c, r, a]) (h' : e' = 0 → OMay c' r' a' ∧ s' = strOfNums [c', r', a']) :
    choruslaw2_Opers.j0 (k + 1) s e s' e' false c r a c' r' a' = some true := by
  simp only [choruslaw2_Opers.j0]
  rw [if_neg (by decide), num_f, Option.bind_some, awake_f k hk, Option.bind_some, if_pos rfl]
  by_cases he : e = 0
  · rw [if_pos he, num_f, Option.bind_some]
    by_cases he' : e' = 0
    · rw [if_pos he']
      obtain ⟨m, hs⟩ := h he
      obtain ⟨m', hs'⟩ := h' he'
      refine if_pos ?_
      have key : (s.toList == s'.toList) = (c == c' && (r == r' && a == a')) := by
        by_cases x : s.toList = s'.toList
        · have y := nums_inj c r a c' r' a' m m' (by rw [← hs, ← hs']; exact x)
          rw [beq_iff_eq.2 x, beq_iff_eq.2 y.1, beq_iff_eq.2 y.2.1, beq_iff_eq.2 y.2.2]; rfl
        · rw [beq_eq_false_iff_ne.2 x]
          symm
          rw [Bool.eq_false_iff]
          intro y
          rw [Bool.and_eq_true, Bool.and_eq_true, beq_iff_eq, beq_iff_eq, beq_iff_eq] at y
          refine x ?_
          rw [hs, hs', y.1, y.2.1, y.2.2]
      rw [key, beq_self_eq_true]
    · rw [if_neg he']
  · rw [if_neg he]

theorem Opers : choruslaw2_Opers.Pure := by
  intro c r a c' r' a' s _ _ _ _ _ _ _
  refine ⟨3, ?_⟩
  unfold choruslaw2_Opers.f
  rw [put_ref 3 (by decide), get_ref 3 (by decide), omay_f 3 (by decide), rmay_f, updates_f 3 (by decide), upd_ref]
  obtain ⟨p, e, hp, he⟩ := put_get 3 (by decide) c r a
  obtain ⟨p', e', hp', he'⟩ := put_get 3 (by decide) c' r' a'
  obtain ⟨g0, g1, g2, g3, hg⟩ := get_get 3 (by decide) s
  rw [hp, Option.bind_some, hp', Option.bind_some, hg, Option.bind_some, Option.bind_some, Option.bind_some, if_pos rfl, num_f, Option.bind_some, if_pos rfl, if_neg (by simp), num_f, Option.bind_some, if_pos rfl, Option.bind_some, Option.bind_some, if_neg (by simp), Option.bind_some, Option.bind_some, bne_self_eq_false]
  exact last 2 (by decide) c r a c' r' a' p p' e e' he he'

end Go.Proofs.Ytpadkooadaejkaa.Pure
