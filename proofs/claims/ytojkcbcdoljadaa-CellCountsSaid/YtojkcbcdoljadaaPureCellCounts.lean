/- CellCounts: numbers added one by one are all of them: the call returns true for all rows and places; the arguments read as they did. -/
import Derived.Test.YtojkcbcdoljadaaPCellCountsx2
import Derived.Test.YtojkcbcdoljadaaPlain
set_option linter.unusedVariables false
set_option linter.unusedSimpArgs false
namespace Go.Proofs.Ytojkcbcdoljadaa.Pure
open Go.RowKit Go.Proofs.Ytojkcbcdoljadaa.PCellCounts Go.Proofs.YtojkcbcdoljadaaW.PrintWords Go.Proofs.YtojkcbcdoljadaaW.PrintLast Go.Proofs.YtojkcbcdoljadaaW.PrintMore Go.Proofs.YtojkcbcdoljadaaW.Plain

theorem num_f (a : Int) : choruslaw0_Num.f a = some a := rfl
/-- A number that may be in a cell. -/
def Word (x : Int) : Prop := 0 ≤ x ∧ x ≤ 1048576
instance (x : Int) : Decidable (Word x) := by unfold Word; infer_instance
theorem number_f (a : Int) : cell_Number.f a = some (decide (Word a)) := by
  unfold cell_Number.f Word
  by_cases h : a ≥ 0
  · have : 0 ≤ a := h
    simp [this]
  · have : ¬ (0 ≤ a) := by omega
    simp [this]
theorem odd_f (a : Int) : cell_there_1.f a = some (!decide (Word a)) := by
  unfold cell_there_1.f
  rw [number_f, Option.bind_some]
theorem idx_l0 (k : Nat) : ∀ (l : List Int) (i : Nat), i ≤ l.length → l.length ≤ 17592186044416 → l.length - i < k → ∃ r, slices_IndexFunc_int_int_27.l0 k l (l.length : Int) i = some r ∧ (r ≥ 0 ↔ ¬ ∀ x ∈ l.drop i, Word x) := by
  induction k with
  | zero => intro l i _ _ h; exact absurd h (by omega)
  | succ k ih =>
    intro l i hi hm hk
    simp only [slices_IndexFunc_int_int_27.l0]
    by_cases h : i < l.length
    · rw [if_pos (by omega), if_pos (by omega), if_pos (by omega), odd_f, Option.bind_some, List.drop_eq_getElem_cons h]
      have ea : rd l (i : Int) = l[i] := by simp [rd, List.getD_eq_getElem?_getD, h]
      rw [ea]
      by_cases e : Word l[i]
      · rw [if_neg (by simp [e]), show wrap64 ((i : Int) + 1) = ((i + 1 : Nat) : Int) from by rw [w64 (by omega)]; omega]
        obtain ⟨r, er, hr⟩ := ih l (i + 1) (by omega) hm (by omega)
        refine ⟨r, er, hr.trans (not_congr ⟨fun g x hx => ?_, fun g x hx => g x (List.mem_cons_of_mem _ hx)⟩)⟩
        rcases List.mem_cons.1 hx with rfl | hx
        · exact e
        · exact g x hx
      · rw [if_pos (by simp [e])]
        exact ⟨_, rfl, fun _ g => e (g _ (List.mem_cons_self ..)), fun _ => by omega⟩
    · rw [if_neg (by omega), List.drop_of_length_le (by omega)]
      exact ⟨_, rfl, fun g => absurd g (by decide), fun g => absurd (fun x hx => absurd hx (List.not_mem_nil)) g⟩
theorem contains_f (k : Nat) (l : List Int) (hm : l.length ≤ 17592186044416) (hk : l.length < k) : slices_ContainsFunc_int_int_27.f k l = some (!decide (∀ x ∈ l, Word x)) := by
  unfold slices_ContainsFunc_int_int_27.f slices_IndexFunc_int_int_27.f
  obtain ⟨r, er, hr⟩ := idx_l0 k l 0 (by omega) hm (by omega)
  rw [List.drop_zero] at hr
  rw [show (0 : Int) = ((0 : Nat) : Int) from rfl] at *
  rw [er, Option.bind_some]
  by_cases g : ∀ x ∈ l, Word x
  · rw [decide_eq_false (fun x => hr.1 x g), decide_eq_true g]; rfl
  · rw [decide_eq_true (hr.2 g), decide_eq_false g]; rfl
/-- Cells that may be, and one of them is there. -/
def There (l : List Int) (a : Int) : Prop := l.length ≤ 16 ∧ (∀ x ∈ l, Word x) ∧ 0 ≤ a ∧ a < l.length
instance (l : List Int) (a : Int) : Decidable (There l a) := by unfold There; infer_instance
theorem there_f (k : Nat) (hk : 20 ≤ k) (l : List Int) (a : Int) : cell_there.f k l a = some (decide (There l a)) := by
  unfold cell_there.f
  by_cases h : l.length ≤ 16
  · rw [if_pos (by omega), contains_f k l (by omega) (by omega), Option.bind_some]
    by_cases g : ∀ x ∈ l, Word x
    · rw [if_neg (by simpa using g)]
      by_cases e : 0 ≤ a
      · rw [if_pos e]
        congr 1
        by_cases f : a < (l.length : Int)
        · rw [decide_eq_true f, decide_eq_true (show There l a from ⟨h, g, e, f⟩)]
        · rw [decide_eq_false f, decide_eq_false (fun x : There l a => f x.2.2.2)]
      · rw [if_neg e, decide_eq_false (fun x : There l a => e x.2.2.1)]
    · rw [if_pos (by rw [decide_eq_false g]; rfl), decide_eq_false (fun x : There l a => g x.2.1)]
  · rw [if_neg (by omega), decide_eq_false (fun x : There l a => h x.1)]
theorem load_f (k : Nat) (hk : 20 ≤ k) (l : List Int) (a : Int) : cell_Load.f k l a = some (if There l a then (rd l a, 0) else (0, 100)) := by
  unfold cell_Load.f
  rw [there_f k hk, Option.bind_some]
  by_cases h : There l a
  · rw [if_pos (decide_eq_true h), if_pos h, if_pos h.2.2.1, if_pos h.2.2.2]
  · rw [if_neg (by rw [decide_eq_true_eq]; exact h), if_neg h]
theorem clone_f (a : List Int) (h : a.length ≤ 17592186043904) : slices_Clone_int_int.f a = some a := if_pos (by omega)
theorem store_f (k : Nat) (hk : 20 ≤ k) (l : List Int) (a x : Int) : cell_Store.f k l a x = some (if There l a ∧ Word x then (l.set a.toNat x, 0) else ([], 100)) := by
  unfold cell_Store.f
  rw [there_f k hk, number_f, Option.bind_some, Option.bind_some]
  by_cases h : There l a
  · rw [if_pos (decide_eq_true h)]
    by_cases g : Word x
    · rw [if_pos (decide_eq_true g), clone_f l (by have := h.1; omega), Option.bind_some, if_pos h.2.2.1, if_pos h.2.2.2, if_pos ⟨h, g⟩]
    · rw [if_neg (by rw [decide_eq_true_eq]; exact g), if_neg (fun x => g x.2)]
  · rw [if_neg (by rw [decide_eq_true_eq]; exact h), if_neg (fun x => h x.1)]
theorem rd_mem (l : List Int) (a : Int) (h0 : 0 ≤ a) (h1 : a < l.length) : rd l a ∈ l := by
  obtain ⟨n, rfl⟩ : ∃ n : Nat, a = n := ⟨a.toNat, by omega⟩
  have h : n < l.length := by omega
  have ea : rd l (n : Int) = l[n] := by simp [rd, List.getD_eq_getElem?_getD, h]
  rw [ea]
  exact List.getElem_mem h
theorem add_f (k : Nat) (hk : 20 ≤ k) (l : List Int) (a x : Int) (hx : -9223372036854775808 ≤ x ∧ x ≤ 9223372036854775807) :
    cell_Add.f k l a x = some (if There l a ∧ Word (rd l a + x) then (l.set a.toNat (rd l a + x), rd l a, 0) else ([], 0, 100)) := by
  unfold cell_Add.f
  rw [load_f k hk, Option.bind_some]
  by_cases h : There l a
  · have hw : Word (rd l a) := h.2.1 _ (rd_mem l a h.2.2.1 h.2.2.2)
    rw [if_pos h]
    unfold Word at hw ⊢
    show (if (0 : Int) = 0 then (if x < wrap64 (-rd l a) then some ([], 0, 100) else if x > wrap64 (1048576 - rd l a) then some ([], 0, 100) else (cell_Store.f k l a (wrap64 (rd l a + x))).bind fun b => some (b.1, rd l a, b.2)) else some ([], 0, 100)) = _
    rw [if_pos rfl, w64 (x := -rd l a) (by omega), w64 (x := 1048576 - rd l a) (by omega)]
    by_cases h1 : x < -rd l a
    · rw [if_pos h1, if_neg (by omega)]
    · rw [if_neg h1]
      by_cases h2 : x > 1048576 - rd l a
      · rw [if_pos h2, if_neg (by omega)]
      · rw [if_neg h2, w64 (x := rd l a + x) (by omega), store_f k hk, Option.bind_some, if_pos ⟨h, by unfold Word; omega⟩, if_pos ⟨h, by omega⟩]
  · rw [if_neg h, if_neg (c := There l a ∧ Word (rd l a + x)) (fun x => h x.1)]; rfl
theorem swap_f (k : Nat) (hk : 20 ≤ k) (l : List Int) (a x y : Int) :
    cell_Swap.f (k + 1) l a x y = some (if There l a ∧ Word y then (if rd l a = x then (l.set a.toNat y, true, 0) else (l, false, 0)) else ([], false, 100)) := by
  unfold cell_Swap.f
  rw [load_f (k + 1) (by omega), number_f, Option.bind_some, Option.bind_some]
  by_cases h : There l a
  · rw [if_pos h]
    show (if (0 : Int) = 0 then cell_Swap.j0 (k + 1) l a x y (rd l a) (!decide (Word y)) else cell_Swap.j0 (k + 1) l a x y (rd l a) true) = _
    rw [if_pos rfl]
    simp only [cell_Swap.j0]
    by_cases g : Word y
    · rw [if_neg (by simpa using g), if_pos (c := There l a ∧ Word y) ⟨h, g⟩]
      by_cases e : rd l a = x
      · rw [if_pos e, if_pos e, store_f k hk, if_pos ⟨h, g⟩, Option.bind_some]
      · rw [if_neg e, if_neg e, clone_f l (by have := h.1; omega), Option.bind_some]
    · rw [if_pos (by rw [decide_eq_false g]; rfl), if_neg (fun x => g x.2)]
  · rw [if_neg h, if_neg (c := There l a ∧ Word y) (fun x => h x.1)]; rfl

theorem loop (n : Nat) : ∀ (k : Nat) (xs c : List Int) (a : Int) (i : Nat) (sum : Int), i + n = 30 → 24 + 2 * n ≤ k → There c a → c.length = 16 → rd c a = sum → sum ≤ 1023 * i →
    choruslaw1_CellCounts.l0 k xs c a sum i = some true := by
  have stop : ∀ (k : Nat) (xs c : List Int) (a : Int) (i : Int) (sum : Int), 20 ≤ k → There c a → rd c a = sum → choruslaw1_CellCounts.j1 (k + 1) xs c a sum i false = some true := by
    intro k xs c a i sum hk ht hs
    simp only [choruslaw1_CellCounts.j1]
    rw [if_neg (by decide), load_f k hk, if_pos ht, Option.bind_some, num_f, Option.bind_some, if_pos rfl, if_pos hs]
  induction n with
  | zero =>
    intro k xs c a i sum hi hk ht hc hs hb
    obtain ⟨m, rfl⟩ : ∃ m, k = m + 2 := ⟨k - 2, by omega⟩
    simp only [choruslaw1_CellCounts.l0]
    rw [decide_eq_false (show ¬ (i : Int) < 30 by omega)]
    rw [stop m xs c a i sum (by omega) ht hs, ite_self]
  | succ n ih =>
    intro k xs c a i sum hi hk ht hc hs hb
    obtain ⟨m, rfl⟩ : ∃ m, k = m + 2 := ⟨k - 2, by omega⟩
    simp only [choruslaw1_CellCounts.l0]
    by_cases h : (i : Int) < (xs.length : Int)
    · rw [if_pos h, decide_eq_true (show (i : Int) < 30 by omega)]
      simp only [choruslaw1_CellCounts.j1]
      rw [if_pos trivial, if_pos (by omega), if_pos h, and1023]
      have hx : 0 ≤ rd xs i % 1024 ∧ rd xs i % 1024 < 1024 := by omega
      generalize rd xs i % 1024 = x at hx ⊢
      have hw : Word (rd c a) := ht.2.1 _ (rd_mem c a ht.2.2.1 ht.2.2.2)
      have hn : Word (rd c a + x) := by unfold Word at hw ⊢; omega
      have hw' := hw
      unfold Word at hw'
      rw [add_f m (by omega) c a x (by omega), if_pos ⟨ht, hn⟩, Option.bind_some, num_f, Option.bind_some, if_pos rfl, if_pos hs, if_pos (by rw [List.length_set]), w64 (x := sum + x) (by omega), show wrap64 ((i : Int) + 1) = ((i + 1 : Nat) : Int) from by rw [w64 (by omega)]; omega]
      refine ih m xs _ a (i + 1) (sum + x) (by omega) (by omega) ⟨by rw [List.length_set]; exact ht.1, ?_, ht.2.2.1, by rw [List.length_set]; exact ht.2.2.2⟩ (by rw [List.length_set]; exact hc) ?_ (by omega)
      · intro y hy
        rcases List.mem_or_eq_of_mem_set hy with hy | hy
        · exact ht.2.1 y hy
        · rw [hy]; exact hn
      · have h0 := ht.2.2
        have hl : a.toNat < c.length := by omega
        rw [← hs]
        simp [rd, List.getD_eq_getElem?_getD, hl]
    · rw [if_neg h, stop m xs c a i sum (by omega) ht hs]

theorem CellCounts : choruslaw1_CellCounts.Pure := by
  intro xs a1 _ _ _ _
  refine ⟨100, ?_⟩
  unfold choruslaw1_CellCounts.f
  rw [show choruslaw1_awake.f 100 = some true from by decide +kernel, Option.bind_some, if_pos rfl, if_pos (by decide), u64w]
  have hi : 0 ≤ a1 % 18446744073709551616 ∧ a1 % 18446744073709551616 < 18446744073709551616 := by omega
  rw [tmod_pos hi.1, w64 (x := a1 % 18446744073709551616 % 16) (by omega)]
  have ha : 0 ≤ a1 % 18446744073709551616 % 16 ∧ a1 % 18446744073709551616 % 16 < 16 := by omega
  generalize a1 % 18446744073709551616 % 16 = a at ha ⊢
  have hl : (List.replicate 16 (0 : Int)).length = 16 := List.length_replicate
  have ht : There (List.replicate 16 0) a := ⟨by decide, by decide, ha.1, by rw [hl]; omega⟩
  have hr : rd (List.replicate 16 0) a = 0 := by
    have := rd_mem _ a ht.2.2.1 ht.2.2.2
    exact (List.mem_replicate.1 this).2
  exact loop 30 100 xs _ a 0 0 (by omega) (by omega) ht hl hr (by omega)

end Go.Proofs.Ytojkcbcdoljadaa.Pure
