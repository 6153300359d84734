/-
 Tables (chapter 4), as the small machine runs them: a number taken, a number freed.
-/
import Derived.Test.YtalknjppnkpmmaaDoorFn40
import Derived.Test.YtalknjppnkpmmaaDoorMh
set_option linter.unusedVariables false
set_option linter.unusedSimpArgs false
set_option maxHeartbeats 4000000
set_option maxRecDepth 100000
namespace Go.Proofs.YtalknjppnkpmmaaDoorW.Ai
section
def rf_Del : RFunc :=
 ⟨33, [(.tmp 6)], (.seq (.ops [rO 6 (.mv (.const (.slice .none 0 0)))]) (.seq (.ops [rO 8 (.mv (.tmp 0)), rO 9 (.mv (.tmp 1)), rO 10 (.mv (.tmp 2)), rO 11 (.mv (.tmp 0)), rO 12 (.len 1 (.tmp 11)), rO 13 (.slice 1 (.tmp 8) (.some (.tmp 9)) (.some (.tmp 10)) (.some (.tmp 12)))]) (.seq (.seq (.ops [rO 14 (.mv (.tmp 1)), rO 15 (.mv (.tmp 2)), rO 16 (.bin .eql (.tmp 14) (.tmp 15))]) (.cond (.tmp 16) (.seq (.ops [rO 17 (.mv (.tmp 0)), rO 6 (.mv (.tmp 17))]) .ret) .skip)) (.seq (.ops [rO 18 (.mv (.tmp 0)), rO 19 (.len 1 (.tmp 18)), rO 7 (.mv (.tmp 19))]) (.seq (.ops [rO 20 (.mv (.tmp 0)), rO 21 (.mv (.tmp 1)), rO 22 (.slice 1 (.tmp 20) .none (.some (.tmp 21)) .none), rO 23 (.mv (.tmp 0)), rO 24 (.mv (.tmp 2)), rO 25 (.slice 1 (.tmp 23) (.some (.tmp 24)) .none .none), rO 26 (.append 1 8 (.tmp 22) (.tmp 25)), rO 0 (.mv (.tmp 26))]) (.seq (.ops [rO 27 (.mv (.tmp 0)), rO 28 (.mv (.tmp 0)), rO 29 (.len 1 (.tmp 28)), rO 30 (.mv (.tmp 7)), rO 31 (.slice 1 (.tmp 27) (.some (.tmp 29)) (.some (.tmp 30)) .none), ⟨.none, (.clear [(.int .i64 0)] (.tmp 31)), .none, false, []⟩]) (.seq (.ops [rO 32 (.mv (.tmp 0)), rO 6 (.mv (.tmp 32))]) .ret)))))))⟩
def rf_fTaken (g0 g1 : Nat) : RFunc :=
 ⟨26, [(.tmp 2), (.tmp 3)], (.seq (.ops [rO 2 (.mv (.const (.slice .none 0 0))), rO 3 (.mv (.const (.int .i64 0)))]) (.seq (.seq (.ops [rO 7 (.mv (.const (.int .i64 0)))]) (.block 0 (.loop (.seq (.ops [rO 8 (.bin .lss (.tmp 7) (.const (.int .i64 4)))]) (.seq (.cond (.tmp 8) .skip (.exit 0)) (.seq (.block 1 (.seq (.ops [rO 9 (.mv (.tmp 7)), rO 4 (.mv (.tmp 9))]) (.seq (.ops [rO 11 (.mv (.tmp 0)), rO 12 (.mv (.tmp 4)), rO 13 (.call (.func g0) [(.tmp 11), (.tmp 12)]), rO 10 (.mv (.tmp 13)), rO 14 (.extract (.tmp 10) 0), rO 15 (.extract (.tmp 10) 1), rO 5 (.mv (.tmp 14)), rO 6 (.mv (.tmp 15))]) (.seq (.ops [rO 16 (.mv (.tmp 6)), rO 17 (.un .not (.tmp 16))]) (.cond (.tmp 17) (.seq (.ops [rO 18 (.mv (.tmp 0)), rO 19 (.mv (.tmp 5)), rO 20 (.mv (.tmp 4)), rO 21 (.buildSlice [(.int .i64 0)] 1 [(0, (1, (.tmp 20)))]), rO 22 (.call (.func g1) [(.tmp 18), (.tmp 19), (.tmp 21)]), rO 23 (.mv (.tmp 4)), rO 2 (.mv (.tmp 22)), rO 3 (.mv (.tmp 23))]) .ret) .skip))))) (.ops [rO 24 (.bin .add (.tmp 7) (.const (.int .i64 1))), rO 7 (.mv (.tmp 24))]))))))) (.seq (.ops [rO 25 (.mv (.tmp 0)), rO 2 (.mv (.tmp 25)), rO 3 (.mv (.const (.int .i64 (-1))))]) .ret)))⟩
def rf_fFreed (g0 g1 : Nat) : RFunc :=
 ⟨22, [(.tmp 4), (.tmp 5)], (.seq (.ops [rO 4 (.mv (.const (.slice .none 0 0))), rO 5 (.mv (.const (.int .i64 0)))]) (.seq (.ops [rO 9 (.mv (.tmp 0)), rO 10 (.mv (.tmp 1)), rO 11 (.call (.func g0) [(.tmp 9), (.tmp 10)]), rO 8 (.mv (.tmp 11)), rO 12 (.extract (.tmp 8) 0), rO 13 (.extract (.tmp 8) 1), rO 6 (.mv (.tmp 12)), rO 7 (.mv (.tmp 13))]) (.seq (.seq (.ops [rO 14 (.mv (.tmp 7)), rO 15 (.un .not (.tmp 14))]) (.cond (.tmp 15) (.seq (.ops [rO 16 (.mv (.tmp 0)), rO 4 (.mv (.tmp 16)), rO 5 (.mv (.const (.int .i64 0)))]) .ret) .skip)) (.seq (.ops [rO 17 (.mv (.tmp 0)), rO 18 (.mv (.tmp 6)), rO 19 (.mv (.tmp 6)), rO 20 (.bin .add (.tmp 19) (.const (.int .i64 1))), rO 21 (.call (.func g1) [(.tmp 17), (.tmp 18), (.tmp 20)]), rO 4 (.mv (.tmp 21)), rO 5 (.mv (.const (.int .i64 1)))]) .ret))))⟩
def insL (xs : List Int) (x : Int) : List Int := xs.filter (fun y => decide (y < x)) ++ x :: xs.filter (fun y => decide (x < y))
def takeL (xs : List Int) : List Int × Int := if 0 ∉ xs then (insL xs 0, 0) else if 1 ∉ xs then (insL xs 1, 1) else if 2 ∉ xs then (insL xs 2, 2) else if 3 ∉ xs then (insL xs 3, 3) else (xs, -1)
def outL (xs : List Int) (x : Int) : List Int := xs.filter (fun y => decide (y ≠ x))
def freeL (xs : List Int) (x : Int) : List Int × Int := if x ∈ xs then (outL xs x, 1) else (xs, 0)
theorem TabRow.lt {xs : List Int} (hT : TabRow xs) {k m : Nat} (hk : k < xs.length) (hm : m < xs.length) (h : k < m) : xs[k] < xs[m] := by
 have h1 := hT.le hk (by omega : m - 1 < xs.length) (by omega)
 have h2 := (hT m hm).2 (by omega)
 omega
theorem insL_at {xs : List Int} {x : Int} {i : Nat} (h1 : ∀ (k : Nat) (hk : k < xs.length), k < i → xs[k] < x) (h2 : ∀ (k : Nat) (hk : k < xs.length), i ≤ k → x ≤ xs[k]) (hx : x ∉ xs) : xs.take i ++ x :: xs.drop i = insL xs x := by
 have a1 : ∀ y ∈ xs.take i, y < x := fun y hy => by
  obtain ⟨k, hk, rfl⟩ := List.mem_iff_getElem.1 hy
  simp only [List.length_take] at hk
  simp only [List.getElem_take]
  exact h1 k (by omega) (by omega)
 have a2 : ∀ y ∈ xs.drop i, x < y := fun y hy => by
  have hm : y ≠ x := fun e => hx (e ▸ List.mem_of_mem_drop hy)
  obtain ⟨k, hk, rfl⟩ := List.mem_iff_getElem.1 hy
  simp only [List.length_drop] at hk
  simp only [List.getElem_drop] at hm ⊢
  have := h2 (i + k) (by omega) (by omega)
  omega
 have e1 : (xs.take i).filter (fun y => decide (y < x)) = xs.take i := List.filter_eq_self.2 fun y hy => decide_eq_true (a1 y hy)
 have e2 : (xs.drop i).filter (fun y => decide (y < x)) = [] := List.filter_eq_nil_iff.2 fun y hy => by have := a2 y hy; simp; omega
 have e3 : (xs.take i).filter (fun y => decide (x < y)) = [] := List.filter_eq_nil_iff.2 fun y hy => by have := a1 y hy; simp; omega
 have e4 : (xs.drop i).filter (fun y => decide (x < y)) = xs.drop i := List.filter_eq_self.2 fun y hy => decide_eq_true (a2 y hy)
 have f1 : xs.filter (fun y => decide (y < x)) = xs.take i := by rw [← List.take_append_drop i xs, List.filter_append, e1, e2, List.append_nil, List.take_append_drop]
 have f2 : xs.filter (fun y => decide (x < y)) = xs.drop i := by rw [← List.take_append_drop i xs, List.filter_append, e3, e4, List.nil_append, List.take_append_drop]
 rw [insL, f1, f2]
theorem outL_at {xs : List Int} {x : Int} {i : Nat} (hT : TabRow xs) (hi : i < xs.length) (hx : xs[i] = x) : xs.take i ++ xs.drop (i + 1) = outL xs x := by
 have a1 : ∀ y ∈ xs.take i, y ≠ x := fun y hy => by
  obtain ⟨k, hk, rfl⟩ := List.mem_iff_getElem.1 hy
  simp only [List.length_take] at hk
  simp only [List.getElem_take]
  have := hT.lt (by omega : k < xs.length) hi (by omega)
  omega
 have a2 : ∀ y ∈ xs.drop (i + 1), y ≠ x := fun y hy => by
  obtain ⟨k, hk, rfl⟩ := List.mem_iff_getElem.1 hy
  simp only [List.length_drop] at hk
  simp only [List.getElem_drop]
  have := hT.lt hi (by omega : i + 1 + k < xs.length) (by omega)
  omega
 have e1 : (xs.take i).filter (fun y => decide (y ≠ x)) = xs.take i := List.filter_eq_self.2 fun y hy => decide_eq_true (a1 y hy)
 have e2 : (xs.drop (i + 1)).filter (fun y => decide (y ≠ x)) = xs.drop (i + 1) := List.filter_eq_self.2 fun y hy => decide_eq_true (a2 y hy)
 have e3 : xs = xs.take i ++ xs[i] :: xs.drop (i + 1) := by rw [List.getElem_cons_drop, List.take_append_drop]
 show _ = xs.filter (fun y => decide (y ≠ x))
 conv => rhs; rw [e3]
 rw [List.filter_append, List.filter_cons, e1, e2]
 simp [hx]
section
variable (X : Ext) (F : FuncId → Option RFunc) (g : FuncId)
abbrev S_Del : Prop := ∀ (lim : Nat) (h : AH) {b n i : Nat} {xs : List Int}, lim ≤ b → h[b]? = some (.cells (ints xs)) → xs.length = n → i < n → n ≤ 1000 → Ret X F lim g [.slice (some ⟨b, 0, some 1⟩) n n, .int .i64 (i : Int), .int .i64 ((i : Int) + 1)] h fun v h' => h.length ≤ h'.length ∧ (∀ b', b' ≠ b → b' < h.length → h'[b']? = h[b']?) ∧ h'[b]? = some (.cells (ints (xs.take i ++ xs.drop (i + 1)) ++ [.int .i64 0])) ∧ v = .slice (some ⟨b, 0, some 1⟩) (n - 1) (n - 1)
abbrev S_fTaken : Prop := ∀ (lim : Nat) (h : AH) {a : Option Addr} {n lo hi : Nat} {xs : List Int}, lim ≤ lo → hi ≤ h.length → lo ≤ hi → n ≤ 4 → TabRow xs → (takeL xs).2 ≠ -1 → Ap lo hi 1 h a n (ints xs) → Ret X F lim g [.slice a n n] h fun v h' => h.length ≤ h'.length ∧ (∀ b, (b < lo ∨ hi ≤ b) → b < h.length → h'[b]? = h[b]?) ∧ ∃ a', v = .tuple #[.slice a' (n + 1) (n + 1), .int .i64 (takeL xs).2] ∧ Ap h.length h'.length 1 h' a' (n + 1) (ints (takeL xs).1)
abbrev S_fTakenN : Prop := ∀ (lim : Nat) (h : AH) {a : Option Addr} {n : Nat} {xs : List Int}, Sl 1 h a n n (ints xs) → n ≤ 4 → TabRow xs → (takeL xs).2 = -1 → Ret X F lim g [.slice a n n] h fun v h' => Pfx h h' ∧ v = .tuple #[.slice a n n, .int .i64 (-1)]
abbrev S_fTaken2 : Prop := S_fTaken X F g ∧ S_fTakenN X F g
abbrev S_fFreed : Prop := ∀ (lim : Nat) (h : AH) {a : Option Addr} {n lo hi : Nat} {xs : List Int} {x : Int}, lim ≤ lo → hi ≤ h.length → lo ≤ hi → n ≤ 4 → TabRow xs → x ∈ xs → Ap lo hi 1 h a n (ints xs) → Ret X F lim g [.slice a n n, .int .i64 x] h fun v h' => h.length ≤ h'.length ∧ (∀ b, (b < lo ∨ hi ≤ b) → b < h.length → h'[b]? = h[b]?) ∧ ∃ a', v = .tuple #[.slice a' (n - 1) (n - 1), .int .i64 1] ∧ Sl 1 h' a' (n - 1) (n - 1) (ints (outL xs x)) ∧ Within lo hi 1 a' (n - 1)
abbrev S_fFreedN : Prop := ∀ (lim : Nat) (h : AH) {a : Option Addr} {n : Nat} {xs : List Int} {x : Int}, Sl 1 h a n n (ints xs) → n ≤ 4 → TabRow xs → x ∉ xs → Ret X F lim g [.slice a n n, .int .i64 x] h fun v h' => Pfx h h' ∧ v = .tuple #[.slice a n n, .int .i64 0]
abbrev S_fFreed2 : Prop := S_fFreed X F g ∧ S_fFreedN X F g
end
section
variable {X : Ext} {F : FuncId → Option RFunc} {f : FuncId}
theorem over_last {ys : List Value} {z w : Value} {k : Nat} (h : ys.length = k) : over (ys ++ [z]) k [w] = ys ++ [w] := by
 subst h
 simp [over]
theorem s_Del0 (hF : F f = some rf_Del) {lim : Nat} {h : AH} {b n i : Nat} {xs : List Int} (hlim : lim ≤ b) (hb : h[b]? = some (.cells (ints xs))) (hn : xs.length = n) (hi : i < n) (hm : n ≤ 1000) : Ret noExt F lim f [.slice (some ⟨b, 0, some 1⟩) n n, .int .i64 (i : Int), .int .i64 ((i : Int) + 1)] h fun v h' => (h.length ≤ h'.length ∧ (∀ b', b' ≠ b → b' < h.length → h'[b']? = h[b']?) ∧ h'[b]? = some (.cells (ints (xs.take i ++ xs.drop (i + 1)) ++ [.int .i64 0]))) ∧ v = .slice (some ⟨b, 0, some 1⟩) (n - 1) n := by
 have hX : noExt f = none := rfl
 have hbl := (List.getElem?_eq_some_iff.1 hb).1
 have htl : (h.take b).length = b := by rw [List.length_take]; omega
 have hlim' : lim ≤ (h.take b).length := by omega
 have hL : Loc (h.take b) h [fz (b + 1) h.length h, bx b (ints xs)] := ⟨(by show b + 1 ≤ h.length; omega), Nat.le_refl _, fun _ _ _ => rfl, Nat.le_succ b, Nat.le_refl _, hb, (by show (h.take b).length ≤ b; omega), ⟨by omega, fun b' hb' => by rw [List.getElem?_take_of_lt (by omega)]⟩⟩
 have hL : Loc (h.take b) h [fz (b + 1) h.length h, bx b (ints (xs.take i) ++ ints (xs.drop i))] := by
  have e : ints (xs.take i) ++ ints (xs.drop i) = ints xs := by simp only [ints]; rw [← List.map_append, List.take_append_drop]
  rw [e]; exact hL
 have hS : Sl 1 h (some ⟨b, i + 1, some 1⟩) (n - (i + 1)) (n - (i + 1)) (ints (xs.drop (i + 1))) := by
  refine ⟨?_, Nat.le_refl _, by rw [ints_len]; simp; omega, fun h => by cases h⟩
  simp only [aElems]
  rw [if_pos (Nat.le_refl _)]
  by_cases h0 : (n - (i + 1)) * 1 = 0
  ·rw [if_pos h0]
   have : xs.drop (i + 1) = [] := List.drop_of_length_le (by omega)
   rw [this]; rfl
  ·rw [if_neg h0]
   simp only [cellsOf, hb, Option.bind_some]
   rw [if_pos (by rw [ints_len]; omega)]
   simp only [ints, ← List.map_drop]
   rw [List.take_of_length_le (by simp; omega)]
 refine Ret.body hX hF rfl ?_
 simp only [argL, rf_Del]
 (refine Cs (Co (Wm rfl (Wt ?_))); refine Cs (Co (Wm rfl (Wm rfl (Wm rfl (Wm rfl (Wc (OP.lenS rfl ?_))))))))
 (refine Wc ?_)
 refine OP.slice3 (i := i) (j := i + 1) (k := n) rfl (.inr rfl) rfl rfl rfl (by omega) (by omega) (by omega) (fun v => ?_)
 (refine Wt ?_; refine Cs (Cs (Co (Wm rfl (Wm rfl (Wc (OP.eqlF rfl rfl (by omega) ?_)))))); refine Wt ?_; refine WC.condF rfl (Ks ?_); refine Cs (Co (Wm rfl (Wc (OP.lenS rfl (Wm rfl (Wt ?_)))))); refine Cs (Co (Wm rfl (Wm rfl ?_))))
 (refine Wc ?_)
 refine OP.sliceS (i := 0) (j := i) rfl (.inr rfl) rfl ⟨_, rfl⟩ (by omega) (by omega) ?_
 simp only [Nat.zero_mul, Nat.add_zero, Nat.sub_zero]
 (refine Wm rfl (Wm rfl ?_))
 (refine Wc ?_)
 refine OP.sliceS (i := i + 1) (j := n) rfl (.inr rfl) ⟨_, rfl⟩ rfl (by omega) (by omega) ?_
 simp only [Nat.zero_add, Nat.mul_one]
 skip
 (refine Wc ?_)
 refine OL.appendIn (k := 1) hL hlim' rfl rfl (by rw [ints_len]; simp; omega) rfl hS (by omega) (by rw [ints_len, ints_len]; simp; omega) (ints_ok _) (fun h' hL => ?_)
 dsimp only [List.set] at hL
 obtain ⟨z, hz⟩ : ∃ z, (ints (xs.drop i)).drop (ints (xs.drop (i + 1))).length = [z] := by
  rw [← List.length_eq_one_iff, List.length_drop, ints_len, ints_len]; simp; omega
 have hy : ints (xs.take i) ++ ints (xs.drop (i + 1)) = ints (xs.take i ++ xs.drop (i + 1)) := by simp [ints]
 rw [hz, hy] at hL
 have hyl : (ints (xs.take i ++ xs.drop (i + 1))).length = n - 1 := by rw [ints_len]; simp; omega
 rw [show i + (n - (i + 1)) = n - 1 by omega]
 (refine Wm rfl (Wt ?_); refine Cs (Co (Wm rfl (Wm rfl (Wc (OP.lenS rfl (Wm rfl ?_)))))))
 (refine Wc ?_)
 refine OP.sliceS (i := n - 1) (j := n) rfl (.inr rfl) ⟨_, rfl⟩ ⟨_, rfl⟩ (by omega) (by omega) ?_
 simp only [Nat.zero_add, Nat.mul_one]
 rw [show n - (n - 1) = 1 by omega]
 skip
 (refine WO.cons0 ?_)
 refine OL.clear1 (k := 1) (cs' := ints (xs.take i ++ xs.drop (i + 1)) ++ [.int .i64 0]) hL hlim' rfl rfl rfl (by rw [List.length_append, hyl]; exact Nat.le_refl _) (over_last hyl) rfl (fun h' hL => ?_)
 dsimp only [List.set] at hL
 (refine Wt ?_; refine Cs (Co (Wm rfl (Wm rfl (Wt ?_)))); refine WC.ret ?_)
 refine Fin.ret rfl ⟨⟨?_, fun b' hb' hbl' => ?_, ?_⟩, rfl⟩
 ·exact hL.toEnd (k := 0) rfl
 ·by_cases h3 : b' < b
  ·have := hL.pfx.2 b' (by omega)
   rw [this, List.getElem?_take_of_lt h3]
  ·exact hL.get (k := 0) rfl b' (by omega) hbl'
 ·exact hL.cell (k := 1) rfl
theorem s_Del (hX : X f = some (cutX F f)) (hF : F f = some rf_Del) : S_Del X F f := by
 intro lim h b n i xs hlim hb hn hi hm
 refine (Ret.cut hX (s_Del0 hF hlim hb hn hi hm)).mono ?_
 rintro v h' ⟨u, ⟨⟨h1, h2, h3⟩, rfl⟩, rfl⟩
 exact ⟨h1, h2, h3, rfl⟩
theorem s_fFreed {g0 g1 : Nat} (hX : X f = none) (hF : F f = some (rf_fFreed g0 g1)) (c0' : S_BS X F g0) (c1' : S_Del X F g1) : S_fFreed2 X F f := by
 constructor
 ·intro lim h a n lo hi xs x hlo hhi hle hn hT hx hA
  have hlen := hA.1
  rw [ints_len] at hlen
  obtain ⟨b, rfl, hb, hb1, hb2⟩ := hA.pos (by have := List.length_pos_of_mem hx; omega)
  have hS := hA.sl.1
  have hL := Loc.start h
  refine Ret.body hX hF rfl ?_
  simp only [argL, rf_fFreed]
  (refine Cs (Co (Wm rfl (Wm rfl (Wt ?_)))); refine Cs (Co (Wm rfl (Wm rfl ?_))))
  (refine Wc ?_)
  refine OL.call hL rfl rfl (c0' _ _ hS (by omega) hT) (fun v h1 hp hL hv => ?_)
  obtain ⟨i, rfl, hi2, hl1, hl2⟩ := hv
  rw [decide_eq_true hx]
  have hix : ∃ h : i < xs.length, xs[i] = x := by
   obtain ⟨k, hk, e⟩ := List.mem_iff_getElem.1 hx
   have hki : i ≤ k := by
    apply Nat.le_of_not_lt
    intro hh
    have := hl1 k hk hh
    omega
   have h3 := hl2 i (by omega) (Nat.le_refl _)
   have h4 := hT.le (by omega : i < xs.length) hk hki
   exact ⟨by omega, by omega⟩
  obtain ⟨hil, hix⟩ := hix
  (refine Wm rfl (Wc (OP.extract rfl rfl (Wc (OP.extract rfl rfl (Wm rfl (Wm rfl (Wt ?_))))))); refine Cs (Cs (Co (Wm rfl (Wc (OP.not rfl (Wt ?_)))))); refine WC.condF rfl (Ks ?_); refine Cs (Co (Wm rfl (Wm rfl (Wm rfl (Wc (OP.add rfl rfl (by omega) ?_)))))))
  (refine Wc ?_)
  have hbl := (List.getElem?_eq_some_iff.1 hb).1
  refine OP.call rfl rfl ((c1' _ _ (by omega) ((hp.2 b hbl).trans hb) (by omega) (by omega : i < n) (by omega)).mono fun v h2 ⟨e1, e2, e3, e4⟩ => ?_)
  subst e4
  rw [outL_at hT hil hix] at e3
  have hol : (outL xs x).length = n - 1 := by rw [← outL_at hT hil hix]; simp; omega
  have hS2 : Sl 1 h2 (some ⟨b, 0, some 1⟩) (n - 1) (n - 1) (ints (outL xs x)) := Sl.front (m := some 1) (n := n - 1) (c := n - 1) (sz := 1) (cs := ints (outL xs x)) (ds := [.int .i64 0]) e3 (by rw [ints_len]; omega) (Nat.le_refl _)
  have hL := Loc.start h2
  (refine Wm rfl (Wm rfl (Wt ?_)); refine WC.ret ?_)
  exact Fin.ret rfl ⟨Nat.le_trans hp.1 e1, fun b' hb' hbl' => (e2 b' (by omega) (Nat.lt_of_lt_of_le hbl' hp.1)).trans (hp.2 b' hbl'), _, rfl, hS2, fun q hq _ => by cases hq; exact ⟨hb1, hb2⟩⟩
 ·intro lim h a n xs x hS hn hT hx
  have hL := Loc.start h
  refine Ret.body hX hF rfl ?_
  simp only [argL, rf_fFreed]
  (refine Cs (Co (Wm rfl (Wm rfl (Wt ?_)))); refine Cs (Co (Wm rfl (Wm rfl ?_))))
  (refine Wc ?_)
  refine OL.call hL rfl rfl (c0' _ _ hS (by omega) hT) (fun v h1 hp hL hv => ?_)
  obtain ⟨i, rfl, hi2, hl1, hl2⟩ := hv
  rw [decide_eq_false hx]
  (refine Wm rfl (Wc (OP.extract rfl rfl (Wc (OP.extract rfl rfl (Wm rfl (Wm rfl (Wt ?_))))))); refine Cs (Cs (Co (Wm rfl (Wc (OP.not rfl (Wt ?_)))))); refine WC.condT rfl (Cs (Co (Wm rfl (Wm rfl (Wm rfl (Wt ?_)))))); refine WC.ret ?_; dsimp only [zn, zr, zx, yn, yr]; exact Fin.ret rfl ⟨hL.pfx, rfl⟩)
end
end
end Go.Proofs.YtalknjppnkpmmaaDoorW.Ai
