/-
 The least of some numbers (chapter 11), as the small machine runs it.
-/
import Derived.Test.YtdcpmchhioilpaaFn1
set_option linter.unusedVariables false
set_option linter.unusedSimpArgs false
set_option maxHeartbeats 2000000
namespace Go.Proofs.YtdcpmchhioilpaaW.Ai
-- slices.Min[[]int,int]
def rf_Min : RFunc :=
 ⟨25, [(.tmp 2)], (.seq (.ops [rO 2 (.mv (.const (.int .i64 0)))]) (.seq (.seq (.ops [rO 5 (.mv (.tmp 0)), rO 6 (.len 1 (.tmp 5)), rO 7 (.bin .lss (.tmp 6) (.const (.int .i64 1)))]) (.cond (.tmp 7) (.ops [rO 8 (.iface 9 (.const (.string ⟨#[115, 108, 105, 99, 101, 115, 46, 77, 105, 110, 58, 32, 101, 109, 112, 116, 121, 32, 108, 105, 115, 116]⟩))), ⟨.none, .fail, .none, false, []⟩]) .skip)) (.seq (.ops [rO 9 (.mv (.tmp 0)), rO 10 (.idxAddr 1 (.tmp 9) (.const (.int .i64 0))), rO 11 (.load .none (.tmp 10)), rO 3 (.mv (.tmp 11))]) (.seq (.seq (.ops [rO 4 (.mv (.const (.int .i64 1)))]) (.block 0 (.loop (.seq (.seq (.ops [rO 12 (.mv (.tmp 4)), rO 13 (.mv (.tmp 0)), rO 14 (.len 1 (.tmp 13)), rO 15 (.bin .lss (.tmp 12) (.tmp 14))]) (.cond (.tmp 15) .skip (.exit 0))) (.seq (.block 1 (.ops [rO 18 (.mv (.tmp 3)), rO 19 (.mv (.tmp 0)), rO 20 (.mv (.tmp 4)), rO 21 (.idxAddr 1 (.tmp 19) (.tmp 20)), rO 22 (.load .none (.tmp 21)), rO 23 (.minmax false [(.tmp 18), (.tmp 22)]), rO 3 (.mv (.tmp 23))])) (.ops [rO 16 (.mv (.tmp 4)), rO 17 (.bin .add (.tmp 16) (.const (.int .i64 1))), rO 4 (.mv (.tmp 17))])))))) (.seq (.ops [rO 24 (.mv (.tmp 3)), rO 2 (.mv (.tmp 24))]) .ret)))))⟩
-- chorus/cursor.Least; g0 = slices.Min[[]int,int]
def rf_cLeast (g0 : Nat) : RFunc :=
 ⟨14, [(.tmp 2), (.tmp 3)], (.seq (.ops [rO 2 (.mv (.const (.int .i64 0))), rO 3 (.mv (.const (.int .i64 0)))]) (.seq (.seq (.ops [rO 4 (.mv (.tmp 0)), rO 5 (.len 1 (.tmp 4)), rO 6 (.bin .eql (.tmp 5) (.const (.int .i64 0))), rO 7 (.mv (.tmp 6)), ⟨(.some 8), (.mv (.tmp 0)), (.some (7, false)), false, []⟩, ⟨(.some 9), (.call (.func g0) [(.tmp 8)]), (.some (7, false)), false, []⟩, ⟨(.some 10), (.bin .lss (.tmp 9) (.const (.int .i64 0))), (.some (7, false)), false, []⟩, rO 11 (.pick (.tmp 7) (.const (.bool true)) (.tmp 10))]) (.cond (.tmp 11) (.seq (.ops [rO 2 (.mv (.const (.int .i64 0))), rO 3 (.mv (.const (.int .i64 1100)))]) .ret) .skip)) (.seq (.ops [rO 12 (.mv (.tmp 0)), rO 13 (.call (.func g0) [(.tmp 12)]), rO 2 (.mv (.tmp 13)), rO 3 (.mv (.const (.int .i64 0)))]) .ret)))⟩
-- chorus/chorusref1.Least
def rf_rLeast : RFunc :=
 ⟨30, [(.tmp 2), (.tmp 3)], (.seq (.ops [rO 2 (.mv (.const (.int .i64 0))), rO 3 (.mv (.const (.int .i64 0)))]) (.seq (.seq (.ops [rO 6 (.mv (.tmp 0)), rO 7 (.len 1 (.tmp 6)), rO 8 (.bin .eql (.tmp 7) (.const (.int .i64 0)))]) (.cond (.tmp 8) (.seq (.ops [rO 2 (.mv (.const (.int .i64 0))), rO 3 (.mv (.const (.int .i64 1100)))]) .ret) .skip)) (.seq (.ops [rO 9 (.mv (.tmp 0)), rO 10 (.idxAddr 1 (.tmp 9) (.const (.int .i64 0))), rO 11 (.load .none (.tmp 10)), rO 4 (.mv (.tmp 11))]) (.seq (.seq (.ops [rO 5 (.mv (.const (.int .i64 0)))]) (.block 0 (.loop (.seq (.seq (.ops [rO 12 (.mv (.tmp 5)), rO 13 (.mv (.tmp 0)), rO 14 (.len 1 (.tmp 13)), rO 15 (.bin .lss (.tmp 12) (.tmp 14))]) (.cond (.tmp 15) .skip (.exit 0))) (.seq (.block 1 (.seq (.seq (.ops [rO 18 (.mv (.tmp 0)), rO 19 (.mv (.tmp 5)), rO 20 (.idxAddr 1 (.tmp 18) (.tmp 19)), rO 21 (.load .none (.tmp 20)), rO 22 (.bin .lss (.tmp 21) (.const (.int .i64 0)))]) (.cond (.tmp 22) (.seq (.ops [rO 2 (.mv (.const (.int .i64 0))), rO 3 (.mv (.const (.int .i64 1100)))]) .ret) .skip)) (.ops [rO 23 (.mv (.tmp 4)), rO 24 (.mv (.tmp 0)), rO 25 (.mv (.tmp 5)), rO 26 (.idxAddr 1 (.tmp 24) (.tmp 25)), rO 27 (.load .none (.tmp 26)), rO 28 (.minmax false [(.tmp 23), (.tmp 27)]), rO 4 (.mv (.tmp 28))]))) (.ops [rO 16 (.mv (.tmp 5)), rO 17 (.bin .add (.tmp 16) (.const (.int .i64 1))), rO 5 (.mv (.tmp 17))])))))) (.seq (.ops [rO 29 (.mv (.tmp 4)), rO 2 (.mv (.tmp 29)), rO 3 (.mv (.const (.int .i64 0)))]) .ret)))))⟩
/-- The least one of a first and others. -/
def least (x : Int) (xs : List Int) : Int := xs.foldl (fun a b => if b < a then b else a) x
def LeastM : List Int → Int × Int
 | [] => (0, 1100)
 | x :: xs => if least x xs < 0 then (0, 1100) else (least x xs, 0)
theorem least_succ {x : Int} {xs : List Int} {i : Nat} (h1 : 1 ≤ i) (hi : i < (x :: xs).length) : least x (xs.take (i + 1 - 1)) = if (x :: xs)[i] < least x (xs.take (i - 1)) then (x :: xs)[i] else least x (xs.take (i - 1)) := by
 obtain ⟨j, rfl⟩ : ∃ j, i = j + 1 := ⟨i - 1, by omega⟩
 have hj : j < xs.length := by simpa using hi
 simp only [Nat.add_sub_cancel, List.getElem_cons_succ]
 unfold least
 rw [List.take_succ_eq_append_getElem hj, List.foldl_append]
 rfl
theorem least_le : ∀ (xs : List Int) (x : Int), least x xs ≤ x ∧ ∀ y ∈ xs, least x xs ≤ y
 | [], x => ⟨Int.le_refl _, fun y hy => by cases hy⟩
 | z :: xs, x => by
  have h := least_le xs (if z < x then z else x)
  have e : least x (z :: xs) = least (if z < x then z else x) xs := rfl
  rw [e]
  have h1 : (if z < x then z else x) ≤ x ∧ (if z < x then z else x) ≤ z := by split <;> omega
  refine ⟨Int.le_trans h.1 h1.1, fun y hy => ?_⟩
  rcases List.mem_cons.1 hy with rfl | hy
  ·exact Int.le_trans h.1 h1.2
  ·exact h.2 y hy
theorem least_mem : ∀ (xs : List Int) (x : Int), least x xs = x ∨ least x xs ∈ xs
 | [], x => .inl rfl
 | z :: xs, x => by
  have h := least_mem xs (if z < x then z else x)
  have e : least x (z :: xs) = least (if z < x then z else x) xs := rfl
  rw [e]
  rcases h with h | h
  ·rw [h]
   split
   ·exact .inr (by simp)
   ·exact .inl rfl
  ·exact .inr (by simp [h])
theorem least_snoc {x : Int} {xs : List Int} {i : Nat} (hi : i < xs.length) : least x (xs.take (i + 1)) = if xs[i] < least x (xs.take i) then xs[i] else least x (xs.take i) := by
 unfold least
 rw [List.take_succ_eq_append_getElem hi, List.foldl_append]
 rfl
theorem least_self (x : Int) (xs : List Int) : least x (x :: xs) = least x xs := by
 have e : least x (x :: xs) = least (if x < x then x else x) xs := rfl
 rw [e]; simp
section
variable {X : Ext} {F : FuncId → Option RFunc} {lim : Nat} {f : FuncId} {h : AH}
theorem Min_run (hX : X f = none) (hF : F f = some rf_Min) {a : Option Addr} {n c : Nat} {x : Int} {xs : List Int} (ha : Sl 1 h a n c (ints (x :: xs))) (hn : n ≤ 2 ^ 44) : Ret X F lim f [.slice a n c] h fun v h' => v = .int .i64 (least x xs) ∧ h' = h := by
 have hxn := ha.ilen
 have hpos : 0 < n := by rw [← hxn]; simp
 refine Ret.body hX hF rfl ?_
 simp only [argL, rf_Min]
 (refine Cs (Co (Wm rfl (Wn (Cs (Cs (Co (Wm rfl (Wc (OP.lenS rfl (Wc (OP.lssF rfl rfl (by omega) ?_))))))))))); refine Wn (WC.condF rfl (WC.skip (Cs (Co (Wm rfl (Wc (OP.idxS (by assumption) rfl rfl (by omega) ?_))))))); dsimp only [zn, zr, zx, yn, yr]; refine Wc (OP.ldI (by assumption) rfl (by omega) ?_); refine Wm rfl (Wn (Cs (Cs (Co (Wm rfl (Wn (WC.block ?_))))))))
 refine WC.loop (fun i : Nat => i ≤ n ∧ 1 ≤ i) (fun i => [(4, .int .i64 (i : Int)), (3, .int .i64 (least x (xs.take (i - 1)))), (0, .slice a n c)]) (fun _ => h) (fun i => n - i) ?_ 1 ⟨by omega, by omega⟩ (by (refine Sub.cons rfl (Sub.cons rfl (Sub.cons rfl ?_)); exact Sub.nil _)) rfl
 intro i ⟨hi, h1⟩
 by_cases hlt : (i : Int) < n
 ·(refine Cs (Cs (Co (Wm rfl (Wm rfl (Wc (OP.lenS rfl (Wc (OP.lssT rfl rfl (by omega) ?_)))))))); refine Wn (WC.condT rfl (WC.skip (Cs (WC.block (Co (Wm rfl (Wm rfl (Wm rfl (Wc (OP.idxS (by assumption) rfl rfl (by omega) ?_)))))))))); refine Wc (OP.ldI (by assumption) rfl (by omega) ?_); refine Wc (OP.minI rfl rfl (Wm rfl (Wn (Co (Wm rfl (Wc (OP.add rfl rfl (by omega) ?_))))))); refine Wm rfl (Wt ?_))
  refine ⟨i + 1, ⟨by omega, by omega⟩, ?_, rfl, by omega⟩
  rw [least_succ h1 (by omega)]
  (refine Sub.cons rfl (Sub.cons rfl (Sub.cons rfl ?_)); exact Sub.nil _)
 ·(refine Cs (Cs (Co (Wm rfl (Wm rfl (Wc (OP.lenS rfl (Wc (OP.lssF rfl rfl (by omega) ?_)))))))); refine Wn (WC.condF rfl (WC.exit (Cs (Co (Wm rfl (Wm rfl (Wn (WC.ret ?_)))))))))
  refine Fin.ret rfl ⟨?_, rfl⟩
  rw [List.take_of_length_le (by simp at hxn; omega)]
  rfl
theorem cLeast_run {g0 : Nat} (hX : X f = none) (hF : F f = some (rf_cLeast g0)) (hX0 : X g0 = none) (hF0 : F g0 = some rf_Min) {a : Option Addr} {n c : Nat} {xs : List Int} (ha : Sl 1 h a n c (ints xs)) (hn : n ≤ 2 ^ 44) : Ret X F lim f [.slice a n c] h fun v h' => v = .tuple #[.int .i64 (LeastM xs).1, .int .i64 (LeastM xs).2] ∧ h' = h := by
 have hxn := ha.ilen
 refine Ret.body hX hF rfl ?_
 simp only [argL, rf_cLeast]
 cases xs with
 | nil =>
  obtain rfl : n = 0 := by simpa using hxn.symm
  (refine Cs (Co (Wm rfl (Wm rfl (Wn (Cs (Cs (Co (Wm rfl (Wc (OP.lenS rfl (Wc (OP.eqlT rfl rfl (by omega) ?_)))))))))))); refine Wm rfl (WO.no rfl (WO.no rfl (WO.no rfl (Wc (OP.pickT rfl rfl (Wn (WC.condT rfl (Cs (Co (Wm rfl (Wm rfl (Wn (WC.ret ?_))))))))))))); dsimp only [zn, zr, zx, yn, yr])
  exact Fin.ret rfl ⟨rfl, rfl⟩
 | cons x xs =>
  have hpos : n ≠ 0 := by rw [← hxn]; simp
  (refine Cs (Co (Wm rfl (Wm rfl (Wn (Cs (Cs (Co (Wm rfl (Wc (OP.lenS rfl (Wc (OP.eqlF rfl rfl (by omega) ?_)))))))))))); refine Wm rfl (WO.yes rfl (Wm rfl (WO.yes rfl ?_))); dsimp only [zn, zr, zx, yn, yr])
  (refine Wc ?_)
  refine OP.call rfl rfl (Ret.mono (Min_run hX0 hF0 ha hn) fun v h' hv => ?_)
  obtain ⟨rfl, rfl⟩ := hv
  by_cases hneg : least x xs < 0
  ·(refine WO.yes rfl (Wc (OP.lssT rfl rfl (by omega) ?_)); refine Wc (OP.pickF rfl rfl (Wn (WC.condT rfl (Cs (Co (Wm rfl (Wm rfl (Wn (WC.ret ?_))))))))); dsimp only [zn, zr, zx, yn, yr])
   refine Fin.ret rfl ⟨?_, rfl⟩
   simp [resultOf, LeastM, hneg]
  ·(refine WO.yes rfl (Wc (OP.lssF rfl rfl (by omega) ?_)); refine Wc (OP.pickF rfl rfl (Wn (WC.condF rfl (WC.skip (Cs (Co (Wm rfl ?_))))))); dsimp only [zn, zr, zx, yn, yr])
   (refine Wc ?_)
   refine OP.call rfl rfl (Ret.mono (Min_run hX0 hF0 ha hn) fun v h' hv => ?_)
   obtain ⟨rfl, rfl⟩ := hv
   (refine Wm rfl (Wm rfl (Wn (WC.ret ?_))))
   refine Fin.ret rfl ⟨?_, rfl⟩
   simp [resultOf, LeastM, hneg]
theorem rLeast_run (hX : X f = none) (hF : F f = some rf_rLeast) {a : Option Addr} {n c : Nat} {xs : List Int} (ha : Sl 1 h a n c (ints xs)) (hn : n ≤ 2 ^ 44) : Ret X F lim f [.slice a n c] h fun v h' => v = .tuple #[.int .i64 (LeastM xs).1, .int .i64 (LeastM xs).2] ∧ h' = h := by
 have hxn := ha.ilen
 refine Ret.body hX hF rfl ?_
 simp only [argL, rf_rLeast]
 cases xs with
 | nil =>
  obtain rfl : n = 0 := by simpa using hxn.symm
  (refine Cs (Co (Wm rfl (Wm rfl (Wn (Cs (Cs (Co (Wm rfl (Wc (OP.lenS rfl (Wc (OP.eqlT rfl rfl (by omega) ?_)))))))))))); refine Wn (WC.condT rfl (Cs (Co (Wm rfl (Wm rfl (Wn (WC.ret ?_))))))); dsimp only [zn, zr, zx, yn, yr])
  exact Fin.ret rfl ⟨rfl, rfl⟩
 | cons x xs =>
  have hpos : n ≠ 0 := by rw [← hxn]; simp
  (refine Cs (Co (Wm rfl (Wm rfl (Wn (Cs (Cs (Co (Wm rfl (Wc (OP.lenS rfl (Wc (OP.eqlF rfl rfl (by omega) ?_)))))))))))); refine Wn (WC.condF rfl (WC.skip (Cs (Co (Wm rfl (Wc (OP.idxZ (by assumption) rfl rfl (by omega) ?_))))))); refine Wc (OP.ldI (by assumption) rfl (by omega) ?_); refine Wm rfl (Wn (Cs (Cs (Co (Wm rfl (Wn (WC.block ?_))))))))
  refine WC.loop (fun i : Nat => i ≤ n ∧ ∀ y ∈ (x :: xs).take i, 0 ≤ y) (fun i => [(5, .int .i64 (i : Int)), (4, .int .i64 (least x ((x :: xs).take i))), (0, .slice a n c)]) (fun _ => h) (fun i => n - i) ?_ 0 ⟨by omega, by simp⟩ (by (refine Sub.cons rfl (Sub.cons rfl (Sub.cons rfl ?_)); exact Sub.nil _)) rfl
  intro i ⟨hi, hall⟩
  by_cases hlt : (i : Int) < n
  ·have hil : i < (x :: xs).length := by omega
   by_cases hneg : (x :: xs)[i] < 0
   ·(refine Cs (Cs (Co (Wm rfl (Wm rfl (Wc (OP.lenS rfl (Wc (OP.lssT rfl rfl (by omega) ?_)))))))); refine Wn (WC.condT rfl (WC.skip (Cs (WC.block (Cs (Cs (Co (Wm rfl (Wm rfl (Wc (OP.idxS (by assumption) rfl rfl (by omega) ?_))))))))))); refine Wc (OP.ldI (by assumption) rfl (by omega) ?_); refine Wc (OP.lssT rfl rfl (by omega) ?_); refine Wn (WC.condT rfl (Cs (Co (Wm rfl (Wm rfl (Wn (WC.ret ?_))))))); dsimp only [zn, zr, zx, yn, yr])
    refine Fin.ret rfl ⟨?_, rfl⟩
    have h1 := least_le (x :: xs) x
    have h2 := h1.2 _ (List.getElem_mem hil)
    rw [least_self] at h2
    have : least x xs < 0 := by omega
    simp [resultOf, LeastM, this]
   ·(refine Cs (Cs (Co (Wm rfl (Wm rfl (Wc (OP.lenS rfl (Wc (OP.lssT rfl rfl (by omega) ?_)))))))); refine Wn (WC.condT rfl (WC.skip (Cs (WC.block (Cs (Cs (Co (Wm rfl (Wm rfl (Wc (OP.idxS (by assumption) rfl rfl (by omega) ?_))))))))))); refine Wc (OP.ldI (by assumption) rfl (by omega) ?_); refine Wc (OP.lssF rfl rfl (by omega) ?_); refine Wn (WC.condF rfl (WC.skip (Co (Wm rfl (Wm rfl (Wm rfl (Wc (OP.idxS (by assumption) rfl rfl (by omega) ?_)))))))); refine Wc (OP.ldI (by assumption) rfl (by omega) ?_); refine Wc (OP.minI rfl rfl (Wm rfl (Wn (Co (Wm rfl (Wc (OP.add rfl rfl (by omega) ?_))))))); refine Wm rfl (Wt ?_))
    refine ⟨i + 1, ⟨by omega, ?_⟩, ?_, rfl, by omega⟩
    ·rw [List.take_succ_eq_append_getElem hil]
     intro y hy
     rcases List.mem_append.1 hy with hy | hy
     ·exact hall y hy
     ·simp at hy; rw [hy]; omega
    ·rw [least_snoc hil]
     (refine Sub.cons rfl (Sub.cons rfl (Sub.cons rfl ?_)); exact Sub.nil _)
  ·rw [List.take_of_length_le (by omega)] at hall
   rw [List.take_of_length_le (by omega), least_self]
   (refine Cs (Cs (Co (Wm rfl (Wm rfl (Wc (OP.lenS rfl (Wc (OP.lssF rfl rfl (by omega) ?_)))))))); refine Wn (WC.condF rfl (WC.exit (Cs (Co (Wm rfl (Wm rfl (Wm rfl (Wn (WC.ret ?_))))))))))
   refine Fin.ret rfl ⟨?_, rfl⟩
   have : ¬ least x xs < 0 := by
    rcases least_mem xs x with h1 | h1
    ·rw [h1]; have := hall x (by simp); omega
    ·have := hall _ (List.mem_cons_of_mem x h1); omega
   simp [resultOf, LeastM, this]
end
end Go.Proofs.YtdcpmchhioilpaaW.Ai
