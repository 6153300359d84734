/-
 Cells (chapter 1), as the small machine runs them.
-/
import Derived.Test.YtalknjppnkpmmaaDoorFn1
set_option linter.unusedVariables false
set_option linter.unusedSimpArgs false
namespace Go.Proofs.YtalknjppnkpmmaaDoorW.Ai
section
def rf_ContainsFunc (g0 : Nat) : RFunc :=
 ⟨9, [(.tmp 4)], (.seq (.ops [rO 4 (.mv (.const (.bool false)))]) (.seq (.ops [rO 5 (.mv (.tmp 0)), rO 6 (.mv (.tmp 1)), rO 7 (.call (.func g0) [(.tmp 5), (.tmp 6)]), rO 8 (.bin .geq (.tmp 7) (.const (.int .i64 0))), rO 4 (.mv (.tmp 8))]) .ret))⟩
def rf_IndexFunc : RFunc :=
 ⟨19, [(.tmp 4)], (.seq (.ops [rO 4 (.mv (.const (.int .i64 0)))]) (.seq (.seq (.ops [rO 6 (.mv (.tmp 0)), rO 7 (.len 1 (.tmp 6)), rO 8 (.mv (.const (.int .i64 0)))]) (.block 0 (.loop (.seq (.ops [rO 9 (.bin .lss (.tmp 8) (.tmp 7))]) (.seq (.cond (.tmp 9) .skip (.exit 0)) (.seq (.block 1 (.seq (.ops [rO 10 (.mv (.tmp 8)), rO 5 (.mv (.tmp 10))]) (.seq (.ops [rO 11 (.mv (.tmp 1)), rO 12 (.mv (.tmp 0)), rO 13 (.mv (.tmp 5)), rO 14 (.idxAddr 1 (.tmp 12) (.tmp 13)), rO 15 (.load .none (.tmp 14)), rO 16 (.call (.tmp 11) [(.tmp 15)])]) (.cond (.tmp 16) (.seq (.ops [rO 17 (.mv (.tmp 5)), rO 4 (.mv (.tmp 17))]) .ret) .skip)))) (.ops [rO 18 (.bin .add (.tmp 8) (.const (.int .i64 1))), rO 8 (.mv (.tmp 18))]))))))) (.seq (.ops [rO 4 (.mv (.const (.int .i64 (-1))))]) .ret)))⟩
def rf_Clone : RFunc :=
 ⟨8, [(.tmp 2)], (.seq (.ops [rO 2 (.mv (.const (.slice .none 0 0)))]) (.seq (.seq (.ops [rO 3 (.mv (.tmp 0)), rO 4 (.isNil false 0 (.tmp 3))]) (.cond (.tmp 4) (.seq (.ops [rO 2 (.mv (.const (.slice .none 0 0)))]) .ret) .skip)) (.seq (.ops [rO 5 (.buildSlice [] 0 []), rO 6 (.mv (.tmp 0)), rO 7 (.append 1 8 (.tmp 5) (.tmp 6)), rO 2 (.mv (.tmp 7))]) .ret)))⟩
def rf_upTo : RFunc :=
 ⟨15, [(.tmp 6)], (.seq (.ops [rO 6 (.mv (.const (.bool false)))]) (.seq (.ops [rO 7 (.mv (.tmp 0)), rO 8 (.mv (.tmp 1)), rO 9 (.bin .geq (.tmp 7) (.tmp 8)), rO 10 (.mv (.tmp 9)), ⟨(.some 11), (.mv (.tmp 0)), (.some (10, true)), false, []⟩, ⟨(.some 12), (.mv (.tmp 2)), (.some (10, true)), false, []⟩, ⟨(.some 13), (.bin .leq (.tmp 11) (.tmp 12)), (.some (10, true)), false, []⟩, rO 14 (.pick (.tmp 10) (.tmp 13) (.const (.bool false))), rO 6 (.mv (.tmp 14))]) .ret))⟩
def rf_Num : RFunc :=
 ⟨4, [(.tmp 2)], (.seq (.ops [rO 2 (.mv (.const (.int .i64 0)))]) (.seq (.ops [rO 3 (.mv (.tmp 0)), rO 2 (.mv (.tmp 3))]) .ret))⟩
section
variable {X : Ext} {F : FuncId → Option RFunc} {lim : Nat} {f : FuncId} {h : AH}
theorem Num_run (hX : X f = none) (hF : F f = some rf_Num) {x : Int} (hx : -9223372036854775808 ≤ x ∧ x ≤ 9223372036854775807) : Ret X F lim f [.int .i64 x] h fun v h' => v = .int .i64 x ∧ h' = h := by
 refine Ret.body hX hF rfl ?_
 simp only [argL, rf_Num]
 (refine Cs (Co (Wm rfl (Wn (Cs (Co (Wm rfl (Wm rfl (Wn (WC.ret ?_))))))))))
 exact Fin.ret rfl ⟨by simp [resultOf], rfl⟩
theorem upTo_run (hX : X f = none) (hF : F f = some rf_upTo) {x y z : Int} : Ret X F lim f [.int .i64 x, .int .i64 y, .int .i64 z] h fun v h' => v = .bool (decide (y ≤ x ∧ x ≤ z)) ∧ h' = h := by
 refine Ret.body hX hF rfl ?_
 simp only [argL, rf_upTo]
 by_cases h1 : y ≤ x
 ·by_cases h2 : x ≤ z
  ·(refine Cs (Co (Wm rfl (Wn (Cs (Co (Wm rfl (Wm rfl (Wc (OP.geqT rfl rfl (by omega) ?_))))))))); refine Wm rfl (WO.yes rfl (Wm rfl (WO.yes rfl (Wm rfl (WO.yes rfl (Wc (OP.leqT rfl rfl (by omega) ?_))))))); refine Wc (OP.pickT rfl rfl (Wm rfl (Wn (WC.ret ?_)))))
   exact Fin.ret rfl ⟨by simp [resultOf, h1, h2], rfl⟩
  ·(refine Cs (Co (Wm rfl (Wn (Cs (Co (Wm rfl (Wm rfl (Wc (OP.geqT rfl rfl (by omega) ?_))))))))); refine Wm rfl (WO.yes rfl (Wm rfl (WO.yes rfl (Wm rfl (WO.yes rfl (Wc (OP.leqF rfl rfl (by omega) ?_))))))); refine Wc (OP.pickT rfl rfl (Wm rfl (Wn (WC.ret ?_)))))
   exact Fin.ret rfl ⟨by simp [resultOf, h1, h2], rfl⟩
 ·(refine Cs (Co (Wm rfl (Wn (Cs (Co (Wm rfl (Wm rfl (Wc (OP.geqF rfl rfl (by omega) ?_))))))))); refine Wm rfl (WO.no rfl (WO.no rfl (WO.no rfl (Wc (OP.pickF rfl rfl (Wm rfl (Wn (WC.ret ?_)))))))))
  exact Fin.ret rfl ⟨by simp [resultOf, h1], rfl⟩
theorem IndexFunc_run (hX : X f = none) (hF : F f = some rf_IndexFunc) {a : Option Addr} {n c : Nat} {xs : List Int} (ha : Sl 1 h a n c (ints xs)) (hn : n < 2 ^ 62) {g : FuncId} {cap : Array Value} {p : Int → Bool}
  (hp : ∀ x ∈ xs, ∀ h1, Pfx h h1 → Ret X F lim g (.int .i64 x :: cap.toList) h1 fun v h' => v = .bool (p x) ∧ Pfx h1 h') :
  Ret X F lim f [.slice a n c, .func (.func g) #[] cap] h fun v h' => Pfx h h' ∧ ∃ i : Int, v = .int .i64 i ∧ (0 ≤ i ↔ xs.any p = true) := by
 have hxn := ha.ilen
 refine Ret.body hX hF rfl ?_
 simp only [argL, rf_IndexFunc]
 (refine Cs (Co (Wm rfl (Wn (Cs (Cs (Co (Wm rfl (Wc (OP.lenS rfl (Wm rfl (Wn (WC.block ?_)))))))))))))
 refine WC.loop (fun q : Nat × AH => q.1 ≤ n ∧ Pfx h q.2 ∧ (xs.take q.1).any p = false) (fun q => [(8, .int .i64 (q.1 : Int)), (7, .int .i64 (n : Int)), (0, .slice a n c), (1, .func (.func g) #[] cap)]) (fun q => q.2) (fun q => n - q.1) ?_ (0, h) ⟨Nat.zero_le _, Pfx.refl h, by simp⟩ (by (refine Sub.cons rfl (Sub.cons rfl (Sub.cons rfl (Sub.cons rfl ?_))); exact Sub.nil _)) rfl
 intro ⟨i, h1⟩ ⟨hi, hp1, hany⟩
 simp only at hi hp1 hany ⊢
 have ha1 := ha.pfx hp1
 by_cases hlt : (i : Int) < n
 ·(refine Cs (Co (Wc (OP.lssT rfl rfl (by omega) ?_))); refine Wn (Cs (WC.condT rfl (WC.skip (Cs (WC.block (Cs (Co (Wm rfl (Wm rfl (Wn (Cs (Co (Wm rfl (Wm rfl (Wm rfl (Wc (OP.idxS (by assumption) rfl rfl (by omega) ?_))))))))))))))))); refine Wc (OP.ldI (by assumption) rfl (by omega) ?_); dsimp only [zn, zr, zx, yn, yr])
  (refine Wc ?_)
  refine OP.callC rfl rfl (Ret.mono (hp xs[i] (List.getElem_mem _) h1 hp1) fun v h2 hv => ?_)
  obtain ⟨rfl, hp2⟩ := hv
  cases hpx : p xs[i] with
  | true =>
   (refine Wn (WC.condT rfl (Cs (Co (Wm rfl (Wm rfl (Wn (WC.ret ?_))))))); dsimp only [zn, zr, zx, yn, yr])
   refine Fin.ret rfl ⟨hp1.trans hp2, i, rfl, ?_⟩
   simp only [Int.natCast_nonneg, true_iff, List.any_eq_true]
   exact ⟨_, List.getElem_mem _, hpx⟩
  | false =>
   (refine Wn (WC.condF rfl (WC.skip (Co (Wc (OP.add rfl rfl (by omega) ?_))))); refine Wm rfl (Wt ?_))
   refine ⟨(i + 1, h2), ⟨by simp only; omega, hp1.trans hp2, ?_⟩, by (refine Sub.cons rfl (Sub.cons rfl (Sub.cons rfl (Sub.cons rfl ?_))); exact Sub.nil _), rfl, by simp only; omega⟩
   simp only
   rw [List.take_succ_eq_append_getElem (by omega), List.any_append, hany]
   simp [hpx]
 ·(refine Cs (Co (Wc (OP.lssF rfl rfl (by omega) ?_))); refine Wn (Cs (WC.condF rfl (WC.exit (Cs (Co (Wm rfl (Wn (WC.ret ?_)))))))))
  refine Fin.ret rfl ⟨hp1, -1, rfl, ?_⟩
  rw [List.take_of_length_le (by omega)] at hany
  rw [hany]
  simp
theorem ContainsFunc_run {g0 : Nat} (hX : X f = none) (hF : F f = some (rf_ContainsFunc g0)) (hX0 : X g0 = none) (hF0 : F g0 = some rf_IndexFunc) {a : Option Addr} {n c : Nat} {xs : List Int} (ha : Sl 1 h a n c (ints xs)) (hn : n < 2 ^ 62) {g : FuncId} {cap : Array Value} {p : Int → Bool}
  (hp : ∀ x ∈ xs, ∀ h1, Pfx h h1 → Ret X F lim g (.int .i64 x :: cap.toList) h1 fun v h' => v = .bool (p x) ∧ Pfx h1 h') :
  Ret X F lim f [.slice a n c, .func (.func g) #[] cap] h fun v h' => Pfx h h' ∧ v = .bool (xs.any p) := by
 refine Ret.body hX hF rfl ?_
 simp only [argL, rf_ContainsFunc]
 (refine Cs (Co (Wm rfl (Wn (Cs (Co (Wm rfl (Wm rfl ?_))))))); dsimp only [zn, zr, zx, yn, yr])
 (refine Wc ?_)
 refine OP.call rfl rfl (Ret.mono (IndexFunc_run hX0 hF0 ha hn hp) fun v h' hv => ?_)
 obtain ⟨hp1, i, rfl, hi⟩ := hv
 (refine Wc ?_)
 refine OP.bin rfl rfl rfl ?_
 (refine Wm rfl (Wn (WC.ret ?_)))
 refine Fin.ret rfl ⟨hp1, ?_⟩
 simp only [resultOf, Value.bool.injEq]
 by_cases h0 : 0 ≤ i
 ·rw [hi.1 h0]; simp [h0]
 ·have : xs.any p = false := by
   cases hx : xs.any p with
   | false => rfl
   | true => exact absurd (hi.2 hx) h0
  rw [this]; simp [h0]
end
end
end Go.Proofs.YtalknjppnkpmmaaDoorW.Ai
