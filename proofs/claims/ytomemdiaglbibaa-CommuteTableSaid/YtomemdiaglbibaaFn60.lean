/-
 Two operations, either one first (chapter 8), as the small machine runs them: two states compared.
-/
import Derived.Test.YtomemdiaglbibaaFn52
set_option linter.unusedVariables false
set_option linter.unusedSimpArgs false
set_option maxHeartbeats 4000000
set_option maxRecDepth 100000
namespace Go.Proofs.YtomemdiaglbibaaW.Ai
-- slices.Equal[[]int,int]
def rf_Eq : RFunc :=
 ⟨26, [(.tmp 4)], (.seq (.ops [rO 4 (.mv (.const (.bool false)))]) (.seq (.seq (.ops [rO 6 (.mv (.tmp 0)), rO 7 (.len 1 (.tmp 6)), rO 8 (.mv (.tmp 1)), rO 9 (.len 1 (.tmp 8)), rO 10 (.bin .neq (.tmp 7) (.tmp 9))]) (.cond (.tmp 10) (.seq (.ops [rO 4 (.mv (.const (.bool false)))]) .ret) .skip)) (.seq (.seq (.ops [rO 11 (.mv (.tmp 0)), rO 12 (.len 1 (.tmp 11)), rO 13 (.mv (.const (.int .i64 0)))]) (.block 0 (.loop (.seq (.ops [rO 14 (.bin .lss (.tmp 13) (.tmp 12))]) (.seq (.cond (.tmp 14) .skip (.exit 0)) (.seq (.block 1 (.seq (.ops [rO 15 (.mv (.tmp 13)), rO 5 (.mv (.tmp 15))]) (.seq (.ops [⟨(.some 16), (.mv (.tmp 0)), .none, true, []⟩, ⟨(.some 17), (.mv (.tmp 5)), .none, true, []⟩, ⟨(.some 18), (.idxAddr 1 (.tmp 16) (.tmp 17)), .none, true, []⟩, ⟨(.some 19), (.load .none (.tmp 18)), .none, true, []⟩, ⟨(.some 20), (.mv (.tmp 1)), .none, true, []⟩, ⟨(.some 21), (.mv (.tmp 5)), .none, true, []⟩, ⟨(.some 22), (.idxAddr 1 (.tmp 20) (.tmp 21)), .none, true, []⟩, ⟨(.some 23), (.load .none (.tmp 22)), .none, true, []⟩, rO 24 (.bin .neq (.tmp 19) (.tmp 23))]) (.cond (.tmp 24) (.seq (.ops [rO 4 (.mv (.const (.bool false)))]) .ret) .skip)))) (.ops [rO 25 (.bin .add (.tmp 13) (.const (.int .i64 1))), rO 13 (.mv (.tmp 25))]))))))) (.seq (.ops [rO 4 (.mv (.const (.bool true)))]) .ret))))⟩
-- chorus/commute.Same$1; g0 = slices.Equal[[]int,int]
def rf_cSame1 (g0 : Nat) : RFunc :=
 ⟨8, [(.tmp 4)], (.seq (.ops [rO 4 (.mv (.const (.bool false)))]) (.seq (.ops [rO 5 (.mv (.tmp 0)), rO 6 (.mv (.tmp 1)), rO 7 (.call (.func g0) [(.tmp 5), (.tmp 6)]), rO 4 (.mv (.tmp 7))]) .ret))⟩
-- slices.EqualFunc[[][]int,[][]int,[]int,[]int]
def rf_EqF : RFunc :=
 ⟨32, [(.tmp 6)], (.seq (.ops [rO 6 (.mv (.const (.bool false)))]) (.seq (.seq (.ops [rO 10 (.mv (.tmp 0)), rO 11 (.len 1 (.tmp 10)), rO 12 (.mv (.tmp 1)), rO 13 (.len 1 (.tmp 12)), rO 14 (.bin .neq (.tmp 11) (.tmp 13))]) (.cond (.tmp 14) (.seq (.ops [rO 6 (.mv (.const (.bool false)))]) .ret) .skip)) (.seq (.seq (.ops [rO 15 (.mv (.tmp 0)), rO 16 (.len 1 (.tmp 15)), rO 17 (.mv (.const (.int .i64 0)))]) (.block 0 (.loop (.seq (.ops [rO 18 (.bin .lss (.tmp 17) (.tmp 16))]) (.seq (.cond (.tmp 18) .skip (.exit 0)) (.seq (.block 1 (.seq (.ops [rO 19 (.mv (.tmp 17)), rO 20 (.idxAddr 1 (.tmp 15) (.tmp 17)), rO 21 (.load .none (.tmp 20)), rO 7 (.mv (.tmp 19)), rO 8 (.mv (.tmp 21))]) (.seq (.ops [rO 22 (.mv (.tmp 1)), rO 23 (.mv (.tmp 7)), rO 24 (.idxAddr 1 (.tmp 22) (.tmp 23)), rO 25 (.load .none (.tmp 24)), rO 9 (.mv (.tmp 25))]) (.seq (.ops [rO 26 (.mv (.tmp 2)), rO 27 (.mv (.tmp 8)), rO 28 (.mv (.tmp 9)), rO 29 (.call (.tmp 26) [(.tmp 27), (.tmp 28)]), rO 30 (.un .not (.tmp 29))]) (.cond (.tmp 30) (.seq (.ops [rO 6 (.mv (.const (.bool false)))]) .ret) .skip))))) (.ops [rO 31 (.bin .add (.tmp 17) (.const (.int .i64 1))), rO 17 (.mv (.tmp 31))]))))))) (.seq (.ops [rO 6 (.mv (.const (.bool true)))]) .ret))))⟩
-- chorus/commute.Same; g0 = slices.EqualFunc[[][]int,[][]int,[]int,[]int]; g1 = chorus/commute.Same$1
def rf_cSame (g0 g1 : Nat) : RFunc :=
 ⟨10, [(.tmp 4)], (.seq (.ops [rO 2 (.box (.tmp 0)), rO 3 (.box (.tmp 1)), rO 4 (.mv (.const (.bool false)))]) (.seq (.ops [rO 5 (.fieldAddr 0 (.tmp 2)), rO 6 (.sliceArr 4 1 (.tmp 5) .none .none .none), rO 7 (.fieldAddr 0 (.tmp 3)), rO 8 (.sliceArr 4 1 (.tmp 7) .none .none .none), rO 9 (.call (.func g0) [(.tmp 6), (.tmp 8), (.func g1)]), rO 4 (.mv (.tmp 9))]) .ret))⟩
section
variable (X : Ext) (F : FuncId → Option RFunc) (g : FuncId)
abbrev S_Eq : Prop := ∀ (lim : Nat) (h : AH) {a b : Option Addr} {n m : Nat} {xs ys : List Int}, Sl 1 h a n n (ints xs) → Sl 1 h b m m (ints ys) → n ≤ 2 ^ 44 → Ret X F lim g [.slice a n n, .slice b m m] h fun v h' => Pfx h h' ∧ v = .bool (decide (xs = ys))
abbrev S_cSame1 : Prop := ∀ (lim : Nat) (h : AH) {r t : Row}, RowOk h r → RowOk h t → Ret X F lim g [r.v, t.v] h fun v h' => Pfx h h' ∧ v = .bool (decide (r.xs = t.xs))
abbrev S_EqF : Prop := ∀ (k lim : Nat) (h : AH) {b c : Nat} {r0 r1 r2 r3 t0 t1 t2 t3 : Row}, S_cSame1 X F k → h[b]? = some (.cells [r0.v, r1.v, r2.v, r3.v]) → h[c]? = some (.cells [t0.v, t1.v, t2.v, t3.v]) → St h r0 r1 r2 r3 → St h t0 t1 t2 t3 → Ret X F lim g [.slice (some ⟨b, 0, none⟩) 4 4, .slice (some ⟨c, 0, none⟩) 4 4, .func (.func k) #[] #[]] h fun v h' => Pfx h h' ∧ v = .bool (decide (r0.xs = t0.xs ∧ r1.xs = t1.xs ∧ r2.xs = t2.xs ∧ r3.xs = t3.xs))
end
section
variable {X : Ext} {F : FuncId → Option RFunc} {f : FuncId}
theorem s_Eq (hX : X f = none) (hF : F f = some rf_Eq) : S_Eq X F f := by
 intro lim h a b n m xs ys ha hb hn
 have hL := Loc.start h
 have hxn := ha.ilen
 have hyn := hb.ilen
 refine Ret.body hX hF rfl ?_
 simp only [argL, rf_Eq]
 by_cases hnm : n = m
 ·subst hnm
  (refine Cs (Co (Wm rfl (Wt ?_))); refine Cs (Cs (Co (Wm rfl (Wc (OP.lenS rfl (Wm rfl (Wc (OP.lenS rfl (Wc (OP.neqF rfl rfl (by omega) ?_)))))))))); refine Wt ?_; refine WC.condF rfl (Ks ?_); refine Cs (Cs (Co (Wm rfl (Wc (OP.lenS rfl (Wm rfl (Wt ?_))))))); refine WC.block ?_)
  refine WC.loop (fun i : Nat => i ≤ n ∧ ∀ (k : Nat) (h1 : k < xs.length) (h2 : k < ys.length), k < i → xs[k] = ys[k]) (fun i => [(13, .int .i64 (i : Int)), (12, .int .i64 (n : Int)), (0, .slice a n n), (1, .slice b n n)]) (fun _ => h) (fun i => n - i) ?_ 0 ⟨Nat.zero_le _, fun k _ _ hk => absurd hk (Nat.not_lt_zero k)⟩ (by (refine Sub.cons rfl (Sub.cons rfl (Sub.cons rfl (Sub.cons rfl ?_))); exact Sub.nil _)) rfl
  intro i ⟨hi, hall⟩
  by_cases hlt : (i : Int) < n
  ·have hil : i < xs.length := by omega
   have hil2 : i < ys.length := by omega
   have hno : ¬ xs[i] = ys[i] → ¬ xs = ys := fun hh he => hh (by simp only [he])
   (refine Cs (Co (Wc (OP.lssT rfl rfl (by omega) ?_))); refine Wn ?_; dsimp only [zn, zr, zx, yn, yr]; refine Cs (WC.condT rfl (WC.skip ?_)); dsimp only [zn, zr, zx, yn, yr]; refine Cs (WC.block (Cs (Co (Wm rfl (Wm rfl (Wn ?_)))))); dsimp only [zn, zr, zx, yn, yr]; refine Cs (Co (WO.consQ (OP.mv rfl (WO.consQ (OP.mv rfl (WO.consQ (OP.idxS (by assumption) rfl rfl (by omega) ?_))))))); refine WO.consQ (OP.ldI (by assumption) rfl (by omega) ?_); refine WO.consQ (OP.mv rfl (WO.consQ (OP.mv rfl (WO.consQ (OP.idxS (by assumption) rfl rfl (by omega) ?_))))); refine WO.consQ (OP.ldI (by assumption) rfl (by omega) ?_); refine Wc ?_; refine OP.neqC rfl rfl (fun hc => ?_) (fun hc => ?_); refine Wn ?_; dsimp only [zn, zr, zx, yn, yr]; refine WC.condT rfl (Cs (Co (Wm rfl (Wn ?_)))); dsimp only [zn, zr, zx, yn, yr]; refine WC.ret ?_; dsimp only [zn, zr, zx, yn, yr]; exact Fin.ret rfl ⟨hL.pfx, boolF (by grind)⟩; refine Wn ?_; dsimp only [zn, zr, zx, yn, yr]; refine WC.condF rfl (WC.skip ?_); dsimp only [zn, zr, zx, yn, yr]; refine Co (Wc (OP.add rfl rfl (by omega) ?_)); refine Wm rfl (Wn ?_); dsimp only [zn, zr, zx, yn, yr])
   refine ⟨i + 1, ⟨by omega, fun k h1 h2 hk => ?_⟩, by (refine Sub.cons rfl (Sub.cons rfl (Sub.cons rfl (Sub.cons rfl ?_))); exact Sub.nil _), rfl, by omega⟩
   by_cases hki : k = i
   ·subst hki; exact hc
   ·exact hall k h1 h2 (by omega)
  ·have hyes : xs = ys := List.ext_getElem (by omega) fun k h1 h2 => hall k h1 h2 (by omega)
   (refine Cs (Co (Wc (OP.lssF rfl rfl (by omega) ?_))); refine Wt ?_; refine Cs (WC.condF rfl (WC.exit ?_)); dsimp only [zn, zr, zx, yn, yr]; rw [yx, if_pos rfl]; dsimp only [zn, zr, zx, yn, yr]; refine Cs (Co (Wm rfl (Wt ?_))); refine WC.ret ?_; exact Fin.ret rfl ⟨hL.pfx, boolT (by omega)⟩)
 ·have hno : ¬ xs = ys := fun hh => hnm (by rw [← hxn, ← hyn, hh])
  (refine Cs (Co (Wm rfl (Wt ?_))); refine Cs (Cs (Co (Wm rfl (Wc (OP.lenS rfl (Wm rfl (Wc (OP.lenS rfl (Wc (OP.neqT rfl rfl (by omega) ?_)))))))))); refine Wt ?_; refine WC.condT rfl (Cs (Co (Wm rfl (Wt ?_)))); refine WC.ret ?_; dsimp only [zn, zr, zx, yn, yr]; exact Fin.ret rfl ⟨hL.pfx, boolF (by omega)⟩)
theorem s_cSame1 {g0 : Nat} (hX : X f = none) (hF : F f = some (rf_cSame1 g0)) (c0' : S_Eq X F g0) : S_cSame1 X F f := by
 intro lim h r t hr ht
 have hL := Loc.start h
 have c0 : ∀ lim h', Pfx h h' → Ret X F lim g0 [r.v, t.v] h' fun v h'' => Pfx h' h'' ∧ v = .bool (decide (r.xs = t.xs)) := fun lim h' hp => c0' lim h' (hr.1.pfx hp) (ht.1.pfx hp) hr.2
 refine Ret.body hX hF rfl ?_
 simp only [argL, rf_cSame1]
 (refine Cs (Co (Wm rfl (Wt ?_))); refine Cs (Co (Wm rfl (Wm rfl (Wc ?_)))); refine OL.callB hL rfl rfl (c0 _ _ hL.pfx) (fun h' hp hL hc => ?_) (fun h' hp hL hc => ?_); refine Wm rfl (Wt ?_); refine WC.ret ?_; exact Fin.ret rfl ⟨hL.pfx, boolT (by omega)⟩; refine Wm rfl (Wt ?_); refine WC.ret ?_; exact Fin.ret rfl ⟨hL.pfx, boolF (by omega)⟩)
theorem s_EqF (hX : X f = none) (hF : F f = some rf_EqF) : S_EqF X F f := by
 intro k lim h b c r0 r1 r2 r3 t0 t1 t2 t3 ck hb hc hr ht
 have hL := Loc.start h
 have sb : Sl 1 h (some ⟨b, 0, none⟩) 4 4 [r0.v, r1.v, r2.v, r3.v] := Sl.of_block hb rfl
 have sc : Sl 1 h (some ⟨c, 0, none⟩) 4 4 [t0.v, t1.v, t2.v, t3.v] := Sl.of_block hc rfl
 have hbl := (List.getElem?_eq_some_iff.1 hb).1
 have hcl := (List.getElem?_eq_some_iff.1 hc).1
 refine Ret.body hX hF rfl ?_
 simp only [argL, rf_EqF]
 (refine Cs (Co (Wm rfl (Wt ?_))); refine Cs (Cs (Co (Wm rfl (Wc (OP.lenS rfl (Wm rfl (Wc (OP.lenS rfl (Wc (OP.neqF rfl rfl (by omega) ?_)))))))))); refine Wt ?_; refine WC.condF rfl (Ks ?_); refine Cs (Cs (Co (Wm rfl (Wc (OP.lenS rfl (Wm rfl (Wt ?_))))))); refine WC.block ?_)
 refine WC.unroll ?_
 (refine Cs (Co (Wc (OP.lssT rfl rfl (by omega) ?_))); refine Wt ?_; refine Cs (WC.condT rfl (Ks ?_)); refine Cs (WC.block (Cs (Co (Wm rfl (Wc (OP.idxZ (by assumption) rfl rfl (by omega) ?_)))))); refine Wc (OP.load rfl (by assumption) rfl ?_); refine Wm rfl (Wm rfl (Wt ?_)); refine Cs (Co (Wm rfl (Wm rfl (Wc (OP.idxZ (by assumption) rfl rfl (by omega) ?_))))); refine Wc (OP.load rfl (by assumption) rfl ?_); refine Wm rfl (Wt ?_); refine Cs (Co (Wm rfl (Wm rfl (Wm rfl ?_)))))
 (refine Wc ?_)
 refine OL.callB hL rfl rfl (ck _ _ (hr.1.pfx hL.pfx) (ht.1.pfx hL.pfx)) (fun h' hp hL hc0 => ?_) (fun h' hp hL hc0 => ?_)
 rotate_left
 ·(refine Wc (OP.not rfl (Wt ?_)); refine WC.condT rfl (Cs (Co (Wm rfl (Wt ?_)))); refine WC.ret ?_; dsimp only [zn, zr, zx, yn, yr]; exact Fin.ret rfl ⟨hL.pfx, boolF (by grind)⟩)
 (refine Wc (OP.not rfl (Wn ?_)); dsimp only [zn, zr, zx, yn, yr]; refine WC.condF rfl (WC.skip ?_); dsimp only [zn, zr, zx, yn, yr]; refine Co (Wc (OP.addL rfl rfl (by simp only [Int.reduceAdd]; rfl) (by decide) ?_)); refine Wm rfl (Wn ?_); dsimp only [zn, zr, zx, yn, yr])
 refine WC.unroll ?_
 (refine Cs (Co (Wc (OP.lssT rfl rfl (by omega) ?_))); refine Wt ?_; refine Cs (WC.condT rfl (Ks ?_)); refine Cs (WC.block (Cs (Co (Wm rfl (Wc (OP.idxZ (Sl.pfx (by assumption) (Loc.pfx hL)) rfl rfl (by omega) ?_)))))))
 (refine Wc ?_)
 refine OP.load (b := b) (o := 1) (cs := [r0.v, r1.v, r2.v, r3.v]) (v := r1.v) rfl ((hL.pfx.2 b hbl).trans hb) rfl ?_
 (refine Wm rfl (Wm rfl (Wt ?_)); refine Cs (Co (Wm rfl (Wm rfl (Wc (OP.idxZ (Sl.pfx (by assumption) (Loc.pfx hL)) rfl rfl (by omega) ?_))))))
 (refine Wc ?_)
 refine OP.load (b := c) (o := 1) (cs := [t0.v, t1.v, t2.v, t3.v]) (v := t1.v) rfl ((hL.pfx.2 c hcl).trans hc) rfl ?_
 (refine Wm rfl (Wt ?_); refine Cs (Co (Wm rfl (Wm rfl (Wm rfl ?_)))))
 (refine Wc ?_)
 refine OL.callB hL rfl rfl (ck _ _ (hr.2.1.pfx hL.pfx) (ht.2.1.pfx hL.pfx)) (fun h' hp hL hc1 => ?_) (fun h' hp hL hc1 => ?_)
 rotate_left
 ·(refine Wc (OP.not rfl (Wt ?_)); refine WC.condT rfl (Cs (Co (Wm rfl (Wt ?_)))); refine WC.ret ?_; dsimp only [zn, zr, zx, yn, yr]; exact Fin.ret rfl ⟨hL.pfx, boolF (by grind)⟩)
 (refine Wc (OP.not rfl (Wn ?_)); dsimp only [zn, zr, zx, yn, yr]; refine WC.condF rfl (WC.skip ?_); dsimp only [zn, zr, zx, yn, yr]; refine Co (Wc (OP.addL rfl rfl (by simp only [Int.reduceAdd]; rfl) (by decide) ?_)); refine Wm rfl (Wn ?_); dsimp only [zn, zr, zx, yn, yr])
 refine WC.unroll ?_
 (refine Cs (Co (Wc (OP.lssT rfl rfl (by omega) ?_))); refine Wt ?_; refine Cs (WC.condT rfl (Ks ?_)); refine Cs (WC.block (Cs (Co (Wm rfl (Wc (OP.idxZ (Sl.pfx (by assumption) (Loc.pfx hL)) rfl rfl (by omega) ?_)))))))
 (refine Wc ?_)
 refine OP.load (b := b) (o := 2) (cs := [r0.v, r1.v, r2.v, r3.v]) (v := r2.v) rfl ((hL.pfx.2 b hbl).trans hb) rfl ?_
 (refine Wm rfl (Wm rfl (Wt ?_)); refine Cs (Co (Wm rfl (Wm rfl (Wc (OP.idxZ (Sl.pfx (by assumption) (Loc.pfx hL)) rfl rfl (by omega) ?_))))))
 (refine Wc ?_)
 refine OP.load (b := c) (o := 2) (cs := [t0.v, t1.v, t2.v, t3.v]) (v := t2.v) rfl ((hL.pfx.2 c hcl).trans hc) rfl ?_
 (refine Wm rfl (Wt ?_); refine Cs (Co (Wm rfl (Wm rfl (Wm rfl ?_)))))
 (refine Wc ?_)
 refine OL.callB hL rfl rfl (ck _ _ (hr.2.2.1.pfx hL.pfx) (ht.2.2.1.pfx hL.pfx)) (fun h' hp hL hc2 => ?_) (fun h' hp hL hc2 => ?_)
 rotate_left
 ·(refine Wc (OP.not rfl (Wt ?_)); refine WC.condT rfl (Cs (Co (Wm rfl (Wt ?_)))); refine WC.ret ?_; dsimp only [zn, zr, zx, yn, yr]; exact Fin.ret rfl ⟨hL.pfx, boolF (by grind)⟩)
 (refine Wc (OP.not rfl (Wn ?_)); dsimp only [zn, zr, zx, yn, yr]; refine WC.condF rfl (WC.skip ?_); dsimp only [zn, zr, zx, yn, yr]; refine Co (Wc (OP.addL rfl rfl (by simp only [Int.reduceAdd]; rfl) (by decide) ?_)); refine Wm rfl (Wn ?_); dsimp only [zn, zr, zx, yn, yr])
 refine WC.unroll ?_
 (refine Cs (Co (Wc (OP.lssT rfl rfl (by omega) ?_))); refine Wt ?_; refine Cs (WC.condT rfl (Ks ?_)); refine Cs (WC.block (Cs (Co (Wm rfl (Wc (OP.idxZ (Sl.pfx (by assumption) (Loc.pfx hL)) rfl rfl (by omega) ?_)))))))
 (refine Wc ?_)
 refine OP.load (b := b) (o := 3) (cs := [r0.v, r1.v, r2.v, r3.v]) (v := r3.v) rfl ((hL.pfx.2 b hbl).trans hb) rfl ?_
 (refine Wm rfl (Wm rfl (Wt ?_)); refine Cs (Co (Wm rfl (Wm rfl (Wc (OP.idxZ (Sl.pfx (by assumption) (Loc.pfx hL)) rfl rfl (by omega) ?_))))))
 (refine Wc ?_)
 refine OP.load (b := c) (o := 3) (cs := [t0.v, t1.v, t2.v, t3.v]) (v := t3.v) rfl ((hL.pfx.2 c hcl).trans hc) rfl ?_
 (refine Wm rfl (Wt ?_); refine Cs (Co (Wm rfl (Wm rfl (Wm rfl ?_)))))
 (refine Wc ?_)
 refine OL.callB hL rfl rfl (ck _ _ (hr.2.2.2.pfx hL.pfx) (ht.2.2.2.pfx hL.pfx)) (fun h' hp hL hc3 => ?_) (fun h' hp hL hc3 => ?_)
 rotate_left
 ·(refine Wc (OP.not rfl (Wt ?_)); refine WC.condT rfl (Cs (Co (Wm rfl (Wt ?_)))); refine WC.ret ?_; dsimp only [zn, zr, zx, yn, yr]; exact Fin.ret rfl ⟨hL.pfx, boolF (by grind)⟩)
 (refine Wc (OP.not rfl (Wn ?_)); dsimp only [zn, zr, zx, yn, yr]; refine WC.condF rfl (WC.skip ?_); dsimp only [zn, zr, zx, yn, yr]; refine Co (Wc (OP.addL rfl rfl (by simp only [Int.reduceAdd]; rfl) (by decide) ?_)); refine Wm rfl (Wn ?_); dsimp only [zn, zr, zx, yn, yr])
 refine WC.unroll ?_
 (refine Cs (Co (Wc (OP.lssF rfl rfl (by omega) ?_))); refine Wt ?_; refine Cs (WC.condF rfl (WC.exit ?_)); dsimp only [zn, zr, zx, yn, yr]; rw [yx, if_pos rfl]; dsimp only [zn, zr, zx, yn, yr]; refine Cs (Co (Wm rfl (Wt ?_))); refine WC.ret ?_; exact Fin.ret rfl ⟨hL.pfx, boolT (by grind)⟩)
theorem s_cSame {g0 g1 : Nat} (hX : X f = none) (hF : F f = some (rf_cSame g0 g1)) (c0' : S_EqF X F g0) (c1' : S_cSame1 X F g1) : S_SameState X F f := by
 intro lim h r0 r1 r2 r3 t0 t1 t2 t3 hr ht
 have hL := Loc.start h
 refine Ret.body hX hF rfl ?_
 simp only [argL, rf_cSame]
 (refine Cs (Co (Wc ?_)); refine OL.boxA hL rfl rfl (fun b h' hL => (Wc ?_)); refine OL.boxA hL rfl rfl (fun b h' hL => (Wm rfl (Wt ?_))); refine Cs (Co (Wc (OP.fieldAddr0 rfl (Wc (OP.sliceArr0 rfl (Wc (OP.fieldAddr0 rfl (Wc (OP.sliceArr0 rfl ?_))))))))))
 (refine Wc ?_)
 refine OL.callV hL rfl rfl (c0' g1 _ _ c1' (hL.cell (k := 1) rfl) (hL.cell (k := 0) rfl) (hr.pfx hL.pfx) (ht.pfx hL.pfx)) (fun h' hp hL => ?_)
 (refine Wm rfl (Wt ?_); refine WC.ret ?_; exact Fin.ret rfl ⟨hL.pfx, rfl⟩)
end
end Go.Proofs.YtomemdiaglbibaaW.Ai
