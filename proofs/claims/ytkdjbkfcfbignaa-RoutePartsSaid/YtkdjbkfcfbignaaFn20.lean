/-
 States (chapters 3 to 6), as the small machine runs them: copies, whether two are the same.
-/
import Derived.Test.YtkdjbkfcfbignaaFn3
import Derived.Test.YtkdjbkfcfbignaaFn9
import Derived.Test.YtkdjbkfcfbignaaMf
set_option linter.unusedVariables false
set_option linter.unusedSimpArgs false
set_option maxHeartbeats 4000000
set_option maxRecDepth 100000
namespace Go.Proofs.YtkdjbkfcfbignaaW.Ai
-- chorus/choruslaw0.SameState; g0 = chorus/choruslaw0.SameInts
def rf_SameState (g0 : Nat) : RFunc :=
 ⟨20, [(.tmp 4)], (.seq (.ops [rO 2 (.box (.tmp 0)), rO 3 (.box (.tmp 1)), rO 4 (.mv (.const (.bool false)))]) (.seq (.seq (.ops [rO 5 (.mv (.const (.int .i64 0)))]) (.block 0 (.loop (.seq (.seq (.ops [rO 6 (.mv (.tmp 5)), rO 7 (.bin .lss (.tmp 6) (.const (.int .i64 4)))]) (.cond (.tmp 7) .skip (.exit 0))) (.seq (.block 1 (.seq (.ops [⟨(.some 10), (.mv (.tmp 5)), .none, true, []⟩, ⟨(.some 11), (.fieldAddr 0 (.tmp 2)), .none, true, []⟩, ⟨(.some 12), (.idxAddrArr 4 1 (.tmp 11) (.tmp 10)), .none, true, []⟩, ⟨(.some 13), (.load .none (.tmp 12)), .none, true, []⟩, ⟨(.some 14), (.mv (.tmp 5)), .none, true, []⟩, ⟨(.some 15), (.fieldAddr 0 (.tmp 3)), .none, true, []⟩, ⟨(.some 16), (.idxAddrArr 4 1 (.tmp 15) (.tmp 14)), .none, true, []⟩, ⟨(.some 17), (.load .none (.tmp 16)), .none, true, []⟩, rO 18 (.call (.func g0) [(.tmp 13), (.tmp 17)]), rO 19 (.un .not (.tmp 18))]) (.cond (.tmp 19) (.seq (.ops [rO 4 (.mv (.const (.bool false)))]) .ret) .skip))) (.ops [rO 8 (.mv (.tmp 5)), rO 9 (.bin .add (.tmp 8) (.const (.int .i64 1))), rO 5 (.mv (.tmp 9))])))))) (.seq (.ops [rO 4 (.mv (.const (.bool true)))]) .ret)))⟩
section
variable (X : Ext) (F : FuncId → Option RFunc) (g : FuncId)
abbrev S_SameState : Prop := ∀ (lim : Nat) (h : AH) {r0 r1 r2 r3 t0 t1 t2 t3 : Row}, St h r0 r1 r2 r3 → St h t0 t1 t2 t3 → Ret X F lim g [stV r0 r1 r2 r3, stV t0 t1 t2 t3] h fun v h' => Pfx h h' ∧ v = .bool (decide (r0.xs = t0.xs ∧ r1.xs = t1.xs ∧ r2.xs = t2.xs ∧ r3.xs = t3.xs))
end
section
variable {X : Ext} {F : FuncId → Option RFunc} {f : FuncId}
theorem s_SameState {g0 : Nat} (hX : X f = none) (hF : F f = some (rf_SameState g0)) (c0' : S_SameInts X F g0) : S_SameState X F f := by
 intro lim h r0 r1 r2 r3 t0 t1 t2 t3 hr ht
 have hL := Loc.start h
 have cc : ∀ {r t : Row}, RowOk h r → RowOk h t → ∀ lim h', Pfx h h' → Ret X F lim g0 [r.v, t.v] h' fun v h'' => Pfx h' h'' ∧ v = .bool (decide (r.xs = t.xs)) := fun hr ht lim h' hp => c0' lim h' (hr.1.pfx hp) (ht.1.pfx hp) (by have := hr.2; omega)
 have c0 := cc hr.1 ht.1
 have c1 := cc hr.2.1 ht.2.1
 have c2 := cc hr.2.2.1 ht.2.2.1
 have c3 := cc hr.2.2.2 ht.2.2.2
 refine Ret.body hX hF rfl ?_
 simp only [argL, rf_SameState]
 (refine Cs (Co (Wc ?_)); refine OL.boxA hL rfl rfl (fun b h' hL => (Wc ?_)); refine OL.boxA hL rfl rfl (fun b h' hL => (Wm rfl (Wt ?_))); refine Cs (Cs (Co (Wm rfl (Wt ?_)))); refine WC.block ?_)
 refine WC.unroll ?_
 (refine Cs (Cs (Co (Wm rfl (Wc (OP.lssT rfl rfl (by omega) ?_))))); refine Wn ?_; dsimp only [zn, zr, zx, yn, yr]; refine WC.condT rfl (WC.skip ?_); dsimp only [zn, zr, zx, yn, yr]; refine Cs (WC.block (Cs (Co (WO.consQ (OP.mv rfl (WO.consQ (OP.fieldAddr0 rfl (WO.consQ (OP.idxArrZ rfl rfl (by decide) (by simp only [Int.reduceToNat, Nat.mul_one, Nat.zero_add, Nat.reduceMul, Nat.reduceAdd]; rfl) ?_))))))))); refine WO.consQ (OL.load1 (k := 1) hL rfl rfl rfl (WO.consQ (OP.mv rfl (WO.consQ (OP.fieldAddr0 rfl (WO.consQ (OP.idxArrZ rfl rfl (by decide) (by simp only [Int.reduceToNat, Nat.mul_one, Nat.zero_add, Nat.reduceMul, Nat.reduceAdd]; rfl) ?_))))))); refine WO.consQ (OL.load1 (k := 0) hL rfl rfl rfl (Wc ?_)); refine OL.callB hL rfl rfl (c0 _ _ hL.pfx) (fun h' hp hL hc => ?_) (fun h' hp hL hc => ?_); refine Wc (OP.not rfl (Wn ?_)); dsimp only [zn, zr, zx, yn, yr]; refine WC.condF rfl (WC.skip ?_); dsimp only [zn, zr, zx, yn, yr]; refine Co (Wm rfl (Wc (OP.addL rfl rfl (by simp only [Int.reduceAdd]; rfl) (by decide) ?_))); refine Wm rfl (Wn ?_); dsimp only [zn, zr, zx, yn, yr])
 refine WC.unroll ?_
 (refine Cs (Cs (Co (Wm rfl (Wc (OP.lssT rfl rfl (by omega) ?_))))); refine Wn ?_; dsimp only [zn, zr, zx, yn, yr]; refine WC.condT rfl (WC.skip ?_); dsimp only [zn, zr, zx, yn, yr]; refine Cs (WC.block (Cs (Co (WO.consQ (OP.mv rfl (WO.consQ (OP.fieldAddr0 rfl (WO.consQ (OP.idxArrZ rfl rfl (by decide) (by simp only [Int.reduceToNat, Nat.mul_one, Nat.zero_add, Nat.reduceMul, Nat.reduceAdd]; rfl) ?_))))))))); refine WO.consQ (OL.load1 (k := 1) hL rfl rfl rfl (WO.consQ (OP.mv rfl (WO.consQ (OP.fieldAddr0 rfl (WO.consQ (OP.idxArrZ rfl rfl (by decide) (by simp only [Int.reduceToNat, Nat.mul_one, Nat.zero_add, Nat.reduceMul, Nat.reduceAdd]; rfl) ?_))))))); refine WO.consQ (OL.load1 (k := 0) hL rfl rfl rfl (Wc ?_)); refine OL.callB hL rfl rfl (c1 _ _ hL.pfx) (fun h' hp hL hc => ?_) (fun h' hp hL hc => ?_); refine Wc (OP.not rfl (Wn ?_)); dsimp only [zn, zr, zx, yn, yr]; refine WC.condF rfl (WC.skip ?_); dsimp only [zn, zr, zx, yn, yr]; refine Co (Wm rfl (Wc (OP.addL rfl rfl (by simp only [Int.reduceAdd]; rfl) (by decide) ?_))); refine Wm rfl (Wn ?_); dsimp only [zn, zr, zx, yn, yr])
 refine WC.unroll ?_
 (refine Cs (Cs (Co (Wm rfl (Wc (OP.lssT rfl rfl (by omega) ?_))))); refine Wn ?_; dsimp only [zn, zr, zx, yn, yr]; refine WC.condT rfl (WC.skip ?_); dsimp only [zn, zr, zx, yn, yr]; refine Cs (WC.block (Cs (Co (WO.consQ (OP.mv rfl (WO.consQ (OP.fieldAddr0 rfl (WO.consQ (OP.idxArrZ rfl rfl (by decide) (by simp only [Int.reduceToNat, Nat.mul_one, Nat.zero_add, Nat.reduceMul, Nat.reduceAdd]; rfl) ?_))))))))); refine WO.consQ (OL.load1 (k := 1) hL rfl rfl rfl (WO.consQ (OP.mv rfl (WO.consQ (OP.fieldAddr0 rfl (WO.consQ (OP.idxArrZ rfl rfl (by decide) (by simp only [Int.reduceToNat, Nat.mul_one, Nat.zero_add, Nat.reduceMul, Nat.reduceAdd]; rfl) ?_))))))); refine WO.consQ (OL.load1 (k := 0) hL rfl rfl rfl (Wc ?_)); refine OL.callB hL rfl rfl (c2 _ _ hL.pfx) (fun h' hp hL hc => ?_) (fun h' hp hL hc => ?_); refine Wc (OP.not rfl (Wn ?_)); dsimp only [zn, zr, zx, yn, yr]; refine WC.condF rfl (WC.skip ?_); dsimp only [zn, zr, zx, yn, yr]; refine Co (Wm rfl (Wc (OP.addL rfl rfl (by simp only [Int.reduceAdd]; rfl) (by decide) ?_))); refine Wm rfl (Wn ?_); dsimp only [zn, zr, zx, yn, yr])
 refine WC.unroll ?_
 (refine Cs (Cs (Co (Wm rfl (Wc (OP.lssT rfl rfl (by omega) ?_))))); refine Wn ?_; dsimp only [zn, zr, zx, yn, yr]; refine WC.condT rfl (WC.skip ?_); dsimp only [zn, zr, zx, yn, yr]; refine Cs (WC.block (Cs (Co (WO.consQ (OP.mv rfl (WO.consQ (OP.fieldAddr0 rfl (WO.consQ (OP.idxArrZ rfl rfl (by decide) (by simp only [Int.reduceToNat, Nat.mul_one, Nat.zero_add, Nat.reduceMul, Nat.reduceAdd]; rfl) ?_))))))))); refine WO.consQ (OL.load1 (k := 1) hL rfl rfl rfl (WO.consQ (OP.mv rfl (WO.consQ (OP.fieldAddr0 rfl (WO.consQ (OP.idxArrZ rfl rfl (by decide) (by simp only [Int.reduceToNat, Nat.mul_one, Nat.zero_add, Nat.reduceMul, Nat.reduceAdd]; rfl) ?_))))))); refine WO.consQ (OL.load1 (k := 0) hL rfl rfl rfl (Wc ?_)); refine OL.callB hL rfl rfl (c3 _ _ hL.pfx) (fun h' hp hL hc => ?_) (fun h' hp hL hc => ?_); refine Wc (OP.not rfl (Wn ?_)); dsimp only [zn, zr, zx, yn, yr]; refine WC.condF rfl (WC.skip ?_); dsimp only [zn, zr, zx, yn, yr]; refine Co (Wm rfl (Wc (OP.addL rfl rfl (by simp only [Int.reduceAdd]; rfl) (by decide) ?_))); refine Wm rfl (Wn ?_); dsimp only [zn, zr, zx, yn, yr])
 refine WC.unroll ?_
 (refine Cs (Cs (Co (Wm rfl (Wc (OP.lssF rfl rfl (by omega) ?_))))); refine Wt ?_; refine WC.condF rfl (WC.exit ?_); dsimp only [zn, zr, zx, yn, yr]; rw [yx, if_pos rfl]; dsimp only [zn, zr, zx, yn, yr]; refine Cs (Co (Wm rfl (Wt ?_))); refine WC.ret ?_; exact Fin.ret rfl ⟨hL.pfx, boolT (by grind)⟩; refine Wc (OP.not rfl (Wt ?_)); refine WC.condT rfl (Cs (Co (Wm rfl (Wt ?_)))); refine WC.ret ?_; dsimp only [zn, zr, zx, yn, yr]; exact Fin.ret rfl ⟨hL.pfx, boolF (by grind)⟩; refine Wc (OP.not rfl (Wt ?_)); refine WC.condT rfl (Cs (Co (Wm rfl (Wt ?_)))); refine WC.ret ?_; dsimp only [zn, zr, zx, yn, yr]; exact Fin.ret rfl ⟨hL.pfx, boolF (by grind)⟩; refine Wc (OP.not rfl (Wt ?_)); refine WC.condT rfl (Cs (Co (Wm rfl (Wt ?_)))); refine WC.ret ?_; dsimp only [zn, zr, zx, yn, yr]; exact Fin.ret rfl ⟨hL.pfx, boolF (by grind)⟩; refine Wc (OP.not rfl (Wt ?_)); refine WC.condT rfl (Cs (Co (Wm rfl (Wt ?_)))); refine WC.ret ?_; dsimp only [zn, zr, zx, yn, yr]; exact Fin.ret rfl ⟨hL.pfx, boolF (by grind)⟩)
end
end Go.Proofs.YtkdjbkfcfbignaaW.Ai
