/-
 States (chapters 3 to 6), as the small machine runs them: copies, whether two are the same.
-/
import Derived.Test.YtalknjppnkpmmaaDoorFn3
import Derived.Test.YtalknjppnkpmmaaDoorFn9
import Derived.Test.YtalknjppnkpmmaaDoorMf
set_option linter.unusedVariables false
set_option linter.unusedSimpArgs false
set_option maxHeartbeats 4000000
set_option maxRecDepth 100000
namespace Go.Proofs.YtalknjppnkpmmaaDoorW.Ai
-- chorus/store.Copy; g0 = slices.Clone[[]int,int]
def rf_sCopy (g0 : Nat) : RFunc :=
 ⟨17, [(.cell 2 (.some 4))], (.seq (.ops [rO 1 (.box (.tmp 0)), rO 2 (.new [(.slice .none 0 0), (.slice .none 0 0), (.slice .none 0 0), (.slice .none 0 0)])]) (.seq (.seq (.ops [rO 4 (.mv (.const (.int .i64 0)))]) (.block 0 (.loop (.seq (.ops [rO 5 (.bin .lss (.tmp 4) (.const (.int .i64 4)))]) (.seq (.cond (.tmp 5) .skip (.exit 0)) (.seq (.block 1 (.seq (.ops [rO 6 (.mv (.tmp 4)), rO 3 (.mv (.tmp 6))]) (.ops [rO 7 (.mv (.tmp 3)), rO 8 (.mv (.tmp 3)), rO 9 (.fieldAddr 0 (.tmp 1)), rO 10 (.idxAddrArr 4 1 (.tmp 9) (.tmp 8)), rO 11 (.load .none (.tmp 10)), rO 12 (.call (.func g0) [(.tmp 11)]), rO 13 (.fieldAddr 0 (.tmp 1)), rO 14 (.idxAddrArr 4 1 (.tmp 13) (.tmp 7)), ⟨.none, (.store 1 (.tmp 14) (.tmp 12)), .none, false, []⟩]))) (.ops [rO 15 (.bin .add (.tmp 4) (.const (.int .i64 1))), rO 4 (.mv (.tmp 15))]))))))) (.seq (.ops [rO 16 (.load (.some 4) (.tmp 1)), ⟨.none, (.store 4 (.tmp 2) (.tmp 16)), .none, false, []⟩]) .ret)))⟩
section
variable (X : Ext) (F : FuncId → Option RFunc) (g : FuncId)
abbrev S_Clone : Prop := ∀ (lim : Nat) (h : AH) {r : Row}, RowOk h r → Ret X F lim g [r.v] h fun v h' => Pfx h h' ∧ Made 1 h h' (fun a n => .slice a n n) (ints r.xs) v
abbrev S_CopyState : Prop := ∀ (lim : Nat) (h : AH) {r0 r1 r2 r3 : Row}, lim ≤ h.length → St h r0 r1 r2 r3 → Ret X F lim g [stV r0 r1 r2 r3] h fun v h' => Pfx h h' ∧ MadeS h h' (fun r0 r1 r2 r3 => stV r0 r1 r2 r3) ⟨r0.xs, r1.xs, r2.xs, r3.xs⟩ v
abbrev S_sCopy : Prop := S_CopyState X F g
end
section
variable {X : Ext} {F : FuncId → Option RFunc} {f : FuncId}
theorem s_Clone (hX : X f = none) (hF : F f = some rf_Clone) : S_Clone X F f := fun lim h r hr => (Clone_run hX hF hr.1 hr.2).mono fun v h' ⟨h1, a', h2, h3⟩ => ⟨h1, a', r.n, h2, h3.sl.1, h3.sl.2⟩
theorem s_sCopy {g0 : Nat} (hX : X f = none) (hF : F f = some (rf_sCopy g0)) (c0' : S_Clone X F g0) : S_sCopy X F f := by
 intro lim h r0 r1 r2 r3 hlim hst
 have hL := Loc.start h
 obtain ⟨⟨s0, l0⟩, ⟨s1, l1⟩, ⟨s2, l2⟩, ⟨s3, l3⟩⟩ := id hst
 have c0 : ∀ lim h', Pfx h h' → Ret X F lim g0 [r0.v] h' fun v h'' => Pfx h' h'' ∧ Made 1 h' h'' (fun a n => .slice a n n) (ints r0.xs) v := fun lim h' hp => c0' lim h' (hst.1.pfx hp)
 have c1 : ∀ lim h', Pfx h h' → Ret X F lim g0 [r1.v] h' fun v h'' => Pfx h' h'' ∧ Made 1 h' h'' (fun a n => .slice a n n) (ints r1.xs) v := fun lim h' hp => c0' lim h' (hst.2.1.pfx hp)
 have c2 : ∀ lim h', Pfx h h' → Ret X F lim g0 [r2.v] h' fun v h'' => Pfx h' h'' ∧ Made 1 h' h'' (fun a n => .slice a n n) (ints r2.xs) v := fun lim h' hp => c0' lim h' (hst.2.2.1.pfx hp)
 have c3 : ∀ lim h', Pfx h h' → Ret X F lim g0 [r3.v] h' fun v h'' => Pfx h' h'' ∧ Made 1 h' h'' (fun a n => .slice a n n) (ints r3.xs) v := fun lim h' hp => c0' lim h' (hst.2.2.2.pfx hp)
 refine Ret.body hX hF rfl ?_
 simp only [argL, rf_sCopy]
 (refine Cs (Co (Wc ?_)); refine OL.boxA hL rfl rfl (fun b h' hL => (Wc ?_)); refine OL.new hL (fun b h' hL => (Wt ?_)); refine Cs (Cs (Co (Wm rfl (Wt ?_)))); refine WC.block ?_)
 refine WC.unroll ?_
 (refine Cs (Co (Wc (OP.lssT rfl rfl (by omega) ?_))); refine Wt ?_; refine Cs (WC.condT rfl (Ks ?_)); refine Cs (WC.block (Cs (Co (Wm rfl (Wm rfl (Wt ?_)))))); refine Co (Wm rfl (Wm rfl (Wc (OP.fieldAddr0 rfl (Wc (OP.idxArrZ rfl rfl (by decide) (by simp only [Int.reduceToNat, Nat.mul_one, Nat.zero_add, Nat.reduceMul, Nat.reduceAdd]; rfl) ?_)))))); refine Wc (OL.load1 (k := 1) hL rfl rfl rfl (Wc ?_)); refine OL.callSl hL rfl rfl (c0 _ _ hL.pfx) (fun a' n' h' hp hL => (Wc (OP.fieldAddr0 rfl (Wc (OP.idxArrZ rfl rfl (by decide) (by simp only [Int.reduceToNat, Nat.mul_one, Nat.zero_add, Nat.reduceMul, Nat.reduceAdd]; rfl) ?_))))); refine WO.cons0 ?_; refine OL.store1 (k := 2) hL hlim rfl rfl rfl rfl rfl rfl rfl (fun h' hL => ?_); dsimp only [List.set, Nat.zero_add, Nat.reduceAdd, Nat.reduceMul] at hL; refine Wt ?_; refine Co (Wc (OP.addL rfl rfl (by simp only [Int.reduceAdd]; rfl) (by decide) ?_)); refine Wm rfl (Wt ?_))
 refine WC.unroll ?_
 (refine Cs (Co (Wc (OP.lssT rfl rfl (by omega) ?_))); refine Wt ?_; refine Cs (WC.condT rfl (Ks ?_)); refine Cs (WC.block (Cs (Co (Wm rfl (Wm rfl (Wt ?_)))))); refine Co (Wm rfl (Wm rfl (Wc (OP.fieldAddr0 rfl (Wc (OP.idxArrZ rfl rfl (by decide) (by simp only [Int.reduceToNat, Nat.mul_one, Nat.zero_add, Nat.reduceMul, Nat.reduceAdd]; rfl) ?_)))))); refine Wc (OL.load1 (k := 2) hL rfl rfl rfl (Wc ?_)); refine OL.callSl hL rfl rfl (c1 _ _ hL.pfx) (fun a' n' h' hp hL => (Wc (OP.fieldAddr0 rfl (Wc (OP.idxArrZ rfl rfl (by decide) (by simp only [Int.reduceToNat, Nat.mul_one, Nat.zero_add, Nat.reduceMul, Nat.reduceAdd]; rfl) ?_))))); refine WO.cons0 ?_; refine OL.store1 (k := 3) hL hlim rfl rfl rfl rfl rfl rfl rfl (fun h' hL => ?_); dsimp only [List.set, Nat.zero_add, Nat.reduceAdd, Nat.reduceMul] at hL; refine Wt ?_; refine Co (Wc (OP.addL rfl rfl (by simp only [Int.reduceAdd]; rfl) (by decide) ?_)); refine Wm rfl (Wt ?_))
 refine WC.unroll ?_
 (refine Cs (Co (Wc (OP.lssT rfl rfl (by omega) ?_))); refine Wt ?_; refine Cs (WC.condT rfl (Ks ?_)); refine Cs (WC.block (Cs (Co (Wm rfl (Wm rfl (Wt ?_)))))); refine Co (Wm rfl (Wm rfl (Wc (OP.fieldAddr0 rfl (Wc (OP.idxArrZ rfl rfl (by decide) (by simp only [Int.reduceToNat, Nat.mul_one, Nat.zero_add, Nat.reduceMul, Nat.reduceAdd]; rfl) ?_)))))); refine Wc (OL.load1 (k := 3) hL rfl rfl rfl (Wc ?_)); refine OL.callSl hL rfl rfl (c2 _ _ hL.pfx) (fun a' n' h' hp hL => (Wc (OP.fieldAddr0 rfl (Wc (OP.idxArrZ rfl rfl (by decide) (by simp only [Int.reduceToNat, Nat.mul_one, Nat.zero_add, Nat.reduceMul, Nat.reduceAdd]; rfl) ?_))))); refine WO.cons0 ?_; refine OL.store1 (k := 4) hL hlim rfl rfl rfl rfl rfl rfl rfl (fun h' hL => ?_); dsimp only [List.set, Nat.zero_add, Nat.reduceAdd, Nat.reduceMul] at hL; refine Wt ?_; refine Co (Wc (OP.addL rfl rfl (by simp only [Int.reduceAdd]; rfl) (by decide) ?_)); refine Wm rfl (Wt ?_))
 refine WC.unroll ?_
 (refine Cs (Co (Wc (OP.lssT rfl rfl (by omega) ?_))); refine Wt ?_; refine Cs (WC.condT rfl (Ks ?_)); refine Cs (WC.block (Cs (Co (Wm rfl (Wm rfl (Wt ?_)))))); refine Co (Wm rfl (Wm rfl (Wc (OP.fieldAddr0 rfl (Wc (OP.idxArrZ rfl rfl (by decide) (by simp only [Int.reduceToNat, Nat.mul_one, Nat.zero_add, Nat.reduceMul, Nat.reduceAdd]; rfl) ?_)))))); refine Wc (OL.load1 (k := 4) hL rfl rfl rfl (Wc ?_)); refine OL.callSl hL rfl rfl (c3 _ _ hL.pfx) (fun a' n' h' hp hL => (Wc (OP.fieldAddr0 rfl (Wc (OP.idxArrZ rfl rfl (by decide) (by simp only [Int.reduceToNat, Nat.mul_one, Nat.zero_add, Nat.reduceMul, Nat.reduceAdd]; rfl) ?_))))); refine WO.cons0 ?_; refine OL.store1 (k := 5) hL hlim rfl rfl rfl rfl rfl rfl rfl (fun h' hL => ?_); dsimp only [List.set, Nat.zero_add, Nat.reduceAdd, Nat.reduceMul] at hL; refine Wt ?_; refine Co (Wc (OP.addL rfl rfl (by simp only [Int.reduceAdd]; rfl) (by decide) ?_)); refine Wm rfl (Wt ?_))
 refine WC.unroll ?_
 (refine Cs (Co (Wc (OP.lssF rfl rfl (by omega) ?_))); refine Wt ?_; refine Cs (WC.condF rfl (WC.exit ?_)); dsimp only [zn, zr, zx, yn, yr]; rw [yx, if_pos rfl]; dsimp only [zn, zr, zx, yn, yr]; refine Cs (Co (Wc (OL.loadAll (k := 5) hL rfl rfl rfl (WO.cons0 ?_)))); refine OL.storeAll (k := 4) hL hlim rfl rfl rfl rfl rfl rfl (by decide) rfl (fun h' hL => ?_); dsimp only [List.set, Nat.zero_add, Nat.reduceAdd, Nat.reduceMul] at hL; refine Wt ?_; refine WC.ret ?_)
 have A0 := hL.rowSl (xs := r0.xs) (by repeat (first | exact mh | apply mt)) (by have := s0.ilen; omega)
 have A1 := hL.rowSl (xs := r1.xs) (by repeat (first | exact mh | apply mt)) (by have := s1.ilen; omega)
 have A2 := hL.rowSl (xs := r2.xs) (by repeat (first | exact mh | apply mt)) (by have := s2.ilen; omega)
 have A3 := hL.rowSl (xs := r3.xs) (by repeat (first | exact mh | apply mt)) (by have := s3.ilen; omega)
 exact Fin.ret (resL_cell rfl (hL.cell (k := 4) rfl) rfl rfl) ⟨hL.pfx, ⟨_, _, r0.xs⟩, ⟨_, _, r1.xs⟩, ⟨_, _, r2.xs⟩, ⟨_, _, r3.xs⟩, rfl, ⟨rfl, rfl, rfl, rfl⟩, ⟨A0.1, A1.1, A2.1, A3.1⟩, A0.2, A1.2, A2.2, A3.2⟩
end
end Go.Proofs.YtalknjppnkpmmaaDoorW.Ai
