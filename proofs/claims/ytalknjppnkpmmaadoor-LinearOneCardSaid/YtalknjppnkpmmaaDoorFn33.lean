/-
 A state copied by the document, each row in a place of its own, as the small machine runs it.
-/
import Derived.Test.YtalknjppnkpmmaaDoorFn30
import Derived.Test.YtalknjppnkpmmaaDoorFn24
set_option linter.unusedVariables false
set_option linter.unusedSimpArgs false
set_option maxHeartbeats 4000000
set_option maxRecDepth 100000
namespace Go.Proofs.YtalknjppnkpmmaaDoorW.Ai
section
section
variable {X : Ext} {F : FuncId → Option RFunc} {f : FuncId}
theorem copyPr (hX : X f = none) (hF : F f = some rf_rCopyState) : S_CopyP X F f := by
 intro lim h r0 r1 r2 r3 hlim hst
 have hL := Loc.start h
 obtain ⟨⟨s0, l0⟩, ⟨s1, l1⟩, ⟨s2, l2⟩, ⟨s3, l3⟩⟩ := id hst
 refine Ret.body hX hF rfl ?_
 simp only [argL, rf_rCopyState]
 (refine Cs (Co (Wc ?_)); refine OL.boxA hL rfl rfl (fun b h' hL => (Wc ?_)); refine OL.new hL (fun b h' hL => (Wt ?_)); refine Cs (Co (Wc ?_)); refine OL.new hL (fun b h' hL => (Wt ?_)); refine Cs (Cs (Co (Wm rfl (Wt ?_)))); refine WC.block ?_)
 refine WC.unroll ?_
 (refine Cs (Cs (Co (Wm rfl (Wc (OP.lssT rfl rfl (by omega) ?_))))); refine Wt ?_; refine WC.condT rfl (Ks ?_); refine Cs (WC.block (Co (Wm rfl (Wc ?_)))); refine OL.buildSlice hL rfl (by simp [over, Value.cells]; rfl) rfl (fun b h' hL => ?_); refine Wm rfl (Wc (OP.fieldAddr0 rfl (Wc (OP.idxArrZ rfl rfl (by decide) (by simp only [Int.reduceToNat, Nat.mul_one, Nat.zero_add, Nat.reduceMul, Nat.reduceAdd]; rfl) ?_)))); refine Wc (OL.load1 (k := 3) hL rfl rfl rfl (Wc ?_)); refine OL.copy hL rfl (fun x hx => by cases hx; rfl) rfl (Sl.pfx (by assumption) (Loc.pfx hL)) ⟨by omega, by omega, by omega⟩ (ints_ok _) (fun a' h' hp hL => ?_); refine Wc (OP.fieldAddr0 rfl (Wc (OP.idxArrZ rfl rfl (by decide) (by simp only [Int.reduceToNat, Nat.mul_one, Nat.zero_add, Nat.reduceMul, Nat.reduceAdd]; rfl) ?_))); refine WO.cons0 ?_; refine OL.store1 (k := 2) hL hlim rfl rfl rfl rfl rfl rfl rfl (fun h' hL => ?_); dsimp only [List.set, Nat.zero_add, Nat.reduceAdd, Nat.reduceMul] at hL; refine Wt ?_; refine Co (Wm rfl (Wc (OP.addL rfl rfl (by simp only [Int.reduceAdd]; rfl) (by decide) ?_))); refine Wm rfl (Wt ?_))
 refine WC.unroll ?_
 (refine Cs (Cs (Co (Wm rfl (Wc (OP.lssT rfl rfl (by omega) ?_))))); refine Wt ?_; refine WC.condT rfl (Ks ?_); refine Cs (WC.block (Co (Wm rfl (Wc ?_)))); refine OL.buildSlice hL rfl (by simp [over, Value.cells]; rfl) rfl (fun b h' hL => ?_); refine Wm rfl (Wc (OP.fieldAddr0 rfl (Wc (OP.idxArrZ rfl rfl (by decide) (by simp only [Int.reduceToNat, Nat.mul_one, Nat.zero_add, Nat.reduceMul, Nat.reduceAdd]; rfl) ?_)))); refine Wc (OL.load1 (k := 5) hL rfl rfl rfl (Wc ?_)); refine OL.copy hL rfl (fun x hx => by cases hx; rfl) rfl (Sl.pfx (by assumption) (Loc.pfx hL)) ⟨by omega, by omega, by omega⟩ (ints_ok _) (fun a' h' hp hL => ?_); refine Wc (OP.fieldAddr0 rfl (Wc (OP.idxArrZ rfl rfl (by decide) (by simp only [Int.reduceToNat, Nat.mul_one, Nat.zero_add, Nat.reduceMul, Nat.reduceAdd]; rfl) ?_))); refine WO.cons0 ?_; refine OL.store1 (k := 4) hL hlim rfl rfl rfl rfl rfl rfl rfl (fun h' hL => ?_); dsimp only [List.set, Nat.zero_add, Nat.reduceAdd, Nat.reduceMul] at hL; refine Wt ?_; refine Co (Wm rfl (Wc (OP.addL rfl rfl (by simp only [Int.reduceAdd]; rfl) (by decide) ?_))); refine Wm rfl (Wt ?_))
 refine WC.unroll ?_
 (refine Cs (Cs (Co (Wm rfl (Wc (OP.lssT rfl rfl (by omega) ?_))))); refine Wt ?_; refine WC.condT rfl (Ks ?_); refine Cs (WC.block (Co (Wm rfl (Wc ?_)))); refine OL.buildSlice hL rfl (by simp [over, Value.cells]; rfl) rfl (fun b h' hL => ?_); refine Wm rfl (Wc (OP.fieldAddr0 rfl (Wc (OP.idxArrZ rfl rfl (by decide) (by simp only [Int.reduceToNat, Nat.mul_one, Nat.zero_add, Nat.reduceMul, Nat.reduceAdd]; rfl) ?_)))); refine Wc (OL.load1 (k := 7) hL rfl rfl rfl (Wc ?_)); refine OL.copy hL rfl (fun x hx => by cases hx; rfl) rfl (Sl.pfx (by assumption) (Loc.pfx hL)) ⟨by omega, by omega, by omega⟩ (ints_ok _) (fun a' h' hp hL => ?_); refine Wc (OP.fieldAddr0 rfl (Wc (OP.idxArrZ rfl rfl (by decide) (by simp only [Int.reduceToNat, Nat.mul_one, Nat.zero_add, Nat.reduceMul, Nat.reduceAdd]; rfl) ?_))); refine WO.cons0 ?_; refine OL.store1 (k := 6) hL hlim rfl rfl rfl rfl rfl rfl rfl (fun h' hL => ?_); dsimp only [List.set, Nat.zero_add, Nat.reduceAdd, Nat.reduceMul] at hL; refine Wt ?_; refine Co (Wm rfl (Wc (OP.addL rfl rfl (by simp only [Int.reduceAdd]; rfl) (by decide) ?_))); refine Wm rfl (Wt ?_))
 refine WC.unroll ?_
 (refine Cs (Cs (Co (Wm rfl (Wc (OP.lssT rfl rfl (by omega) ?_))))); refine Wt ?_; refine WC.condT rfl (Ks ?_); refine Cs (WC.block (Co (Wm rfl (Wc ?_)))); refine OL.buildSlice hL rfl (by simp [over, Value.cells]; rfl) rfl (fun b h' hL => ?_); refine Wm rfl (Wc (OP.fieldAddr0 rfl (Wc (OP.idxArrZ rfl rfl (by decide) (by simp only [Int.reduceToNat, Nat.mul_one, Nat.zero_add, Nat.reduceMul, Nat.reduceAdd]; rfl) ?_)))); refine Wc (OL.load1 (k := 9) hL rfl rfl rfl (Wc ?_)); refine OL.copy hL rfl (fun x hx => by cases hx; rfl) rfl (Sl.pfx (by assumption) (Loc.pfx hL)) ⟨by omega, by omega, by omega⟩ (ints_ok _) (fun a' h' hp hL => ?_); refine Wc (OP.fieldAddr0 rfl (Wc (OP.idxArrZ rfl rfl (by decide) (by simp only [Int.reduceToNat, Nat.mul_one, Nat.zero_add, Nat.reduceMul, Nat.reduceAdd]; rfl) ?_))); refine WO.cons0 ?_; refine OL.store1 (k := 8) hL hlim rfl rfl rfl rfl rfl rfl rfl (fun h' hL => ?_); dsimp only [List.set, Nat.zero_add, Nat.reduceAdd, Nat.reduceMul] at hL; refine Wt ?_; refine Co (Wm rfl (Wc (OP.addL rfl rfl (by simp only [Int.reduceAdd]; rfl) (by decide) ?_))); refine Wm rfl (Wt ?_))
 refine WC.unroll ?_
 (refine Cs (Cs (Co (Wm rfl (Wc (OP.lssF rfl rfl (by omega) ?_))))); refine Wt ?_; refine WC.condF rfl (WC.exit ?_); dsimp only [zn, zr, zx, yn, yr]; rw [yx, if_pos rfl]; dsimp only [zn, zr, zx, yn, yr]; refine Cs (Co (Wc (OL.loadAll (k := 8) hL rfl rfl rfl (WO.cons0 ?_)))); refine OL.storeAll (k := 9) hL hlim rfl rfl rfl rfl rfl rfl (by decide) rfl (fun h' hL => ?_); dsimp only [List.set, Nat.zero_add, Nat.reduceAdd, Nat.reduceMul] at hL; refine Wt ?_; refine WC.ret ?_)
 exact Fin.ret (resL_cell rfl (hL.cell (k := 9) rfl) rfl rfl) ⟨hL.pfx, _, _, _, _, _, _, _, _, rfl, hL.made4 (k0 := 6) (k1 := 4) (k2 := 2) (k3 := 0) rfl rfl rfl rfl (by decide) (by decide) (by decide)⟩
end
end
end Go.Proofs.YtalknjppnkpmmaaDoorW.Ai
