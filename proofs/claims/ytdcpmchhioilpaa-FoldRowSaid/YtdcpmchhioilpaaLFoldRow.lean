/-
 The statement FoldRow (chapter 12), as the small machine runs it.
-/
import Derived.Test.YtdcpmchhioilpaaFn57
set_option linter.unusedVariables false
set_option linter.unusedSimpArgs false
set_option maxHeartbeats 4000000
set_option maxRecDepth 100000
namespace Go.Proofs.YtdcpmchhioilpaaW.Ai
-- chorus/choruslaw12.FoldRow; g0 = chorus/choruslaw12.awake; g1 = chorus/fold.Fold; g2 = chorus/choruslaw0.Num; g3 = chorus/choruslaw0.SameInts
def rf_FoldRow (g0 g1 g2 g3 : Nat) : RFunc :=
 ⟨95, [(.tmp 8)], (.seq (.ops [rO 5 (.box (.tmp 1)), rO 8 (.mv (.const (.bool false)))]) (.seq (.seq (.ops [rO 19 (.call (.func g0) []), rO 20 (.un .not (.tmp 19))]) (.cond (.tmp 20) (.seq (.ops [rO 8 (.mv (.const (.bool false)))]) .ret) .skip)) (.seq (.ops [rO 21 (.mv (.tmp 3)), rO 22 (.bin .and (.tmp 21) (.const (.int .i64 3))), rO 9 (.mv (.tmp 22))]) (.seq (.ops [rO 24 (.mv (.tmp 0)), rO 25 (.load (.some 4) (.tmp 5)), rO 26 (.mv (.tmp 2)), rO 27 (.call (.func g1) [(.tmp 24), (.tmp 25), (.tmp 26)]), rO 23 (.mv (.tmp 27)), rO 28 (.extract (.tmp 23) 0), rO 29 (.extract (.tmp 23) 1), rO 30 (.extract (.tmp 23) 2), rO 10 (.new [(.slice .none 0 0), (.slice .none 0 0), (.slice .none 0 0), (.slice .none 0 0)]), ⟨.none, (.store 4 (.tmp 10) (.tmp 28)), .none, false, []⟩, rO 11 (.mv (.tmp 29)), rO 12 (.mv (.tmp 30))]) (.seq (.seq (.ops [rO 31 (.mv (.tmp 12)), rO 32 (.call (.func g2) [(.tmp 31)]), rO 33 (.bin .neq (.tmp 32) (.const (.int .i64 0))), rO 34 (.mv (.tmp 33)), ⟨(.some 35), (.mv (.tmp 11)), (.some (34, false)), false, []⟩, ⟨(.some 36), (.len 1 (.tmp 35)), (.some (34, false)), false, []⟩, ⟨(.some 37), (.mv (.tmp 2)), (.some (34, false)), false, []⟩, ⟨(.some 38), (.len 1 (.tmp 37)), (.some (34, false)), false, []⟩, ⟨(.some 39), (.bin .neq (.tmp 36) (.tmp 38)), (.some (34, false)), false, []⟩, rO 40 (.pick (.tmp 34) (.const (.bool true)) (.tmp 39))]) (.cond (.tmp 40) (.seq (.ops [rO 41 (.mv (.tmp 11)), rO 42 (.len 1 (.tmp 41)), rO 43 (.bin .eql (.tmp 42) (.const (.int .i64 0))), rO 8 (.mv (.tmp 43))]) .ret) .skip)) (.seq (.ops [rO 13 (.mv (.const (.slice .none 0 0)))]) (.seq (.ops [rO 14 (.mv (.const (.slice .none 0 0)))]) (.seq (.seq (.ops [rO 15 (.mv (.const (.int .i64 0)))]) (.block 0 (.loop (.seq (.seq (.ops [rO 44 (.mv (.tmp 15)), rO 45 (.mv (.tmp 2)), rO 46 (.len 1 (.tmp 45)), rO 47 (.bin .lss (.tmp 44) (.tmp 46))]) (.cond (.tmp 47) .skip (.exit 0))) (.seq (.block 1 (.seq (.ops [rO 50 (.mv (.tmp 2)), rO 51 (.mv (.tmp 15)), rO 52 (.idxAddr 3 (.tmp 50) (.tmp 51)), rO 53 (.fieldAddr 1 (.tmp 52)), rO 54 (.load .none (.tmp 53)), rO 55 (.mv (.tmp 9)), rO 56 (.bin .eql (.tmp 54) (.tmp 55)), rO 57 (.mv (.tmp 56)), ⟨(.some 58), (.mv (.tmp 2)), (.some (57, true)), false, []⟩, ⟨(.some 59), (.mv (.tmp 15)), (.some (57, true)), false, []⟩, ⟨(.some 60), (.idxAddr 3 (.tmp 58) (.tmp 59)), (.some (57, true)), false, []⟩, ⟨(.some 61), (.fieldAddr 0 (.tmp 60)), (.some (57, true)), false, []⟩, ⟨(.some 62), (.load .none (.tmp 61)), (.some (57, true)), false, []⟩, ⟨(.some 63), (.bin .neq (.tmp 62) (.const (.int .i64 3))), (.some (57, true)), false, []⟩, rO 64 (.pick (.tmp 57) (.tmp 63) (.const (.bool false)))]) (.cond (.tmp 64) (.seq (.ops [rO 65 (.mv (.tmp 13)), rO 66 (.mv (.tmp 2)), rO 67 (.mv (.tmp 15)), rO 68 (.idxAddr 3 (.tmp 66) (.tmp 67)), rO 69 (.load (.some 3) (.tmp 68)), rO 70 (.buildSlice [(.int .i64 0), (.int .i64 0), (.int .i64 0)] 1 [(0, (3, (.tmp 69)))]), rO 71 (.append 3 24 (.tmp 65) (.tmp 70)), rO 13 (.mv (.tmp 71))]) (.ops [rO 72 (.mv (.tmp 14)), rO 73 (.mv (.tmp 11)), rO 74 (.mv (.tmp 15)), rO 75 (.idxAddr 1 (.tmp 73) (.tmp 74)), rO 76 (.load .none (.tmp 75)), rO 77 (.buildSlice [(.int .i64 0)] 1 [(0, (1, (.tmp 76)))]), rO 78 (.append 1 8 (.tmp 72) (.tmp 77)), rO 14 (.mv (.tmp 78))])) .skip))) (.ops [rO 48 (.mv (.tmp 15)), rO 49 (.bin .add (.tmp 48) (.const (.int .i64 1))), rO 15 (.mv (.tmp 49))])))))) (.seq (.ops [rO 80 (.mv (.tmp 0)), rO 81 (.load (.some 4) (.tmp 5)), rO 82 (.mv (.tmp 13)), rO 83 (.call (.func g1) [(.tmp 80), (.tmp 81), (.tmp 82)]), rO 79 (.mv (.tmp 83)), rO 84 (.extract (.tmp 79) 0), rO 85 (.extract (.tmp 79) 1), rO 86 (.extract (.tmp 79) 2), rO 16 (.new [(.slice .none 0 0), (.slice .none 0 0), (.slice .none 0 0), (.slice .none 0 0)]), ⟨.none, (.store 4 (.tmp 16) (.tmp 84)), .none, false, []⟩, rO 17 (.mv (.tmp 85)), rO 18 (.mv (.tmp 86))]) (.seq (.ops [rO 87 (.mv (.tmp 18)), rO 88 (.call (.func g2) [(.tmp 87)]), rO 89 (.bin .eql (.tmp 88) (.const (.int .i64 0))), rO 90 (.mv (.tmp 89)), ⟨(.some 91), (.mv (.tmp 17)), (.some (90, true)), false, []⟩, ⟨(.some 92), (.mv (.tmp 14)), (.some (90, true)), false, []⟩, ⟨(.some 93), (.call (.func g3) [(.tmp 91), (.tmp 92)]), (.some (90, true)), false, []⟩, rO 94 (.pick (.tmp 90) (.tmp 93) (.const (.bool false))), rO 8 (.mv (.tmp 94))]) .ret))))))))))⟩
structure FR where
 i : Nat
 h : AH
 a : Option Addr
 b : Option Addr
 m : Nat
section
variable {X : Ext} {F : FuncId → Option RFunc} {f : FuncId}
theorem s_FoldRow {g0 g1 g2 g3 : Nat} (hX : X f = none) (hF : F f = some (rf_FoldRow g0 g1 g2 g3)) (d0 : S_yes X F g0) (e1 : S_fFold X F g1) (d2 : S_Num X F g2) (d3 : S_SameInts X F g3)
  (h : AH) {r0 r1 r2 r3 : Row} {ob : Int} {a : Option Addr} {n : Nat} {os : List OpR} {row : Int} (hob : R64 ob) (hst : St h r0 r1 r2 r3) (hs : Sl 3 h a n n (recs opC os)) (hf : ∀ o ∈ os, OpFits o) (hn : n ≤ 2 ^ 43) (hrow : R64 row) : Ret X F h.length f [.int .i64 ob, stV r0 r1 r2 r3, .slice a n n, .int .i64 row] h fun v _ => v = .bool true := by
 have hL := Loc.start h
 have hlim : h.length ≤ h.length := Nat.le_refl _
 have hon : os.length = n := hs.rlen opC_len (by decide)
 refine Ret.body hX hF rfl ?_
 simp only [argL, rf_FoldRow]
 (refine Cs (Co ?_); dsimp only [zn, zr, zx, yn, yr])
 (refine Wc ?_; refine OL.boxA hL rfl rfl (fun B5 h1 hL => ?_))
 (refine Wm rfl (Wn (Cs (Cs (Co (Wc ?_))))); refine OL.callV hL rfl rfl (d0 _ _) (fun h' hp hL => (Wc (OP.not rfl (Wt ?_)))); refine WC.condF rfl (Ks ?_); refine Cs (Co (Wm rfl (Wc ?_))); refine OP.andN rfl rfl (by omega) (fun hm2 => ?_); refine Wm rfl (Wt ?_); refine Cs (Co (Wm rfl (Wc (OL.loadAll (k := 0) hL rfl rfl rfl (Wm rfl ?_))))))
 generalize mask row 3 = r at hm2 ⊢
 have hr := hm2
 clear hm2
 by_cases hok : ObMay ob ⟨r0.xs, r1.xs, r2.xs, r3.xs⟩ ∧ OpsOk os
 rotate_left
 ·(refine Wc ?_)
  refine OL.callF hL rfl rfl (foldAt e1 ob ⟨r0.xs, r1.xs, r2.xs, r3.xs⟩ os (S4.none, [], 1200) (FoldR_no hok) _ _ (by first | exact hL.lm hlim | exact Nat.le_refl _) (hst.pfx hL.pfx) rfl rfl rfl rfl (hs.pfx hL.pfx) hn) (fun u0 un0 u1 un1 u2 un2 u3 un3 ua um umid h' uy hp hL => ?_)
  have hum : um = 0 := uy.2.2.2.2.symm
  subst hum
  (try dsimp only at hL ⊢)
  (refine Wm rfl (Wc (OP.extract rfl rfl (Wc (OP.extract rfl rfl (Wc (OP.extract rfl rfl (Wc ?_))))))); refine OL.new hL (fun b h' hL => (WO.cons0 ?_)); refine OL.storeAll (k := 0) hL hlim rfl rfl rfl rfl rfl rfl (by decide) rfl (fun h' hL => ?_); dsimp only [List.set, Nat.zero_add, Nat.reduceAdd, Nat.reduceMul] at hL; refine Wm rfl (Wm rfl (Wt ?_)); refine Cs (Cs (Co (Wm rfl (Wc ?_)))); refine OL.callV hL rfl rfl (d2 _ _ (by first | omega | assumption | exact St.pfx (by assumption) hL.pfx | exact hL.stM (by repeat (first | exact mh | apply mt)) | exact RowOk.pfx (by assumption) hL.pfx | exact (hL.stM (by repeat (first | exact mh | apply mt))).1 | exact (hL.stM (by repeat (first | exact mh | apply mt))).2.1 | exact (hL.stM (by repeat (first | exact mh | apply mt))).2.2.1 | exact (hL.stM (by repeat (first | exact mh | apply mt))).2.2.2)) (fun h' hp hL => ?_); refine Wc (OP.neqT rfl rfl (by omega) ?_); refine Wm rfl (WO.no rfl (WO.no rfl (WO.no rfl (WO.no rfl (WO.no rfl (Wc (OP.pickT rfl rfl (Wt ?_)))))))); refine WC.condT rfl (Cs (Co (Wm rfl (Wc (OP.lenS rfl (Wc (OP.eqlT rfl rfl (by omega) ?_))))))); refine Wm rfl (Wt ?_); refine WC.ret ?_; dsimp only [zn, zr, zx, yn, yr]; exact Fin.ret rfl rfl)
 obtain ⟨hm, hops⟩ := hok
 (refine Wc ?_)
 refine OL.callF hL rfl rfl (foldAt e1 ob ⟨r0.xs, r1.xs, r2.xs, r3.xs⟩ os (runS ob ⟨r0.xs, r1.xs, r2.xs, r3.xs⟩ os, runX ob ⟨r0.xs, r1.xs, r2.xs, r3.xs⟩ os, 0) (if_pos ⟨hm, hops⟩) _ _ (by first | exact hL.lm hlim | exact Nat.le_refl _) (hst.pfx hL.pfx) rfl rfl rfl rfl (hs.pfx hL.pfx) hn) (fun u0 un0 u1 un1 u2 un2 u3 un3 ua um umid h' uy hp hL => ?_)
 have hzl : (runX ob ⟨r0.xs, r1.xs, r2.xs, r3.xs⟩ os).length = n := (runX_len ob os _).trans hon
 have hum : um = n := by have q : (runX ob ⟨r0.xs, r1.xs, r2.xs, r3.xs⟩ os).length = um := uy.2.2.2.2; omega
 subst hum
 (try dsimp only at hL ⊢)
 have hfin : FoldR ob ⟨r0.xs, r1.xs, r2.xs, r3.xs⟩ (os.filter (ownOf r)) = (runS ob ⟨r0.xs, r1.xs, r2.xs, r3.xs⟩ (os.filter (ownOf r)), pickX (ownOf r) os (runX ob ⟨r0.xs, r1.xs, r2.xs, r3.xs⟩ os), 0) := by
  rw [← runX_own hr hm hm rfl hops]
  exact if_pos ⟨hm, hops.filter _⟩
 clear uy
 generalize hZ : runX ob ⟨r0.xs, r1.xs, r2.xs, r3.xs⟩ os = Z at hL hzl hfin
 clear hZ
 generalize runS ob ⟨r0.xs, r1.xs, r2.xs, r3.xs⟩ os = T at hL ⊢
 generalize runS ob ⟨r0.xs, r1.xs, r2.xs, r3.xs⟩ (os.filter (ownOf r)) = Td at hfin
 (refine Wm rfl (Wc (OP.extract rfl rfl (Wc (OP.extract rfl rfl (Wc (OP.extract rfl rfl (Wc ?_))))))); refine OL.new hL (fun b h' hL => (WO.cons0 ?_)); refine OL.storeAll (k := 0) hL hlim rfl rfl rfl rfl rfl rfl (by decide) rfl (fun h' hL => ?_); dsimp only [List.set, Nat.zero_add, Nat.reduceAdd, Nat.reduceMul] at hL; refine Wm rfl (Wm rfl (Wt ?_)); refine Cs (Cs (Co (Wm rfl (Wc ?_)))); refine OL.callV hL rfl rfl (d2 _ _ (by first | omega | assumption | exact St.pfx (by assumption) hL.pfx | exact hL.stM (by repeat (first | exact mh | apply mt)) | exact RowOk.pfx (by assumption) hL.pfx | exact (hL.stM (by repeat (first | exact mh | apply mt))).1 | exact (hL.stM (by repeat (first | exact mh | apply mt))).2.1 | exact (hL.stM (by repeat (first | exact mh | apply mt))).2.2.1 | exact (hL.stM (by repeat (first | exact mh | apply mt))).2.2.2)) (fun h' hp hL => ?_); refine Wc (OP.neqF rfl rfl (by omega) ?_); refine Wm rfl (WO.yes rfl (Wm rfl (WO.yes rfl (Wc (OP.lenS rfl (WO.yes rfl (Wm rfl (WO.yes rfl (Wc (OP.lenS rfl (WO.yes rfl (Wc (OP.neqF rfl rfl (by omega) ?_))))))))))))); refine Wc (OP.pickF rfl rfl (Wt ?_)); refine WC.condF rfl (Ks ?_); refine Cs (Co (Wm rfl (Wt ?_))); refine Cs (Co (Wm rfl (Wt ?_))); refine Cs (Cs (Co (Wm rfl (Wt ?_)))); refine WC.block ?_)
 have hL := hL.addNil3.addNil
 refine WC.loop (fun q : FR => (q.i ≤ um ∧ ((os.take q.i).filter (ownOf r)).length = q.m) ∧ ∃ l1 l2 l3 l4 l5 l6, Loc h q.h [ap l1 l2 1 q.a q.m (ints (pickX (ownOf r) (os.take q.i) (Z.take q.i))), ap l3 l4 3 q.b q.m (recs opC ((os.take q.i).filter (ownOf r))), ap l5 l6 1 ua um (ints Z), bx B5 [r0.v, r1.v, r2.v, r3.v]]) (fun q => [(15, .int .i64 (q.i : Int)), (14, .slice q.a q.m q.m), (13, .slice q.b q.m q.m), (11, .slice ua um um), (9, .int .i64 r), (5, .pointer (some ⟨B5, 0, none⟩)), (2, .slice a um um), (0, .int .i64 ob)]) (fun q => q.h) (fun q => um - q.i) ?_ ⟨0, _, none, none, 0⟩ ⟨⟨Nat.zero_le _, rfl⟩, _, _, _, _, _, _, (hL.less (k := 2) rfl).less (k := 3) rfl⟩ (by (refine Sub.cons rfl (Sub.cons rfl (Sub.cons rfl (Sub.cons rfl (Sub.cons rfl (Sub.cons rfl (Sub.cons rfl (Sub.cons rfl ?_))))))); exact Sub.nil _)) rfl
 clear hL
 intro ⟨i, h2, A, B, m⟩ ⟨⟨hi, hm1⟩, l1, l2, l3, l4, l5, l6, hL⟩
 simp only at hi hm1 hL ⊢
 have hml : m ≤ i := hm1 ▸ Nat.le_trans (List.length_filter_le _ _) (by rw [List.length_take]; exact Nat.min_le_left _ _)
 by_cases hlt : (i : Int) < um
 ·have hil : i < os.length := by omega
  have hiz : i < Z.length := by omega
  have hfo := hf _ (List.getElem_mem hil)
  by_cases hk : ownOf r os[i] = true
  ·have hk' : os[i].r = r ∧ os[i].c ≠ 3 := of_decide_eq_true hk
   obtain ⟨hk1, hk2⟩ := hk'
   have fe : (os.take (i + 1)).filter (ownOf r) = (os.take i).filter (ownOf r) ++ [os[i]] := by rw [filter_take hil, if_pos hk]
   have fz : pickX (ownOf r) (os.take (i + 1)) (Z.take (i + 1)) = pickX (ownOf r) (os.take i) (Z.take i) ++ [Z[i]] := by rw [pickX_take _ hil hiz, if_pos hk]
   (refine Cs (Cs (Co (Wm rfl (Wm rfl (Wc (OP.lenS rfl (Wc (OP.lssT rfl rfl (by omega) ?_)))))))); refine Wt ?_; refine WC.condT rfl (Ks ?_); refine Cs (WC.block (Cs (Co (Wm rfl (Wm rfl (Wc (OP.idxS (Sl.pfx (by assumption) (Loc.pfx hL)) rfl rfl (by omega) ?_))))))); refine Wc (OP.fieldE (Sl.pfx (by assumption) (Loc.pfx hL)) rfl (by omega) ?_); refine Wc (OP.ldF opC_len (Sl.pfx (by assumption) (Loc.pfx hL)) rfl (by omega) (by decide) rfl ?_); refine Wm rfl (Wc (OP.eqlT rfl rfl (by omega) ?_)); refine Wm rfl (WO.yes rfl (Wm rfl (WO.yes rfl (Wm rfl (WO.yes rfl (Wc (OP.idxS (Sl.pfx (by assumption) (Loc.pfx hL)) rfl rfl (by omega) ?_))))))); refine WO.yes rfl (Wc (OP.fieldE (Sl.pfx (by assumption) (Loc.pfx hL)) rfl (by omega) ?_)); refine WO.yes rfl (Wc (OP.ldF opC_len (Sl.pfx (by assumption) (Loc.pfx hL)) rfl (by omega) (by decide) rfl ?_)); refine WO.yes rfl (Wc (OP.neqT rfl rfl (by omega) ?_)); refine Wc (OP.pickT rfl rfl (Wt ?_)); refine WC.condT rfl (Cs (Co (Wm rfl (Wm rfl (Wm rfl (Wc (OP.idxS (Sl.pfx (by assumption) (Loc.pfx hL)) rfl rfl (by omega) ?_))))))); refine Wc (OP.ldR opC_len (by decide) (Sl.pfx (by assumption) (Loc.pfx hL)) rfl (by omega) ?_); refine Wc ?_; refine OL.buildSlice hL rfl (by simp [over, Value.cells]; rfl) rfl (fun b h' hL => ?_); refine Wc ?_; refine OL.append (k := 2) hL hlim rfl rfl rfl (Loc.bxAt (k := 0) hL rfl rfl) (by omega) ⟨by omega, by omega, by omega⟩ rfl (fun a' h' hL => ?_); dsimp only [List.eraseIdx] at hL; refine Wm rfl (Wt ?_); refine Co (Wm rfl (Wm rfl (Wm rfl (Wc (OP.idxS (hL.apM (by repeat (first | exact mh | apply mt))) rfl rfl (by omega) ?_))))); refine Wc (OP.ldI (hL.apM (by repeat (first | exact mh | apply mt))) rfl (by omega) ?_); refine Wc ?_; refine OL.buildSlice hL rfl (by simp [over, Value.cells]; rfl) rfl (fun b h' hL => ?_); refine Wc ?_; refine OL.append (k := 3) hL hlim rfl rfl rfl (Loc.bxAt (k := 0) hL rfl rfl) (by omega) ⟨by omega, by omega, by omega⟩ rfl (fun a' h' hL => ?_); dsimp only [List.eraseIdx] at hL; refine Wm rfl (Wt ?_); refine Co (Wm rfl (Wc (OP.add rfl rfl (by omega) ?_))); refine Wm rfl (Wt ?_))
   have hL2 := (hL.less (k := 1) rfl).less (k := 2) rfl
   dsimp only [List.eraseIdx] at hL2
   rw [show opC os[i] ++ List.drop (opC os[i]).length [Value.int .i64 0, Value.int .i64 0, Value.int .i64 0] = opC os[i] from rfl, ← recs_snoc, ints_snoc, ← fe, ← fz] at hL2
   exact ⟨⟨i + 1, h', a', _, m + 1⟩, ⟨⟨by simp only; omega, by simp only; rw [fe]; simp; omega⟩, _, _, _, _, _, _, hL2⟩, by (refine Sub.cons rfl (Sub.cons rfl (Sub.cons rfl (Sub.cons rfl (Sub.cons rfl (Sub.cons rfl (Sub.cons rfl (Sub.cons rfl ?_))))))); exact Sub.nil _), rfl, by simp only; omega⟩
  ·have hk' : ¬ (os[i].r = r ∧ os[i].c ≠ 3) := fun hh => hk (decide_eq_true hh)
   have fe : (os.take (i + 1)).filter (ownOf r) = (os.take i).filter (ownOf r) := by rw [filter_take hil, if_neg hk, List.append_nil]
   have fz : pickX (ownOf r) (os.take (i + 1)) (Z.take (i + 1)) = pickX (ownOf r) (os.take i) (Z.take i) := by rw [pickX_take _ hil hiz, if_neg hk, List.append_nil]
   by_cases hrr : os[i].r = r
   ·have hcc : os[i].c = 3 := Classical.byContradiction fun hh => hk' ⟨hrr, hh⟩
    (refine Cs (Cs (Co (Wm rfl (Wm rfl (Wc (OP.lenS rfl (Wc (OP.lssT rfl rfl (by omega) ?_)))))))); refine Wn ?_; dsimp only [zn, zr, zx, yn, yr]; refine WC.condT rfl (WC.skip ?_); dsimp only [zn, zr, zx, yn, yr]; refine Cs (WC.block (Cs (Co (Wm rfl (Wm rfl (Wc (OP.idxS (Sl.pfx (by assumption) (Loc.pfx hL)) rfl rfl (by omega) ?_))))))); refine Wc (OP.fieldE (Sl.pfx (by assumption) (Loc.pfx hL)) rfl (by omega) ?_); refine Wc (OP.ldF opC_len (Sl.pfx (by assumption) (Loc.pfx hL)) rfl (by omega) (by decide) rfl ?_); refine Wm rfl (Wc (OP.eqlT rfl rfl (by omega) ?_)); refine Wm rfl (WO.yes rfl (Wm rfl (WO.yes rfl (Wm rfl (WO.yes rfl (Wc (OP.idxS (Sl.pfx (by assumption) (Loc.pfx hL)) rfl rfl (by omega) ?_))))))); refine WO.yes rfl (Wc (OP.fieldE (Sl.pfx (by assumption) (Loc.pfx hL)) rfl (by omega) ?_)); refine WO.yes rfl (Wc (OP.ldF opC_len (Sl.pfx (by assumption) (Loc.pfx hL)) rfl (by omega) (by decide) rfl ?_)); refine WO.yes rfl (Wc (OP.neqF rfl rfl (by omega) ?_)); refine Wc (OP.pickT rfl rfl (Wn ?_)); dsimp only [zn, zr, zx, yn, yr]; refine WC.condF rfl (WC.skip ?_); dsimp only [zn, zr, zx, yn, yr]; refine Co (Wm rfl (Wc (OP.add rfl rfl (by omega) ?_))); refine Wm rfl (Wn ?_); dsimp only [zn, zr, zx, yn, yr])
    rw [← fe, ← fz] at hL
    exact ⟨⟨i + 1, _, A, B, m⟩, ⟨⟨by simp only; omega, by simp only; rw [fe]; exact hm1⟩, _, _, _, _, _, _, hL⟩, by (refine Sub.cons rfl (Sub.cons rfl (Sub.cons rfl (Sub.cons rfl (Sub.cons rfl (Sub.cons rfl (Sub.cons rfl (Sub.cons rfl ?_))))))); exact Sub.nil _), rfl, by simp only; omega⟩
   ·(refine Cs (Cs (Co (Wm rfl (Wm rfl (Wc (OP.lenS rfl (Wc (OP.lssT rfl rfl (by omega) ?_)))))))); refine Wn ?_; dsimp only [zn, zr, zx, yn, yr]; refine WC.condT rfl (WC.skip ?_); dsimp only [zn, zr, zx, yn, yr]; refine Cs (WC.block (Cs (Co (Wm rfl (Wm rfl (Wc (OP.idxS (Sl.pfx (by assumption) (Loc.pfx hL)) rfl rfl (by omega) ?_))))))); refine Wc (OP.fieldE (Sl.pfx (by assumption) (Loc.pfx hL)) rfl (by omega) ?_); refine Wc (OP.ldF opC_len (Sl.pfx (by assumption) (Loc.pfx hL)) rfl (by omega) (by decide) rfl ?_); refine Wm rfl (Wc (OP.eqlF rfl rfl (by omega) ?_)); refine Wm rfl (WO.no rfl (WO.no rfl (WO.no rfl (WO.no rfl (WO.no rfl (WO.no rfl (Wc (OP.pickF rfl rfl (Wn ?_))))))))); dsimp only [zn, zr, zx, yn, yr]; refine WC.condF rfl (WC.skip ?_); dsimp only [zn, zr, zx, yn, yr]; refine Co (Wm rfl (Wc (OP.add rfl rfl (by omega) ?_))); refine Wm rfl (Wn ?_); dsimp only [zn, zr, zx, yn, yr])
    rw [← fe, ← fz] at hL
    exact ⟨⟨i + 1, _, A, B, m⟩, ⟨⟨by simp only; omega, by simp only; rw [fe]; exact hm1⟩, _, _, _, _, _, _, hL⟩, by (refine Sub.cons rfl (Sub.cons rfl (Sub.cons rfl (Sub.cons rfl (Sub.cons rfl (Sub.cons rfl (Sub.cons rfl (Sub.cons rfl ?_))))))); exact Sub.nil _), rfl, by simp only; omega⟩
 ·have hin : i = um := by omega
  rw [List.take_of_length_le (by omega), List.take_of_length_le (by omega)] at hL
  rw [List.take_of_length_le (by omega)] at hm1
  (refine Cs (Cs (Co (Wm rfl (Wm rfl (Wc (OP.lenS rfl (Wc (OP.lssF rfl rfl (by omega) ?_)))))))); refine Wt ?_; refine WC.condF rfl (WC.exit ?_); dsimp only [zn, zr, zx, yn, yr]; rw [yx, if_pos rfl]; dsimp only [zn, zr, zx, yn, yr]; refine Cs (Co (Wm rfl (Wc (OL.loadAll (k := 3) hL rfl rfl rfl (Wm rfl ?_))))))
  (refine Wc ?_)
  refine OL.callF hL rfl rfl (foldAt e1 ob ⟨r0.xs, r1.xs, r2.xs, r3.xs⟩ _ _ hfin _ _ (by first | exact hL.lm hlim | exact Nat.le_refl _) (hst.pfx hL.pfx) rfl rfl rfl rfl (hL.apM (by repeat (first | exact mh | apply mt))) (by omega)) (fun v0 vn0 v1 vn1 v2 vn2 v3 vn3 va vm vmid h' vy hp hL => ?_)
  have hvm : (pickX (ownOf r) os Z).length = vm := vy.2.2.2.2
  (try dsimp only at hL ⊢)
  clear vy
  have hpl : (pickX (ownOf r) os Z).length = m := (hL.apM (lo := l1) (hi := l2) (n := m) (a := A) (cs := ints (pickX (ownOf r) os Z)) (by repeat (first | exact mh | apply mt))).ilen
  generalize pickX (ownOf r) os Z = P at hL hvm hpl
  have hv : ∀ lim h' {a b : Option Addr} {n m : Nat}, Sl 1 h' a n n (ints P) → Sl 1 h' b m m (ints P) → n ≤ 2 ^ 44 → Ret X F lim g3 [.slice a n n, .slice b m m] h' fun v h'' => Pfx h' h'' ∧ v = .bool true := fun lim h' a b n m k1 k2 k3 => by
   have := d3 lim h' k1 k2 (by omega)
   rw [decide_eq_true rfl] at this
   exact this
  clear d3
  (refine Wm rfl (Wc (OP.extract rfl rfl (Wc (OP.extract rfl rfl (Wc (OP.extract rfl rfl (Wc ?_))))))); refine OL.new hL (fun b h' hL => (WO.cons0 ?_)); refine OL.storeAll (k := 0) hL hlim rfl rfl rfl rfl rfl rfl (by decide) rfl (fun h' hL => ?_); dsimp only [List.set, Nat.zero_add, Nat.reduceAdd, Nat.reduceMul] at hL; refine Wm rfl (Wm rfl (Wt ?_)); refine Cs (Co (Wm rfl (Wc ?_))); refine OL.callV hL rfl rfl (d2 _ _ (by first | omega | assumption | exact St.pfx (by assumption) hL.pfx | exact hL.stM (by repeat (first | exact mh | apply mt)) | exact RowOk.pfx (by assumption) hL.pfx | exact (hL.stM (by repeat (first | exact mh | apply mt))).1 | exact (hL.stM (by repeat (first | exact mh | apply mt))).2.1 | exact (hL.stM (by repeat (first | exact mh | apply mt))).2.2.1 | exact (hL.stM (by repeat (first | exact mh | apply mt))).2.2.2)) (fun h' hp hL => ?_); refine Wc (OP.eqlT rfl rfl (by omega) ?_); refine Wm rfl (WO.yes rfl (Wm rfl (WO.yes rfl (Wm rfl (WO.yes rfl ?_))))))
  (refine Wc ?_)
  refine OL.callV hL rfl rfl (hv _ _ (n := vm) (m := m) (hL.apM (by repeat (first | exact mh | apply mt))) (hL.apM (by repeat (first | exact mh | apply mt))) (by omega)) (fun h' hp hL => ?_)
  (refine Wc (OP.pickT rfl rfl (Wm rfl (Wt ?_))); refine WC.ret ?_; exact Fin.ret rfl rfl)
end
end Go.Proofs.YtdcpmchhioilpaaW.Ai
