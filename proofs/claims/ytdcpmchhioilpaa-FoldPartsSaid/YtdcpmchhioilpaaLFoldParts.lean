/-
 The statement FoldParts (chapter 12), as the small machine runs it.
-/
import Derived.Test.YtdcpmchhioilpaaFn55
import Derived.Test.YtdcpmchhioilpaaFn56
import Derived.Test.YtdcpmchhioilpaaAi39
set_option linter.unusedVariables false
set_option linter.unusedSimpArgs false
set_option maxHeartbeats 4000000
set_option maxRecDepth 100000
namespace Go.Proofs.YtdcpmchhioilpaaW.Ai
-- chorus/choruslaw12.FoldParts; g0 = chorus/choruslaw12.awake; g1 = chorus/fold.Fold; g2 = chorus/choruslaw0.Num; g3 = chorus/choruslaw0.SameState; g4 = chorus/choruslaw0.SameInts
def rf_FoldParts (g0 g1 g2 g3 g4 : Nat) : RFunc :=
 ⟨99, [(.tmp 8)], (.seq (.ops [rO 5 (.box (.tmp 1)), rO 8 (.mv (.const (.bool false)))]) (.seq (.seq (.ops [rO 19 (.call (.func g0) []), rO 20 (.un .not (.tmp 19))]) (.cond (.tmp 20) (.seq (.ops [rO 8 (.mv (.const (.bool false)))]) .ret) .skip)) (.seq (.ops [rO 21 (.mv (.tmp 3)), rO 22 (.conv .u64 (.tmp 21)), rO 23 (.mv (.tmp 2)), rO 24 (.len 1 (.tmp 23)), rO 25 (.bin .add (.tmp 24) (.const (.int .i64 1))), rO 26 (.conv .u64 (.tmp 25)), rO 27 (.bin .rem (.tmp 22) (.tmp 26)), rO 28 (.conv .i64 (.tmp 27)), rO 9 (.mv (.tmp 28))]) (.seq (.ops [rO 30 (.mv (.tmp 0)), rO 31 (.load (.some 4) (.tmp 5)), rO 32 (.mv (.tmp 2)), rO 33 (.call (.func g1) [(.tmp 30), (.tmp 31), (.tmp 32)]), rO 29 (.mv (.tmp 33)), rO 34 (.extract (.tmp 29) 0), rO 35 (.extract (.tmp 29) 1), rO 36 (.extract (.tmp 29) 2), rO 10 (.new [(.slice .none 0 0), (.slice .none 0 0), (.slice .none 0 0), (.slice .none 0 0)]), ⟨.none, (.store 4 (.tmp 10) (.tmp 34)), .none, false, []⟩, rO 11 (.mv (.tmp 35)), rO 12 (.mv (.tmp 36))]) (.seq (.ops [⟨(.some 38), (.mv (.tmp 0)), .none, true, []⟩, ⟨(.some 39), (.load (.some 4) (.tmp 5)), .none, true, []⟩, ⟨(.some 40), (.mv (.tmp 2)), .none, true, []⟩, ⟨(.some 41), (.mv (.tmp 9)), .none, true, []⟩, ⟨(.some 42), (.slice 3 (.tmp 40) .none (.some (.tmp 41)) .none), .none, true, []⟩, ⟨(.some 43), (.call (.func g1) [(.tmp 38), (.tmp 39), (.tmp 42)]), .none, true, []⟩, ⟨(.some 37), (.mv (.tmp 43)), .none, true, []⟩, ⟨(.some 44), (.extract (.tmp 37) 0), .none, true, []⟩, ⟨(.some 45), (.extract (.tmp 37) 1), .none, true, []⟩, ⟨(.some 46), (.extract (.tmp 37) 2), .none, true, []⟩, ⟨(.some 13), (.new [(.slice .none 0 0), (.slice .none 0 0), (.slice .none 0 0), (.slice .none 0 0)]), .none, true, []⟩, ⟨.none, (.store 4 (.tmp 13) (.tmp 44)), .none, false, []⟩, rO 14 (.mv (.tmp 45)), rO 15 (.mv (.tmp 46))]) (.seq (.ops [⟨(.some 48), (.mv (.tmp 0)), .none, true, []⟩, ⟨(.some 49), (.load (.some 4) (.tmp 13)), .none, true, []⟩, ⟨(.some 50), (.mv (.tmp 2)), .none, true, []⟩, ⟨(.some 51), (.mv (.tmp 9)), .none, true, []⟩, ⟨(.some 52), (.slice 3 (.tmp 50) (.some (.tmp 51)) .none .none), .none, true, []⟩, ⟨(.some 53), (.call (.func g1) [(.tmp 48), (.tmp 49), (.tmp 52)]), .none, true, []⟩, ⟨(.some 47), (.mv (.tmp 53)), .none, true, []⟩, ⟨(.some 54), (.extract (.tmp 47) 0), .none, true, []⟩, ⟨(.some 55), (.extract (.tmp 47) 1), .none, true, []⟩, ⟨(.some 56), (.extract (.tmp 47) 2), .none, true, []⟩, ⟨(.some 16), (.new [(.slice .none 0 0), (.slice .none 0 0), (.slice .none 0 0), (.slice .none 0 0)]), .none, true, []⟩, ⟨.none, (.store 4 (.tmp 16) (.tmp 54)), .none, false, []⟩, rO 17 (.mv (.tmp 55)), rO 18 (.mv (.tmp 56))]) (.seq (.seq (.ops [rO 57 (.mv (.tmp 12)), rO 58 (.call (.func g2) [(.tmp 57)]), rO 59 (.bin .neq (.tmp 58) (.const (.int .i64 0)))]) (.cond (.tmp 59) (.seq (.ops [rO 60 (.load (.some 4) (.tmp 10)), rO 61 (.build [(.slice .none 0 0), (.slice .none 0 0), (.slice .none 0 0), (.slice .none 0 0)] []), rO 62 (.call (.func g3) [(.tmp 60), (.tmp 61)]), rO 63 (.mv (.tmp 62)), ⟨(.some 64), (.mv (.tmp 11)), (.some (63, true)), false, []⟩, ⟨(.some 65), (.len 1 (.tmp 64)), (.some (63, true)), false, []⟩, ⟨(.some 66), (.bin .eql (.tmp 65) (.const (.int .i64 0))), (.some (63, true)), false, []⟩, rO 67 (.pick (.tmp 63) (.tmp 66) (.const (.bool false))), rO 68 (.mv (.tmp 67)), ⟨(.some 69), (.mv (.tmp 15)), (.some (68, true)), false, []⟩, ⟨(.some 70), (.call (.func g2) [(.tmp 69)]), (.some (68, true)), false, []⟩, ⟨(.some 71), (.bin .neq (.tmp 70) (.const (.int .i64 0))), (.some (68, true)), false, []⟩, ⟨(.some 72), (.mv (.tmp 71)), (.some (68, true)), false, []⟩, ⟨(.some 73), (.mv (.tmp 18)), (.some (72, false)), false, []⟩, ⟨(.some 74), (.call (.func g2) [(.tmp 73)]), (.some (72, false)), false, []⟩, ⟨(.some 75), (.bin .neq (.tmp 74) (.const (.int .i64 0))), (.some (72, false)), false, []⟩, ⟨(.some 76), (.pick (.tmp 72) (.const (.bool true)) (.tmp 75)), (.some (68, true)), false, []⟩, rO 77 (.pick (.tmp 68) (.tmp 76) (.const (.bool false))), rO 8 (.mv (.tmp 77))]) .ret) .skip)) (.seq (.ops [rO 78 (.mv (.tmp 14)), rO 79 (.mv (.tmp 17)), rO 80 (.append 1 8 (.tmp 78) (.tmp 79)), rO 14 (.mv (.tmp 80))]) (.seq (.ops [rO 81 (.mv (.tmp 15)), rO 82 (.call (.func g2) [(.tmp 81)]), rO 83 (.bin .eql (.tmp 82) (.const (.int .i64 0))), rO 84 (.mv (.tmp 83)), ⟨(.some 85), (.mv (.tmp 18)), (.some (84, true)), false, []⟩, ⟨(.some 86), (.call (.func g2) [(.tmp 85)]), (.some (84, true)), false, []⟩, ⟨(.some 87), (.bin .eql (.tmp 86) (.const (.int .i64 0))), (.some (84, true)), false, []⟩, rO 88 (.pick (.tmp 84) (.tmp 87) (.const (.bool false))), rO 89 (.mv (.tmp 88)), ⟨(.some 90), (.load (.some 4) (.tmp 10)), (.some (89, true)), false, []⟩, ⟨(.some 91), (.load (.some 4) (.tmp 16)), (.some (89, true)), false, []⟩, ⟨(.some 92), (.call (.func g3) [(.tmp 90), (.tmp 91)]), (.some (89, true)), false, []⟩, rO 93 (.pick (.tmp 89) (.tmp 92) (.const (.bool false))), rO 94 (.mv (.tmp 93)), ⟨(.some 95), (.mv (.tmp 11)), (.some (94, true)), false, []⟩, ⟨(.some 96), (.mv (.tmp 14)), (.some (94, true)), false, []⟩, ⟨(.some 97), (.call (.func g4) [(.tmp 95), (.tmp 96)]), (.some (94, true)), false, []⟩, rO 98 (.pick (.tmp 94) (.tmp 97) (.const (.bool false))), rO 8 (.mv (.tmp 98))]) .ret)))))))))⟩
theorem ints_app (xs ys : List Int) : ints xs ++ ints ys = ints (xs ++ ys) := by simp [ints]
theorem OpsOk_app {os ps : List OpR} : OpsOk (os ++ ps) ↔ OpsOk os ∧ OpsOk ps := by
 unfold OpsOk
 constructor
 ·exact fun h => ⟨fun o ho => h o (List.mem_append_left _ ho), fun o ho => h o (List.mem_append_right _ ho)⟩
 ·intro ⟨h1, h2⟩ o ho
  rcases List.mem_append.1 ho with ho | ho
  ·exact h1 o ho
  ·exact h2 o ho
/-- Folded in two parts. -/
theorem FoldR_parts (ob : Int) (s : S4) (os ps : List OpR) :
  (∃ S1 X1 S2 X2, FoldR ob s os = (S1, X1, 0) ∧ FoldR ob S1 ps = (S2, X2, 0) ∧ FoldR ob s (os ++ ps) = (S2, X1 ++ X2, 0) ∧ X1.length = os.length ∧ X2.length = ps.length) ∨
  (FoldR ob s (os ++ ps) = (S4.none, [], 1200) ∧ ∃ S1 X1 e1 S2 X2 e2, FoldR ob s os = (S1, X1, e1) ∧ FoldR ob S1 ps = (S2, X2, e2) ∧ ((e1 = 1200 ∧ 0 ≤ e2 ∧ e2 ≤ 1200) ∨ (e1 = 0 ∧ e2 = 1200))) := by
 by_cases h1 : ObMay ob s ∧ OpsOk os
 ·have f1 : FoldR ob s os = (runS ob s os, runX ob s os, 0) := if_pos h1
  have hm := runS_may h1.1 h1.2
  by_cases h2 : OpsOk ps
  ·exact .inl ⟨_, _, _, _, f1, if_pos ⟨hm, h2⟩, by rw [FoldR, if_pos ⟨h1.1, OpsOk_app.2 ⟨h1.2, h2⟩⟩, runS_app, runX_app], runX_len .., runX_len ..⟩
  ·exact .inr ⟨if_neg (fun q => h2 (OpsOk_app.1 q.2).2), _, _, _, _, _, _, f1, if_neg (fun q => h2 q.2), .inr ⟨rfl, rfl⟩⟩
 ·have hr := FoldR_rng ob S4.none ps
  have f1 : FoldR ob s os = (S4.none, [], 1200) := if_neg h1
  generalize hN : FoldR ob S4.none ps = N at hr
  obtain ⟨S2, X2, e2⟩ := N
  exact .inr ⟨if_neg (fun q => h1 ⟨q.1, (OpsOk_app.1 q.2).1⟩), _, _, _, _, _, _, f1, hN, .inl ⟨rfl, hr⟩⟩
section
variable {X : Ext} {F : FuncId → Option RFunc} {f : FuncId}
theorem s_FoldParts {g0 g1 g2 g3 g4 : Nat} (hX : X f = none) (hF : F f = some (rf_FoldParts g0 g1 g2 g3 g4)) (d0 : S_yes X F g0) (e1 : S_fFold X F g1) (d2 : S_Num X F g2) (d3 : S_SameState X F g3) (e4 : S_SameInts X F g4)
  (h : AH) {r0 r1 r2 r3 : Row} {ob cut : Int} {a : Option Addr} {n : Nat} {os : List OpR} (hob : R64 ob) (hst : St h r0 r1 r2 r3) (hs : Sl 3 h a n n (recs opC os)) (hf : ∀ o ∈ os, OpFits o) (hn : n ≤ 2 ^ 43) (hsp : a = none ∨ ∃ b, a = some ⟨b, 0, some 3⟩) (hcut : R64 cut) : Ret X F h.length f [.int .i64 ob, stV r0 r1 r2 r3, .slice a n n, .int .i64 cut] h fun v _ => v = .bool true := by
 have hL := Loc.start h
 have hlim : h.length ≤ h.length := Nat.le_refl _
 have hon : os.length = n := hs.rlen opC_len (by decide)
 have hsp' : (a = none ∧ n = 0 ∧ n = 0) ∨ ∃ b o, a = some ⟨b, o, some 3⟩ := by
  rcases hsp with rfl | ⟨b, rfl⟩
  ·exact .inl ⟨rfl, by have := hs.2.2.2 rfl; omega, hs.2.2.2 rfl⟩
  ·exact .inr ⟨b, 0, rfl⟩
 have d13 : ∀ (lim : Nat) (h' : AH) {r0 r1 r2 r3 : Row}, St h' r0 r1 r2 r3 → Ret X F lim g3 [stV r0 r1 r2 r3, .agg #[.slice none 0 0, .slice none 0 0, .slice none 0 0, .slice none 0 0]] h' fun v h'' => Pfx h' h'' ∧ v = .bool (decide (r0.xs = [] ∧ r1.xs = [] ∧ r2.xs = [] ∧ r3.xs = [])) := fun lim h' r0 r1 r2 r3 hs => d3 lim h' (t0 := nilRow) (t1 := nilRow) (t2 := nilRow) (t3 := nilRow) hs (nilSt h')
 refine Ret.body hX hF rfl ?_
 simp only [argL, rf_FoldParts]
 (refine Cs (Co (Wc ?_)); refine OL.boxA hL rfl rfl (fun b h' hL => (Wm rfl (Wt ?_))); refine Cs (Cs (Co (Wc ?_))); refine OL.callV hL rfl rfl (d0 _ _) (fun h' hp hL => (Wc (OP.not rfl (Wt ?_)))); refine WC.condF rfl (Ks ?_); refine Cs (Co (Wm rfl (Wc ?_))); refine OP.convU rfl (fun u hu => (Wm rfl (Wc (OP.lenS rfl (Wc (OP.add rfl rfl (by omega) ?_)))))); refine Wc ?_; refine OP.convU rfl (fun u hu => (Wc ?_)); refine OP.remP rfl rfl (by omega) (by omega) (fun m hm hm2 => ?_); refine Wc (OP.convI rfl (by omega) ?_); refine Wm rfl (Wt ?_); refine Cs (Co (Wm rfl (Wc (OL.loadAll (k := 0) hL rfl rfl rfl (Wm rfl ?_))))))
 obtain ⟨k, hk⟩ : ∃ k : Nat, m = k := ⟨m.toNat, by omega⟩
 have hkn : k ≤ n := by omega
 clear hm hm2
 subst hk
 have hs1 : Sl 3 h (cutA a (0 * 3)) (k - 0) (n - 0) (recs opC (os.take k)) := by
  have q := hs.cut (i := 0) (j := k) (Nat.zero_le _) hkn
  rw [recs_dropN opC_len, recs_takeN opC_len] at q
  exact q
 have hs2 : Sl 3 h (cutA a (k * 3)) (n - k) (n - k) (recs opC (os.drop k)) := by
  have q := hs.cut (i := k) (j := n) hkn (Nat.le_refl _)
  rw [recs_dropN opC_len, recs_takeN opC_len, List.take_of_length_le (by rw [List.length_drop]; omega)] at q
  exact q
 have hparts := FoldR_parts ob ⟨r0.xs, r1.xs, r2.xs, r3.xs⟩ (os.take k) (os.drop k)
 rw [List.take_append_drop] at hparts
 have htk : (os.take k).length ≤ n := by rw [List.length_take]; omega
 have hdr : (os.drop k).length ≤ n := by rw [List.length_drop]; omega
 rcases hparts with ⟨S1, X1, S2, X2, f1, f2, f3, f4, f5⟩ | ⟨f3, S1, X1, x1, S2, X2, x2, f1, f2, f4⟩
 ·have d15 : ∀ {Z : List Int}, Z = X1 ++ X2 → ∀ lim h' {a b : Option Addr} {n m : Nat}, Sl 1 h' a n n (ints Z) → Sl 1 h' b m m (ints Z) → n < 2 ^ 62 → Ret X F lim g4 [.slice a n n, .slice b m m] h' fun v h'' => Pfx h' h'' ∧ v = .bool true := fun {Z} _ lim h' a b n m k1 k2 k3 => by
   have := e4 lim h' k1 k2 k3
   rw [decide_eq_true rfl] at this
   exact this
  (refine Wc ?_)
  refine OL.callF hL rfl rfl (foldAt e1 ob ⟨r0.xs, r1.xs, r2.xs, r3.xs⟩ os (S2, X1 ++ X2, 0) f3 _ _ (by first | exact hL.lm hlim | exact Nat.le_refl _) (hst.pfx hL.pfx) rfl rfl rfl rfl (hs.pfx hL.pfx) (by omega)) (fun u0 un0 u1 un1 u2 un2 u3 un3 ua um umid h' uy hp hL => ?_)
  have hum : _ = um := uy.2.2.2.2
  (try dsimp only at hL hum ⊢)
  clear uy
  (refine Wm rfl (Wc (OP.extract rfl rfl (Wc (OP.extract rfl rfl (Wc (OP.extract rfl rfl (Wc ?_))))))); refine OL.new hL (fun b h' hL => (WO.cons0 ?_)); refine OL.storeAll (k := 0) hL hlim rfl rfl rfl rfl rfl rfl (by decide) rfl (fun h' hL => ?_); dsimp only [List.set, Nat.zero_add, Nat.reduceAdd, Nat.reduceMul] at hL; refine Wm rfl (Wm rfl (Wt ?_)); refine Cs (Co (WO.consQ (OP.mv rfl (WO.consQ (OL.loadAll (k := 3) hL rfl rfl rfl (WO.consQ (OP.mv rfl (WO.consQ (OP.mv rfl ?_))))))))))
  (refine WO.consQ ?_)
  refine OP.cutHi rfl hsp' rfl (by omega) ?_
  skip
  (refine WO.consQ ?_)
  refine OL.callF hL rfl rfl (foldAt e1 ob ⟨r0.xs, r1.xs, r2.xs, r3.xs⟩ (os.take k) (S1, X1, 0) f1 _ _ (by first | exact hL.lm hlim | exact Nat.le_refl _) (hst.pfx hL.pfx) rfl rfl rfl rfl (hs1.pfx hL.pfx) (by omega)) (fun v0 vn0 v1 vn1 v2 vn2 v3 vn3 va vm vmid h' vy hp hL => ?_)
  have hvm : _ = vm := vy.2.2.2.2
  (try dsimp only at hL hvm ⊢)
  clear vy
  (refine WO.consQ (OP.mv rfl (WO.consQ (OP.extract rfl rfl (WO.consQ (OP.extract rfl rfl (WO.consQ (OP.extract rfl rfl (WO.consQ ?_)))))))); refine OL.new hL (fun b h' hL => (WO.cons0 ?_)); refine OL.storeAll (k := 0) hL hlim rfl rfl rfl rfl rfl rfl (by decide) rfl (fun h' hL => ?_); dsimp only [List.set, Nat.zero_add, Nat.reduceAdd, Nat.reduceMul] at hL; refine Wm rfl (Wm rfl (Wt ?_)); refine Cs (Co (WO.consQ (OP.mv rfl (WO.consQ (OL.loadAll (k := 0) hL rfl rfl rfl (WO.consQ (OP.mv rfl (WO.consQ (OP.mv rfl ?_))))))))))
  (refine WO.consQ ?_)
  refine OP.cutLo rfl hsp' rfl hkn (Nat.le_refl _) ?_
  skip
  (refine WO.consQ ?_)
  refine OL.callF hL rfl rfl (foldAt e1 ob S1 (os.drop k) (S2, X2, 0) f2 _ _ (by first | exact hL.lm hlim | exact Nat.le_refl _) (hL.stM (r0 := ⟨v0, vn0, S1.x0⟩) (r1 := ⟨v1, vn1, S1.x1⟩) (r2 := ⟨v2, vn2, S1.x2⟩) (r3 := ⟨v3, vn3, S1.x3⟩) (by repeat (first | exact mh | apply mt))) rfl rfl rfl rfl (hs2.pfx hL.pfx) (by omega)) (fun w0 wn0 w1 wn1 w2 wn2 w3 wn3 wa wm wmid h' wy hp hL => ?_)
  have hwm : _ = wm := wy.2.2.2.2
  (try dsimp only at hL hwm ⊢)
  clear wy
  (refine WO.consQ (OP.mv rfl (WO.consQ (OP.extract rfl rfl (WO.consQ (OP.extract rfl rfl (WO.consQ (OP.extract rfl rfl (WO.consQ ?_)))))))); refine OL.new hL (fun b h' hL => (WO.cons0 ?_)); refine OL.storeAll (k := 0) hL hlim rfl rfl rfl rfl rfl rfl (by decide) rfl (fun h' hL => ?_); dsimp only [List.set, Nat.zero_add, Nat.reduceAdd, Nat.reduceMul] at hL; refine Wm rfl (Wm rfl (Wt ?_)); refine Cs (Cs (Co (Wm rfl (Wc ?_)))); refine OL.callV hL rfl rfl (d2 _ _ (by first | omega | assumption | exact St.pfx (by assumption) hL.pfx | exact hL.stM (by repeat (first | exact mh | apply mt)) | exact RowOk.pfx (by assumption) hL.pfx | exact (hL.stM (by repeat (first | exact mh | apply mt))).1 | exact (hL.stM (by repeat (first | exact mh | apply mt))).2.1 | exact (hL.stM (by repeat (first | exact mh | apply mt))).2.2.1 | exact (hL.stM (by repeat (first | exact mh | apply mt))).2.2.2)) (fun h' hp hL => ?_); refine Wc (OP.neqF rfl rfl (by omega) ?_); refine Wt ?_; refine WC.condF rfl (Ks ?_); refine Cs (Co (Wm rfl (Wm rfl ?_))))
  by_cases hz : wm = 0
  ·subst hz
   have hX2 : X2 = [] := List.eq_nil_of_length_eq_zero hwm
   subst hX2
   rw [List.append_nil] at hL
   (refine Wc ?_)
   refine OP.appendE rfl (fun q => (hL.apAt (k := 4) rfl).2.2.2 q) rfl (hL.apAt (k := 1) rfl) ?_
   (refine Wm rfl (Wt ?_); refine Cs (Co (Wm rfl (Wc ?_))); refine OL.callV hL rfl rfl (d2 _ _ (by first | omega | assumption | exact St.pfx (by assumption) hL.pfx | exact hL.stM (by repeat (first | exact mh | apply mt)) | exact RowOk.pfx (by assumption) hL.pfx | exact (hL.stM (by repeat (first | exact mh | apply mt))).1 | exact (hL.stM (by repeat (first | exact mh | apply mt))).2.1 | exact (hL.stM (by repeat (first | exact mh | apply mt))).2.2.1 | exact (hL.stM (by repeat (first | exact mh | apply mt))).2.2.2)) (fun h' hp hL => ?_); refine Wc (OP.eqlT rfl rfl (by omega) ?_); refine Wm rfl (WO.yes rfl (Wm rfl (WO.yes rfl (Wc ?_)))); refine OL.callV hL rfl rfl (d2 _ _ (by first | omega | assumption | exact St.pfx (by assumption) hL.pfx | exact hL.stM (by repeat (first | exact mh | apply mt)) | exact RowOk.pfx (by assumption) hL.pfx | exact (hL.stM (by repeat (first | exact mh | apply mt))).1 | exact (hL.stM (by repeat (first | exact mh | apply mt))).2.1 | exact (hL.stM (by repeat (first | exact mh | apply mt))).2.2.1 | exact (hL.stM (by repeat (first | exact mh | apply mt))).2.2.2)) (fun h' hp hL => ?_); refine WO.yes rfl (Wc (OP.eqlT rfl rfl (by omega) ?_)); refine Wc (OP.pickT rfl rfl (Wm rfl (WO.yes rfl (Wc (OL.loadAll (k := 6) hL rfl rfl rfl (WO.yes rfl (Wc (OL.loadAll (k := 0) hL rfl rfl rfl (WO.yes rfl (Wc ?_)))))))))); refine OL.callB hL rfl rfl (d3 _ _ (by first | omega | assumption | exact St.pfx (by assumption) hL.pfx | exact hL.stM (by repeat (first | exact mh | apply mt)) | exact RowOk.pfx (by assumption) hL.pfx | exact (hL.stM (by repeat (first | exact mh | apply mt))).1 | exact (hL.stM (by repeat (first | exact mh | apply mt))).2.1 | exact (hL.stM (by repeat (first | exact mh | apply mt))).2.2.1 | exact (hL.stM (by repeat (first | exact mh | apply mt))).2.2.2) (by first | omega | assumption | exact St.pfx (by assumption) hL.pfx | exact hL.stM (by repeat (first | exact mh | apply mt)) | exact RowOk.pfx (by assumption) hL.pfx | exact (hL.stM (by repeat (first | exact mh | apply mt))).1 | exact (hL.stM (by repeat (first | exact mh | apply mt))).2.1 | exact (hL.stM (by repeat (first | exact mh | apply mt))).2.2.1 | exact (hL.stM (by repeat (first | exact mh | apply mt))).2.2.2)) (fun h' hp hL hc => ?_) (fun h' hp hL hc => ?_); refine Wc (OP.pickT rfl rfl (Wm rfl (WO.yes rfl (Wm rfl (WO.yes rfl (Wm rfl (WO.yes rfl ?_))))))))
   (refine Wc ?_)
   refine OL.callV hL rfl rfl (d15 (List.append_nil X1).symm _ _ (hL.apAt (k := 7) rfl) (hL.apAt (k := 4) rfl) (by have q := hum; simp only [List.length_append, List.length_nil] at q; omega)) (fun h' hp hL => ?_)
   (refine Wc (OP.pickT rfl rfl (Wm rfl (Wt ?_))); refine WC.ret ?_; exact Fin.ret rfl rfl; refine Wc (OP.pickT rfl rfl (Wm rfl (WO.no rfl (WO.no rfl (WO.no rfl (Wc (OP.pickF rfl rfl (Wm rfl (Wt ?_))))))))); refine WC.ret ?_; exact False.elim (by grind))
  ·(refine Wc ?_)
   refine OL.append (k := 4) hL hlim rfl rfl rfl (hL.apAt (k := 1) rfl) (by omega) ⟨by omega, by omega, by omega⟩ (ints_ok X2) (fun a' h' hL => ?_)
   dsimp only [List.eraseIdx] at hL
   rw [ints_app] at hL
   (refine Wm rfl (Wt ?_); refine Cs (Co (Wm rfl (Wc ?_))); refine OL.callV hL rfl rfl (d2 _ _ (by first | omega | assumption | exact St.pfx (by assumption) hL.pfx | exact hL.stM (by repeat (first | exact mh | apply mt)) | exact RowOk.pfx (by assumption) hL.pfx | exact (hL.stM (by repeat (first | exact mh | apply mt))).1 | exact (hL.stM (by repeat (first | exact mh | apply mt))).2.1 | exact (hL.stM (by repeat (first | exact mh | apply mt))).2.2.1 | exact (hL.stM (by repeat (first | exact mh | apply mt))).2.2.2)) (fun h' hp hL => ?_); refine Wc (OP.eqlT rfl rfl (by omega) ?_); refine Wm rfl (WO.yes rfl (Wm rfl (WO.yes rfl (Wc ?_)))); refine OL.callV hL rfl rfl (d2 _ _ (by first | omega | assumption | exact St.pfx (by assumption) hL.pfx | exact hL.stM (by repeat (first | exact mh | apply mt)) | exact RowOk.pfx (by assumption) hL.pfx | exact (hL.stM (by repeat (first | exact mh | apply mt))).1 | exact (hL.stM (by repeat (first | exact mh | apply mt))).2.1 | exact (hL.stM (by repeat (first | exact mh | apply mt))).2.2.1 | exact (hL.stM (by repeat (first | exact mh | apply mt))).2.2.2)) (fun h' hp hL => ?_); refine WO.yes rfl (Wc (OP.eqlT rfl rfl (by omega) ?_)); refine Wc (OP.pickT rfl rfl (Wm rfl (WO.yes rfl (Wc (OL.loadAll (k := 6) hL rfl rfl rfl (WO.yes rfl (Wc (OL.loadAll (k := 1) hL rfl rfl rfl (WO.yes rfl (Wc ?_)))))))))); refine OL.callB hL rfl rfl (d3 _ _ (by first | omega | assumption | exact St.pfx (by assumption) hL.pfx | exact hL.stM (by repeat (first | exact mh | apply mt)) | exact RowOk.pfx (by assumption) hL.pfx | exact (hL.stM (by repeat (first | exact mh | apply mt))).1 | exact (hL.stM (by repeat (first | exact mh | apply mt))).2.1 | exact (hL.stM (by repeat (first | exact mh | apply mt))).2.2.1 | exact (hL.stM (by repeat (first | exact mh | apply mt))).2.2.2) (by first | omega | assumption | exact St.pfx (by assumption) hL.pfx | exact hL.stM (by repeat (first | exact mh | apply mt)) | exact RowOk.pfx (by assumption) hL.pfx | exact (hL.stM (by repeat (first | exact mh | apply mt))).1 | exact (hL.stM (by repeat (first | exact mh | apply mt))).2.1 | exact (hL.stM (by repeat (first | exact mh | apply mt))).2.2.1 | exact (hL.stM (by repeat (first | exact mh | apply mt))).2.2.2)) (fun h' hp hL hc => ?_) (fun h' hp hL hc => ?_); refine Wc (OP.pickT rfl rfl (Wm rfl (WO.yes rfl (Wm rfl (WO.yes rfl (Wm rfl (WO.yes rfl ?_))))))))
   (refine Wc ?_)
   refine OL.callV hL rfl rfl (d15 rfl _ _ (hL.apAt (k := 7) rfl) (hL.apAt (k := 0) rfl) (by have q := hum; simp only [List.length_append, List.length_nil] at q; omega)) (fun h' hp hL => ?_)
   (refine Wc (OP.pickT rfl rfl (Wm rfl (Wt ?_))); refine WC.ret ?_; exact Fin.ret rfl rfl; refine Wc (OP.pickT rfl rfl (Wm rfl (WO.no rfl (WO.no rfl (WO.no rfl (Wc (OP.pickF rfl rfl (Wm rfl (Wt ?_))))))))); refine WC.ret ?_; exact False.elim (by grind))
 ·rcases f4 with ⟨rfl, f5, f6⟩ | ⟨rfl, rfl⟩
  ·(refine Wc ?_)
   refine OL.callF hL rfl rfl (foldAt e1 ob ⟨r0.xs, r1.xs, r2.xs, r3.xs⟩ os (S4.none, [], 1200) f3 _ _ (by first | exact hL.lm hlim | exact Nat.le_refl _) (hst.pfx hL.pfx) rfl rfl rfl rfl (hs.pfx hL.pfx) (by omega)) (fun u0 un0 u1 un1 u2 un2 u3 un3 ua um umid h' uy hp hL => ?_)
   have hum : _ = um := uy.2.2.2.2
   (try dsimp only at hL hum ⊢)
   clear uy
   (refine Wm rfl (Wc (OP.extract rfl rfl (Wc (OP.extract rfl rfl (Wc (OP.extract rfl rfl (Wc ?_))))))); refine OL.new hL (fun b h' hL => (WO.cons0 ?_)); refine OL.storeAll (k := 0) hL hlim rfl rfl rfl rfl rfl rfl (by decide) rfl (fun h' hL => ?_); dsimp only [List.set, Nat.zero_add, Nat.reduceAdd, Nat.reduceMul] at hL; refine Wm rfl (Wm rfl (Wt ?_)); refine Cs (Co (WO.consQ (OP.mv rfl (WO.consQ (OL.loadAll (k := 3) hL rfl rfl rfl (WO.consQ (OP.mv rfl (WO.consQ (OP.mv rfl ?_))))))))))
   (refine WO.consQ ?_)
   refine OP.cutHi rfl hsp' rfl (by omega) ?_
   skip
   (refine WO.consQ ?_)
   refine OL.callF hL rfl rfl (foldAt e1 ob ⟨r0.xs, r1.xs, r2.xs, r3.xs⟩ (os.take k) (S1, X1, 1200) f1 _ _ (by first | exact hL.lm hlim | exact Nat.le_refl _) (hst.pfx hL.pfx) rfl rfl rfl rfl (hs1.pfx hL.pfx) (by omega)) (fun v0 vn0 v1 vn1 v2 vn2 v3 vn3 va vm vmid h' vy hp hL => ?_)
   have hvm : _ = vm := vy.2.2.2.2
   (try dsimp only at hL hvm ⊢)
   clear vy
   (refine WO.consQ (OP.mv rfl (WO.consQ (OP.extract rfl rfl (WO.consQ (OP.extract rfl rfl (WO.consQ (OP.extract rfl rfl (WO.consQ ?_)))))))); refine OL.new hL (fun b h' hL => (WO.cons0 ?_)); refine OL.storeAll (k := 0) hL hlim rfl rfl rfl rfl rfl rfl (by decide) rfl (fun h' hL => ?_); dsimp only [List.set, Nat.zero_add, Nat.reduceAdd, Nat.reduceMul] at hL; refine Wm rfl (Wm rfl (Wt ?_)); refine Cs (Co (WO.consQ (OP.mv rfl (WO.consQ (OL.loadAll (k := 0) hL rfl rfl rfl (WO.consQ (OP.mv rfl (WO.consQ (OP.mv rfl ?_))))))))))
   (refine WO.consQ ?_)
   refine OP.cutLo rfl hsp' rfl hkn (Nat.le_refl _) ?_
   skip
   (refine WO.consQ ?_)
   refine OL.callF hL rfl rfl (foldAt e1 ob S1 (os.drop k) (S2, X2, x2) f2 _ _ (by first | exact hL.lm hlim | exact Nat.le_refl _) (hL.stM (r0 := ⟨v0, vn0, S1.x0⟩) (r1 := ⟨v1, vn1, S1.x1⟩) (r2 := ⟨v2, vn2, S1.x2⟩) (r3 := ⟨v3, vn3, S1.x3⟩) (by repeat (first | exact mh | apply mt))) rfl rfl rfl rfl (hs2.pfx hL.pfx) (by omega)) (fun w0 wn0 w1 wn1 w2 wn2 w3 wn3 wa wm wmid h' wy hp hL => ?_)
   have hwm : _ = wm := wy.2.2.2.2
   (try dsimp only at hL hwm ⊢)
   clear wy
   (refine WO.consQ (OP.mv rfl (WO.consQ (OP.extract rfl rfl (WO.consQ (OP.extract rfl rfl (WO.consQ (OP.extract rfl rfl (WO.consQ ?_)))))))); refine OL.new hL (fun b h' hL => (WO.cons0 ?_)); refine OL.storeAll (k := 0) hL hlim rfl rfl rfl rfl rfl rfl (by decide) rfl (fun h' hL => ?_); dsimp only [List.set, Nat.zero_add, Nat.reduceAdd, Nat.reduceMul] at hL; refine Wm rfl (Wm rfl (Wt ?_)); refine Cs (Cs (Co (Wm rfl (Wc ?_)))); refine OL.callV hL rfl rfl (d2 _ _ (by first | omega | assumption | exact St.pfx (by assumption) hL.pfx | exact hL.stM (by repeat (first | exact mh | apply mt)) | exact RowOk.pfx (by assumption) hL.pfx | exact (hL.stM (by repeat (first | exact mh | apply mt))).1 | exact (hL.stM (by repeat (first | exact mh | apply mt))).2.1 | exact (hL.stM (by repeat (first | exact mh | apply mt))).2.2.1 | exact (hL.stM (by repeat (first | exact mh | apply mt))).2.2.2)) (fun h' hp hL => ?_); refine Wc (OP.neqT rfl rfl (by omega) ?_); refine Wt ?_; refine WC.condT rfl (Cs (Co (Wc (OL.loadAll (k := 6) hL rfl rfl rfl (Wc (OP.buildN rfl rfl (Wc ?_))))))); refine OL.callB hL rfl rfl (d13 _ _ (by first | omega | assumption | exact St.pfx (by assumption) hL.pfx | exact hL.stM (by repeat (first | exact mh | apply mt)) | exact RowOk.pfx (by assumption) hL.pfx | exact (hL.stM (by repeat (first | exact mh | apply mt))).1 | exact (hL.stM (by repeat (first | exact mh | apply mt))).2.1 | exact (hL.stM (by repeat (first | exact mh | apply mt))).2.2.1 | exact (hL.stM (by repeat (first | exact mh | apply mt))).2.2.2)) (fun h' hp hL hc => ?_) (fun h' hp hL hc => ?_); refine Wm rfl (WO.yes rfl (Wm rfl (WO.yes rfl (Wc (OP.lenS rfl (WO.yes rfl (Wc ?_))))))); refine OP.eqlC rfl rfl (fun hc => ?_) (fun hc => ?_); refine Wc (OP.pickT rfl rfl (Wm rfl (WO.yes rfl (Wm rfl (WO.yes rfl (Wc ?_)))))); refine OL.callV hL rfl rfl (d2 _ _ (by first | omega | assumption | exact St.pfx (by assumption) hL.pfx | exact hL.stM (by repeat (first | exact mh | apply mt)) | exact RowOk.pfx (by assumption) hL.pfx | exact (hL.stM (by repeat (first | exact mh | apply mt))).1 | exact (hL.stM (by repeat (first | exact mh | apply mt))).2.1 | exact (hL.stM (by repeat (first | exact mh | apply mt))).2.2.1 | exact (hL.stM (by repeat (first | exact mh | apply mt))).2.2.2)) (fun h' hp hL => ?_); refine WO.yes rfl (Wc (OP.neqT rfl rfl (by omega) ?_)); refine WO.yes rfl (Wm rfl (WO.no rfl (WO.no rfl (WO.no rfl (WO.yes rfl (Wc (OP.pickT rfl rfl (Wc (OP.pickT rfl rfl (Wm rfl (Wt ?_))))))))))); refine WC.ret ?_; dsimp only [zn, zr, zx, yn, yr]; exact Fin.ret rfl rfl; refine Wc (OP.pickT rfl rfl (Wm rfl (WO.no rfl (WO.no rfl (WO.no rfl (WO.no rfl (WO.noU rfl (WO.noU rfl (WO.noU rfl (WO.no rfl (Wc (OP.pickF rfl rfl (Wm rfl (Wt ?_)))))))))))))); refine WC.ret ?_; dsimp only [zn, zr, zx, yn, yr]; exact False.elim (by grind); refine Wm rfl (WO.no rfl (WO.no rfl (WO.no rfl (Wc (OP.pickF rfl rfl (Wm rfl (WO.no rfl (WO.no rfl (WO.no rfl (WO.no rfl (WO.noU rfl (WO.noU rfl (WO.noU rfl (WO.no rfl (Wc (OP.pickF rfl rfl (Wm rfl (Wt ?_)))))))))))))))))); refine WC.ret ?_; dsimp only [zn, zr, zx, yn, yr]; exact False.elim (by grind))
  ·(refine Wc ?_)
   refine OL.callF hL rfl rfl (foldAt e1 ob ⟨r0.xs, r1.xs, r2.xs, r3.xs⟩ os (S4.none, [], 1200) f3 _ _ (by first | exact hL.lm hlim | exact Nat.le_refl _) (hst.pfx hL.pfx) rfl rfl rfl rfl (hs.pfx hL.pfx) (by omega)) (fun u0 un0 u1 un1 u2 un2 u3 un3 ua um umid h' uy hp hL => ?_)
   have hum : _ = um := uy.2.2.2.2
   (try dsimp only at hL hum ⊢)
   clear uy
   (refine Wm rfl (Wc (OP.extract rfl rfl (Wc (OP.extract rfl rfl (Wc (OP.extract rfl rfl (Wc ?_))))))); refine OL.new hL (fun b h' hL => (WO.cons0 ?_)); refine OL.storeAll (k := 0) hL hlim rfl rfl rfl rfl rfl rfl (by decide) rfl (fun h' hL => ?_); dsimp only [List.set, Nat.zero_add, Nat.reduceAdd, Nat.reduceMul] at hL; refine Wm rfl (Wm rfl (Wt ?_)); refine Cs (Co (WO.consQ (OP.mv rfl (WO.consQ (OL.loadAll (k := 3) hL rfl rfl rfl (WO.consQ (OP.mv rfl (WO.consQ (OP.mv rfl ?_))))))))))
   (refine WO.consQ ?_)
   refine OP.cutHi rfl hsp' rfl (by omega) ?_
   skip
   (refine WO.consQ ?_)
   refine OL.callF hL rfl rfl (foldAt e1 ob ⟨r0.xs, r1.xs, r2.xs, r3.xs⟩ (os.take k) (S1, X1, 0) f1 _ _ (by first | exact hL.lm hlim | exact Nat.le_refl _) (hst.pfx hL.pfx) rfl rfl rfl rfl (hs1.pfx hL.pfx) (by omega)) (fun v0 vn0 v1 vn1 v2 vn2 v3 vn3 va vm vmid h' vy hp hL => ?_)
   have hvm : _ = vm := vy.2.2.2.2
   (try dsimp only at hL hvm ⊢)
   clear vy
   (refine WO.consQ (OP.mv rfl (WO.consQ (OP.extract rfl rfl (WO.consQ (OP.extract rfl rfl (WO.consQ (OP.extract rfl rfl (WO.consQ ?_)))))))); refine OL.new hL (fun b h' hL => (WO.cons0 ?_)); refine OL.storeAll (k := 0) hL hlim rfl rfl rfl rfl rfl rfl (by decide) rfl (fun h' hL => ?_); dsimp only [List.set, Nat.zero_add, Nat.reduceAdd, Nat.reduceMul] at hL; refine Wm rfl (Wm rfl (Wt ?_)); refine Cs (Co (WO.consQ (OP.mv rfl (WO.consQ (OL.loadAll (k := 0) hL rfl rfl rfl (WO.consQ (OP.mv rfl (WO.consQ (OP.mv rfl ?_))))))))))
   (refine WO.consQ ?_)
   refine OP.cutLo rfl hsp' rfl hkn (Nat.le_refl _) ?_
   skip
   (refine WO.consQ ?_)
   refine OL.callF hL rfl rfl (foldAt e1 ob S1 (os.drop k) (S2, X2, 1200) f2 _ _ (by first | exact hL.lm hlim | exact Nat.le_refl _) (hL.stM (r0 := ⟨v0, vn0, S1.x0⟩) (r1 := ⟨v1, vn1, S1.x1⟩) (r2 := ⟨v2, vn2, S1.x2⟩) (r3 := ⟨v3, vn3, S1.x3⟩) (by repeat (first | exact mh | apply mt))) rfl rfl rfl rfl (hs2.pfx hL.pfx) (by omega)) (fun w0 wn0 w1 wn1 w2 wn2 w3 wn3 wa wm wmid h' wy hp hL => ?_)
   have hwm : _ = wm := wy.2.2.2.2
   (try dsimp only at hL hwm ⊢)
   clear wy
   (refine WO.consQ (OP.mv rfl (WO.consQ (OP.extract rfl rfl (WO.consQ (OP.extract rfl rfl (WO.consQ (OP.extract rfl rfl (WO.consQ ?_)))))))); refine OL.new hL (fun b h' hL => (WO.cons0 ?_)); refine OL.storeAll (k := 0) hL hlim rfl rfl rfl rfl rfl rfl (by decide) rfl (fun h' hL => ?_); dsimp only [List.set, Nat.zero_add, Nat.reduceAdd, Nat.reduceMul] at hL; refine Wm rfl (Wm rfl (Wt ?_)); refine Cs (Cs (Co (Wm rfl (Wc ?_)))); refine OL.callV hL rfl rfl (d2 _ _ (by first | omega | assumption | exact St.pfx (by assumption) hL.pfx | exact hL.stM (by repeat (first | exact mh | apply mt)) | exact RowOk.pfx (by assumption) hL.pfx | exact (hL.stM (by repeat (first | exact mh | apply mt))).1 | exact (hL.stM (by repeat (first | exact mh | apply mt))).2.1 | exact (hL.stM (by repeat (first | exact mh | apply mt))).2.2.1 | exact (hL.stM (by repeat (first | exact mh | apply mt))).2.2.2)) (fun h' hp hL => ?_); refine Wc (OP.neqT rfl rfl (by omega) ?_); refine Wt ?_; refine WC.condT rfl (Cs (Co (Wc (OL.loadAll (k := 6) hL rfl rfl rfl (Wc (OP.buildN rfl rfl (Wc ?_))))))); refine OL.callB hL rfl rfl (d13 _ _ (by first | omega | assumption | exact St.pfx (by assumption) hL.pfx | exact hL.stM (by repeat (first | exact mh | apply mt)) | exact RowOk.pfx (by assumption) hL.pfx | exact (hL.stM (by repeat (first | exact mh | apply mt))).1 | exact (hL.stM (by repeat (first | exact mh | apply mt))).2.1 | exact (hL.stM (by repeat (first | exact mh | apply mt))).2.2.1 | exact (hL.stM (by repeat (first | exact mh | apply mt))).2.2.2)) (fun h' hp hL hc => ?_) (fun h' hp hL hc => ?_); refine Wm rfl (WO.yes rfl (Wm rfl (WO.yes rfl (Wc (OP.lenS rfl (WO.yes rfl (Wc ?_))))))); refine OP.eqlC rfl rfl (fun hc => ?_) (fun hc => ?_); refine Wc (OP.pickT rfl rfl (Wm rfl (WO.yes rfl (Wm rfl (WO.yes rfl (Wc ?_)))))); refine OL.callV hL rfl rfl (d2 _ _ (by first | omega | assumption | exact St.pfx (by assumption) hL.pfx | exact hL.stM (by repeat (first | exact mh | apply mt)) | exact RowOk.pfx (by assumption) hL.pfx | exact (hL.stM (by repeat (first | exact mh | apply mt))).1 | exact (hL.stM (by repeat (first | exact mh | apply mt))).2.1 | exact (hL.stM (by repeat (first | exact mh | apply mt))).2.2.1 | exact (hL.stM (by repeat (first | exact mh | apply mt))).2.2.2)) (fun h' hp hL => ?_); refine WO.yes rfl (Wc (OP.neqF rfl rfl (by omega) ?_)); refine WO.yes rfl (Wm rfl (WO.yes rfl (Wm rfl (WO.yes rfl (Wc ?_))))); refine OL.callV hL rfl rfl (d2 _ _ (by first | omega | assumption | exact St.pfx (by assumption) hL.pfx | exact hL.stM (by repeat (first | exact mh | apply mt)) | exact RowOk.pfx (by assumption) hL.pfx | exact (hL.stM (by repeat (first | exact mh | apply mt))).1 | exact (hL.stM (by repeat (first | exact mh | apply mt))).2.1 | exact (hL.stM (by repeat (first | exact mh | apply mt))).2.2.1 | exact (hL.stM (by repeat (first | exact mh | apply mt))).2.2.2)) (fun h' hp hL => ?_); refine WO.yes rfl (Wc (OP.neqT rfl rfl (by omega) ?_)); refine WO.yes rfl (Wc (OP.pickF rfl rfl (Wc (OP.pickT rfl rfl (Wm rfl (Wt ?_)))))); refine WC.ret ?_; dsimp only [zn, zr, zx, yn, yr]; exact Fin.ret rfl rfl; refine Wc (OP.pickT rfl rfl (Wm rfl (WO.no rfl (WO.no rfl (WO.no rfl (WO.no rfl (WO.noU rfl (WO.noU rfl (WO.noU rfl (WO.no rfl (Wc (OP.pickF rfl rfl (Wm rfl (Wt ?_)))))))))))))); refine WC.ret ?_; dsimp only [zn, zr, zx, yn, yr]; exact False.elim (by grind); refine Wm rfl (WO.no rfl (WO.no rfl (WO.no rfl (Wc (OP.pickF rfl rfl (Wm rfl (WO.no rfl (WO.no rfl (WO.no rfl (WO.no rfl (WO.noU rfl (WO.noU rfl (WO.noU rfl (WO.no rfl (Wc (OP.pickF rfl rfl (Wm rfl (Wt ?_)))))))))))))))))); refine WC.ret ?_; dsimp only [zn, zr, zx, yn, yr]; exact False.elim (by grind))
end
end Go.Proofs.YtdcpmchhioilpaaW.Ai
