/-
 The statement RingTwo (chapter 10), as the small machine runs it.
-/
import Derived.Test.YtgjickapnfnkfaaFn64
import Derived.Test.YtgjickapnfnkfaaAi39
set_option linter.unusedVariables false
set_option linter.unusedSimpArgs false
set_option maxHeartbeats 4000000
set_option maxRecDepth 100000
namespace Go.Proofs.YtgjickapnfnkfaaW.Ai
-- chorus/choruslaw10.RingTwo; g0 = chorus/choruslaw10.awake; g1 = chorus/ring.New; g2 = chorus/ring.Reserve; g3 = chorus/choruslaw0.Num; g4 = chorus/ring.Publish; g5 = chorus/ring.Entry
def rf_RingTwo (g0 g1 g2 g3 g4 g5 : Nat) : RFunc :=
 ⟨154, [(.tmp 6)], (.seq (.ops [rO 6 (.mv (.const (.bool false)))]) (.seq (.seq (.ops [rO 25 (.call (.func g0) []), rO 26 (.un .not (.tmp 25))]) (.cond (.tmp 26) (.seq (.ops [rO 6 (.mv (.const (.bool false)))]) .ret) .skip)) (.seq (.ops [rO 28 (.call (.func g1) [(.const (.int .i64 8))]), rO 27 (.mv (.tmp 28)), rO 29 (.extract (.tmp 27) 0), rO 30 (.extract (.tmp 27) 1), rO 7 (.new [(.int .i64 0), (.int .i64 0), (.int .i64 0), (.slice .none 0 0)]), ⟨.none, (.store 4 (.tmp 7) (.tmp 29)), .none, false, []⟩, rO 8 (.mv (.tmp 30))]) (.seq (.ops [rO 31 (.mv (.tmp 0)), rO 32 (.bin .and (.tmp 31) (.const (.int .i64 3))), rO 33 (.bin .add (.const (.int .i64 1)) (.tmp 32)), rO 34 (.mv (.tmp 1)), rO 35 (.bin .and (.tmp 34) (.const (.int .i64 3))), rO 36 (.bin .add (.const (.int .i64 1)) (.tmp 35)), rO 9 (.mv (.tmp 33)), rO 10 (.mv (.tmp 36))]) (.seq (.ops [rO 38 (.load (.some 4) (.tmp 7)), rO 39 (.mv (.tmp 9)), rO 40 (.call (.func g2) [(.tmp 38), (.tmp 39)]), rO 37 (.mv (.tmp 40)), rO 41 (.extract (.tmp 37) 0), rO 42 (.extract (.tmp 37) 1), rO 43 (.extract (.tmp 37) 2), rO 11 (.new [(.int .i64 0), (.int .i64 0), (.int .i64 0), (.slice .none 0 0)]), ⟨.none, (.store 4 (.tmp 11) (.tmp 41)), .none, false, []⟩, rO 12 (.mv (.tmp 42)), rO 13 (.mv (.tmp 43))]) (.seq (.ops [rO 45 (.load (.some 4) (.tmp 11)), rO 46 (.mv (.tmp 10)), rO 47 (.call (.func g2) [(.tmp 45), (.tmp 46)]), rO 44 (.mv (.tmp 47)), rO 48 (.extract (.tmp 44) 0), rO 49 (.extract (.tmp 44) 1), rO 50 (.extract (.tmp 44) 2), rO 14 (.new [(.int .i64 0), (.int .i64 0), (.int .i64 0), (.slice .none 0 0)]), ⟨.none, (.store 4 (.tmp 14) (.tmp 48)), .none, false, []⟩, rO 15 (.mv (.tmp 49)), rO 16 (.mv (.tmp 50))]) (.seq (.seq (.ops [rO 51 (.mv (.tmp 8)), rO 52 (.call (.func g3) [(.tmp 51)]), rO 53 (.bin .neq (.tmp 52) (.const (.int .i64 0))), rO 54 (.mv (.tmp 53)), ⟨(.some 55), (.mv (.tmp 13)), (.some (54, false)), false, []⟩, ⟨(.some 56), (.call (.func g3) [(.tmp 55)]), (.some (54, false)), false, []⟩, ⟨(.some 57), (.bin .neq (.tmp 56) (.const (.int .i64 0))), (.some (54, false)), false, []⟩, rO 58 (.pick (.tmp 54) (.const (.bool true)) (.tmp 57)), rO 59 (.mv (.tmp 58)), ⟨(.some 60), (.mv (.tmp 16)), (.some (59, false)), false, []⟩, ⟨(.some 61), (.call (.func g3) [(.tmp 60)]), (.some (59, false)), false, []⟩, ⟨(.some 62), (.bin .neq (.tmp 61) (.const (.int .i64 0))), (.some (59, false)), false, []⟩, rO 63 (.pick (.tmp 59) (.const (.bool true)) (.tmp 62)), rO 64 (.mv (.tmp 63)), ⟨(.some 65), (.mv (.tmp 12)), (.some (64, false)), false, []⟩, ⟨(.some 66), (.bin .neq (.tmp 65) (.const (.int .i64 0))), (.some (64, false)), false, []⟩, rO 67 (.pick (.tmp 64) (.const (.bool true)) (.tmp 66)), rO 68 (.mv (.tmp 67)), ⟨(.some 69), (.mv (.tmp 15)), (.some (68, false)), false, []⟩, ⟨(.some 70), (.mv (.tmp 9)), (.some (68, false)), false, []⟩, ⟨(.some 71), (.bin .neq (.tmp 69) (.tmp 70)), (.some (68, false)), false, []⟩, rO 72 (.pick (.tmp 68) (.const (.bool true)) (.tmp 71))]) (.cond (.tmp 72) (.seq (.ops [rO 6 (.mv (.const (.bool false)))]) .ret) .skip)) (.seq (.ops [rO 17 (.new [(.bool false), (.bool false), (.bool false), (.bool false), (.bool false), (.bool false), (.bool false), (.bool false)])]) (.seq (.seq (.ops [rO 18 (.mv (.const (.int .i64 0)))]) (.block 0 (.loop (.seq (.seq (.ops [rO 73 (.mv (.tmp 18)), rO 74 (.mv (.tmp 9)), rO 75 (.mv (.tmp 10)), rO 76 (.bin .add (.tmp 74) (.tmp 75)), rO 77 (.bin .lss (.tmp 73) (.tmp 76))]) (.cond (.tmp 77) .skip (.exit 0))) (.seq (.block 1 (.seq (.ops [rO 80 (.mv (.tmp 18)), rO 81 (.bin .mul (.tmp 80) (.const (.int .i64 3))), rO 82 (.mv (.tmp 2)), rO 83 (.bin .and (.tmp 82) (.const (.int .i64 7))), rO 84 (.bin .add (.tmp 81) (.tmp 83)), rO 85 (.bin .rem (.tmp 84) (.const (.int .i64 8))), rO 19 (.mv (.tmp 85))]) (.seq (.block 2 (.loop (.seq (.seq (.ops [rO 86 (.mv (.tmp 19)), rO 87 (.mv (.tmp 9)), rO 88 (.mv (.tmp 10)), rO 89 (.bin .add (.tmp 87) (.tmp 88)), rO 90 (.bin .geq (.tmp 86) (.tmp 89)), rO 91 (.mv (.tmp 90)), ⟨(.some 92), (.mv (.tmp 19)), (.some (91, false)), false, []⟩, ⟨(.some 93), (.idxAddrArr 8 1 (.tmp 17) (.tmp 92)), (.some (91, false)), false, []⟩, ⟨(.some 94), (.load .none (.tmp 93)), (.some (91, false)), false, []⟩, rO 95 (.pick (.tmp 91) (.const (.bool true)) (.tmp 94))]) (.cond (.tmp 95) .skip (.exit 2))) (.block 3 (.ops [rO 96 (.mv (.tmp 19)), rO 97 (.bin .add (.tmp 96) (.const (.int .i64 1))), rO 98 (.bin .rem (.tmp 97) (.const (.int .i64 8))), rO 19 (.mv (.tmp 98))]))))) (.seq (.ops [rO 100 (.load (.some 4) (.tmp 14)), rO 101 (.mv (.tmp 19)), rO 102 (.mv (.tmp 19)), rO 103 (.build [(.int .i64 0), (.int .i64 0), (.int .i64 0)] [(2, (1, (.tmp 102)))]), rO 104 (.mv (.tmp 19)), rO 105 (.bin .and (.tmp 104) (.const (.int .i64 3))), rO 106 (.call (.func g4) [(.tmp 100), (.tmp 101), (.tmp 103), (.tmp 105)]), rO 99 (.mv (.tmp 106)), rO 107 (.extract (.tmp 99) 0), rO 108 (.extract (.tmp 99) 1), rO 20 (.new [(.int .i64 0), (.int .i64 0), (.int .i64 0), (.slice .none 0 0)]), ⟨.none, (.store 4 (.tmp 20) (.tmp 107)), .none, false, []⟩, rO 21 (.mv (.tmp 108))]) (.seq (.seq (.ops [rO 109 (.mv (.tmp 21)), rO 110 (.call (.func g3) [(.tmp 109)]), rO 111 (.bin .neq (.tmp 110) (.const (.int .i64 0)))]) (.cond (.tmp 111) (.seq (.ops [rO 6 (.mv (.const (.bool false)))]) .ret) .skip)) (.seq (.ops [rO 112 (.load (.some 4) (.tmp 20)), ⟨.none, (.store 4 (.tmp 14) (.tmp 112)), .none, false, []⟩]) (.seq (.ops [rO 113 (.mv (.tmp 19)), rO 114 (.idxAddrArr 8 1 (.tmp 17) (.tmp 113)), ⟨.none, (.store 1 (.tmp 114) (.const (.bool true))), .none, false, []⟩]) (.seq (.ops [rO 22 (.mv (.const (.int .i64 0)))]) (.block 4 (.loop (.seq (.seq (.ops [rO 115 (.mv (.tmp 22)), rO 116 (.mv (.tmp 9)), rO 117 (.mv (.tmp 10)), rO 118 (.bin .add (.tmp 116) (.tmp 117)), rO 119 (.bin .lss (.tmp 115) (.tmp 118))]) (.cond (.tmp 119) .skip (.exit 4))) (.seq (.block 5 (.seq (.ops [rO 123 (.load (.some 4) (.tmp 14)), rO 124 (.mv (.tmp 22)), rO 125 (.call (.func g5) [(.tmp 123), (.tmp 124)]), rO 122 (.mv (.tmp 125)), rO 126 (.extract (.tmp 122) 0), rO 127 (.extract (.tmp 122) 1), rO 23 (.new [(.int .i64 0), (.int .i64 0), (.int .i64 0), (.int .i64 0), (.int .i64 0)]), ⟨.none, (.store 5 (.tmp 23) (.tmp 126)), .none, false, []⟩, rO 24 (.mv (.tmp 127))]) (.seq (.ops [⟨(.some 128), (.mv (.tmp 24)), .none, true, []⟩, ⟨(.some 129), (.call (.func g3) [(.tmp 128)]), .none, true, []⟩, ⟨(.some 130), (.bin .eql (.tmp 129) (.const (.int .i64 0))), .none, true, []⟩, ⟨(.some 131), (.mv (.tmp 22)), .none, true, []⟩, ⟨(.some 132), (.idxAddrArr 8 1 (.tmp 17) (.tmp 131)), .none, true, []⟩, ⟨(.some 133), (.load .none (.tmp 132)), .none, true, []⟩, rO 134 (.eq true .none (.tmp 130) (.tmp 133)), rO 135 (.mv (.tmp 134)), ⟨(.some 136), (.mv (.tmp 22)), (.some (135, false)), false, []⟩, ⟨(.some 137), (.idxAddrArr 8 1 (.tmp 17) (.tmp 136)), (.some (135, false)), false, []⟩, ⟨(.some 138), (.load .none (.tmp 137)), (.some (135, false)), false, []⟩, ⟨(.some 139), (.mv (.tmp 138)), (.some (135, false)), false, []⟩, ⟨(.some 140), (.fieldAddr 0 (.tmp 23)), (.some (139, true)), false, []⟩, ⟨(.some 141), (.fieldAddr 2 (.tmp 140)), (.some (139, true)), false, []⟩, ⟨(.some 142), (.load .none (.tmp 141)), (.some (139, true)), false, []⟩, ⟨(.some 143), (.mv (.tmp 22)), (.some (139, true)), true, []⟩, ⟨(.some 144), (.bin .neq (.tmp 142) (.tmp 143)), (.some (139, true)), false, []⟩, ⟨(.some 145), (.mv (.tmp 144)), (.some (139, true)), false, []⟩, ⟨(.some 146), (.fieldAddr 3 (.tmp 23)), (.some (145, false)), false, []⟩, ⟨(.some 147), (.load .none (.tmp 146)), (.some (145, false)), false, []⟩, ⟨(.some 148), (.mv (.tmp 22)), (.some (145, false)), true, []⟩, ⟨(.some 149), (.bin .and (.tmp 148) (.const (.int .i64 3))), (.some (145, false)), true, []⟩, ⟨(.some 150), (.bin .neq (.tmp 147) (.tmp 149)), (.some (145, false)), false, []⟩, ⟨(.some 151), (.pick (.tmp 145) (.const (.bool true)) (.tmp 150)), (.some (139, true)), false, []⟩, ⟨(.some 152), (.pick (.tmp 139) (.tmp 151) (.const (.bool false))), (.some (135, false)), false, []⟩, rO 153 (.pick (.tmp 135) (.const (.bool true)) (.tmp 152))]) (.cond (.tmp 153) (.seq (.ops [rO 6 (.mv (.const (.bool false)))]) .ret) .skip)))) (.ops [rO 120 (.mv (.tmp 22)), rO 121 (.bin .add (.tmp 120) (.const (.int .i64 1))), rO 22 (.mv (.tmp 121))]))))))))))))) (.ops [rO 78 (.mv (.tmp 18)), rO 79 (.bin .add (.tmp 78) (.const (.int .i64 1))), rO 18 (.mv (.tmp 79))])))))) (.seq (.ops [rO 6 (.mv (.const (.bool true)))]) .ret))))))))))⟩
theorem loadB {D : List Bool} {q : Nat} (hq : q < D.length) : loadAt none (D.map Value.bool) (0 + q * 1) = some (.bool (D.getD q false)) := by
 simp only [loadAt, Nat.zero_add, Nat.mul_one, List.getElem?_map, List.getD_eq_getElem?_getD]
 rw [List.getElem?_eq_getElem hq]; rfl
theorem storeB {D : List Bool} {q : Nat} (hq : q < D.length) : over (D.map Value.bool) (0 + q * 1) [.bool true] = (D.set q true).map Value.bool := by
 rw [Nat.zero_add, Nat.mul_one, over_one _ (by rw [List.length_map]; exact hq), List.map_set]
theorem mask3 {q : Nat} (hq : q < 8) : mask (q : Int) 3 = ((q % 4 : Nat) : Int) := by
 have : ∀ n : _root_.Fin 8, mask (n.val : Int) 3 = ((n.val % 4 : Nat) : Int) := by decide
 exact this ⟨q, hq⟩
structure L2 where
 i : Nat
 h : AH
 D : List Bool
 a : Option Addr
section
variable {X : Ext} {F : FuncId → Option RFunc} {f : FuncId}
theorem s_RingTwo {g0 g1 g2 g3 g4 g5 : Nat} (hX : X f = none) (hF : F f = some (rf_RingTwo g0 g1 g2 g3 g4 g5)) (d0 : S_yes X F g0) (e1 : S_New X F g1) (e2 : S_Reserve X F g2) (d3 : S_Num X F g3) (e4 : S_Publish X F g4) (e5 : S_Entry X F g5)
  (h : AH) {ka kb bits : Int} (ha : R64 ka) (hb : R64 kb) (hbits : R64 bits) : Ret X F h.length f [.int .i64 ka, .int .i64 kb, .int .i64 bits] h fun v _ => v = .bool true := by
 have hL := Loc.start h
 have hlim : h.length ≤ h.length := Nat.le_refl _
 have k8 : SlotsN ((8 : Nat) : Int) := .inr (.inr (.inl rfl))
 have eN : ∀ lim h', lim ≤ h'.length → Ret X F lim g1 [.int .i64 8] h' fun v h'' => Pfx h' h'' ∧ MadeN 5 h' h'' (fun a n => .tuple #[ringV ⟨0, 0, 0, List.replicate 8 noSlot⟩ a n, .int .i64 0]) (recs slotC (List.replicate 8 noSlot)) v := fun lim h' hl => e1 lim h' (x := 8) hl
 refine Ret.body hX hF rfl ?_
 simp only [argL, rf_RingTwo]
 (refine Cs (Co (Wm rfl (Wt ?_))); refine Cs (Cs (Co (Wc ?_))); refine OL.callV hL rfl rfl (d0 _ _) (fun h' hp hL => (Wc (OP.not rfl (Wt ?_)))); refine WC.condF rfl (Ks ?_); refine Cs (Co ?_))
 (refine Wc ?_)
 refine OL.callSn5 hL rfl rfl (eN _ _ (hL.lm hlim)) (fun a0 n0 h' hn0 hl0 hp hL => ?_)
 rw [List.length_replicate] at hl0
 subst hl0
 clear eN
 (refine Wm rfl (Wc (OP.extract rfl rfl (Wc (OP.extract rfl rfl (Wc ?_))))); refine OL.new hL (fun b h' hL => (WO.cons0 ?_)); refine OL.storeAll (k := 0) hL hlim rfl rfl rfl rfl rfl rfl (by decide) rfl (fun h' hL => ?_); dsimp only [List.set, Nat.zero_add, Nat.reduceAdd, Nat.reduceMul] at hL; refine Wm rfl (Wt ?_); refine Cs (Co (Wm rfl (Wc ?_))); refine OP.andN rfl rfl (by omega) (fun hm2 => ?_); refine Wc (OP.add rfl rfl (by omega) ?_); refine Wm rfl (Wc ?_); refine OP.andN rfl rfl (by omega) (fun hm2 => ?_); refine Wc (OP.add rfl rfl (by omega) ?_); refine Wm rfl (Wm rfl (Wt ?_)); refine Cs (Co (Wc (OL.loadAll (k := 0) hL rfl rfl rfl (Wm rfl ?_)))))
 obtain ⟨k, hk⟩ : ∃ k : Nat, 1 + mask ka 3 = k := ⟨(1 + mask ka 3).toNat, by omega⟩
 obtain ⟨mm, hmm⟩ : ∃ mm : Nat, 1 + mask kb 3 = mm := ⟨(1 + mask kb 3).toNat, by omega⟩
 have hk1 : 1 ≤ k ∧ k ≤ 4 := by omega
 have hm1 : 1 ≤ mm ∧ mm ≤ 4 := by omega
 rw [hk, hmm]
 have eR1 : ∀ lim h', lim ≤ h'.length → Sl 5 h' a0 8 8 (recs slotC (List.replicate 8 noSlot)) → Ret X F lim g2 [ringC ⟨0, 0, 0, List.replicate 8 noSlot⟩ a0 8 8, .int .i64 (k : Int)] h' fun v h'' => Pfx h' h'' ∧ MadeN 5 h' h'' (fun a n => .tuple #[ringV ⟨0, (k : Int), 0, List.replicate 8 noSlot⟩ a n, .int .i64 0, .int .i64 0]) (recs slotC (List.replicate 8 noSlot)) v := fun lim h' hl h5 => by
  have := e2 lim h' (r := ⟨0, 0, 0, List.replicate 8 noSlot⟩) (c := k) hl h5 (by decide) ⟨by omega, by omega⟩
  rw [two_reserve1 hk1.1 hk1.2] at this
  exact this
 (refine Wc ?_)
 refine OL.callSn5 hL rfl rfl (eR1 _ _ (hL.lm hlim) (hL.slAt (k := 1) rfl)) (fun a1 n1 h' hn1 hl1 hp hL => ?_)
 rw [List.length_replicate] at hl1
 subst hl1
 clear eR1
 (refine Wm rfl (Wc (OP.extract rfl rfl (Wc (OP.extract rfl rfl (Wc (OP.extract rfl rfl (Wc ?_))))))); refine OL.new hL (fun b h' hL => (WO.cons0 ?_)); refine OL.storeAll (k := 0) hL hlim rfl rfl rfl rfl rfl rfl (by decide) rfl (fun h' hL => ?_); dsimp only [List.set, Nat.zero_add, Nat.reduceAdd, Nat.reduceMul] at hL; refine Wm rfl (Wm rfl (Wt ?_)); refine Cs (Co (Wc (OL.loadAll (k := 0) hL rfl rfl rfl (Wm rfl ?_)))))
 have eR2 : ∀ lim h', lim ≤ h'.length → Sl 5 h' a1 8 8 (recs slotC (List.replicate 8 noSlot)) → Ret X F lim g2 [ringC ⟨0, (k : Int), 0, List.replicate 8 noSlot⟩ a1 8 8, .int .i64 (mm : Int)] h' fun v h'' => Pfx h' h'' ∧ MadeN 5 h' h'' (fun a n => .tuple #[ringV ⟨0, ((k + mm : Nat) : Int), 0, List.replicate 8 noSlot⟩ a n, .int .i64 (k : Int), .int .i64 0]) (recs slotC (List.replicate 8 noSlot)) v := fun lim h' hl h5 => by
  have := e2 lim h' (r := ⟨0, k, 0, List.replicate 8 noSlot⟩) (c := mm) hl h5 (by decide) ⟨by omega, by omega⟩
  rw [two_reserve2 hk1.1 hk1.2 hm1.1 hm1.2] at this
  exact this
 (refine Wc ?_)
 refine OL.callSn5 hL rfl rfl (eR2 _ _ (hL.lm hlim) (hL.slAt (k := 1) rfl)) (fun a2 n2 h' hn2 hl2 hp hL => ?_)
 rw [List.length_replicate] at hl2
 subst hl2
 clear eR2
 (refine Wm rfl (Wc (OP.extract rfl rfl (Wc (OP.extract rfl rfl (Wc (OP.extract rfl rfl (Wc ?_))))))); refine OL.new hL (fun b h' hL => (WO.cons0 ?_)); refine OL.storeAll (k := 0) hL hlim rfl rfl rfl rfl rfl rfl (by decide) rfl (fun h' hL => ?_); dsimp only [List.set, Nat.zero_add, Nat.reduceAdd, Nat.reduceMul] at hL; refine Wm rfl (Wm rfl (Wt ?_)); refine Cs (Cs (Co (Wm rfl (Wc ?_)))); refine OL.callV hL rfl rfl (d3 _ _ (by first | omega | assumption | exact St.pfx (by assumption) hL.pfx | exact hL.stM (by repeat (first | exact mh | apply mt)) | exact RowOk.pfx (by assumption) hL.pfx | exact (hL.stM (by repeat (first | exact mh | apply mt))).1 | exact (hL.stM (by repeat (first | exact mh | apply mt))).2.1 | exact (hL.stM (by repeat (first | exact mh | apply mt))).2.2.1 | exact (hL.stM (by repeat (first | exact mh | apply mt))).2.2.2)) (fun h' hp hL => ?_); refine Wc (OP.neqF rfl rfl (by omega) ?_); refine Wm rfl (WO.yes rfl (Wm rfl (WO.yes rfl (Wc ?_)))); refine OL.callV hL rfl rfl (d3 _ _ (by first | omega | assumption | exact St.pfx (by assumption) hL.pfx | exact hL.stM (by repeat (first | exact mh | apply mt)) | exact RowOk.pfx (by assumption) hL.pfx | exact (hL.stM (by repeat (first | exact mh | apply mt))).1 | exact (hL.stM (by repeat (first | exact mh | apply mt))).2.1 | exact (hL.stM (by repeat (first | exact mh | apply mt))).2.2.1 | exact (hL.stM (by repeat (first | exact mh | apply mt))).2.2.2)) (fun h' hp hL => ?_); refine WO.yes rfl (Wc (OP.neqF rfl rfl (by omega) ?_)); refine Wc (OP.pickF rfl rfl (Wm rfl (WO.yes rfl (Wm rfl (WO.yes rfl (Wc ?_)))))); refine OL.callV hL rfl rfl (d3 _ _ (by first | omega | assumption | exact St.pfx (by assumption) hL.pfx | exact hL.stM (by repeat (first | exact mh | apply mt)) | exact RowOk.pfx (by assumption) hL.pfx | exact (hL.stM (by repeat (first | exact mh | apply mt))).1 | exact (hL.stM (by repeat (first | exact mh | apply mt))).2.1 | exact (hL.stM (by repeat (first | exact mh | apply mt))).2.2.1 | exact (hL.stM (by repeat (first | exact mh | apply mt))).2.2.2)) (fun h' hp hL => ?_); refine WO.yes rfl (Wc (OP.neqF rfl rfl (by omega) ?_)); refine Wc (OP.pickF rfl rfl (Wm rfl (WO.yes rfl (Wm rfl (WO.yes rfl (Wc (OP.neqF rfl rfl (by omega) ?_))))))); refine Wc (OP.pickF rfl rfl (Wm rfl (WO.yes rfl (Wm rfl (WO.yes rfl (Wm rfl (WO.yes rfl (Wc (OP.neqF rfl rfl (by omega) ?_))))))))); refine Wc (OP.pickF rfl rfl (Wt ?_)); refine WC.condF rfl (Ks ?_); refine Cs (Co (Wc ?_)); refine OL.new hL (fun b h' hL => (Wt ?_)); refine Cs (Cs (Co (Wm rfl (Wt ?_)))); refine WC.block ?_)
 have hS := hL.slAt (k := 2) rfl
 have hL := (((((hL.less (k := 6) rfl).less (k := 5) rfl).less (k := 4) rfl).less (k := 3) rfl).less (k := 2) rfl)
 dsimp only [List.eraseIdx] at hL
 obtain ⟨B7, hB7⟩ : ∃ B7, B7 = b := ⟨b, rfl⟩
 subst hB7
 obtain ⟨B4, hB4⟩ : ∃ B4, B4 = b := ⟨b, rfl⟩
 subst hB4
 rw [← two_new] at hS
 refine WC.loop (fun q : L2 => (q.i ≤ k + mm ∧ q.D.length = 8 ∧ q.D.count true = q.i) ∧ Sl 5 q.h q.a 8 8 (recs slotC (two q.D)) ∧ Loc h q.h [bx B7 (q.D.map Value.bool), bx B4 [.int .i64 0, .int .i64 ((k + mm : Nat) : Int), .int .i64 0, .slice q.a 8 8]]) (fun q => [(2, .int .i64 bits), (9, .int .i64 (k : Int)), (10, .int .i64 (mm : Int)), (14, .pointer (some ⟨B4, 0, none⟩)), (17, .pointer (some ⟨B7, 0, none⟩)), (18, .int .i64 (q.i : Int))]) (fun q => q.h) (fun q => k + mm - q.i) ?_ ⟨0, _, [false, false, false, false, false, false, false, false], _⟩ ⟨⟨Nat.zero_le _, rfl, rfl⟩, hS, hL⟩ (by (refine Sub.cons rfl (Sub.cons rfl (Sub.cons rfl (Sub.cons rfl (Sub.cons rfl (Sub.cons rfl ?_))))); exact Sub.nil _)) rfl
 clear hL hS
 intro ⟨i, h2, D, a3⟩ ⟨⟨hi, hD, hcnt⟩, hS, hL⟩
 simp only at hi hD hcnt hS hL ⊢
 by_cases hlt : i < k + mm
 ·obtain ⟨fr, hf1, hf2⟩ := two_free (w := k + mm) hD (by omega) hcnt hlt
  (refine Cs (Cs (Co (Wm rfl (Wm rfl (Wm rfl (Wc (OP.add rfl rfl (by omega) ?_))))))); refine Wc (OP.lssT rfl rfl (by omega) ?_); refine Wt ?_; refine WC.condT rfl (Ks ?_); refine Cs (WC.block (Cs (Co (Wm rfl (Wc (OP.mulI rfl rfl (by omega) ?_)))))); refine Wm rfl (Wc ?_); refine OP.andN rfl rfl (by omega) (fun hm2 => ?_); refine Wc (OP.add rfl rfl (by omega) ?_); refine Wc ?_; refine OP.remP rfl rfl (by omega) (by omega) (fun m hm hm2 => ?_); refine Wm rfl (Wt ?_); refine Cs (WC.block ?_))
  obtain ⟨p, hp⟩ : ∃ p : Nat, m = p := ⟨m.toNat, by omega⟩
  subst hp
  have hp8 : p < 8 := by omega
  clear hm hm2
  refine WC.loop (fun q : Nat => q < 8) (fun q => [(2, .int .i64 bits), (9, .int .i64 (k : Int)), (10, .int .i64 (mm : Int)), (14, .pointer (some ⟨B4, 0, none⟩)), (17, .pointer (some ⟨B7, 0, none⟩)), (18, .int .i64 (i : Int)), (19, .int .i64 (q : Int))]) (fun _ => h2) (fun q => (fr + 8 - q) % 8) ?_ p hp8 (by (refine Sub.cons rfl (Sub.cons rfl (Sub.cons rfl (Sub.cons rfl (Sub.cons rfl (Sub.cons rfl (Sub.cons rfl ?_)))))); exact Sub.nil _)) rfl
  clear hp8
  intro q hq
  have hld : loadAt none (D.map Value.bool) (0 + q * 1) = some (.bool (D.getD q false)) := loadB (by omega)
  by_cases hqw : k + mm ≤ q
  ·(refine Cs (Cs (Co (Wm rfl (Wm rfl (Wm rfl (Wc (OP.add rfl rfl (by omega) ?_))))))); refine Wc (OP.geqT rfl rfl (by omega) ?_); refine Wm rfl (WO.no rfl (WO.no rfl (WO.no rfl (Wc (OP.pickT rfl rfl (Wt ?_)))))); refine WC.condT rfl (Ks ?_); refine WC.block (Co (Wm rfl (Wc (OP.add rfl rfl (by omega) ?_)))); refine Wc ?_; refine OP.remP rfl rfl (by omega) (by omega) (fun m hm hm2 => ?_); refine Wm rfl (Wt ?_))
   obtain ⟨q', hq'⟩ : ∃ q' : Nat, m = q' := ⟨m.toNat, by omega⟩
   subst hq'
   exact ⟨q', by omega, by (refine Sub.cons rfl (Sub.cons rfl (Sub.cons rfl (Sub.cons rfl (Sub.cons rfl (Sub.cons rfl (Sub.cons rfl ?_)))))); exact Sub.nil _), rfl, by omega⟩
  ·(refine Cs (Cs (Co (Wm rfl (Wm rfl (Wm rfl (Wc (OP.add rfl rfl (by omega) ?_))))))); refine Wc (OP.geqF rfl rfl (by omega) ?_); refine Wm rfl (WO.yes rfl (Wm rfl (WO.yes rfl (Wc (OP.idxArrAddr rfl rfl (by omega) ?_))))); refine WO.yes rfl ?_)
   (refine Wc ?_)
   refine OL.load (k := 0) hL rfl rfl hld ?_
   cases hDq : D.getD q false with
   | true =>
    (refine Wc (OP.pickF rfl rfl (Wt ?_)); refine WC.condT rfl (Ks ?_); refine WC.block (Co (Wm rfl (Wc (OP.add rfl rfl (by omega) ?_)))); refine Wc ?_; refine OP.remP rfl rfl (by omega) (by omega) (fun m hm hm2 => ?_); refine Wm rfl (Wt ?_))
    have hqf : q ≠ fr := fun e => by rw [e, hf2] at hDq; cases hDq
    obtain ⟨q', hq'⟩ : ∃ q' : Nat, m = q' := ⟨m.toNat, by omega⟩
    subst hq'
    exact ⟨q', by omega, by (refine Sub.cons rfl (Sub.cons rfl (Sub.cons rfl (Sub.cons rfl (Sub.cons rfl (Sub.cons rfl (Sub.cons rfl ?_)))))); exact Sub.nil _), rfl, by omega⟩
   | false =>
    have hm3 := mask3 hq
    have eP : ∀ lim h', lim ≤ h'.length → Sl 5 h' a3 8 8 (recs slotC (two D)) → Ret X F lim g4 [ringC ⟨0, ((k + mm : Nat) : Int), 0, two D⟩ a3 8 8, .int .i64 (q : Int), .agg #[.int .i64 0, .int .i64 0, .int .i64 (q : Int)], .int .i64 (mask (q : Int) 3)] h' fun v h'' => Pfx h' h'' ∧ MadeN 5 h' h'' (fun a n => .tuple #[ringV ⟨0, ((k + mm : Nat) : Int), 0, two (D.set q true)⟩ a n, .int .i64 0]) (recs slotC (two (D.set q true))) v := fun lim h' hl h5 => by
     have := e4 lim h' (r := ⟨0, ((k + mm : Nat) : Int), 0, two D⟩) (x := q) (c := 0) (w := 0) (o := q) (t := mask (q : Int) 3) hl h5 (by decide)
     rw [two_publish hD (by omega) (by omega) hm3] at this
     exact this
    (refine Wc (OP.pickF rfl rfl (Wt ?_)); refine WC.condF rfl (WC.exit ?_); dsimp only [zn, zr, zx, yn, yr]; rw [yx, if_pos rfl]; dsimp only [zn, zr, zx, yn, yr]; refine Cs (Co (Wc (OL.loadAll (k := 1) hL rfl rfl rfl (Wm rfl (Wm rfl (Wc (OP.buildN rfl (by simp [over, Value.cells]; rfl) ?_))))))); refine Wm rfl (Wc ?_); refine OP.andN rfl rfl (by omega) (fun hm2 => ?_))
    (refine Wc ?_)
    refine OL.callSn5 hL rfl rfl (eP _ _ (hL.lm hlim) (hS.pfx (by first | exact hp | exact Pfx.refl _))) (fun a4 n4 h' hn4 hl4 hp hL => ?_)
    rw [two_len] at hl4
    subst hl4
    clear eP
    (refine Wm rfl (Wc (OP.extract rfl rfl (Wc (OP.extract rfl rfl (Wc ?_))))); refine OL.new hL (fun b h' hL => (WO.cons0 ?_)); refine OL.storeAll (k := 0) hL hlim rfl rfl rfl rfl rfl rfl (by decide) rfl (fun h' hL => ?_); dsimp only [List.set, Nat.zero_add, Nat.reduceAdd, Nat.reduceMul] at hL; refine Wm rfl (Wt ?_); refine Cs (Cs (Co (Wm rfl (Wc ?_)))); refine OL.callV hL rfl rfl (d3 _ _ (by first | omega | assumption | exact St.pfx (by assumption) hL.pfx | exact hL.stM (by repeat (first | exact mh | apply mt)) | exact RowOk.pfx (by assumption) hL.pfx | exact (hL.stM (by repeat (first | exact mh | apply mt))).1 | exact (hL.stM (by repeat (first | exact mh | apply mt))).2.1 | exact (hL.stM (by repeat (first | exact mh | apply mt))).2.2.1 | exact (hL.stM (by repeat (first | exact mh | apply mt))).2.2.2)) (fun h' hp hL => ?_); refine Wc (OP.neqF rfl rfl (by omega) ?_); refine Wt ?_; refine WC.condF rfl (Ks ?_); refine Cs (Co (Wc (OL.loadAll (k := 0) hL rfl rfl rfl (WO.cons0 ?_)))); refine OL.storeAll (k := 3) hL hlim rfl rfl rfl rfl rfl rfl (by decide) rfl (fun h' hL => ?_); dsimp only [List.set, Nat.zero_add, Nat.reduceAdd, Nat.reduceMul] at hL; refine Wt ?_; refine Cs (Co (Wm rfl (Wc (OP.idxArrAddr rfl rfl (by omega) ?_)))))
    (refine WO.cons0 ?_)
    refine OL.store (k := 2) hL hlim rfl rfl rfl rfl rfl rfl (by rw [List.length_map]; omega) (by decide) (storeB (by omega)) rfl (fun h' hL => ?_)
    dsimp only [List.set] at hL
    (refine Wt ?_; refine Cs (Co (Wm rfl (Wt ?_))); refine WC.block ?_)
    have hD1 : (D.set q true).length = 8 := by rw [List.length_set]; exact hD
    have hc1 := two_count (by omega) hDq
    rw [hcnt] at hc1
    generalize D.set q true = E at hL hD1 hc1 ⊢
    have hL := hL.less (k := 0) rfl
    dsimp only [List.eraseIdx] at hL
    refine WC.loop (fun r : L2 => r.i ≤ k + mm ∧ ∃ l1 l2, Loc h r.h [sl l1 l2 5 a4 8 8 (recs slotC (two E)), bx B7 (E.map Value.bool), bx B4 [.int .i64 0, .int .i64 ((k + mm : Nat) : Int), .int .i64 0, .slice a4 8 8]]) (fun r => [(2, .int .i64 bits), (9, .int .i64 (k : Int)), (10, .int .i64 (mm : Int)), (14, .pointer (some ⟨B4, 0, none⟩)), (17, .pointer (some ⟨B7, 0, none⟩)), (18, .int .i64 (i : Int)), (22, .int .i64 (r.i : Int))]) (fun r => r.h) (fun r => k + mm - r.i) ?_ ⟨0, _, [], none⟩ ⟨Nat.zero_le _, _, _, hL⟩ (by (refine Sub.cons rfl (Sub.cons rfl (Sub.cons rfl (Sub.cons rfl (Sub.cons rfl (Sub.cons rfl (Sub.cons rfl ?_)))))); exact Sub.nil _)) rfl
    clear hL
    intro ⟨j, h4, _, _⟩ ⟨hj, l1, l2, hL⟩
    simp only at hj hL ⊢
    by_cases hjw : j < k + mm
    ·have hmj := mask3 (show j < 8 by omega)
     have hld2 : loadAt none (E.map Value.bool) (0 + j * 1) = some (.bool (E.getD j false)) := loadB (by omega)
     have eE : ∀ lim h', lim ≤ h'.length → Sl 5 h' a4 8 8 (recs slotC (two E)) → Ret X F lim g5 [ringC ⟨0, ((k + mm : Nat) : Int), 0, two E⟩ a4 8 8, .int .i64 (j : Int)] h' fun v h'' => Pfx h' h'' ∧ v = .tuple #[.agg (slotC (twoS E j)).toArray, .int .i64 (if E.getD j false = true then 0 else 1002)] := fun lim h' hl h5 => by
      have := e5 lim h' (r := ⟨0, ((k + mm : Nat) : Int), 0, two E⟩) (x := j) hl h5 (by decide)
      rw [two_entry (by omega) hjw] at this
      exact this
     unfold twoS at eE
     cases hEj : E.getD j false with
     | true =>
      rw [hEj] at hld2
      simp only [hEj, if_true] at eE
      (refine Cs (Cs (Co (Wm rfl (Wm rfl (Wm rfl (Wc (OP.add rfl rfl (by omega) ?_))))))); refine Wc (OP.lssT rfl rfl (by omega) ?_); refine Wt ?_; refine WC.condT rfl (Ks ?_); refine Cs (WC.block (Cs (Co (Wc (OL.loadAll (k := 2) hL rfl rfl rfl (Wm rfl ?_)))))))
      (refine Wc ?_)
      refine OL.callV (V := .tuple #[.agg #[.int .i64 0, .int .i64 0, .int .i64 (j : Int), .int .i64 ((j % 4 : Nat) : Int), .int .i64 1], .int .i64 0]) hL rfl rfl (eE _ _ (hL.lm hlim) (hL.slAt (k := 0) rfl)) (fun h' hp hL => ?_)
      (refine Wm rfl (Wc (OP.extract rfl rfl (Wc (OP.extract rfl rfl (Wc ?_))))); refine OL.new hL (fun b h' hL => (WO.cons0 ?_)); refine OL.storeAll (k := 0) hL hlim rfl rfl rfl rfl rfl rfl (by decide) rfl (fun h' hL => ?_); dsimp only [List.set, Nat.zero_add, Nat.reduceAdd, Nat.reduceMul] at hL; refine Wm rfl (Wt ?_); refine Cs (Co (WO.consQ (OP.mv rfl (WO.consQ ?_)))); refine OL.callV hL rfl rfl (d3 _ _ (by first | omega | assumption | exact St.pfx (by assumption) hL.pfx | exact hL.stM (by repeat (first | exact mh | apply mt)) | exact RowOk.pfx (by assumption) hL.pfx | exact (hL.stM (by repeat (first | exact mh | apply mt))).1 | exact (hL.stM (by repeat (first | exact mh | apply mt))).2.1 | exact (hL.stM (by repeat (first | exact mh | apply mt))).2.2.1 | exact (hL.stM (by repeat (first | exact mh | apply mt))).2.2.2)) (fun h' hp hL => ?_); refine WO.consQ (OP.eqlT rfl rfl (by omega) ?_); refine WO.consQ (OP.mv rfl (WO.consQ (OP.idxArrAddr rfl rfl (by omega) ?_))))
      (refine WO.consQ ?_)
      refine OL.load (k := 2) hL rfl rfl hld2 ?_
      (refine Wc (OP.neSelf rfl rfl (Wm rfl (WO.yes rfl (Wm rfl (WO.yes rfl (Wc (OP.idxArrAddr rfl rfl (by omega) ?_))))))); refine WO.yes rfl ?_)
      (refine Wc ?_)
      refine OL.load (k := 2) hL rfl rfl hld2 ?_
      (refine WO.yes rfl (Wm rfl (WO.yes rfl (Wc (OP.fieldAddr0 rfl (WO.yes rfl (Wc (OP.fieldAddr0 rfl (WO.yes rfl (Wc (OL.load1 (k := 0) hL rfl rfl rfl (WO.yes rfl (WO.consQ (OP.mv rfl (WO.yes rfl (Wc (OP.neqF rfl rfl (by omega) ?_)))))))))))))))); refine WO.yes rfl (Wm rfl (WO.yes rfl (Wc (OP.fieldAddr0 rfl (WO.yes rfl (Wc (OL.load1 (k := 0) hL rfl rfl rfl (WO.yes rfl (WO.consQ (OP.mv rfl (WO.yes rfl (WO.consQ ?_)))))))))))); refine OP.andN rfl rfl (by omega) (fun hm2 => ?_); refine WO.yes rfl (Wc (OP.neqF rfl rfl (by omega) ?_)); refine WO.yes rfl (Wc (OP.pickF rfl rfl (WO.yes rfl (Wc (OP.pickT rfl rfl (Wc (OP.pickF rfl rfl (Wn ?_)))))))); dsimp only [zn, zr, zx, yn, yr]; refine WC.condF rfl (WC.skip ?_); dsimp only [zn, zr, zx, yn, yr]; refine Co (Wm rfl (Wc (OP.add rfl rfl (by omega) ?_))); refine Wm rfl (Wn ?_); dsimp only [zn, zr, zx, yn, yr])
      have hL2 := hL.less (k := 0) rfl
      dsimp only [List.eraseIdx] at hL2
      exact ⟨⟨j + 1, _, [], none⟩, ⟨by simp only; omega, _, _, hL2⟩, by (refine Sub.cons rfl (Sub.cons rfl (Sub.cons rfl (Sub.cons rfl (Sub.cons rfl (Sub.cons rfl (Sub.cons rfl ?_)))))); exact Sub.nil _), rfl, by simp only; omega⟩
     | false =>
      rw [hEj] at hld2
      simp only [hEj] at eE
      (refine Cs (Cs (Co (Wm rfl (Wm rfl (Wm rfl (Wc (OP.add rfl rfl (by omega) ?_))))))); refine Wc (OP.lssT rfl rfl (by omega) ?_); refine Wt ?_; refine WC.condT rfl (Ks ?_); refine Cs (WC.block (Cs (Co (Wc (OL.loadAll (k := 2) hL rfl rfl rfl (Wm rfl ?_)))))))
      (refine Wc ?_)
      refine OL.callV (V := .tuple #[.agg #[.int .i64 0, .int .i64 0, .int .i64 0, .int .i64 0, .int .i64 0], .int .i64 1002]) hL rfl rfl (eE _ _ (hL.lm hlim) (hL.slAt (k := 0) rfl)) (fun h' hp hL => ?_)
      (refine Wm rfl (Wc (OP.extract rfl rfl (Wc (OP.extract rfl rfl (Wc ?_))))); refine OL.new hL (fun b h' hL => (WO.cons0 ?_)); refine OL.storeAll (k := 0) hL hlim rfl rfl rfl rfl rfl rfl (by decide) rfl (fun h' hL => ?_); dsimp only [List.set, Nat.zero_add, Nat.reduceAdd, Nat.reduceMul] at hL; refine Wm rfl (Wt ?_); refine Cs (Co (WO.consQ (OP.mv rfl (WO.consQ ?_)))); refine OL.callV hL rfl rfl (d3 _ _ (by first | omega | assumption | exact St.pfx (by assumption) hL.pfx | exact hL.stM (by repeat (first | exact mh | apply mt)) | exact RowOk.pfx (by assumption) hL.pfx | exact (hL.stM (by repeat (first | exact mh | apply mt))).1 | exact (hL.stM (by repeat (first | exact mh | apply mt))).2.1 | exact (hL.stM (by repeat (first | exact mh | apply mt))).2.2.1 | exact (hL.stM (by repeat (first | exact mh | apply mt))).2.2.2)) (fun h' hp hL => ?_); refine WO.consQ (OP.eqlF rfl rfl (by omega) ?_); refine WO.consQ (OP.mv rfl (WO.consQ (OP.idxArrAddr rfl rfl (by omega) ?_))))
      (refine WO.consQ ?_)
      refine OL.load (k := 2) hL rfl rfl hld2 ?_
      (refine Wc (OP.neSelf rfl rfl (Wm rfl (WO.yes rfl (Wm rfl (WO.yes rfl (Wc (OP.idxArrAddr rfl rfl (by omega) ?_))))))); refine WO.yes rfl ?_)
      (refine Wc ?_)
      refine OL.load (k := 2) hL rfl rfl hld2 ?_
      (refine WO.yes rfl (Wm rfl (WO.no rfl (WO.no rfl (WO.no rfl (WO.no rfl (WO.no rfl (WO.no rfl (WO.noU rfl (WO.noU rfl (WO.noU rfl (WO.noU rfl (WO.noU rfl (WO.no rfl (WO.yes rfl (Wc (OP.pickF rfl rfl (Wc (OP.pickF rfl rfl (Wn ?_))))))))))))))))))); dsimp only [zn, zr, zx, yn, yr]; refine WC.condF rfl (WC.skip ?_); dsimp only [zn, zr, zx, yn, yr]; refine Co (Wm rfl (Wc (OP.add rfl rfl (by omega) ?_))); refine Wm rfl (Wn ?_); dsimp only [zn, zr, zx, yn, yr])
      have hL2 := hL.less (k := 0) rfl
      dsimp only [List.eraseIdx] at hL2
      exact ⟨⟨j + 1, _, [], none⟩, ⟨by simp only; omega, _, _, hL2⟩, by (refine Sub.cons rfl (Sub.cons rfl (Sub.cons rfl (Sub.cons rfl (Sub.cons rfl (Sub.cons rfl (Sub.cons rfl ?_)))))); exact Sub.nil _), rfl, by simp only; omega⟩
    ·(refine Cs (Cs (Co (Wm rfl (Wm rfl (Wm rfl (Wc (OP.add rfl rfl (by omega) ?_))))))); refine Wc (OP.lssF rfl rfl (by omega) ?_); refine Wt ?_; refine WC.condF rfl (WC.exit ?_); dsimp only [zn, zr, zx, yn, yr]; rw [yx, if_pos rfl]; dsimp only [zn, zr, zx, yn, yr]; refine Co (Wm rfl (Wc (OP.add rfl rfl (by omega) ?_))); refine Wm rfl (Wt ?_))
     have hS2 := hL.slAt (k := 0) rfl
     have hL2 := hL.less (k := 0) rfl
     dsimp only [List.eraseIdx] at hL2
     exact ⟨⟨i + 1, _, E, a4⟩, ⟨⟨by simp only; omega, hD1, hc1⟩, hS2, hL2⟩, by (refine Sub.cons rfl (Sub.cons rfl (Sub.cons rfl (Sub.cons rfl (Sub.cons rfl (Sub.cons rfl ?_))))); exact Sub.nil _), rfl, by simp only; omega⟩
 ·(refine Cs (Cs (Co (Wm rfl (Wm rfl (Wm rfl (Wc (OP.add rfl rfl (by omega) ?_))))))); refine Wc (OP.lssF rfl rfl (by omega) ?_); refine Wt ?_; refine WC.condF rfl (WC.exit ?_); dsimp only [zn, zr, zx, yn, yr]; rw [yx, if_pos rfl]; dsimp only [zn, zr, zx, yn, yr]; refine Cs (Co (Wm rfl (Wt ?_))); refine WC.ret ?_; exact Fin.ret rfl rfl)
end
end Go.Proofs.YtgjickapnfnkfaaW.Ai
