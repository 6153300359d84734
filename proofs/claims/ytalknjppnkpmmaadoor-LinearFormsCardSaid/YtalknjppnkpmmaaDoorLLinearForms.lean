/-
 The statement LinearForms (chapter 24), as the small machine runs it.
-/
import Derived.Test.YtalknjppnkpmmaaDoorFn92
set_option linter.unusedVariables false
set_option linter.unusedSimpArgs false
set_option maxHeartbeats 4000000
set_option maxRecDepth 100000
namespace Go.Proofs.YtalknjppnkpmmaaDoorW.Ai
-- chorus/choruslaw24.LinearForms; g0 = chorus/choruslaw24.awake; g1 = chorus/linear.Is; g2 = chorus/choruslaw0.Num
def rf_LinearForms (g0 g1 g2 : Nat) : RFunc :=
 ⟨109, [(.tmp 4)], (.seq (.ops [rO 4 (.mv (.const (.bool false)))]) (.seq (.seq (.ops [rO 18 (.call (.func g0) []), rO 19 (.un .not (.tmp 18))]) (.cond (.tmp 19) (.seq (.ops [rO 4 (.mv (.const (.bool false)))]) .ret) .skip)) (.seq (.ops [rO 20 (.mv (.tmp 1)), rO 21 (.bin .and (.tmp 20) (.const (.int .i64 1023))), rO 22 (.bin .add (.const (.int .i64 1)) (.tmp 21)), rO 5 (.mv (.tmp 22))]) (.seq (.ops [rO 23 (.build [(.int .i64 0), (.int .i64 0), (.int .i64 0)] [(2, (1, (.const (.int .i64 5))))]), rO 6 (.new [(.int .i64 0), (.int .i64 0), (.int .i64 0)]), ⟨.none, (.store 3 (.tmp 6) (.tmp 23)), .none, false, []⟩]) (.seq (.ops [⟨(.some 24), (.load (.some 3) (.tmp 6)), .none, true, []⟩, ⟨(.some 25), (.build [(.int .i64 0), (.bool false), (.int .i64 0), (.int .i64 0), (.int .i64 0), (.int .i64 0)] [(1, (1, (.const (.bool true)))), (2, (3, (.tmp 24)))]), .none, true, []⟩, ⟨(.some 26), (.load (.some 3) (.tmp 6)), .none, true, []⟩, ⟨(.some 27), (.build [(.int .i64 0), (.bool false), (.int .i64 0), (.int .i64 0), (.int .i64 0), (.int .i64 0)] [(2, (3, (.tmp 26))), (5, (1, (.const (.int .i64 (-1)))))]), .none, true, []⟩, ⟨(.some 7), (.new [(.int .i64 0), (.bool false), (.int .i64 0), (.int .i64 0), (.int .i64 0), (.int .i64 0)]), .none, true, []⟩, ⟨(.some 8), (.new [(.int .i64 0), (.bool false), (.int .i64 0), (.int .i64 0), (.int .i64 0), (.int .i64 0)]), .none, true, []⟩, ⟨.none, (.store 6 (.tmp 7) (.tmp 25)), .none, false, [(.tmp 6)]⟩, ⟨.none, (.store 6 (.tmp 8) (.tmp 27)), .none, false, []⟩]) (.seq (.ops [rO 28 (.load (.some 6) (.tmp 7)), rO 9 (.new [(.int .i64 0), (.bool false), (.int .i64 0), (.int .i64 0), (.int .i64 0), (.int .i64 0)]), ⟨.none, (.store 6 (.tmp 9) (.tmp 28)), .none, false, []⟩]) (.seq (.ops [rO 29 (.mv (.tmp 5)), rO 30 (.bin .add (.const (.int .i64 3)) (.tmp 29)), rO 31 (.fieldAddr 0 (.tmp 9)), ⟨.none, (.store 1 (.tmp 31) (.tmp 30)), .none, false, []⟩]) (.seq (.ops [rO 32 (.load (.some 6) (.tmp 7)), rO 10 (.new [(.int .i64 0), (.bool false), (.int .i64 0), (.int .i64 0), (.int .i64 0), (.int .i64 0)]), ⟨.none, (.store 6 (.tmp 10) (.tmp 32)), .none, false, []⟩]) (.seq (.ops [rO 33 (.mv (.tmp 5)), rO 34 (.un .neg (.tmp 33)), rO 35 (.fieldAddr 2 (.tmp 10)), rO 36 (.fieldAddr 2 (.tmp 35)), ⟨.none, (.store 1 (.tmp 36) (.tmp 34)), .none, false, []⟩]) (.seq (.ops [rO 37 (.load (.some 6) (.tmp 8)), rO 11 (.new [(.int .i64 0), (.bool false), (.int .i64 0), (.int .i64 0), (.int .i64 0), (.int .i64 0)]), ⟨.none, (.store 6 (.tmp 11) (.tmp 37)), .none, false, []⟩]) (.seq (.ops [rO 38 (.fieldAddr 2 (.tmp 11)), rO 39 (.fieldAddr 2 (.tmp 38)), ⟨.none, (.store 1 (.tmp 39) (.const (.int .i64 6))), .none, false, []⟩]) (.seq (.ops [rO 40 (.load (.some 6) (.tmp 7)), rO 12 (.new [(.int .i64 0), (.bool false), (.int .i64 0), (.int .i64 0), (.int .i64 0), (.int .i64 0)]), ⟨.none, (.store 6 (.tmp 12) (.tmp 40)), .none, false, []⟩]) (.seq (.ops [rO 41 (.mv (.tmp 5)), rO 42 (.fieldAddr 5 (.tmp 12)), ⟨.none, (.store 1 (.tmp 42) (.tmp 41)), .none, false, []⟩]) (.seq (.ops [⟨(.some 43), (.load (.some 6) (.tmp 8)), .none, true, []⟩, ⟨(.some 44), (.buildSlice [(.int .i64 0), (.bool false), (.int .i64 0), (.int .i64 0), (.int .i64 0), (.int .i64 0)] 1 [(0, (6, (.tmp 43)))]), .none, true, []⟩, ⟨(.some 45), (.load (.some 6) (.tmp 7)), .none, true, []⟩, ⟨(.some 46), (.load (.some 6) (.tmp 7)), .none, true, []⟩, ⟨(.some 47), (.buildSlice [(.int .i64 0), (.bool false), (.int .i64 0), (.int .i64 0), (.int .i64 0), (.int .i64 0), (.int .i64 0), (.bool false), (.int .i64 0), (.int .i64 0), (.int .i64 0), (.int .i64 0)] 2 [(0, (6, (.tmp 45))), (6, (6, (.tmp 46)))]), .none, true, []⟩, ⟨(.some 48), (.load (.some 6) (.tmp 7)), .none, true, []⟩, ⟨(.some 49), (.load (.some 6) (.tmp 8)), .none, true, []⟩, ⟨(.some 50), (.load (.some 6) (.tmp 8)), .none, true, []⟩, ⟨(.some 51), (.buildSlice [(.int .i64 0), (.bool false), (.int .i64 0), (.int .i64 0), (.int .i64 0), (.int .i64 0), (.int .i64 0), (.bool false), (.int .i64 0), (.int .i64 0), (.int .i64 0), (.int .i64 0), (.int .i64 0), (.bool false), (.int .i64 0), (.int .i64 0), (.int .i64 0), (.int .i64 0)] 3 [(0, (6, (.tmp 48))), (6, (6, (.tmp 49))), (12, (6, (.tmp 50)))]), .none, true, []⟩, ⟨(.some 52), (.load (.some 6) (.tmp 9)), .none, true, []⟩, ⟨(.some 53), (.buildSlice [(.int .i64 0), (.bool false), (.int .i64 0), (.int .i64 0), (.int .i64 0), (.int .i64 0)] 1 [(0, (6, (.tmp 52)))]), .none, true, []⟩, ⟨(.some 54), (.load (.some 6) (.tmp 10)), .none, true, []⟩, ⟨(.some 55), (.buildSlice [(.int .i64 0), (.bool false), (.int .i64 0), (.int .i64 0), (.int .i64 0), (.int .i64 0)] 1 [(0, (6, (.tmp 54)))]), .none, true, []⟩, ⟨(.some 56), (.load (.some 6) (.tmp 7)), .none, true, []⟩, ⟨(.some 57), (.load (.some 6) (.tmp 11)), .none, true, []⟩, ⟨(.some 58), (.buildSlice [(.int .i64 0), (.bool false), (.int .i64 0), (.int .i64 0), (.int .i64 0), (.int .i64 0), (.int .i64 0), (.bool false), (.int .i64 0), (.int .i64 0), (.int .i64 0), (.int .i64 0)] 2 [(0, (6, (.tmp 56))), (6, (6, (.tmp 57)))]), .none, true, []⟩, ⟨(.some 59), (.load (.some 6) (.tmp 12)), .none, true, []⟩, ⟨(.some 60), (.buildSlice [(.int .i64 0), (.bool false), (.int .i64 0), (.int .i64 0), (.int .i64 0), (.int .i64 0)] 1 [(0, (6, (.tmp 59)))]), .none, true, []⟩, ⟨(.some 61), (.mv (.tmp 5)), .none, true, []⟩, ⟨(.some 62), (.un .neg (.tmp 61)), .none, true, []⟩, ⟨(.some 63), (.build [(.int .i64 0), (.bool false), (.int .i64 0), (.int .i64 0), (.int .i64 0), (.int .i64 0)] [(0, (1, (.tmp 62))), (1, (1, (.const (.bool true))))]), .none, true, []⟩, ⟨(.some 64), (.buildSlice [(.int .i64 0), (.bool false), (.int .i64 0), (.int .i64 0), (.int .i64 0), (.int .i64 0)] 1 [(0, (6, (.tmp 63)))]), .none, true, []⟩, ⟨(.some 65), (.mv (.tmp 5)), .none, true, []⟩, ⟨(.some 66), (.bin .add (.const (.int .i64 64)) (.tmp 65)), .none, true, []⟩, ⟨(.some 67), (.mkSlice [(.int .i64 0), (.bool false), (.int .i64 0), (.int .i64 0), (.int .i64 0), (.int .i64 0)] 48 (.tmp 66) (.tmp 66)), .none, true, []⟩, rO 68 (.buildSlice [(.slice .none 0 0), (.slice .none 0 0), (.slice .none 0 0), (.slice .none 0 0), (.slice .none 0 0), (.slice .none 0 0), (.slice .none 0 0), (.slice .none 0 0), (.slice .none 0 0)] 9 [(0, (1, (.tmp 44))), (1, (1, (.tmp 47))), (2, (1, (.tmp 51))), (3, (1, (.tmp 53))), (4, (1, (.tmp 55))), (5, (1, (.tmp 58))), (6, (1, (.tmp 60))), (7, (1, (.tmp 64))), (8, (1, (.tmp 67)))]), rO 13 (.mv (.tmp 68))]) (.seq (.ops [rO 70 (.mv (.tmp 13)), rO 71 (.mv (.tmp 0)), rO 72 (.conv .u64 (.tmp 71)), rO 73 (.bin .rem (.tmp 72) (.const (.int .u64 9))), rO 74 (.conv .i64 (.tmp 73)), rO 75 (.idxAddr 1 (.tmp 70) (.tmp 74)), rO 76 (.load .none (.tmp 75)), rO 77 (.call (.func g1) [(.const (.int .i64 0)), (.tmp 76)]), rO 69 (.mv (.tmp 77)), rO 78 (.extract (.tmp 69) 0), rO 79 (.extract (.tmp 69) 1), rO 14 (.mv (.tmp 78)), rO 15 (.mv (.tmp 79))]) (.seq (.ops [rO 81 (.mv (.tmp 5)), rO 82 (.un .neg (.tmp 81)), rO 83 (.mv (.tmp 5)), rO 84 (.bin .add (.const (.int .i64 2)) (.tmp 83)), rO 85 (.buildSlice [(.int .i64 0), (.int .i64 0)] 2 [(0, (1, (.tmp 82))), (1, (1, (.tmp 84)))]), rO 86 (.mv (.tmp 0)), rO 87 (.bin .and (.tmp 86) (.const (.int .i64 1))), rO 88 (.idxAddr 1 (.tmp 85) (.tmp 87)), rO 89 (.load .none (.tmp 88)), rO 90 (.call (.func g1) [(.tmp 89), (.const (.slice .none 0 0))]), rO 80 (.mv (.tmp 90)), rO 91 (.extract (.tmp 80) 0), rO 92 (.extract (.tmp 80) 1), rO 16 (.mv (.tmp 91)), rO 17 (.mv (.tmp 92))]) (.seq (.ops [rO 93 (.mv (.tmp 14)), rO 94 (.un .not (.tmp 93)), rO 95 (.mv (.tmp 94)), ⟨(.some 96), (.mv (.tmp 15)), (.some (95, true)), false, []⟩, ⟨(.some 97), (.call (.func g2) [(.tmp 96)]), (.some (95, true)), false, []⟩, ⟨(.some 98), (.bin .eql (.tmp 97) (.const (.int .i64 2400))), (.some (95, true)), false, []⟩, rO 99 (.pick (.tmp 95) (.tmp 98) (.const (.bool false))), rO 100 (.mv (.tmp 99)), ⟨(.some 101), (.mv (.tmp 16)), (.some (100, true)), false, []⟩, ⟨(.some 102), (.un .not (.tmp 101)), (.some (100, true)), false, []⟩, rO 103 (.pick (.tmp 100) (.tmp 102) (.const (.bool false))), rO 104 (.mv (.tmp 103)), ⟨(.some 105), (.mv (.tmp 17)), (.some (104, true)), false, []⟩, ⟨(.some 106), (.call (.func g2) [(.tmp 105)]), (.some (104, true)), false, []⟩, ⟨(.some 107), (.bin .eql (.tmp 106) (.const (.int .i64 2400))), (.some (104, true)), false, []⟩, rO 108 (.pick (.tmp 104) (.tmp 107) (.const (.bool false))), rO 4 (.mv (.tmp 108))]) .ret)))))))))))))))))⟩
theorem recs_replicate (e : EvR) : ∀ n, recs evC (List.replicate n e) = reps (evC e) n
 | 0 => rfl
 | n + 1 => by
  show evC e ++ recs evC (List.replicate n e) = evC e ++ reps (evC e) n
  rw [recs_replicate e n]
theorem lf0 : IsL 0 [⟨0, false, 0, 0, 5, -1⟩] = (false, 2400) := IsL_none (by decide)
theorem lf1 : IsL 0 [⟨0, true, 0, 0, 5, 0⟩, ⟨0, true, 0, 0, 5, 0⟩] = (false, 2400) := IsL_none (by decide)
theorem lf2 : IsL 0 [⟨0, true, 0, 0, 5, 0⟩, ⟨0, false, 0, 0, 5, -1⟩, ⟨0, false, 0, 0, 5, -1⟩] = (false, 2400) := IsL_none (by decide)
theorem lf3 (k : Nat) : IsL 0 [⟨3 + (1 + (k : Int)), true, 0, 0, 5, 0⟩] = (false, 2400) := IsL_none (by unfold histH takeH; rw [if_neg (by unfold OpOk; simp only; omega)])
theorem lf4 (k : Nat) : IsL 0 [⟨0, true, 0, 0, -(1 + (k : Int)), 0⟩] = (false, 2400) := IsL_none (by unfold histH takeH; rw [if_neg (by unfold OpOk; simp only; omega)])
theorem lf5 : IsL 0 [⟨0, true, 0, 0, 5, 0⟩, ⟨0, false, 0, 0, 6, -1⟩] = (false, 2400) := IsL_none (by decide)
theorem lf6 (k : Nat) : IsL 0 [⟨0, true, 0, 0, 5, (1 + (k : Int))⟩] = (false, 2400) := IsL_none (by unfold histH takeH; rw [if_pos ⟨⟨by simp only; omega, by simp only; omega⟩, by unfold OpOk; simp only; omega⟩, if_pos rfl, if_neg (by rintro ⟨_, q⟩; simp only at q; omega)])
theorem lf7 (k : Nat) : IsL 0 [⟨-(1 + (k : Int)), true, 0, 0, 0, 0⟩] = (false, 2400) := IsL_none (by unfold histH takeH; rw [if_neg (by unfold OpOk; simp only; omega)])
theorem lf8 (k : Nat) : IsL 0 (List.replicate (64 + (1 + k)) ⟨0, false, 0, 0, 0, 0⟩) = (false, 2400) := IsL_form (by rw [List.length_replicate]; omega)
section
variable {X : Ext} {F : FuncId → Option RFunc} {f : FuncId}
theorem s_LinearForms {g0 g1 g2 : Nat} (hX : X f = none) (hF : F f = some (rf_LinearForms g0 g1 g2)) (d0 : S_yes X F g0) (e1 : S_lIs X F g1) (d2 : S_Num X F g2)
  (h : AH) {which x : Int} (hwhich : R64 which) (hx : R64 x) : Ret X F h.length f [.int .i64 which, .int .i64 x] h fun v _ => v = .bool true := by
 have hL := Loc.start h
 have hlim : h.length ≤ h.length := Nat.le_refl _
 refine Ret.body hX hF rfl ?_
 simp only [argL, rf_LinearForms]
 generalize hb44 : (ROp.buildSlice [(.int .i64 0), (.bool false), (.int .i64 0), (.int .i64 0), (.int .i64 0), (.int .i64 0)] 1 [(0, (6, (.tmp 43)))]) = big44
 generalize hb47 : (ROp.buildSlice [(.int .i64 0), (.bool false), (.int .i64 0), (.int .i64 0), (.int .i64 0), (.int .i64 0), (.int .i64 0), (.bool false), (.int .i64 0), (.int .i64 0), (.int .i64 0), (.int .i64 0)] 2 [(0, (6, (.tmp 45))), (6, (6, (.tmp 46)))]) = big47
 generalize hb51 : (ROp.buildSlice [(.int .i64 0), (.bool false), (.int .i64 0), (.int .i64 0), (.int .i64 0), (.int .i64 0), (.int .i64 0), (.bool false), (.int .i64 0), (.int .i64 0), (.int .i64 0), (.int .i64 0), (.int .i64 0), (.bool false), (.int .i64 0), (.int .i64 0), (.int .i64 0), (.int .i64 0)] 3 [(0, (6, (.tmp 48))), (6, (6, (.tmp 49))), (12, (6, (.tmp 50)))]) = big51
 generalize hb53 : (ROp.buildSlice [(.int .i64 0), (.bool false), (.int .i64 0), (.int .i64 0), (.int .i64 0), (.int .i64 0)] 1 [(0, (6, (.tmp 52)))]) = big53
 generalize hb55 : (ROp.buildSlice [(.int .i64 0), (.bool false), (.int .i64 0), (.int .i64 0), (.int .i64 0), (.int .i64 0)] 1 [(0, (6, (.tmp 54)))]) = big55
 generalize hb58 : (ROp.buildSlice [(.int .i64 0), (.bool false), (.int .i64 0), (.int .i64 0), (.int .i64 0), (.int .i64 0), (.int .i64 0), (.bool false), (.int .i64 0), (.int .i64 0), (.int .i64 0), (.int .i64 0)] 2 [(0, (6, (.tmp 56))), (6, (6, (.tmp 57)))]) = big58
 generalize hb60 : (ROp.buildSlice [(.int .i64 0), (.bool false), (.int .i64 0), (.int .i64 0), (.int .i64 0), (.int .i64 0)] 1 [(0, (6, (.tmp 59)))]) = big60
 generalize hb64 : (ROp.buildSlice [(.int .i64 0), (.bool false), (.int .i64 0), (.int .i64 0), (.int .i64 0), (.int .i64 0)] 1 [(0, (6, (.tmp 63)))]) = big64
 generalize hb68 : (ROp.buildSlice [(.slice .none 0 0), (.slice .none 0 0), (.slice .none 0 0), (.slice .none 0 0), (.slice .none 0 0), (.slice .none 0 0), (.slice .none 0 0), (.slice .none 0 0), (.slice .none 0 0)] 9 [(0, (1, (.tmp 44))), (1, (1, (.tmp 47))), (2, (1, (.tmp 51))), (3, (1, (.tmp 53))), (4, (1, (.tmp 55))), (5, (1, (.tmp 58))), (6, (1, (.tmp 60))), (7, (1, (.tmp 64))), (8, (1, (.tmp 67)))]) = big68
 generalize hb85 : (ROp.buildSlice [(.int .i64 0), (.int .i64 0)] 2 [(0, (1, (.tmp 82))), (1, (1, (.tmp 84)))]) = big85
 (refine Cs (Co (Wm rfl (Wt ?_))); refine Cs (Cs (Co (Wc ?_))); refine OL.callV hL rfl rfl (d0 _ _) (fun h' hp hL => (Wc (OP.not rfl (Wt ?_)))); refine WC.condF rfl (Ks ?_); refine Cs (Co (Wm rfl (Wc ?_))); refine OP.andN rfl rfl (by omega) (fun hm2 => ?_); refine Wc (OP.add rfl rfl (by omega) ?_); refine Wm rfl (Wt ?_); refine Cs (Co (Wc (OP.buildN rfl (by simp [over, Value.cells]; rfl) ?_))); refine Wc ?_; refine OL.new hL (fun b h' hL => (WO.cons0 ?_)); refine OL.storeAll (k := 0) hL hlim rfl rfl rfl rfl rfl rfl (by decide) rfl (fun h' hL => ?_); dsimp only [List.set, Nat.zero_add, Nat.reduceAdd, Nat.reduceMul] at hL; refine Wt ?_; refine Cs (Co (WO.consQ (OL.loadAll (k := 0) hL rfl rfl rfl (WO.consQ (OP.buildN rfl (by simp [over, Value.cells]; rfl) ?_))))); refine WO.consQ (OL.loadAll (k := 0) hL rfl rfl rfl (WO.consQ (OP.buildN rfl (by simp [over, Value.cells]; rfl) ?_))); refine WO.consQ ?_; refine OL.new hL (fun b h' hL => (WO.consQ ?_)); refine OL.new hL (fun b h' hL => (WO.cons0A rfl (fun x hx => by rw [List.mem_singleton.1 hx]; exact ⟨_, _, _, rfl, Nat.ne_of_gt (Loc.ne hL (i := 1) (j := 2) rfl rfl (by decide))⟩) ?_)); refine OL.storeAll (k := 1) hL hlim rfl rfl rfl rfl rfl rfl (by decide) rfl (fun h' hL => ?_); dsimp only [List.set, Nat.zero_add, Nat.reduceAdd, Nat.reduceMul] at hL; refine WO.cons0 ?_; refine OL.storeAll (k := 0) hL hlim rfl rfl rfl rfl rfl rfl (by decide) rfl (fun h' hL => ?_); dsimp only [List.set, Nat.zero_add, Nat.reduceAdd, Nat.reduceMul] at hL; refine Wt ?_; refine Cs (Co (Wc (OL.loadAll (k := 1) hL rfl rfl rfl (Wc ?_)))); refine OL.new hL (fun b h' hL => (WO.cons0 ?_)); refine OL.storeAll (k := 0) hL hlim rfl rfl rfl rfl rfl rfl (by decide) rfl (fun h' hL => ?_); dsimp only [List.set, Nat.zero_add, Nat.reduceAdd, Nat.reduceMul] at hL; refine Wt ?_; refine Cs (Co (Wm rfl (Wc (OP.add rfl rfl (by omega) ?_)))); refine Wc (OP.fieldAddr0 rfl (WO.cons0 ?_)); refine OL.store1 (k := 0) hL hlim rfl rfl rfl rfl rfl rfl rfl (fun h' hL => ?_); dsimp only [List.set, Nat.zero_add, Nat.reduceAdd, Nat.reduceMul] at hL; refine Wt ?_; refine Cs (Co (Wc (OL.loadAll (k := 2) hL rfl rfl rfl (Wc ?_)))); refine OL.new hL (fun b h' hL => (WO.cons0 ?_)); refine OL.storeAll (k := 0) hL hlim rfl rfl rfl rfl rfl rfl (by decide) rfl (fun h' hL => ?_); dsimp only [List.set, Nat.zero_add, Nat.reduceAdd, Nat.reduceMul] at hL; refine Wt ?_; refine Cs (Co (Wm rfl (Wc (OP.neg rfl (by omega) ?_)))); refine Wc (OP.fieldAddr0 rfl (Wc (OP.fieldAddr rfl (WO.cons0 ?_)))); refine OL.store1 (k := 0) hL hlim rfl rfl rfl rfl rfl rfl rfl (fun h' hL => ?_); dsimp only [List.set, Nat.zero_add, Nat.reduceAdd, Nat.reduceMul] at hL; refine Wt ?_; refine Cs (Co (Wc (OL.loadAll (k := 2) hL rfl rfl rfl (Wc ?_)))); refine OL.new hL (fun b h' hL => (WO.cons0 ?_)); refine OL.storeAll (k := 0) hL hlim rfl rfl rfl rfl rfl rfl (by decide) rfl (fun h' hL => ?_); dsimp only [List.set, Nat.zero_add, Nat.reduceAdd, Nat.reduceMul] at hL; refine Wt ?_; refine Cs (Co (Wc (OP.fieldAddr0 rfl (Wc (OP.fieldAddr rfl (WO.cons0 ?_)))))); refine OL.store1 (k := 0) hL hlim rfl rfl rfl rfl rfl rfl rfl (fun h' hL => ?_); dsimp only [List.set, Nat.zero_add, Nat.reduceAdd, Nat.reduceMul] at hL; refine Wt ?_; refine Cs (Co (Wc (OL.loadAll (k := 4) hL rfl rfl rfl (Wc ?_)))); refine OL.new hL (fun b h' hL => (WO.cons0 ?_)); refine OL.storeAll (k := 0) hL hlim rfl rfl rfl rfl rfl rfl (by decide) rfl (fun h' hL => ?_); dsimp only [List.set, Nat.zero_add, Nat.reduceAdd, Nat.reduceMul] at hL; refine Wt ?_; refine Cs (Co (Wm rfl (Wc (OP.fieldAddr0 rfl (WO.cons0 ?_))))); refine OL.store1 (k := 0) hL hlim rfl rfl rfl rfl rfl rfl rfl (fun h' hL => ?_); dsimp only [List.set, Nat.zero_add, Nat.reduceAdd, Nat.reduceMul] at hL; refine Wt ?_; refine Cs (Co (WO.consQ (OL.loadAll (k := 4) hL rfl rfl rfl ?_))))
 obtain ⟨k, hk⟩ : ∃ k : Nat, mask x 1023 = k := ⟨(mask x 1023).toNat, by omega⟩
 rw [hk] at hL hm2 ⊢
 (refine WO.consQ ?_)
 subst hb44
 refine OL.buildSlice hL (fillB_all (w := 6) (os := [(.tmp 43)]) rfl rfl rfl) (by simp [Value.cells]; rfl) rfl (fun b44 h' hL => ?_)
 (refine WO.consQ (OL.loadAll (k := 6) hL rfl rfl rfl (WO.consQ (OL.loadAll (k := 6) hL rfl rfl rfl ?_))))
 (refine WO.consQ ?_)
 subst hb47
 refine OL.buildSlice hL (fillB_all (w := 6) (os := [(.tmp 45), (.tmp 46)]) rfl rfl rfl) (by simp [Value.cells]; rfl) rfl (fun b47 h' hL => ?_)
 (refine WO.consQ (OL.loadAll (k := 7) hL rfl rfl rfl (WO.consQ (OL.loadAll (k := 6) hL rfl rfl rfl (WO.consQ (OL.loadAll (k := 6) hL rfl rfl rfl ?_))))))
 (refine WO.consQ ?_)
 subst hb51
 refine OL.buildSlice hL (fillB_all (w := 6) (os := [(.tmp 48), (.tmp 49), (.tmp 50)]) rfl rfl rfl) (by simp [Value.cells]; rfl) rfl (fun b51 h' hL => ?_)
 (refine WO.consQ (OL.loadAll (k := 6) hL rfl rfl rfl ?_))
 (refine WO.consQ ?_)
 subst hb53
 refine OL.buildSlice hL (fillB_all (w := 6) (os := [(.tmp 52)]) rfl rfl rfl) (by simp [Value.cells]; rfl) rfl (fun b53 h' hL => ?_)
 (refine WO.consQ (OL.loadAll (k := 6) hL rfl rfl rfl ?_))
 (refine WO.consQ ?_)
 subst hb55
 refine OL.buildSlice hL (fillB_all (w := 6) (os := [(.tmp 54)]) rfl rfl rfl) (by simp [Value.cells]; rfl) rfl (fun b55 h' hL => ?_)
 (refine WO.consQ (OL.loadAll (k := 10) hL rfl rfl rfl (WO.consQ (OL.loadAll (k := 6) hL rfl rfl rfl ?_))))
 (refine WO.consQ ?_)
 subst hb58
 refine OL.buildSlice hL (fillB_all (w := 6) (os := [(.tmp 56), (.tmp 57)]) rfl rfl rfl) (by simp [Value.cells]; rfl) rfl (fun b58 h' hL => ?_)
 (refine WO.consQ (OL.loadAll (k := 6) hL rfl rfl rfl ?_))
 (refine WO.consQ ?_)
 subst hb60
 refine OL.buildSlice hL (fillB_all (w := 6) (os := [(.tmp 59)]) rfl rfl rfl) (by simp [Value.cells]; rfl) rfl (fun b60 h' hL => ?_)
 (refine WO.consQ (OP.mv rfl (WO.consQ (OP.neg rfl (by omega) ?_))); refine WO.consQ (OP.buildN rfl (by simp [over, Value.cells]; rfl) ?_))
 (refine WO.consQ ?_)
 subst hb64
 refine OL.buildSlice hL (fillB_all (w := 6) (os := [(.tmp 63)]) rfl rfl rfl) (by simp [Value.cells]; rfl) rfl (fun b64 h' hL => ?_)
 (refine WO.consQ (OP.mv rfl (WO.consQ (OP.add rfl rfl (by omega) ?_))))
 (refine WO.consQ ?_)
 refine OL.mkSlice (n := 64 + (1 + k)) hL rfl rfl (by omega) (fun b67 h' hL => ?_)
 skip
 (refine Wc ?_)
 subst hb68
 refine OL.buildSlice hL (fillB_all (w := 1) (os := [(.tmp 44), (.tmp 47), (.tmp 51), (.tmp 53), (.tmp 55), (.tmp 58), (.tmp 60), (.tmp 64), (.tmp 67)]) rfl rfl rfl) (by simp [Value.cells]; rfl) rfl (fun b68 h' hL => ?_)
 (refine Wm rfl (Wt ?_); refine Cs (Co (Wm rfl (Wm rfl (Wc ?_)))); refine OP.convU rfl (fun u hu => (Wc ?_)); refine OP.remP rfl rfl (by omega) (by omega) (fun m hm hm2 => ?_); refine Wc (OP.convI rfl (by omega) ?_); refine Wc (OP.idxZ (Loc.bxAt (k := 0) hL rfl rfl) rfl rfl (by omega) ?_))
 have hm9 : m = 0 ∨ m = 1 ∨ m = 2 ∨ m = 3 ∨ m = 4 ∨ m = 5 ∨ m = 6 ∨ m = 7 ∨ m = 8 := by omega
 have hsl1 := Sl.of_block (sz := 1) (n := 9) (hL.cell (k := 0) rfl) rfl
 obtain ⟨A, n, es, q1, q2, q3, q4⟩ : ∃ A n es, ([.slice (some ⟨b44, 0, none⟩) 1 1, .slice (some ⟨b47, 0, none⟩) 2 2, .slice (some ⟨b51, 0, none⟩) 3 3, .slice (some ⟨b53, 0, none⟩) 1 1, .slice (some ⟨b55, 0, none⟩) 1 1, .slice (some ⟨b58, 0, none⟩) 2 2, .slice (some ⟨b60, 0, none⟩) 1 1, .slice (some ⟨b64, 0, none⟩) 1 1, .slice (some ⟨b67, 0, none⟩) (64 + (1 + k)) (64 + (1 + k))] : List Value)[m.toNat]? = some (.slice A n n) ∧ Sl 6 h' A n n (recs evC es) ∧ n ≤ 2 ^ 43 ∧ Hid (IsL 0 es = (false, 2400)) := by
  rcases hm9 with rfl | rfl | rfl | rfl | rfl | rfl | rfl | rfl | rfl
  ·exact ⟨_, _, [⟨0, false, 0, 0, 5, -1⟩], rfl, Sl.of_block (n := 1) (hL.cell (k := 9) rfl) rfl, by decide, lf0⟩
  ·exact ⟨_, _, [⟨0, true, 0, 0, 5, 0⟩, ⟨0, true, 0, 0, 5, 0⟩], rfl, Sl.of_block (n := 2) (hL.cell (k := 8) rfl) rfl, by decide, lf1⟩
  ·exact ⟨_, _, [⟨0, true, 0, 0, 5, 0⟩, ⟨0, false, 0, 0, 5, -1⟩, ⟨0, false, 0, 0, 5, -1⟩], rfl, Sl.of_block (n := 3) (hL.cell (k := 7) rfl) rfl, by decide, lf2⟩
  ·exact ⟨_, _, [⟨3 + (1 + (k : Int)), true, 0, 0, 5, 0⟩], rfl, Sl.of_block (n := 1) (hL.cell (k := 6) rfl) rfl, by decide, lf3 k⟩
  ·exact ⟨_, _, [⟨0, true, 0, 0, -(1 + (k : Int)), 0⟩], rfl, Sl.of_block (n := 1) (hL.cell (k := 5) rfl) rfl, by decide, lf4 k⟩
  ·exact ⟨_, _, [⟨0, true, 0, 0, 5, 0⟩, ⟨0, false, 0, 0, 6, -1⟩], rfl, Sl.of_block (n := 2) (hL.cell (k := 4) rfl) rfl, by decide, lf5⟩
  ·exact ⟨_, _, [⟨0, true, 0, 0, 5, (1 + (k : Int))⟩], rfl, Sl.of_block (n := 1) (hL.cell (k := 3) rfl) rfl, by decide, lf6 k⟩
  ·exact ⟨_, _, [⟨-(1 + (k : Int)), true, 0, 0, 0, 0⟩], rfl, Sl.of_block (n := 1) (hL.cell (k := 2) rfl) rfl, by decide, lf7 k⟩
  ·refine ⟨_, _, List.replicate (64 + (1 + k)) ⟨0, false, 0, 0, 0, 0⟩, rfl, ?_, by omega, lf8 k⟩
   rw [recs_replicate]
   exact Sl.of_block (hL.cell (k := 1) rfl) (reps_length _ _)
 clear hm9
 (refine Wc ?_)
 refine OP.loadV rfl (hsl1.load1 q1) ?_
 skip
 (refine Wc ?_)
 refine OL.callV (V := .tuple #[.bool false, .int .i64 2400]) hL rfl rfl ((e1 _ _ (ob := 0) (es := es) (hL.lm hlim) (q2) q3).mono fun v h' ⟨p, q⟩ => ⟨p, by rw [q, q4.out]⟩) (fun h' hp hL => ?_)
 (refine Wm rfl (Wc (OP.extract rfl rfl (Wc (OP.extract rfl rfl (Wm rfl (Wm rfl (Wt ?_))))))); refine Cs (Co (Wm rfl (Wc (OP.neg rfl (by omega) ?_)))); refine Wm rfl (Wc (OP.add rfl rfl (by omega) ?_)))
 (refine Wc ?_)
 subst hb85
 refine OL.buildSlice hL (fillB_all (w := 1) (os := [(.tmp 82), (.tmp 84)]) rfl rfl rfl) (by simp [Value.cells]; rfl) rfl (fun b h' hL => ?_)
 (refine Wm rfl (Wc ?_); refine OP.andN rfl rfl (by omega) (fun hm2 => ?_); refine Wc (OP.idxZ (Loc.bxAt (k := 0) hL rfl rfl) rfl rfl (by omega) ?_))
 have hsl2 := Sl.of_block (sz := 1) (n := 2) (hL.cell (k := 0) rfl) rfl
 obtain ⟨o', q5, q6⟩ : ∃ o', ([.int .i64 (-(1 + (k : Int))), .int .i64 (2 + (1 + (k : Int)))] : List Value)[(mask which 1).toNat]? = some (.int .i64 o') ∧ ¬ (0 ≤ o' ∧ o' ≤ 2) := by
  have hw : mask which 1 = 0 ∨ mask which 1 = 1 := by omega
  rcases hw with e | e
  ·rw [e]; exact ⟨_, rfl, by omega⟩
  ·rw [e]; exact ⟨_, rfl, by omega⟩
 have q7 : IsL o' [] = (false, 2400) := IsL_form fun q => q6 q.1
 (refine Wc ?_)
 refine OP.loadV rfl (hsl2.load1 q5) ?_
 skip
 (refine Wc ?_)
 refine OL.callV (V := .tuple #[.bool false, .int .i64 2400]) hL rfl rfl ((e1 _ _ (ob := o') (es := []) (hL.lm hlim) ⟨rfl, Nat.le_refl _, rfl, fun _ => rfl⟩ (by decide)).mono fun v h' ⟨p, q⟩ => ⟨p, by rw [q, q7]⟩) (fun h' hp hL => ?_)
 (refine Wm rfl (Wc (OP.extract rfl rfl (Wc (OP.extract rfl rfl (Wm rfl (Wm rfl (Wt ?_))))))); refine Cs (Co (Wm rfl (Wc (OP.not rfl (Wm rfl (WO.yes rfl (Wm rfl (WO.yes rfl (Wc ?_))))))))); refine OL.callV hL rfl rfl (d2 _ _ (by first | omega | assumption | exact St.pfx (by assumption) hL.pfx | exact hL.stM (by repeat (first | exact mh | apply mt)) | exact RowOk.pfx (by assumption) hL.pfx | exact (hL.stM (by repeat (first | exact mh | apply mt))).1 | exact (hL.stM (by repeat (first | exact mh | apply mt))).2.1 | exact (hL.stM (by repeat (first | exact mh | apply mt))).2.2.1 | exact (hL.stM (by repeat (first | exact mh | apply mt))).2.2.2)) (fun h' hp hL => ?_); refine WO.yes rfl (Wc (OP.eqlT rfl rfl (by omega) ?_)); refine Wc (OP.pickT rfl rfl (Wm rfl (WO.yes rfl (Wm rfl (WO.yes rfl (Wc (OP.not rfl (Wc (OP.pickT rfl rfl (Wm rfl (WO.yes rfl (Wm rfl (WO.yes rfl (Wc ?_)))))))))))))); refine OL.callV hL rfl rfl (d2 _ _ (by first | omega | assumption | exact St.pfx (by assumption) hL.pfx | exact hL.stM (by repeat (first | exact mh | apply mt)) | exact RowOk.pfx (by assumption) hL.pfx | exact (hL.stM (by repeat (first | exact mh | apply mt))).1 | exact (hL.stM (by repeat (first | exact mh | apply mt))).2.1 | exact (hL.stM (by repeat (first | exact mh | apply mt))).2.2.1 | exact (hL.stM (by repeat (first | exact mh | apply mt))).2.2.2)) (fun h' hp hL => ?_); refine WO.yes rfl (Wc (OP.eqlT rfl rfl (by omega) ?_)); refine Wc (OP.pickT rfl rfl (Wm rfl (Wt ?_))); refine WC.ret ?_; exact Fin.ret rfl rfl)
end
end Go.Proofs.YtalknjppnkpmmaaDoorW.Ai
