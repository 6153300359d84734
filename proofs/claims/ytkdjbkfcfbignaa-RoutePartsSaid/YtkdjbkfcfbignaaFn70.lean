/-
 Routes (chapter 7), as the small machine runs them.
-/
import Derived.Test.YtkdjbkfcfbignaaFn52
set_option linter.unusedVariables false
set_option linter.unusedSimpArgs false
set_option maxHeartbeats 4000000
set_option maxRecDepth 100000
namespace Go.Proofs.YtkdjbkfcfbignaaW.Ai
-- chorus/route.Log; g0 = chorus/oper.May; g1 = chorus/route.Logs
def rf_rtLog (g0 g1 : Nat) : RFunc :=
 ⟨23, [(.tmp 4), (.tmp 5)], (.seq (.ops [rO 2 (.box (.tmp 0)), rO 4 (.mv (.const (.int .i64 0))), rO 5 (.mv (.const (.int .i64 0)))]) (.seq (.seq (.ops [rO 6 (.load (.some 3) (.tmp 2)), rO 7 (.call (.func g0) [(.tmp 6)]), rO 8 (.un .not (.tmp 7)), rO 9 (.mv (.tmp 8)), ⟨(.some 10), (.fieldAddr 0 (.tmp 2)), (.some (9, false)), false, []⟩, ⟨(.some 11), (.load .none (.tmp 10)), (.some (9, false)), false, []⟩, ⟨(.some 12), (.bin .eql (.tmp 11) (.const (.int .i64 3))), (.some (9, false)), false, []⟩, rO 13 (.pick (.tmp 9) (.const (.bool true)) (.tmp 12)), rO 14 (.mv (.tmp 13)), ⟨(.some 15), (.mv (.tmp 1)), (.some (14, false)), false, []⟩, ⟨(.some 16), (.call (.func g1) [(.tmp 15)]), (.some (14, false)), false, []⟩, ⟨(.some 17), (.un .not (.tmp 16)), (.some (14, false)), false, []⟩, rO 18 (.pick (.tmp 14) (.const (.bool true)) (.tmp 17))]) (.cond (.tmp 18) (.seq (.ops [rO 4 (.mv (.const (.int .i64 0))), rO 5 (.mv (.const (.int .i64 700)))]) .ret) .skip)) (.seq (.ops [rO 19 (.fieldAddr 1 (.tmp 2)), rO 20 (.load .none (.tmp 19)), rO 21 (.mv (.tmp 1)), rO 22 (.bin .rem (.tmp 20) (.tmp 21)), rO 4 (.mv (.tmp 22)), rO 5 (.mv (.const (.int .i64 0)))]) .ret)))⟩
-- chorus/route.Logs
def rf_rtLogs : RFunc :=
 ⟨9, [(.tmp 2)], (.seq (.ops [rO 2 (.mv (.const (.bool false)))]) (.seq (.ops [rO 3 (.mv (.tmp 0)), rO 4 (.bin .geq (.tmp 3) (.const (.int .i64 1))), rO 5 (.mv (.tmp 4)), ⟨(.some 6), (.mv (.tmp 0)), (.some (5, true)), false, []⟩, ⟨(.some 7), (.bin .leq (.tmp 6) (.const (.int .i64 2))), (.some (5, true)), false, []⟩, rO 8 (.pick (.tmp 5) (.tmp 7) (.const (.bool false))), rO 2 (.mv (.tmp 8))]) .ret))⟩
-- chorus/route.Part; g0 = chorus/route.Logs; g1 = slices.Clone[[]int,int]
def rf_rtPart (g0 g1 : Nat) : RFunc :=
 ⟨38, [(.cell 6 (.some 4)), (.tmp 7)], (.seq (.ops [rO 3 (.box (.tmp 0)), rO 6 (.new [(.slice .none 0 0), (.slice .none 0 0), (.slice .none 0 0), (.slice .none 0 0)]), rO 7 (.mv (.const (.int .i64 0)))]) (.seq (.seq (.ops [rO 10 (.mv (.tmp 2)), rO 11 (.call (.func g0) [(.tmp 10)]), rO 12 (.un .not (.tmp 11)), rO 13 (.mv (.tmp 12)), ⟨(.some 14), (.mv (.tmp 1)), (.some (13, false)), false, []⟩, ⟨(.some 15), (.bin .lss (.tmp 14) (.const (.int .i64 0))), (.some (13, false)), false, []⟩, rO 16 (.pick (.tmp 13) (.const (.bool true)) (.tmp 15)), rO 17 (.mv (.tmp 16)), ⟨(.some 18), (.mv (.tmp 1)), (.some (17, false)), false, []⟩, ⟨(.some 19), (.mv (.tmp 2)), (.some (17, false)), false, []⟩, ⟨(.some 20), (.bin .geq (.tmp 18) (.tmp 19)), (.some (17, false)), false, []⟩, rO 21 (.pick (.tmp 17) (.const (.bool true)) (.tmp 20))]) (.cond (.tmp 21) (.seq (.ops [rO 22 (.build [(.slice .none 0 0), (.slice .none 0 0), (.slice .none 0 0), (.slice .none 0 0)] []), ⟨.none, (.store 4 (.tmp 6) (.tmp 22)), .none, false, []⟩, rO 7 (.mv (.const (.int .i64 700)))]) .ret) .skip)) (.seq (.ops [rO 8 (.new [(.slice .none 0 0), (.slice .none 0 0), (.slice .none 0 0), (.slice .none 0 0)])]) (.seq (.seq (.ops [rO 23 (.mv (.tmp 1)), rO 9 (.mv (.tmp 23))]) (.block 0 (.loop (.seq (.seq (.ops [rO 24 (.mv (.tmp 9)), rO 25 (.bin .lss (.tmp 24) (.const (.int .i64 4)))]) (.cond (.tmp 25) .skip (.exit 0))) (.seq (.block 1 (.ops [rO 29 (.mv (.tmp 9)), rO 30 (.mv (.tmp 9)), rO 31 (.fieldAddr 0 (.tmp 3)), rO 32 (.idxAddrArr 4 1 (.tmp 31) (.tmp 30)), rO 33 (.load .none (.tmp 32)), rO 34 (.call (.func g1) [(.tmp 33)]), rO 35 (.fieldAddr 0 (.tmp 8)), rO 36 (.idxAddrArr 4 1 (.tmp 35) (.tmp 29)), ⟨.none, (.store 1 (.tmp 36) (.tmp 34)), .none, false, []⟩])) (.ops [rO 26 (.mv (.tmp 9)), rO 27 (.mv (.tmp 2)), rO 28 (.bin .add (.tmp 26) (.tmp 27)), rO 9 (.mv (.tmp 28))])))))) (.seq (.ops [rO 37 (.load (.some 4) (.tmp 8)), ⟨.none, (.store 4 (.tmp 6) (.tmp 37)), .none, false, []⟩, rO 7 (.mv (.const (.int .i64 0)))]) .ret)))))⟩
section
variable (X : Ext) (F : FuncId → Option RFunc) (g : FuncId)
abbrev S_rtLogs : Prop := ∀ (lim : Nat) (h : AH) {x : Int}, Ret X F lim g [.int .i64 x] h fun v h' => Pfx h h' ∧ v = .bool (decide (1 ≤ x ∧ x ≤ 2))
abbrev S_rtLog : Prop := ∀ (lim : Nat) (h : AH) {c r a logs : Int}, (logs = 1 ∨ logs = 2) → (OpOk c r a ∧ c ≠ 3 → Ret X F lim g [.agg #[.int .i64 c, .int .i64 r, .int .i64 a], .int .i64 logs] h fun v h' => Pfx h h' ∧ v = .tuple #[.int .i64 (r % logs), .int .i64 0]) ∧ (¬ (OpOk c r a ∧ c ≠ 3) → Ret X F lim g [.agg #[.int .i64 c, .int .i64 r, .int .i64 a], .int .i64 logs] h fun v h' => Pfx h h' ∧ v = .tuple #[.int .i64 0, .int .i64 700])
abbrev S_rtPart : Prop := ∀ (lim : Nat) (h : AH) {r0 r1 r2 r3 : Row}, lim ≤ h.length → St h r0 r1 r2 r3 →
 (Ret X F lim g [stV r0 r1 r2 r3, .int .i64 0, .int .i64 1] h fun v h' => Pfx h h' ∧ MadeS h h' (fun s0 s1 s2 s3 => .tuple #[stV s0 s1 s2 s3, .int .i64 0]) ⟨r0.xs, r1.xs, r2.xs, r3.xs⟩ v) ∧
 (Ret X F lim g [stV r0 r1 r2 r3, .int .i64 0, .int .i64 2] h fun v h' => Pfx h h' ∧ MadeS h h' (fun s0 s1 s2 s3 => .tuple #[stV s0 s1 s2 s3, .int .i64 0]) ⟨r0.xs, [], r2.xs, []⟩ v) ∧
 (Ret X F lim g [stV r0 r1 r2 r3, .int .i64 1, .int .i64 2] h fun v h' => Pfx h h' ∧ MadeS h h' (fun s0 s1 s2 s3 => .tuple #[stV s0 s1 s2 s3, .int .i64 0]) ⟨[], r1.xs, [], r3.xs⟩ v)
end
section
variable {X : Ext} {F : FuncId → Option RFunc} {f : FuncId}
theorem s_rtLogs (hX : X f = none) (hF : F f = some rf_rtLogs) : S_rtLogs X F f := by
 intro lim h x
 have hL := Loc.start h
 refine Ret.body hX hF rfl ?_
 simp only [argL, rf_rtLogs]
 (refine Cs (Co (Wm rfl (Wt ?_))); refine Cs (Co (Wm rfl (Wc ?_))); refine OP.geqC rfl rfl (fun hc => ?_) (fun hc => ?_); refine Wm rfl (WO.yes rfl (Wm rfl (WO.yes rfl (Wc ?_)))); refine OP.leqC rfl rfl (fun hc => ?_) (fun hc => ?_); refine Wc (OP.pickT rfl rfl (Wm rfl (Wt ?_))); refine WC.ret ?_; exact Fin.ret rfl ⟨hL.pfx, boolT (by omega)⟩; refine Wc (OP.pickT rfl rfl (Wm rfl (Wt ?_))); refine WC.ret ?_; exact Fin.ret rfl ⟨hL.pfx, boolF (by omega)⟩; refine Wm rfl (WO.no rfl (WO.no rfl (Wc (OP.pickF rfl rfl (Wm rfl (Wt ?_)))))); refine WC.ret ?_; exact Fin.ret rfl ⟨hL.pfx, boolF (by omega)⟩)
theorem s_rtLog {g0 g1 : Nat} (hX : X f = none) (hF : F f = some (rf_rtLog g0 g1)) (d0' : S_oMay X F g0) (d1' : S_rtLogs X F g1) : S_rtLog X F f := by
 intro lim h c r a logs hlogs
 have hL := Loc.start h
 have d1 : ∀ lim h', Ret X F lim g1 [.int .i64 logs] h' fun v h'' => Pfx h' h'' ∧ v = .bool true := fun lim h' => (decide_eq_true (show 1 ≤ logs ∧ logs ≤ 2 by omega)) ▸ d1' lim h' (x := logs)
 constructor
 ·rintro ⟨ho, hc⟩
  have d0 : ∀ lim h', Ret X F lim g0 [.agg #[.int .i64 c, .int .i64 r, .int .i64 a]] h' fun v h'' => Pfx h' h'' ∧ v = .bool true := fun lim h' => (decide_eq_true ho) ▸ d0' lim h'
  have hr : 0 ≤ r ∧ r ≤ 3 := by unfold OpOk at ho; omega
  refine Ret.body hX hF rfl ?_
  simp only [argL, rf_rtLog]
  (refine Cs (Co (Wc ?_)); refine OL.boxA hL rfl rfl (fun b h' hL => (Wm rfl (Wm rfl (Wt ?_)))); refine Cs (Cs (Co (Wc (OL.loadAll (k := 0) hL rfl rfl rfl (Wc ?_))))); refine OL.callV hL rfl rfl (d0 _ _) (fun h' hp hL => (Wc (OP.not rfl (Wm rfl (WO.yes rfl (Wc (OP.fieldAddr0 rfl (WO.yes rfl (Wc (OL.load1 (k := 0) hL rfl rfl rfl (WO.yes rfl (Wc (OP.eqlF rfl rfl (by omega) ?_))))))))))))); refine Wc (OP.pickF rfl rfl (Wm rfl (WO.yes rfl (Wm rfl (WO.yes rfl (Wc ?_)))))); refine OL.callV hL rfl rfl (d1 _ _) (fun h' hp hL => (WO.yes rfl (Wc (OP.not rfl (Wc (OP.pickF rfl rfl (Wt ?_))))))); refine WC.condF rfl (Ks ?_); refine Cs (Co (Wc (OP.fieldAddr0 rfl (Wc (OL.load1 (k := 0) hL rfl rfl rfl (Wm rfl (Wc ?_))))))); refine OP.remP rfl rfl (by omega) (by omega) (fun m hm hm2 => ?_); refine Wm rfl (Wm rfl (Wt ?_)); refine WC.ret ?_)
  exact Fin.ret rfl ⟨hL.pfx, by subst hm; rfl⟩
 ·intro hno
  by_cases ho : OpOk c r a
  ·have hc : c = 3 := Classical.byContradiction fun hh => hno ⟨ho, hh⟩
   have d0 : ∀ lim h', Ret X F lim g0 [.agg #[.int .i64 c, .int .i64 r, .int .i64 a]] h' fun v h'' => Pfx h' h'' ∧ v = .bool true := fun lim h' => (decide_eq_true ho) ▸ d0' lim h'
   refine Ret.body hX hF rfl ?_
   simp only [argL, rf_rtLog]
   (refine Cs (Co (Wc ?_)); refine OL.boxA hL rfl rfl (fun b h' hL => (Wm rfl (Wm rfl (Wt ?_)))); refine Cs (Cs (Co (Wc (OL.loadAll (k := 0) hL rfl rfl rfl (Wc ?_))))); refine OL.callV hL rfl rfl (d0 _ _) (fun h' hp hL => (Wc (OP.not rfl (Wm rfl (WO.yes rfl (Wc (OP.fieldAddr0 rfl (WO.yes rfl (Wc (OL.load1 (k := 0) hL rfl rfl rfl (WO.yes rfl (Wc (OP.eqlT rfl rfl (by omega) ?_))))))))))))); refine Wc (OP.pickF rfl rfl (Wm rfl (WO.no rfl (WO.no rfl (WO.no rfl (Wc (OP.pickT rfl rfl (Wt ?_)))))))); refine WC.condT rfl (Cs (Co (Wm rfl (Wm rfl (Wt ?_))))); refine WC.ret ?_; dsimp only [zn, zr, zx, yn, yr]; exact Fin.ret rfl ⟨hL.pfx, rfl⟩)
  ·have d0 : ∀ lim h', Ret X F lim g0 [.agg #[.int .i64 c, .int .i64 r, .int .i64 a]] h' fun v h'' => Pfx h' h'' ∧ v = .bool false := fun lim h' => (decide_eq_false ho) ▸ d0' lim h'
   refine Ret.body hX hF rfl ?_
   simp only [argL, rf_rtLog]
   (refine Cs (Co (Wc ?_)); refine OL.boxA hL rfl rfl (fun b h' hL => (Wm rfl (Wm rfl (Wt ?_)))); refine Cs (Cs (Co (Wc (OL.loadAll (k := 0) hL rfl rfl rfl (Wc ?_))))); refine OL.callV hL rfl rfl (d0 _ _) (fun h' hp hL => (Wc (OP.not rfl (Wm rfl (WO.no rfl (WO.no rfl (WO.no rfl (Wc (OP.pickT rfl rfl (Wm rfl (WO.no rfl (WO.no rfl (WO.no rfl (Wc (OP.pickT rfl rfl (Wt ?_)))))))))))))))); refine WC.condT rfl (Cs (Co (Wm rfl (Wm rfl (Wt ?_))))); refine WC.ret ?_; dsimp only [zn, zr, zx, yn, yr]; exact Fin.ret rfl ⟨hL.pfx, rfl⟩)
theorem s_rtPart {g0 g1 : Nat} (hX : X f = none) (hF : F f = some (rf_rtPart g0 g1)) (d0' : S_rtLogs X F g0) (hX1 : X g1 = none) (hF1 : F g1 = some rf_Clone) : S_rtPart X F f := by
 intro lim h r0 r1 r2 r3 hlim hst
 have hL := Loc.start h
 obtain ⟨⟨s0, l0⟩, ⟨s1, l1⟩, ⟨s2, l2⟩, ⟨s3, l3⟩⟩ := id hst
 have d1 : ∀ lim h', Ret X F lim g0 [.int .i64 1] h' fun v h'' => Pfx h' h'' ∧ v = .bool true := fun lim h' => d0' lim h'
 have d2 : ∀ lim h', Ret X F lim g0 [.int .i64 2] h' fun v h'' => Pfx h' h'' ∧ v = .bool true := fun lim h' => d0' lim h'
 refine ⟨?_, ?_, ?_⟩
 ·refine Ret.body hX hF rfl ?_
  simp only [argL, rf_rtPart]
  (refine Cs (Co (Wc ?_)); refine OL.boxA hL rfl rfl (fun b h' hL => (Wc ?_)); refine OL.new hL (fun b h' hL => (Wm rfl (Wt ?_))); refine Cs (Cs (Co (Wm rfl (Wc ?_)))); refine OL.callV hL rfl rfl (d1 _ _) (fun h' hp hL => (Wc (OP.not rfl (Wm rfl (WO.yes rfl (Wm rfl (WO.yes rfl (Wc (OP.lssF rfl rfl (by omega) ?_))))))))); refine Wc (OP.pickF rfl rfl (Wm rfl (WO.yes rfl (Wm rfl (WO.yes rfl (Wm rfl (WO.yes rfl (Wc (OP.geqF rfl rfl (by omega) ?_))))))))); refine Wc (OP.pickF rfl rfl (Wt ?_)); refine WC.condF rfl (Ks ?_); refine Cs (Co (Wc ?_)); refine OL.new hL (fun b h' hL => (Wt ?_)); refine Cs (Cs (Co (Wm rfl (Wm rfl (Wt ?_))))); refine WC.block ?_)
  refine WC.unroll ?_
  (refine Cs (Cs (Co (Wm rfl (Wc (OP.lssT rfl rfl (by omega) ?_))))); refine Wt ?_; refine WC.condT rfl (Ks ?_); refine Cs (WC.block (Co (Wm rfl (Wm rfl (Wc (OP.fieldAddr0 rfl (Wc (OP.idxArrZ rfl rfl (by decide) (by simp only [Int.reduceToNat, Nat.mul_one, Nat.zero_add, Nat.reduceMul, Nat.reduceAdd]; rfl) ?_)))))))); refine Wc (OL.load1 (k := 2) hL rfl rfl rfl ?_))
  (refine Wc ?_)
  refine OL.callAp hL rfl rfl (Clone_run hX1 hF1 (s0.pfx hL.pfx) l0) (fun a0 h' hp hL => ?_)
  (refine Wc (OP.fieldAddr0 rfl (Wc (OP.idxArrZ rfl rfl (by decide) (by simp only [Int.reduceToNat, Nat.mul_one, Nat.zero_add, Nat.reduceMul, Nat.reduceAdd]; rfl) ?_))); refine WO.cons0 ?_; refine OL.store1 (k := 1) hL hlim rfl rfl rfl rfl rfl rfl rfl (fun h' hL => ?_); dsimp only [List.set, Nat.zero_add, Nat.reduceAdd, Nat.reduceMul] at hL; refine Wt ?_; refine Co (Wm rfl (Wm rfl (Wc (OP.addL rfl rfl (by simp only [Int.reduceAdd]; rfl) (by decide) ?_)))); refine Wm rfl (Wt ?_))
  refine WC.unroll ?_
  (refine Cs (Cs (Co (Wm rfl (Wc (OP.lssT rfl rfl (by omega) ?_))))); refine Wt ?_; refine WC.condT rfl (Ks ?_); refine Cs (WC.block (Co (Wm rfl (Wm rfl (Wc (OP.fieldAddr0 rfl (Wc (OP.idxArrZ rfl rfl (by decide) (by simp only [Int.reduceToNat, Nat.mul_one, Nat.zero_add, Nat.reduceMul, Nat.reduceAdd]; rfl) ?_)))))))); refine Wc (OL.load1 (k := 3) hL rfl rfl rfl ?_))
  (refine Wc ?_)
  refine OL.callAp hL rfl rfl (Clone_run hX1 hF1 (s1.pfx hL.pfx) l1) (fun a1 h' hp hL => ?_)
  (refine Wc (OP.fieldAddr0 rfl (Wc (OP.idxArrZ rfl rfl (by decide) (by simp only [Int.reduceToNat, Nat.mul_one, Nat.zero_add, Nat.reduceMul, Nat.reduceAdd]; rfl) ?_))); refine WO.cons0 ?_; refine OL.store1 (k := 2) hL hlim rfl rfl rfl rfl rfl rfl rfl (fun h' hL => ?_); dsimp only [List.set, Nat.zero_add, Nat.reduceAdd, Nat.reduceMul] at hL; refine Wt ?_; refine Co (Wm rfl (Wm rfl (Wc (OP.addL rfl rfl (by simp only [Int.reduceAdd]; rfl) (by decide) ?_)))); refine Wm rfl (Wt ?_))
  refine WC.unroll ?_
  (refine Cs (Cs (Co (Wm rfl (Wc (OP.lssT rfl rfl (by omega) ?_))))); refine Wt ?_; refine WC.condT rfl (Ks ?_); refine Cs (WC.block (Co (Wm rfl (Wm rfl (Wc (OP.fieldAddr0 rfl (Wc (OP.idxArrZ rfl rfl (by decide) (by simp only [Int.reduceToNat, Nat.mul_one, Nat.zero_add, Nat.reduceMul, Nat.reduceAdd]; rfl) ?_)))))))); refine Wc (OL.load1 (k := 4) hL rfl rfl rfl ?_))
  (refine Wc ?_)
  refine OL.callAp hL rfl rfl (Clone_run hX1 hF1 (s2.pfx hL.pfx) l2) (fun a2 h' hp hL => ?_)
  (refine Wc (OP.fieldAddr0 rfl (Wc (OP.idxArrZ rfl rfl (by decide) (by simp only [Int.reduceToNat, Nat.mul_one, Nat.zero_add, Nat.reduceMul, Nat.reduceAdd]; rfl) ?_))); refine WO.cons0 ?_; refine OL.store1 (k := 3) hL hlim rfl rfl rfl rfl rfl rfl rfl (fun h' hL => ?_); dsimp only [List.set, Nat.zero_add, Nat.reduceAdd, Nat.reduceMul] at hL; refine Wt ?_; refine Co (Wm rfl (Wm rfl (Wc (OP.addL rfl rfl (by simp only [Int.reduceAdd]; rfl) (by decide) ?_)))); refine Wm rfl (Wt ?_))
  refine WC.unroll ?_
  (refine Cs (Cs (Co (Wm rfl (Wc (OP.lssT rfl rfl (by omega) ?_))))); refine Wt ?_; refine WC.condT rfl (Ks ?_); refine Cs (WC.block (Co (Wm rfl (Wm rfl (Wc (OP.fieldAddr0 rfl (Wc (OP.idxArrZ rfl rfl (by decide) (by simp only [Int.reduceToNat, Nat.mul_one, Nat.zero_add, Nat.reduceMul, Nat.reduceAdd]; rfl) ?_)))))))); refine Wc (OL.load1 (k := 5) hL rfl rfl rfl ?_))
  (refine Wc ?_)
  refine OL.callAp hL rfl rfl (Clone_run hX1 hF1 (s3.pfx hL.pfx) l3) (fun a3 h' hp hL => ?_)
  (refine Wc (OP.fieldAddr0 rfl (Wc (OP.idxArrZ rfl rfl (by decide) (by simp only [Int.reduceToNat, Nat.mul_one, Nat.zero_add, Nat.reduceMul, Nat.reduceAdd]; rfl) ?_))); refine WO.cons0 ?_; refine OL.store1 (k := 4) hL hlim rfl rfl rfl rfl rfl rfl rfl (fun h' hL => ?_); dsimp only [List.set, Nat.zero_add, Nat.reduceAdd, Nat.reduceMul] at hL; refine Wt ?_; refine Co (Wm rfl (Wm rfl (Wc (OP.addL rfl rfl (by simp only [Int.reduceAdd]; rfl) (by decide) ?_)))); refine Wm rfl (Wt ?_))
  refine WC.unroll ?_
  (refine Cs (Cs (Co (Wm rfl (Wc (OP.lssF rfl rfl (by omega) ?_))))); refine Wt ?_; refine WC.condF rfl (WC.exit ?_); dsimp only [zn, zr, zx, yn, yr]; rw [yx, if_pos rfl]; dsimp only [zn, zr, zx, yn, yr]; refine Cs (Co (Wc (OL.loadAll (k := 4) hL rfl rfl rfl (WO.cons0 ?_)))); refine OL.storeAll (k := 5) hL hlim rfl rfl rfl rfl rfl rfl (by decide) rfl (fun h' hL => ?_); dsimp only [List.set, Nat.zero_add, Nat.reduceAdd, Nat.reduceMul] at hL; refine Wm rfl (Wt ?_); refine WC.ret ?_)
  have A0 := hL.rowAp (n := r0.n) (xs := r0.xs) (by repeat (first | exact mh | apply mt)) l0
  have A1 := hL.rowAp (n := r1.n) (xs := r1.xs) (by repeat (first | exact mh | apply mt)) l1
  have A2 := hL.rowAp (n := r2.n) (xs := r2.xs) (by repeat (first | exact mh | apply mt)) l2
  have A3 := hL.rowAp (n := r3.n) (xs := r3.xs) (by repeat (first | exact mh | apply mt)) l3
  exact Fin.ret (resL_cell rfl (hL.cell (k := 5) rfl) rfl rfl) ⟨hL.pfx, ⟨a0, r0.n, r0.xs⟩, ⟨a1, r1.n, r1.xs⟩, ⟨a2, r2.n, r2.xs⟩, ⟨a3, r3.n, r3.xs⟩, rfl, ⟨rfl, rfl, rfl, rfl⟩, ⟨A0.1, A1.1, A2.1, A3.1⟩, A0.2, A1.2, A2.2, A3.2⟩
 ·refine Ret.body hX hF rfl ?_
  simp only [argL, rf_rtPart]
  (refine Cs (Co (Wc ?_)); refine OL.boxA hL rfl rfl (fun b h' hL => (Wc ?_)); refine OL.new hL (fun b h' hL => (Wm rfl (Wt ?_))); refine Cs (Cs (Co (Wm rfl (Wc ?_)))); refine OL.callV hL rfl rfl (d2 _ _) (fun h' hp hL => (Wc (OP.not rfl (Wm rfl (WO.yes rfl (Wm rfl (WO.yes rfl (Wc (OP.lssF rfl rfl (by omega) ?_))))))))); refine Wc (OP.pickF rfl rfl (Wm rfl (WO.yes rfl (Wm rfl (WO.yes rfl (Wm rfl (WO.yes rfl (Wc (OP.geqF rfl rfl (by omega) ?_))))))))); refine Wc (OP.pickF rfl rfl (Wt ?_)); refine WC.condF rfl (Ks ?_); refine Cs (Co (Wc ?_)); refine OL.new hL (fun b h' hL => (Wt ?_)); refine Cs (Cs (Co (Wm rfl (Wm rfl (Wt ?_))))); refine WC.block ?_)
  refine WC.unroll ?_
  (refine Cs (Cs (Co (Wm rfl (Wc (OP.lssT rfl rfl (by omega) ?_))))); refine Wt ?_; refine WC.condT rfl (Ks ?_); refine Cs (WC.block (Co (Wm rfl (Wm rfl (Wc (OP.fieldAddr0 rfl (Wc (OP.idxArrZ rfl rfl (by decide) (by simp only [Int.reduceToNat, Nat.mul_one, Nat.zero_add, Nat.reduceMul, Nat.reduceAdd]; rfl) ?_)))))))); refine Wc (OL.load1 (k := 2) hL rfl rfl rfl ?_))
  (refine Wc ?_)
  refine OL.callAp hL rfl rfl (Clone_run hX1 hF1 (s0.pfx hL.pfx) l0) (fun a0 h' hp hL => ?_)
  (refine Wc (OP.fieldAddr0 rfl (Wc (OP.idxArrZ rfl rfl (by decide) (by simp only [Int.reduceToNat, Nat.mul_one, Nat.zero_add, Nat.reduceMul, Nat.reduceAdd]; rfl) ?_))); refine WO.cons0 ?_; refine OL.store1 (k := 1) hL hlim rfl rfl rfl rfl rfl rfl rfl (fun h' hL => ?_); dsimp only [List.set, Nat.zero_add, Nat.reduceAdd, Nat.reduceMul] at hL; refine Wt ?_; refine Co (Wm rfl (Wm rfl (Wc (OP.addL rfl rfl (by simp only [Int.reduceAdd]; rfl) (by decide) ?_)))); refine Wm rfl (Wt ?_))
  refine WC.unroll ?_
  (refine Cs (Cs (Co (Wm rfl (Wc (OP.lssT rfl rfl (by omega) ?_))))); refine Wt ?_; refine WC.condT rfl (Ks ?_); refine Cs (WC.block (Co (Wm rfl (Wm rfl (Wc (OP.fieldAddr0 rfl (Wc (OP.idxArrZ rfl rfl (by decide) (by simp only [Int.reduceToNat, Nat.mul_one, Nat.zero_add, Nat.reduceMul, Nat.reduceAdd]; rfl) ?_)))))))); refine Wc (OL.load1 (k := 3) hL rfl rfl rfl ?_))
  (refine Wc ?_)
  refine OL.callAp hL rfl rfl (Clone_run hX1 hF1 (s2.pfx hL.pfx) l2) (fun a2 h' hp hL => ?_)
  (refine Wc (OP.fieldAddr0 rfl (Wc (OP.idxArrZ rfl rfl (by decide) (by simp only [Int.reduceToNat, Nat.mul_one, Nat.zero_add, Nat.reduceMul, Nat.reduceAdd]; rfl) ?_))); refine WO.cons0 ?_; refine OL.store1 (k := 2) hL hlim rfl rfl rfl rfl rfl rfl rfl (fun h' hL => ?_); dsimp only [List.set, Nat.zero_add, Nat.reduceAdd, Nat.reduceMul] at hL; refine Wt ?_; refine Co (Wm rfl (Wm rfl (Wc (OP.addL rfl rfl (by simp only [Int.reduceAdd]; rfl) (by decide) ?_)))); refine Wm rfl (Wt ?_))
  refine WC.unroll ?_
  (refine Cs (Cs (Co (Wm rfl (Wc (OP.lssF rfl rfl (by omega) ?_))))); refine Wt ?_; refine WC.condF rfl (WC.exit ?_); dsimp only [zn, zr, zx, yn, yr]; rw [yx, if_pos rfl]; dsimp only [zn, zr, zx, yn, yr]; refine Cs (Co (Wc (OL.loadAll (k := 2) hL rfl rfl rfl (WO.cons0 ?_)))); refine OL.storeAll (k := 3) hL hlim rfl rfl rfl rfl rfl rfl (by decide) rfl (fun h' hL => ?_); dsimp only [List.set, Nat.zero_add, Nat.reduceAdd, Nat.reduceMul] at hL; refine Wm rfl (Wt ?_); refine WC.ret ?_)
  have A0 := hL.rowAp (n := r0.n) (xs := r0.xs) (by repeat (first | exact mh | apply mt)) l0
  have A2 := hL.rowAp (n := r2.n) (xs := r2.xs) (by repeat (first | exact mh | apply mt)) l2
  exact Fin.ret (resL_cell rfl (hL.cell (k := 3) rfl) rfl rfl) ⟨hL.pfx, ⟨a0, r0.n, r0.xs⟩, nilRow, ⟨a2, r2.n, r2.xs⟩, nilRow, rfl, ⟨rfl, rfl, rfl, rfl⟩, ⟨A0.1, nilRow_ok _, A2.1, nilRow_ok _⟩, A0.2, nilRow_in _ _, A2.2, nilRow_in _ _⟩
 ·refine Ret.body hX hF rfl ?_
  simp only [argL, rf_rtPart]
  (refine Cs (Co (Wc ?_)); refine OL.boxA hL rfl rfl (fun b h' hL => (Wc ?_)); refine OL.new hL (fun b h' hL => (Wm rfl (Wt ?_))); refine Cs (Cs (Co (Wm rfl (Wc ?_)))); refine OL.callV hL rfl rfl (d2 _ _) (fun h' hp hL => (Wc (OP.not rfl (Wm rfl (WO.yes rfl (Wm rfl (WO.yes rfl (Wc (OP.lssF rfl rfl (by omega) ?_))))))))); refine Wc (OP.pickF rfl rfl (Wm rfl (WO.yes rfl (Wm rfl (WO.yes rfl (Wm rfl (WO.yes rfl (Wc (OP.geqF rfl rfl (by omega) ?_))))))))); refine Wc (OP.pickF rfl rfl (Wt ?_)); refine WC.condF rfl (Ks ?_); refine Cs (Co (Wc ?_)); refine OL.new hL (fun b h' hL => (Wt ?_)); refine Cs (Cs (Co (Wm rfl (Wm rfl (Wt ?_))))); refine WC.block ?_)
  refine WC.unroll ?_
  (refine Cs (Cs (Co (Wm rfl (Wc (OP.lssT rfl rfl (by omega) ?_))))); refine Wt ?_; refine WC.condT rfl (Ks ?_); refine Cs (WC.block (Co (Wm rfl (Wm rfl (Wc (OP.fieldAddr0 rfl (Wc (OP.idxArrZ rfl rfl (by decide) (by simp only [Int.reduceToNat, Nat.mul_one, Nat.zero_add, Nat.reduceMul, Nat.reduceAdd]; rfl) ?_)))))))); refine Wc (OL.load1 (k := 2) hL rfl rfl rfl ?_))
  (refine Wc ?_)
  refine OL.callAp hL rfl rfl (Clone_run hX1 hF1 (s1.pfx hL.pfx) l1) (fun a1 h' hp hL => ?_)
  (refine Wc (OP.fieldAddr0 rfl (Wc (OP.idxArrZ rfl rfl (by decide) (by simp only [Int.reduceToNat, Nat.mul_one, Nat.zero_add, Nat.reduceMul, Nat.reduceAdd]; rfl) ?_))); refine WO.cons0 ?_; refine OL.store1 (k := 1) hL hlim rfl rfl rfl rfl rfl rfl rfl (fun h' hL => ?_); dsimp only [List.set, Nat.zero_add, Nat.reduceAdd, Nat.reduceMul] at hL; refine Wt ?_; refine Co (Wm rfl (Wm rfl (Wc (OP.addL rfl rfl (by simp only [Int.reduceAdd]; rfl) (by decide) ?_)))); refine Wm rfl (Wt ?_))
  refine WC.unroll ?_
  (refine Cs (Cs (Co (Wm rfl (Wc (OP.lssT rfl rfl (by omega) ?_))))); refine Wt ?_; refine WC.condT rfl (Ks ?_); refine Cs (WC.block (Co (Wm rfl (Wm rfl (Wc (OP.fieldAddr0 rfl (Wc (OP.idxArrZ rfl rfl (by decide) (by simp only [Int.reduceToNat, Nat.mul_one, Nat.zero_add, Nat.reduceMul, Nat.reduceAdd]; rfl) ?_)))))))); refine Wc (OL.load1 (k := 3) hL rfl rfl rfl ?_))
  (refine Wc ?_)
  refine OL.callAp hL rfl rfl (Clone_run hX1 hF1 (s3.pfx hL.pfx) l3) (fun a3 h' hp hL => ?_)
  (refine Wc (OP.fieldAddr0 rfl (Wc (OP.idxArrZ rfl rfl (by decide) (by simp only [Int.reduceToNat, Nat.mul_one, Nat.zero_add, Nat.reduceMul, Nat.reduceAdd]; rfl) ?_))); refine WO.cons0 ?_; refine OL.store1 (k := 2) hL hlim rfl rfl rfl rfl rfl rfl rfl (fun h' hL => ?_); dsimp only [List.set, Nat.zero_add, Nat.reduceAdd, Nat.reduceMul] at hL; refine Wt ?_; refine Co (Wm rfl (Wm rfl (Wc (OP.addL rfl rfl (by simp only [Int.reduceAdd]; rfl) (by decide) ?_)))); refine Wm rfl (Wt ?_))
  refine WC.unroll ?_
  (refine Cs (Cs (Co (Wm rfl (Wc (OP.lssF rfl rfl (by omega) ?_))))); refine Wt ?_; refine WC.condF rfl (WC.exit ?_); dsimp only [zn, zr, zx, yn, yr]; rw [yx, if_pos rfl]; dsimp only [zn, zr, zx, yn, yr]; refine Cs (Co (Wc (OL.loadAll (k := 2) hL rfl rfl rfl (WO.cons0 ?_)))); refine OL.storeAll (k := 3) hL hlim rfl rfl rfl rfl rfl rfl (by decide) rfl (fun h' hL => ?_); dsimp only [List.set, Nat.zero_add, Nat.reduceAdd, Nat.reduceMul] at hL; refine Wm rfl (Wt ?_); refine WC.ret ?_)
  have A1 := hL.rowAp (n := r1.n) (xs := r1.xs) (by repeat (first | exact mh | apply mt)) l1
  have A3 := hL.rowAp (n := r3.n) (xs := r3.xs) (by repeat (first | exact mh | apply mt)) l3
  exact Fin.ret (resL_cell rfl (hL.cell (k := 3) rfl) rfl rfl) ⟨hL.pfx, nilRow, ⟨a1, r1.n, r1.xs⟩, nilRow, ⟨a3, r3.n, r3.xs⟩, rfl, ⟨rfl, rfl, rfl, rfl⟩, ⟨nilRow_ok _, A1.1, nilRow_ok _, A3.1⟩, nilRow_in _ _, A1.2, nilRow_in _ _, A3.2⟩
end
end Go.Proofs.YtkdjbkfcfbignaaW.Ai
