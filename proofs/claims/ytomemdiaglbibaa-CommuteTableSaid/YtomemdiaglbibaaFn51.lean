/-
 An object (chapter 6), as the small machine runs it: what an operation does.
-/
import Derived.Test.YtomemdiaglbibaaFn50
set_option linter.unusedVariables false
set_option linter.unusedSimpArgs false
set_option maxHeartbeats 4000000
set_option maxRecDepth 100000
namespace Go.Proofs.YtomemdiaglbibaaW.Ai
section
variable (X : Ext) (F : FuncId → Option RFunc) (g : FuncId)
abbrev S_oApply : Prop := ∀ (lim : Nat) (h : AH) {r0 r1 r2 r3 : Row} {ob c r a : Int}, lim ≤ h.length → St h r0 r1 r2 r3 → Ret X F lim g [.int .i64 ob, stV r0 r1 r2 r3, .agg #[.int .i64 c, .int .i64 r, .int .i64 a]] h fun v h' => Pfx h h' ∧ MadeS h h' (fun s0 s1 s2 s3 => .tuple #[stV s0 s1 s2 s3, .int .i64 (ObjM 600 ob ⟨r0.xs, r1.xs, r2.xs, r3.xs⟩ c r a).2.1, .int .i64 (ObjM 600 ob ⟨r0.xs, r1.xs, r2.xs, r3.xs⟩ c r a).2.2]) (ObjM 600 ob ⟨r0.xs, r1.xs, r2.xs, r3.xs⟩ c r a).1 v
end
theorem ObjM_x {e ob : Int} (h : ob < 0 ∨ ob > 2) (s : S4) (c r a : Int) : ObjM e ob s c r a = (S4.none, 0, e) := (if_neg (by omega)).trans ((if_neg (by omega)).trans (if_neg (by omega)))
theorem ObMay_x {ob : Int} (h : ob < 0 ∨ ob > 2) (s : S4) : ¬ ObMay ob s := by unfold ObMay; omega
theorem ObMay_0 (s : S4) : ObMay 0 s ↔ StoreOk s := by simp [ObMay]
theorem ObMay_1 (s : S4) : ObMay 1 s ↔ TabOk s := by simp [ObMay]
theorem ObMay_2 (s : S4) : ObMay 2 s ↔ QueueOk s := by simp [ObMay]
section
variable {X : Ext} {F : FuncId → Option RFunc} {f : FuncId}
theorem s_oApply {g0 g1 g2 g3 : Nat} (hX : X f = none) (hF : F f = some (rf_oApply g0 g1 g2 g3)) (d0' : S_oIs X F g0) (d1' : S_tStore X F g1) (d2' : S_tFds X F g2) (d3' : S_tQueue X F g3) : S_oApply X F f := by
 intro lim h r0 r1 r2 r3 ob c r a hlim hst
 have hL := Loc.start h
 refine Ret.body hX hF rfl ?_
 simp only [argL, rf_oApply]
 by_cases hob : 0 ≤ ob ∧ ob ≤ 2
 ·have ho3 : ob = 0 ∨ ob = 1 ∨ ob = 2 := by omega
  rcases ho3 with rfl | rfl | rfl
  ·have d0 : ∀ lim h', Ret X F lim g0 [.int .i64 0] h' fun v h'' => Pfx h' h'' ∧ v = .bool true := fun lim h' => d0' lim h'
   have hO : ObjM 600 0 ⟨r0.xs, r1.xs, r2.xs, r3.xs⟩ c r a = if (StoreM 300 ⟨r0.xs, r1.xs, r2.xs, r3.xs⟩ c r a).2.2 ≠ 0 then (S4.none, 0, 600) else StoreM 300 ⟨r0.xs, r1.xs, r2.xs, r3.xs⟩ c r a := by
    rw [← StoreM_up (by decide)]
    rfl
   rw [hO]
   clear hO
   generalize hN : StoreM 300 ⟨r0.xs, r1.xs, r2.xs, r3.xs⟩ c r a = N
   have d4 : ∀ (lim : Nat) (h' : AH), lim ≤ h'.length → St h' r0 r1 r2 r3 → Ret X F lim g1 [.agg #[r0.v, r1.v, r2.v, r3.v, .int .i64 c, .int .i64 r, .int .i64 a]] h' fun v h'' => Pfx h' h'' ∧ MadeS h' h'' (fun s0 s1 s2 s3 => .tuple #[stV s0 s1 s2 s3, .int .i64 N.2.1, .int .i64 N.2.2]) N.1 v := fun lim h' h1 h2 => hN ▸ d1' lim h' h1 h2
   obtain ⟨s, x, e⟩ := N
   clear hN
   dsimp only at d4 ⊢
   by_cases he : e = 0
   ·subst he
    rw [if_neg (fun q => q rfl)]
    (refine Cs (Co (Wc ?_)); refine OL.boxA hL rfl rfl (fun b h' hL => (Wc ?_)); refine OL.boxA hL rfl rfl (fun b h' hL => (Wc ?_)); refine OL.new hL (fun b h' hL => (Wm rfl (Wm rfl (Wt ?_)))); refine Cs (Cs (Co (Wm rfl (Wc ?_)))); refine OL.callV hL rfl rfl (d0 _ _) (fun h' hp hL => (Wc (OP.not rfl (Wt ?_)))); refine WC.condF rfl (Ks ?_); refine Cs (Co (Wc (OP.buildN rfl (by simp [over, Value.cells]; rfl) ?_))); refine Wc ?_; refine OL.new hL (fun b h' hL => (WO.cons0 ?_)); refine OL.storeAll (k := 0) hL hlim rfl rfl rfl rfl rfl rfl (by decide) rfl (fun h' hL => ?_); dsimp only [List.set, Nat.zero_add, Nat.reduceAdd, Nat.reduceMul] at hL; refine Wt ?_; refine Cs (Co (WO.consQ (OP.mv rfl (WO.consQ (OP.idxArrZ rfl rfl (by decide) (by simp only [Int.reduceToNat, Nat.mul_one, Nat.zero_add, Nat.reduceMul, Nat.reduceAdd]; rfl) ?_))))); refine WO.consQ (OL.load1 (k := 0) hL rfl rfl rfl (WO.consQ (OL.loadAll (k := 3) hL rfl rfl rfl (WO.consQ (OL.loadAll (k := 2) hL rfl rfl rfl (WO.consQ (OP.buildN rfl (by simp [over, Value.cells]; rfl) ?_))))))))
    (refine WO.consQ ?_)
    refine OL.callSt hL rfl rfl (d4 _ _ (by first | exact hL.lm hlim | exact Nat.le_refl _) (hst.pfx hL.pfx)) (fun a0 n0 a1 n1 a2 n2 a3 n3 h' hy hp hL => ?_)
    (try dsimp only at hL ⊢)
    (refine WO.consQ (OP.mv rfl (WO.consQ (OP.extract rfl rfl (WO.consQ (OP.extract rfl rfl (WO.consQ (OP.extract rfl rfl (WO.consQ ?_)))))))); refine OL.new hL (fun b h' hL => (WO.cons0 ?_)); refine OL.storeAll (k := 0) hL hlim rfl rfl rfl rfl rfl rfl (by decide) rfl (fun h' hL => ?_); dsimp only [List.set, Nat.zero_add, Nat.reduceAdd, Nat.reduceMul] at hL; refine Wm rfl (Wm rfl (Wt ?_)); refine Cs (Cs (Co (Wm rfl (Wc (OP.neqF rfl rfl (by omega) ?_))))); refine Wt ?_; refine WC.condF rfl (Ks ?_); refine Cs (Co (Wc (OL.loadAll (k := 0) hL rfl rfl rfl (Wm rfl (WO.cons0 ?_))))); refine OL.storeAll (k := 3) hL hlim rfl rfl rfl rfl rfl rfl (by decide) rfl (fun h' hL => ?_); dsimp only [List.set, Nat.zero_add, Nat.reduceAdd, Nat.reduceMul] at hL; refine Wm rfl (Wm rfl (Wt ?_)); refine WC.ret ?_)
    have hw := hL.stOut (r0 := ⟨a0, n0, s.x0⟩) (r1 := ⟨a1, n1, s.x1⟩) (r2 := ⟨a2, n2, s.x2⟩) (r3 := ⟨a3, n3, s.x3⟩) (by repeat (first | exact mh | apply mt))
    exact Fin.ret (resL_cell rfl (hL.cell (k := 3) rfl) rfl rfl) ⟨hL.pfx, _, _, _, _, rfl, ⟨rfl, rfl, rfl, rfl⟩, hw.1, hw.2⟩
   ·rw [if_pos he]
    (refine Cs (Co (Wc ?_)); refine OL.boxA hL rfl rfl (fun b h' hL => (Wc ?_)); refine OL.boxA hL rfl rfl (fun b h' hL => (Wc ?_)); refine OL.new hL (fun b h' hL => (Wm rfl (Wm rfl (Wt ?_)))); refine Cs (Cs (Co (Wm rfl (Wc ?_)))); refine OL.callV hL rfl rfl (d0 _ _) (fun h' hp hL => (Wc (OP.not rfl (Wt ?_)))); refine WC.condF rfl (Ks ?_); refine Cs (Co (Wc (OP.buildN rfl (by simp [over, Value.cells]; rfl) ?_))); refine Wc ?_; refine OL.new hL (fun b h' hL => (WO.cons0 ?_)); refine OL.storeAll (k := 0) hL hlim rfl rfl rfl rfl rfl rfl (by decide) rfl (fun h' hL => ?_); dsimp only [List.set, Nat.zero_add, Nat.reduceAdd, Nat.reduceMul] at hL; refine Wt ?_; refine Cs (Co (WO.consQ (OP.mv rfl (WO.consQ (OP.idxArrZ rfl rfl (by decide) (by simp only [Int.reduceToNat, Nat.mul_one, Nat.zero_add, Nat.reduceMul, Nat.reduceAdd]; rfl) ?_))))); refine WO.consQ (OL.load1 (k := 0) hL rfl rfl rfl (WO.consQ (OL.loadAll (k := 3) hL rfl rfl rfl (WO.consQ (OL.loadAll (k := 2) hL rfl rfl rfl (WO.consQ (OP.buildN rfl (by simp [over, Value.cells]; rfl) ?_))))))))
    (refine WO.consQ ?_)
    refine OL.callSt hL rfl rfl (d4 _ _ (by first | exact hL.lm hlim | exact Nat.le_refl _) (hst.pfx hL.pfx)) (fun a0 n0 a1 n1 a2 n2 a3 n3 h' hy hp hL => ?_)
    (try dsimp only at hL ⊢)
    (refine WO.consQ (OP.mv rfl (WO.consQ (OP.extract rfl rfl (WO.consQ (OP.extract rfl rfl (WO.consQ (OP.extract rfl rfl (WO.consQ ?_)))))))); refine OL.new hL (fun b h' hL => (WO.cons0 ?_)); refine OL.storeAll (k := 0) hL hlim rfl rfl rfl rfl rfl rfl (by decide) rfl (fun h' hL => ?_); dsimp only [List.set, Nat.zero_add, Nat.reduceAdd, Nat.reduceMul] at hL; refine Wm rfl (Wm rfl (Wt ?_)); refine Cs (Cs (Co (Wm rfl (Wc (OP.neqT rfl rfl (by omega) ?_))))); refine Wt ?_; refine WC.condT rfl (Cs (Co (Wc (OP.buildN rfl rfl (WO.cons0 ?_))))); refine OL.storeAll (k := 3) hL hlim rfl rfl rfl rfl rfl rfl (by decide) rfl (fun h' hL => ?_); dsimp only [List.set, Nat.zero_add, Nat.reduceAdd, Nat.reduceMul] at hL; refine Wm rfl (Wm rfl (Wt ?_)); refine WC.ret ?_; dsimp only [zn, zr, zx, yn, yr])
    exact Fin.ret (resL_cell rfl (hL.cell (k := 3) rfl) rfl rfl) ⟨hL.pfx, nilRow, nilRow, nilRow, nilRow, rfl, ⟨rfl, rfl, rfl, rfl⟩, nilSt _, nilIn _ _⟩
  ·have d0 : ∀ lim h', Ret X F lim g0 [.int .i64 1] h' fun v h'' => Pfx h' h'' ∧ v = .bool true := fun lim h' => d0' lim h'
   have hO : ObjM 600 1 ⟨r0.xs, r1.xs, r2.xs, r3.xs⟩ c r a = if (FdsM 400 ⟨r0.xs, r1.xs, r2.xs, r3.xs⟩ c r a).2.2 ≠ 0 then (S4.none, 0, 600) else FdsM 400 ⟨r0.xs, r1.xs, r2.xs, r3.xs⟩ c r a := by
    rw [← FdsM_up (by decide)]
    rfl
   rw [hO]
   clear hO
   generalize hN : FdsM 400 ⟨r0.xs, r1.xs, r2.xs, r3.xs⟩ c r a = N
   have d4 : ∀ (lim : Nat) (h' : AH), lim ≤ h'.length → St h' r0 r1 r2 r3 → Ret X F lim g2 [.agg #[r0.v, r1.v, r2.v, r3.v, .int .i64 c, .int .i64 r, .int .i64 a]] h' fun v h'' => Pfx h' h'' ∧ MadeS h' h'' (fun s0 s1 s2 s3 => .tuple #[stV s0 s1 s2 s3, .int .i64 N.2.1, .int .i64 N.2.2]) N.1 v := fun lim h' h1 h2 => hN ▸ d2' lim h' h1 h2
   obtain ⟨s, x, e⟩ := N
   clear hN
   dsimp only at d4 ⊢
   by_cases he : e = 0
   ·subst he
    rw [if_neg (fun q => q rfl)]
    (refine Cs (Co (Wc ?_)); refine OL.boxA hL rfl rfl (fun b h' hL => (Wc ?_)); refine OL.boxA hL rfl rfl (fun b h' hL => (Wc ?_)); refine OL.new hL (fun b h' hL => (Wm rfl (Wm rfl (Wt ?_)))); refine Cs (Cs (Co (Wm rfl (Wc ?_)))); refine OL.callV hL rfl rfl (d0 _ _) (fun h' hp hL => (Wc (OP.not rfl (Wt ?_)))); refine WC.condF rfl (Ks ?_); refine Cs (Co (Wc (OP.buildN rfl (by simp [over, Value.cells]; rfl) ?_))); refine Wc ?_; refine OL.new hL (fun b h' hL => (WO.cons0 ?_)); refine OL.storeAll (k := 0) hL hlim rfl rfl rfl rfl rfl rfl (by decide) rfl (fun h' hL => ?_); dsimp only [List.set, Nat.zero_add, Nat.reduceAdd, Nat.reduceMul] at hL; refine Wt ?_; refine Cs (Co (WO.consQ (OP.mv rfl (WO.consQ (OP.idxArrZ rfl rfl (by decide) (by simp only [Int.reduceToNat, Nat.mul_one, Nat.zero_add, Nat.reduceMul, Nat.reduceAdd]; rfl) ?_))))); refine WO.consQ (OL.load1 (k := 0) hL rfl rfl rfl (WO.consQ (OL.loadAll (k := 3) hL rfl rfl rfl (WO.consQ (OL.loadAll (k := 2) hL rfl rfl rfl (WO.consQ (OP.buildN rfl (by simp [over, Value.cells]; rfl) ?_))))))))
    (refine WO.consQ ?_)
    refine OL.callSt hL rfl rfl (d4 _ _ (by first | exact hL.lm hlim | exact Nat.le_refl _) (hst.pfx hL.pfx)) (fun a0 n0 a1 n1 a2 n2 a3 n3 h' hy hp hL => ?_)
    (try dsimp only at hL ⊢)
    (refine WO.consQ (OP.mv rfl (WO.consQ (OP.extract rfl rfl (WO.consQ (OP.extract rfl rfl (WO.consQ (OP.extract rfl rfl (WO.consQ ?_)))))))); refine OL.new hL (fun b h' hL => (WO.cons0 ?_)); refine OL.storeAll (k := 0) hL hlim rfl rfl rfl rfl rfl rfl (by decide) rfl (fun h' hL => ?_); dsimp only [List.set, Nat.zero_add, Nat.reduceAdd, Nat.reduceMul] at hL; refine Wm rfl (Wm rfl (Wt ?_)); refine Cs (Cs (Co (Wm rfl (Wc (OP.neqF rfl rfl (by omega) ?_))))); refine Wt ?_; refine WC.condF rfl (Ks ?_); refine Cs (Co (Wc (OL.loadAll (k := 0) hL rfl rfl rfl (Wm rfl (WO.cons0 ?_))))); refine OL.storeAll (k := 3) hL hlim rfl rfl rfl rfl rfl rfl (by decide) rfl (fun h' hL => ?_); dsimp only [List.set, Nat.zero_add, Nat.reduceAdd, Nat.reduceMul] at hL; refine Wm rfl (Wm rfl (Wt ?_)); refine WC.ret ?_)
    have hw := hL.stOut (r0 := ⟨a0, n0, s.x0⟩) (r1 := ⟨a1, n1, s.x1⟩) (r2 := ⟨a2, n2, s.x2⟩) (r3 := ⟨a3, n3, s.x3⟩) (by repeat (first | exact mh | apply mt))
    exact Fin.ret (resL_cell rfl (hL.cell (k := 3) rfl) rfl rfl) ⟨hL.pfx, _, _, _, _, rfl, ⟨rfl, rfl, rfl, rfl⟩, hw.1, hw.2⟩
   ·rw [if_pos he]
    (refine Cs (Co (Wc ?_)); refine OL.boxA hL rfl rfl (fun b h' hL => (Wc ?_)); refine OL.boxA hL rfl rfl (fun b h' hL => (Wc ?_)); refine OL.new hL (fun b h' hL => (Wm rfl (Wm rfl (Wt ?_)))); refine Cs (Cs (Co (Wm rfl (Wc ?_)))); refine OL.callV hL rfl rfl (d0 _ _) (fun h' hp hL => (Wc (OP.not rfl (Wt ?_)))); refine WC.condF rfl (Ks ?_); refine Cs (Co (Wc (OP.buildN rfl (by simp [over, Value.cells]; rfl) ?_))); refine Wc ?_; refine OL.new hL (fun b h' hL => (WO.cons0 ?_)); refine OL.storeAll (k := 0) hL hlim rfl rfl rfl rfl rfl rfl (by decide) rfl (fun h' hL => ?_); dsimp only [List.set, Nat.zero_add, Nat.reduceAdd, Nat.reduceMul] at hL; refine Wt ?_; refine Cs (Co (WO.consQ (OP.mv rfl (WO.consQ (OP.idxArrZ rfl rfl (by decide) (by simp only [Int.reduceToNat, Nat.mul_one, Nat.zero_add, Nat.reduceMul, Nat.reduceAdd]; rfl) ?_))))); refine WO.consQ (OL.load1 (k := 0) hL rfl rfl rfl (WO.consQ (OL.loadAll (k := 3) hL rfl rfl rfl (WO.consQ (OL.loadAll (k := 2) hL rfl rfl rfl (WO.consQ (OP.buildN rfl (by simp [over, Value.cells]; rfl) ?_))))))))
    (refine WO.consQ ?_)
    refine OL.callSt hL rfl rfl (d4 _ _ (by first | exact hL.lm hlim | exact Nat.le_refl _) (hst.pfx hL.pfx)) (fun a0 n0 a1 n1 a2 n2 a3 n3 h' hy hp hL => ?_)
    (try dsimp only at hL ⊢)
    (refine WO.consQ (OP.mv rfl (WO.consQ (OP.extract rfl rfl (WO.consQ (OP.extract rfl rfl (WO.consQ (OP.extract rfl rfl (WO.consQ ?_)))))))); refine OL.new hL (fun b h' hL => (WO.cons0 ?_)); refine OL.storeAll (k := 0) hL hlim rfl rfl rfl rfl rfl rfl (by decide) rfl (fun h' hL => ?_); dsimp only [List.set, Nat.zero_add, Nat.reduceAdd, Nat.reduceMul] at hL; refine Wm rfl (Wm rfl (Wt ?_)); refine Cs (Cs (Co (Wm rfl (Wc (OP.neqT rfl rfl (by omega) ?_))))); refine Wt ?_; refine WC.condT rfl (Cs (Co (Wc (OP.buildN rfl rfl (WO.cons0 ?_))))); refine OL.storeAll (k := 3) hL hlim rfl rfl rfl rfl rfl rfl (by decide) rfl (fun h' hL => ?_); dsimp only [List.set, Nat.zero_add, Nat.reduceAdd, Nat.reduceMul] at hL; refine Wm rfl (Wm rfl (Wt ?_)); refine WC.ret ?_; dsimp only [zn, zr, zx, yn, yr])
    exact Fin.ret (resL_cell rfl (hL.cell (k := 3) rfl) rfl rfl) ⟨hL.pfx, nilRow, nilRow, nilRow, nilRow, rfl, ⟨rfl, rfl, rfl, rfl⟩, nilSt _, nilIn _ _⟩
  ·have d0 : ∀ lim h', Ret X F lim g0 [.int .i64 2] h' fun v h'' => Pfx h' h'' ∧ v = .bool true := fun lim h' => d0' lim h'
   have hO : ObjM 600 2 ⟨r0.xs, r1.xs, r2.xs, r3.xs⟩ c r a = if (QueueM 500 ⟨r0.xs, r1.xs, r2.xs, r3.xs⟩ c r a).2.2 ≠ 0 then (S4.none, 0, 600) else QueueM 500 ⟨r0.xs, r1.xs, r2.xs, r3.xs⟩ c r a := by
    rw [← QueueM_up (by decide)]
    rfl
   rw [hO]
   clear hO
   generalize hN : QueueM 500 ⟨r0.xs, r1.xs, r2.xs, r3.xs⟩ c r a = N
   have d4 : ∀ (lim : Nat) (h' : AH), lim ≤ h'.length → St h' r0 r1 r2 r3 → Ret X F lim g3 [.agg #[r0.v, r1.v, r2.v, r3.v, .int .i64 c, .int .i64 r, .int .i64 a]] h' fun v h'' => Pfx h' h'' ∧ MadeS h' h'' (fun s0 s1 s2 s3 => .tuple #[stV s0 s1 s2 s3, .int .i64 N.2.1, .int .i64 N.2.2]) N.1 v := fun lim h' h1 h2 => hN ▸ d3' lim h' h1 h2
   obtain ⟨s, x, e⟩ := N
   clear hN
   dsimp only at d4 ⊢
   by_cases he : e = 0
   ·subst he
    rw [if_neg (fun q => q rfl)]
    (refine Cs (Co (Wc ?_)); refine OL.boxA hL rfl rfl (fun b h' hL => (Wc ?_)); refine OL.boxA hL rfl rfl (fun b h' hL => (Wc ?_)); refine OL.new hL (fun b h' hL => (Wm rfl (Wm rfl (Wt ?_)))); refine Cs (Cs (Co (Wm rfl (Wc ?_)))); refine OL.callV hL rfl rfl (d0 _ _) (fun h' hp hL => (Wc (OP.not rfl (Wt ?_)))); refine WC.condF rfl (Ks ?_); refine Cs (Co (Wc (OP.buildN rfl (by simp [over, Value.cells]; rfl) ?_))); refine Wc ?_; refine OL.new hL (fun b h' hL => (WO.cons0 ?_)); refine OL.storeAll (k := 0) hL hlim rfl rfl rfl rfl rfl rfl (by decide) rfl (fun h' hL => ?_); dsimp only [List.set, Nat.zero_add, Nat.reduceAdd, Nat.reduceMul] at hL; refine Wt ?_; refine Cs (Co (WO.consQ (OP.mv rfl (WO.consQ (OP.idxArrZ rfl rfl (by decide) (by simp only [Int.reduceToNat, Nat.mul_one, Nat.zero_add, Nat.reduceMul, Nat.reduceAdd]; rfl) ?_))))); refine WO.consQ (OL.load1 (k := 0) hL rfl rfl rfl (WO.consQ (OL.loadAll (k := 3) hL rfl rfl rfl (WO.consQ (OL.loadAll (k := 2) hL rfl rfl rfl (WO.consQ (OP.buildN rfl (by simp [over, Value.cells]; rfl) ?_))))))))
    (refine WO.consQ ?_)
    refine OL.callSt hL rfl rfl (d4 _ _ (by first | exact hL.lm hlim | exact Nat.le_refl _) (hst.pfx hL.pfx)) (fun a0 n0 a1 n1 a2 n2 a3 n3 h' hy hp hL => ?_)
    (try dsimp only at hL ⊢)
    (refine WO.consQ (OP.mv rfl (WO.consQ (OP.extract rfl rfl (WO.consQ (OP.extract rfl rfl (WO.consQ (OP.extract rfl rfl (WO.consQ ?_)))))))); refine OL.new hL (fun b h' hL => (WO.cons0 ?_)); refine OL.storeAll (k := 0) hL hlim rfl rfl rfl rfl rfl rfl (by decide) rfl (fun h' hL => ?_); dsimp only [List.set, Nat.zero_add, Nat.reduceAdd, Nat.reduceMul] at hL; refine Wm rfl (Wm rfl (Wt ?_)); refine Cs (Cs (Co (Wm rfl (Wc (OP.neqF rfl rfl (by omega) ?_))))); refine Wt ?_; refine WC.condF rfl (Ks ?_); refine Cs (Co (Wc (OL.loadAll (k := 0) hL rfl rfl rfl (Wm rfl (WO.cons0 ?_))))); refine OL.storeAll (k := 3) hL hlim rfl rfl rfl rfl rfl rfl (by decide) rfl (fun h' hL => ?_); dsimp only [List.set, Nat.zero_add, Nat.reduceAdd, Nat.reduceMul] at hL; refine Wm rfl (Wm rfl (Wt ?_)); refine WC.ret ?_)
    have hw := hL.stOut (r0 := ⟨a0, n0, s.x0⟩) (r1 := ⟨a1, n1, s.x1⟩) (r2 := ⟨a2, n2, s.x2⟩) (r3 := ⟨a3, n3, s.x3⟩) (by repeat (first | exact mh | apply mt))
    exact Fin.ret (resL_cell rfl (hL.cell (k := 3) rfl) rfl rfl) ⟨hL.pfx, _, _, _, _, rfl, ⟨rfl, rfl, rfl, rfl⟩, hw.1, hw.2⟩
   ·rw [if_pos he]
    (refine Cs (Co (Wc ?_)); refine OL.boxA hL rfl rfl (fun b h' hL => (Wc ?_)); refine OL.boxA hL rfl rfl (fun b h' hL => (Wc ?_)); refine OL.new hL (fun b h' hL => (Wm rfl (Wm rfl (Wt ?_)))); refine Cs (Cs (Co (Wm rfl (Wc ?_)))); refine OL.callV hL rfl rfl (d0 _ _) (fun h' hp hL => (Wc (OP.not rfl (Wt ?_)))); refine WC.condF rfl (Ks ?_); refine Cs (Co (Wc (OP.buildN rfl (by simp [over, Value.cells]; rfl) ?_))); refine Wc ?_; refine OL.new hL (fun b h' hL => (WO.cons0 ?_)); refine OL.storeAll (k := 0) hL hlim rfl rfl rfl rfl rfl rfl (by decide) rfl (fun h' hL => ?_); dsimp only [List.set, Nat.zero_add, Nat.reduceAdd, Nat.reduceMul] at hL; refine Wt ?_; refine Cs (Co (WO.consQ (OP.mv rfl (WO.consQ (OP.idxArrZ rfl rfl (by decide) (by simp only [Int.reduceToNat, Nat.mul_one, Nat.zero_add, Nat.reduceMul, Nat.reduceAdd]; rfl) ?_))))); refine WO.consQ (OL.load1 (k := 0) hL rfl rfl rfl (WO.consQ (OL.loadAll (k := 3) hL rfl rfl rfl (WO.consQ (OL.loadAll (k := 2) hL rfl rfl rfl (WO.consQ (OP.buildN rfl (by simp [over, Value.cells]; rfl) ?_))))))))
    (refine WO.consQ ?_)
    refine OL.callSt hL rfl rfl (d4 _ _ (by first | exact hL.lm hlim | exact Nat.le_refl _) (hst.pfx hL.pfx)) (fun a0 n0 a1 n1 a2 n2 a3 n3 h' hy hp hL => ?_)
    (try dsimp only at hL ⊢)
    (refine WO.consQ (OP.mv rfl (WO.consQ (OP.extract rfl rfl (WO.consQ (OP.extract rfl rfl (WO.consQ (OP.extract rfl rfl (WO.consQ ?_)))))))); refine OL.new hL (fun b h' hL => (WO.cons0 ?_)); refine OL.storeAll (k := 0) hL hlim rfl rfl rfl rfl rfl rfl (by decide) rfl (fun h' hL => ?_); dsimp only [List.set, Nat.zero_add, Nat.reduceAdd, Nat.reduceMul] at hL; refine Wm rfl (Wm rfl (Wt ?_)); refine Cs (Cs (Co (Wm rfl (Wc (OP.neqT rfl rfl (by omega) ?_))))); refine Wt ?_; refine WC.condT rfl (Cs (Co (Wc (OP.buildN rfl rfl (WO.cons0 ?_))))); refine OL.storeAll (k := 3) hL hlim rfl rfl rfl rfl rfl rfl (by decide) rfl (fun h' hL => ?_); dsimp only [List.set, Nat.zero_add, Nat.reduceAdd, Nat.reduceMul] at hL; refine Wm rfl (Wm rfl (Wt ?_)); refine WC.ret ?_; dsimp only [zn, zr, zx, yn, yr])
    exact Fin.ret (resL_cell rfl (hL.cell (k := 3) rfl) rfl rfl) ⟨hL.pfx, nilRow, nilRow, nilRow, nilRow, rfl, ⟨rfl, rfl, rfl, rfl⟩, nilSt _, nilIn _ _⟩
 ·rw [ObjM_x (by omega)]
  have d0 : ∀ lim h', Ret X F lim g0 [.int .i64 ob] h' fun v h'' => Pfx h' h'' ∧ v = .bool false := fun lim h' => (decide_eq_false hob) ▸ d0' lim h' (ob := ob)
  (refine Cs (Co (Wc ?_)); refine OL.boxA hL rfl rfl (fun b h' hL => (Wc ?_)); refine OL.boxA hL rfl rfl (fun b h' hL => (Wc ?_)); refine OL.new hL (fun b h' hL => (Wm rfl (Wm rfl (Wt ?_)))); refine Cs (Cs (Co (Wm rfl (Wc ?_)))); refine OL.callV hL rfl rfl (d0 _ _) (fun h' hp hL => (Wc (OP.not rfl (Wt ?_)))); refine WC.condT rfl (Cs (Co (Wc (OP.buildN rfl rfl (WO.cons0 ?_))))); refine OL.storeAll (k := 0) hL hlim rfl rfl rfl rfl rfl rfl (by decide) rfl (fun h' hL => ?_); dsimp only [List.set, Nat.zero_add, Nat.reduceAdd, Nat.reduceMul] at hL; refine Wm rfl (Wm rfl (Wt ?_)); refine WC.ret ?_; dsimp only [zn, zr, zx, yn, yr])
  exact Fin.ret (resL_cell rfl (hL.cell (k := 0) rfl) rfl rfl) ⟨hL.pfx, nilRow, nilRow, nilRow, nilRow, rfl, ⟨rfl, rfl, rfl, rfl⟩, nilSt _, nilIn _ _⟩
end
end Go.Proofs.YtomemdiaglbibaaW.Ai
