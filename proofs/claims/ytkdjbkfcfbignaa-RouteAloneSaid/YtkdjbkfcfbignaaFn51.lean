/-
 An object (chapter 6), as the small machine runs it: what an operation does.
-/
import Derived.Test.YtkdjbkfcfbignaaFn50
set_option linter.unusedVariables false
set_option linter.unusedSimpArgs false
set_option maxHeartbeats 4000000
set_option maxRecDepth 100000
namespace Go.Proofs.YtkdjbkfcfbignaaW.Ai
section
variable (X : Ext) (F : FuncId → Option RFunc) (g : FuncId)
abbrev S_rowMayX : Prop := ∀ (lim : Nat) (h : AH) {r0 r1 r2 r3 : Row} {ob : Int}, (ob < 0 ∨ ob > 2) → Ret X F lim g [.int .i64 ob, stV r0 r1 r2 r3] h fun v h' => Pfx h h' ∧ v = .bool false
abbrev S_StateMayO : Prop := ∀ (lim : Nat) (h : AH) {r0 r1 r2 r3 : Row} {ob : Int}, St h r0 r1 r2 r3 → Ret X F lim g [.int .i64 ob, stV r0 r1 r2 r3] h fun v h' => Pfx h h' ∧ v = .bool (decide (ObMay ob ⟨r0.xs, r1.xs, r2.xs, r3.xs⟩))
abbrev S_rApplyX : Prop := ∀ (lim : Nat) (h : AH) {r0 r1 r2 r3 : Row} {ob c r a e : Int}, lim ≤ h.length → (ob < 0 ∨ ob > 2) → Ret X F lim g [.int .i64 ob, stV r0 r1 r2 r3, .agg #[.int .i64 c, .int .i64 r, .int .i64 a], .int .i64 e] h fun v h' => Pfx h h' ∧ MadeS h h' (fun s0 s1 s2 s3 => .tuple #[stV s0 s1 s2 s3, .int .i64 0, .int .i64 e]) S4.none v
abbrev S_rApplyO : Prop := ∀ (lim : Nat) (h : AH) {r0 r1 r2 r3 : Row} {ob c r a e : Int}, lim ≤ h.length → St h r0 r1 r2 r3 → Ret X F lim g [.int .i64 ob, stV r0 r1 r2 r3, .agg #[.int .i64 c, .int .i64 r, .int .i64 a], .int .i64 e] h fun v h' => Pfx h h' ∧ MadeS h h' (fun s0 s1 s2 s3 => .tuple #[stV s0 s1 s2 s3, .int .i64 (ObjM e ob ⟨r0.xs, r1.xs, r2.xs, r3.xs⟩ c r a).2.1, .int .i64 (ObjM e ob ⟨r0.xs, r1.xs, r2.xs, r3.xs⟩ c r a).2.2]) (ObjM e ob ⟨r0.xs, r1.xs, r2.xs, r3.xs⟩ c r a).1 v
end
theorem ObjM_x {e ob : Int} (h : ob < 0 ∨ ob > 2) (s : S4) (c r a : Int) : ObjM e ob s c r a = (S4.none, 0, e) := (if_neg (by omega)).trans ((if_neg (by omega)).trans (if_neg (by omega)))
theorem ObMay_x {ob : Int} (h : ob < 0 ∨ ob > 2) (s : S4) : ¬ ObMay ob s := by unfold ObMay; omega
theorem ObMay_0 (s : S4) : ObMay 0 s ↔ StoreOk s := by simp [ObMay]
theorem ObMay_1 (s : S4) : ObMay 1 s ↔ TabOk s := by simp [ObMay]
theorem ObMay_2 (s : S4) : ObMay 2 s ↔ QueueOk s := by simp [ObMay]
section
variable {X : Ext} {F : FuncId → Option RFunc} {f : FuncId}
theorem s_StateMayX {g0 : Nat} (hX : X f = none) (hF : F f = some (rf_StateMay g0)) : S_rowMayX X F f := by
 intro lim h r0 r1 r2 r3 ob hob
 have hL := Loc.start h
 refine Ret.body hX hF rfl ?_
 simp only [argL, rf_StateMay]
 (refine Cs (Co (Wc ?_)); refine OL.boxA hL rfl rfl (fun b h' hL => (Wm rfl (Wt ?_))); refine Cs (Cs (Co (Wm rfl (Wt ?_)))); refine WC.block ?_)
 refine WC.unroll ?_
 rcases hob with hob | hob
 ·(refine Cs (Cs (Co (Wm rfl (Wc (OP.lssT rfl rfl (by omega) ?_))))); refine Wt ?_; refine WC.condT rfl (Ks ?_); refine Cs (WC.block (Cs (Co (Wm rfl (Wc (OP.lssT rfl rfl (by omega) ?_)))))); refine Wm rfl (WO.no rfl (WO.no rfl (Wc (OP.pickT rfl rfl (Wm rfl (WO.no rfl (WO.no rfl (WO.no rfl (WO.no rfl (WO.no rfl (WO.no rfl (WO.no rfl (Wc (OP.pickT rfl rfl (Wt ?_))))))))))))))); refine WC.condT rfl (Cs (Co (Wm rfl (Wt ?_)))); refine WC.ret ?_; dsimp only [zn, zr, zx, yn, yr]; exact Fin.ret rfl ⟨hL.pfx, rfl⟩)
 ·(refine Cs (Cs (Co (Wm rfl (Wc (OP.lssT rfl rfl (by omega) ?_))))); refine Wt ?_; refine WC.condT rfl (Ks ?_); refine Cs (WC.block (Cs (Co (Wm rfl (Wc (OP.lssF rfl rfl (by omega) ?_)))))); refine Wm rfl (WO.yes rfl (Wm rfl (WO.yes rfl (Wc (OP.gtrT rfl rfl (by omega) ?_))))); refine Wc (OP.pickF rfl rfl (Wm rfl (WO.no rfl (WO.no rfl (WO.no rfl (WO.no rfl (WO.no rfl (WO.no rfl (WO.no rfl (Wc (OP.pickT rfl rfl (Wt ?_)))))))))))); refine WC.condT rfl (Cs (Co (Wm rfl (Wt ?_)))); refine WC.ret ?_; dsimp only [zn, zr, zx, yn, yr]; exact Fin.ret rfl ⟨hL.pfx, rfl⟩)
theorem s_StateMayO {g0 : Nat} (hX : X f = none) (hF : F f = some (rf_StateMay g0)) (c0 : S_StateMay X F f) (c1 : S_StateMay1 X F f) (c2 : S_rowMayX X F f) : S_StateMayO X F f := by
 intro lim h r0 r1 r2 r3 ob hst
 by_cases h0 : ob = 0
 ·subst h0
  rw [decIff (ObMay_0 _)]
  exact c0 lim h (m := 1) (.inl ⟨rfl, rfl⟩) hst
 by_cases h1 : ob = 1
 ·subst h1
  rw [decIff (ObMay_1 _)]
  exact c1 lim h hst
 by_cases h2 : ob = 2
 ·subst h2
  rw [decIff (ObMay_2 _)]
  exact c0 lim h (m := 4) (.inr ⟨rfl, rfl⟩) hst
 rw [decide_eq_false (ObMay_x (by omega) _)]
 exact c2 lim h (by omega)
theorem s_rApplyX {g0 g1 g2 g3 g4 g5 g6 : Nat} (hX : X f = none) (hF : F f = some (rf_rApply g0 g1 g2 g3 g4 g5 g6)) (d0' : S_rowMayX X F g0) : S_rApplyX X F f := by
 intro lim h r0 r1 r2 r3 ob c r a e hlim hob
 have hL := Loc.start h
 have d0 : ∀ lim h', Ret X F lim g0 [.int .i64 ob, stV r0 r1 r2 r3] h' fun v h'' => Pfx h' h'' ∧ v = .bool false := fun lim h' => d0' lim h' hob
 refine Ret.body hX hF rfl ?_
 simp only [argL, rf_rApply]
 (refine Cs (Co (Wc ?_)); refine OL.boxA hL rfl rfl (fun b h' hL => (Wc ?_)); refine OL.boxA hL rfl rfl (fun b h' hL => (Wc ?_)); refine OL.new hL (fun b h' hL => (Wm rfl (Wm rfl (Wt ?_)))); refine Cs (Cs (Co (Wm rfl (Wc (OL.loadAll (k := 2) hL rfl rfl rfl (Wc ?_)))))); refine OL.callV hL rfl rfl (d0 _ _) (fun h' hp hL => (Wc (OP.not rfl (Wm rfl (WO.no rfl (WO.no rfl (WO.no rfl (Wc (OP.pickT rfl rfl (Wt ?_)))))))))); refine WC.condT rfl (Cs (Co (Wc (OP.buildN rfl rfl (Wm rfl (WO.cons0 ?_)))))); refine OL.storeAll (k := 0) hL hlim rfl rfl rfl rfl rfl rfl (by decide) rfl (fun h' hL => ?_); dsimp only [List.set, Nat.zero_add, Nat.reduceAdd, Nat.reduceMul] at hL; refine Wm rfl (Wm rfl (Wt ?_)); refine WC.ret ?_; dsimp only [zn, zr, zx, yn, yr])
 exact Fin.ret (resL_cell rfl (hL.cell (k := 0) rfl) rfl rfl) ⟨hL.pfx, nilRow, nilRow, nilRow, nilRow, rfl, ⟨rfl, rfl, rfl, rfl⟩, nilSt _, nilIn _ _⟩
theorem s_rApplyO {g0 g1 g2 g3 g4 g5 g6 : Nat} (hF : F f = some (rf_rApply g0 g1 g2 g3 g4 g5 g6)) (c0 : S_rApplyS X F f) (c1 : S_rApplyF X F f) (c2 : S_rApplyQ X F f) (c3 : S_rApplyX X F f) : S_rApplyO X F f := by
 intro lim h r0 r1 r2 r3 ob c r a e hlim hst
 by_cases h0 : ob = 0
 ·subst h0
  exact c0 lim h hlim hst
 by_cases h1 : ob = 1
 ·subst h1
  exact c1 lim h hlim hst
 by_cases h2 : ob = 2
 ·subst h2
  exact c2 lim h hlim hst
 rw [ObjM_x (by omega)]
 exact c3 lim h hlim (by omega)
end
end Go.Proofs.YtkdjbkfcfbignaaW.Ai
