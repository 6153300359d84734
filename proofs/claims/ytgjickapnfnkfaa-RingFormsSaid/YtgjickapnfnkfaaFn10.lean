/-
  Rings (chapter 10), as the small machine runs them: the document's new ones, copies, freed ones.
-/
import Derived.Test.YtgjickapnfnkfaaFn9
import Derived.Test.YtgjickapnfnkfaaMf
set_option linter.unusedVariables false
set_option linter.unusedSimpArgs false
set_option maxHeartbeats 4000000
set_option maxRecDepth 100000
namespace Go.Proofs.YtgjickapnfnkfaaW.Ai
-- chorus/chorusref1.NewRing; g0 = chorus/chorusref1.SlotsMay
def rf_NewRing (g0 : Nat) : RFunc :=
  ⟨11, [(.cell 2 (.some 4)), (.tmp 3)], (.seq (.ops [⟨(.some 2), (.new [(.int .i64 0), (.int .i64 0), (.int .i64 0), (.slice .none 0 0)]), .none, false, []⟩, ⟨(.some 3), (.mv (.const (.int .i64 0))), .none, false, []⟩]) (.seq (.seq (.ops [⟨(.some 4), (.mv (.tmp 0)), .none, false, []⟩, ⟨(.some 5), (.call (.func g0) [(.tmp 4)]), .none, false, []⟩, ⟨(.some 6), (.un .not (.tmp 5)), .none, false, []⟩]) (.cond (.tmp 6) (.seq (.ops [⟨(.some 7), (.build [(.int .i64 0), (.int .i64 0), (.int .i64 0), (.slice .none 0 0)] []), .none, false, []⟩, ⟨.none, (.store 4 (.tmp 2) (.tmp 7)), .none, false, []⟩, ⟨(.some 3), (.mv (.const (.int .i64 1000))), .none, false, []⟩]) .ret) .skip)) (.seq (.ops [⟨(.some 8), (.mv (.tmp 0)), .none, false, []⟩, ⟨(.some 9), (.mkSlice [(.int .i64 0), (.int .i64 0), (.int .i64 0), (.int .i64 0), (.int .i64 0)] 40 (.tmp 8) (.tmp 8)), .none, false, []⟩, ⟨(.some 10), (.build [(.int .i64 0), (.int .i64 0), (.int .i64 0), (.slice .none 0 0)] [(3, (1, (.tmp 9)))]), .none, false, []⟩, ⟨.none, (.store 4 (.tmp 2) (.tmp 10)), .none, false, []⟩, ⟨(.some 3), (.mv (.const (.int .i64 0))), .none, false, []⟩]) .ret)))⟩
-- chorus/chorusref1.CopyRing
def rf_CopyRing : RFunc :=
  ⟨9, [(.cell 2 (.some 4))], (.seq (.ops [⟨(.some 1), (.box (.tmp 0)), .none, false, []⟩, ⟨(.some 2), (.new [(.int .i64 0), (.int .i64 0), (.int .i64 0), (.slice .none 0 0)]), .none, false, []⟩]) (.seq (.ops [⟨(.some 3), (.buildSlice [] 0 []), .none, false, []⟩, ⟨(.some 4), (.fieldAddr 3 (.tmp 1)), .none, false, []⟩, ⟨(.some 5), (.load .none (.tmp 4)), .none, false, []⟩, ⟨(.some 6), (.append 5 40 (.tmp 3) (.tmp 5)), .none, false, []⟩, ⟨(.some 7), (.fieldAddr 3 (.tmp 1)), .none, false, []⟩, ⟨.none, (.store 1 (.tmp 7) (.tmp 6)), .none, false, []⟩]) (.seq (.ops [⟨(.some 8), (.load (.some 4) (.tmp 1)), .none, false, []⟩, ⟨.none, (.store 4 (.tmp 2) (.tmp 8)), .none, false, []⟩]) .ret)))⟩
-- chorus/chorusref1.FreeTo; g0 = chorus/chorusref1.RingMay; g1 = chorus/chorusref1.CopyRing
def rf_FreeTo (g0 g1 : Nat) : RFunc :=
  ⟨28, [(.cell 4 (.some 4)), (.tmp 5)], (.seq (.ops [⟨(.some 2), (.box (.tmp 0)), .none, false, []⟩, ⟨(.some 4), (.new [(.int .i64 0), (.int .i64 0), (.int .i64 0), (.slice .none 0 0)]), .none, false, []⟩, ⟨(.some 5), (.mv (.const (.int .i64 0))), .none, false, []⟩]) (.seq (.seq (.ops [⟨(.some 7), (.load (.some 4) (.tmp 2)), .none, false, []⟩, ⟨(.some 8), (.call (.func g0) [(.tmp 7)]), .none, false, []⟩, ⟨(.some 9), (.un .not (.tmp 8)), .none, false, []⟩, ⟨(.some 10), (.mv (.tmp 9)), .none, false, []⟩, ⟨(.some 11), (.mv (.tmp 1)), (.some (10, false)), false, []⟩, ⟨(.some 12), (.fieldAddr 0 (.tmp 2)), (.some (10, false)), false, []⟩, ⟨(.some 13), (.load .none (.tmp 12)), (.some (10, false)), false, []⟩, ⟨(.some 14), (.bin .lss (.tmp 11) (.tmp 13)), (.some (10, false)), false, []⟩, ⟨(.some 15), (.pick (.tmp 10) (.const (.bool true)) (.tmp 14)), .none, false, []⟩, ⟨(.some 16), (.mv (.tmp 15)), .none, false, []⟩, ⟨(.some 17), (.mv (.tmp 1)), (.some (16, false)), false, []⟩, ⟨(.some 18), (.fieldAddr 1 (.tmp 2)), (.some (16, false)), false, []⟩, ⟨(.some 19), (.load .none (.tmp 18)), (.some (16, false)), false, []⟩, ⟨(.some 20), (.bin .gtr (.tmp 17) (.tmp 19)), (.some (16, false)), false, []⟩, ⟨(.some 21), (.pick (.tmp 16) (.const (.bool true)) (.tmp 20)), .none, false, []⟩]) (.cond (.tmp 21) (.seq (.ops [⟨(.some 22), (.build [(.int .i64 0), (.int .i64 0), (.int .i64 0), (.slice .none 0 0)] []), .none, false, []⟩, ⟨.none, (.store 4 (.tmp 4) (.tmp 22)), .none, false, []⟩, ⟨(.some 5), (.mv (.const (.int .i64 1000))), .none, false, []⟩]) .ret) .skip)) (.seq (.ops [⟨(.some 23), (.load (.some 4) (.tmp 2)), .none, false, []⟩, ⟨(.some 24), (.call (.func g1) [(.tmp 23)]), .none, false, []⟩, ⟨(.some 6), (.new [(.int .i64 0), (.int .i64 0), (.int .i64 0), (.slice .none 0 0)]), .none, false, []⟩, ⟨.none, (.store 4 (.tmp 6) (.tmp 24)), .none, false, []⟩]) (.seq (.ops [⟨(.some 25), (.mv (.tmp 1)), .none, false, []⟩, ⟨(.some 26), (.fieldAddr 0 (.tmp 6)), .none, false, []⟩, ⟨.none, (.store 1 (.tmp 26) (.tmp 25)), .none, false, []⟩]) (.seq (.ops [⟨(.some 27), (.load (.some 4) (.tmp 6)), .none, false, []⟩, ⟨.none, (.store 4 (.tmp 4) (.tmp 27)), .none, false, []⟩, ⟨(.some 5), (.mv (.const (.int .i64 0))), .none, false, []⟩]) .ret)))))⟩

/-- A ring. -/
structure RingR where
  p : Int
  q : Int
  e : Int
  ss : List SlotR
  deriving DecidableEq
abbrev noRing : RingR := ⟨0, 0, 0, []⟩
abbrev ringC (r : RingR) (a : Option Addr) (n c : Nat) : Value := .agg #[.int .i64 r.p, .int .i64 r.q, .int .i64 r.e, .slice a n c]
abbrev ringV (r : RingR) (a : Option Addr) (n : Nat) : Value := .agg #[.int .i64 r.p, .int .i64 r.q, .int .i64 r.e, .slice a n n]
def NewM (x : Int) : RingR × Int := if SlotsN x then (⟨0, 0, 0, List.replicate x.toNat ⟨0, 0, 0, 0, 0⟩⟩, 0) else (noRing, 1000)
def FreeM (r : RingR) (x : Int) : RingR × Int := if RingOk r.p r.q r.e r.ss ∧ r.p ≤ x ∧ x ≤ r.q then (⟨x, r.q, r.e, r.ss⟩, 0) else (noRing, 1000)
section
variable (X : Ext) (F : FuncId → Option RFunc) (g : FuncId)
abbrev S_NewRing : Prop := ∀ (lim : Nat) (h : AH) {x : Int}, lim ≤ h.length → Ret X F lim g [.int .i64 x] h fun v h' => Pfx h h' ∧ Made 5 h h' (fun a n => .tuple #[ringV (NewM x).1 a n, .int .i64 (NewM x).2]) (recs slotC (NewM x).1.ss) v
abbrev S_CopyRing : Prop := ∀ (lim : Nat) (h : AH) {r : RingR} {a : Option Addr} {n : Nat}, lim ≤ h.length → Sl 5 h a n n (recs slotC r.ss) → n ≤ 2 ^ 42 → Ret X F lim g [ringV r a n] h fun v h' => Pfx h h' ∧ Made 5 h h' (fun a n => ringV r a n) (recs slotC r.ss) v
abbrev S_FreeTo : Prop := ∀ (lim : Nat) (h : AH) {r : RingR} {a : Option Addr} {n : Nat} {x : Int}, lim ≤ h.length → Sl 5 h a n n (recs slotC r.ss) → n ≤ 2 ^ 42 → Ret X F lim g [ringV r a n, .int .i64 x] h fun v h' => Pfx h h' ∧ Made 5 h h' (fun a n => .tuple #[ringV (FreeM r x).1 a n, .int .i64 (FreeM r x).2]) (recs slotC (FreeM r x).1.ss) v
end
theorem reps_slots (n : Nat) : reps [.int .i64 0, .int .i64 0, .int .i64 0, .int .i64 0, .int .i64 0] n = recs slotC (List.replicate n ⟨0, 0, 0, 0, 0⟩) := by
  induction n with
  | zero => rfl
  | succ n ih => simp only [reps, ih, List.replicate_succ]; rfl
section
variable {X : Ext} {F : FuncId → Option RFunc} {f : FuncId}
theorem s_NewRing {g0 : Nat} (hX : X f = none) (hF : F f = some (rf_NewRing g0)) (c0 : S_SlotsMay X F g0) : S_NewRing X F f := by
  intro lim h x hlim
  have hL := Loc.start h
  refine Ret.body hX hF rfl ?_
  simp only [argL, rf_NewRing]
  (refine WC.seq (WC.ops (WO.cons ?_)); refine OL.new hL (fun b h' hL => (WO.cons (OP.mv rfl (WO.nil ?_)))); dsimp only [thn_normal, thn_ret, thn_exit, blk_normal, blk_ret]; refine WC.seq (WC.seq (WC.ops (WO.cons (OP.mv rfl (WO.cons ?_))))); refine OL.callB hL rfl rfl (c0 _ _) (fun h' hp hL hc => ?_) (fun h' hp hL hc => ?_); refine WO.cons (OP.not rfl (WO.nil ?_)); dsimp only [thn_normal, thn_ret, thn_exit, blk_normal, blk_ret]; refine WC.condF rfl (WC.skip ?_); dsimp only [thn_normal, thn_ret, thn_exit, blk_normal, blk_ret]; refine WC.seq (WC.ops (WO.cons (OP.mv rfl ?_))))
  obtain ⟨m, rfl⟩ : ∃ m : Nat, x = m := ⟨x.toNat, by omega⟩
  have e : NewM m = (⟨0, 0, 0, List.replicate m ⟨0, 0, 0, 0, 0⟩⟩, 0) := if_pos hc
  (refine WO.cons ?_; refine OL.mkSlice hL rfl rfl (by omega) (fun b h' hL => ?_); refine WO.cons (OP.buildN rfl (by simp [over, Value.cells]; rfl) ?_); refine WO.cons0 ?_; refine OL.storeAll (k := 1) hL hlim rfl rfl rfl rfl rfl rfl (by decide) rfl (fun h' hL => ?_); dsimp only [List.set, Nat.zero_add, Nat.reduceAdd, Nat.reduceMul] at hL; refine WO.cons (OP.mv rfl (WO.nil ?_)); dsimp only [thn_normal, thn_ret, thn_exit, blk_normal, blk_ret]; refine WC.ret ?_)
  rw [e]
  rw [reps_slots] at hL
  exact Fin.ret (resL_cell rfl (hL.cell (k := 1) rfl) rfl rfl) ⟨hL.pfx, _, _, rfl, hL.bxOut (k := 0) rfl (by rw [recs_len slotC_len]; simp)⟩
  (refine WO.cons (OP.not rfl (WO.nil ?_)); dsimp only [thn_normal, thn_ret, thn_exit, blk_normal, blk_ret]; refine WC.condT rfl (WC.seq (WC.ops (WO.cons (OP.buildN rfl rfl (WO.cons0 ?_))))); refine OL.storeAll (k := 0) hL hlim rfl rfl rfl rfl rfl rfl (by decide) rfl (fun h' hL => ?_); dsimp only [List.set, Nat.zero_add, Nat.reduceAdd, Nat.reduceMul] at hL; refine WO.cons (OP.mv rfl (WO.nil ?_)); dsimp only [thn_normal, thn_ret, thn_exit, blk_normal, blk_ret]; refine WC.ret ?_; dsimp only [thn_normal, thn_ret, thn_exit, blk_normal, blk_ret])
  rw [show NewM x = (noRing, 1000) from if_neg hc]
  exact Fin.ret (resL_cell rfl (hL.cell (k := 0) rfl) rfl rfl) ⟨hL.pfx, none, 0, rfl, Sl.nil 5 _, Within.none _ _ _⟩
theorem s_CopyRing (hX : X f = none) (hF : F f = some rf_CopyRing) : S_CopyRing X F f := by
  intro lim h r a n hlim ha hn
  have hL := Loc.start h
  refine Ret.body hX hF rfl ?_
  simp only [argL, rf_CopyRing]
  (refine WC.seq (WC.ops (WO.cons ?_)); refine OL.boxA hL rfl rfl (fun b h' hL => (WO.cons ?_)); refine OL.new hL (fun b h' hL => (WO.nil ?_)); dsimp only [thn_normal, thn_ret, thn_exit, blk_normal, blk_ret]; refine WC.seq (WC.ops (WO.cons ?_)); refine OL.buildSlice hL rfl (by simp [over, Value.cells]; rfl) rfl (fun b h' hL => ?_); refine WO.cons (OP.fieldAddr0 rfl (WO.cons (OL.load1 (k := 2) hL rfl rfl rfl (WO.cons ?_)))); refine OL.copy hL rfl (fun x hx => by cases hx; rfl) rfl (Sl.pfx (by assumption) (Loc.pfx hL)) ⟨by omega, by omega, by omega⟩ (recs_ok slotC_ok _) (fun a' h' hp hL => ?_); refine WO.cons (OP.fieldAddr0 rfl (WO.cons0 ?_)); refine OL.store1 (k := 3) hL hlim rfl rfl rfl rfl rfl rfl rfl (fun h' hL => ?_); dsimp only [List.set, Nat.zero_add, Nat.reduceAdd, Nat.reduceMul] at hL; refine WO.nil ?_; dsimp only [thn_normal, thn_ret, thn_exit, blk_normal, blk_ret]; refine WC.seq (WC.ops (WO.cons (OL.loadAll (k := 3) hL rfl rfl rfl (WO.cons0 ?_)))); refine OL.storeAll (k := 2) hL hlim rfl rfl rfl rfl rfl rfl (by decide) rfl (fun h' hL => ?_); dsimp only [List.set, Nat.zero_add, Nat.reduceAdd, Nat.reduceMul] at hL; refine WO.nil ?_; dsimp only [thn_normal, thn_ret, thn_exit, blk_normal, blk_ret]; refine WC.ret ?_)
  exact Fin.ret (resL_cell rfl (hL.cell (k := 2) rfl) rfl rfl) ⟨hL.pfx, _, _, rfl, hL.apOut' (k := 0) rfl⟩
theorem s_FreeTo {g0 g1 : Nat} (hX : X f = none) (hF : F f = some (rf_FreeTo g0 g1)) (c0' : S_RingMay X F g0) (c1' : S_CopyRing X F g1) : S_FreeTo X F f := by
  intro lim h r a n x hlim ha hn
  have hL := Loc.start h
  have c0 : ∀ lim h', lim ≤ h'.length → Pfx h h' → Ret X F lim g0 [ringV r a n] h' fun v h'' => Pfx h' h'' ∧ v = .bool (decide (RingOk r.p r.q r.e r.ss)) := fun lim h' hl hp => c0' lim h' hl (ha.pfx hp) hn
  have c1 : ∀ lim h', lim ≤ h'.length → Pfx h h' → Ret X F lim g1 [ringV r a n] h' fun v h'' => Pfx h' h'' ∧ Made 5 h' h'' (fun a n => ringV r a n) (recs slotC r.ss) v := fun lim h' hl hp => c1' lim h' hl (ha.pfx hp) hn
  refine Ret.body hX hF rfl ?_
  simp only [argL, rf_FreeTo]
  (refine WC.seq (WC.ops (WO.cons ?_)); refine OL.boxA hL rfl rfl (fun b h' hL => (WO.cons ?_)); refine OL.new hL (fun b h' hL => (WO.cons (OP.mv rfl (WO.nil ?_)))); dsimp only [thn_normal, thn_ret, thn_exit, blk_normal, blk_ret]; refine WC.seq (WC.seq (WC.ops (WO.cons (OL.loadAll (k := 1) hL rfl rfl rfl (WO.cons ?_))))); refine OL.callB hL rfl rfl (c0 _ _ (by first | exact hL.lm hlim | exact Nat.le_refl _ | omega) hL.pfx) (fun h' hp hL hc => ?_) (fun h' hp hL hc => ?_); refine WO.cons (OP.not rfl (WO.cons (OP.mv rfl (WO.yes rfl (WO.cons (OP.mv rfl (WO.yes rfl (WO.cons (OP.fieldAddr0 rfl (WO.yes rfl (WO.cons (OL.load1 (k := 1) hL rfl rfl rfl (WO.yes rfl (WO.cons ?_)))))))))))))); refine OP.lssC rfl rfl (fun hc => ?_) (fun hc => ?_); refine WO.cons (OP.pickF rfl rfl (WO.cons (OP.mv rfl (WO.no rfl (WO.no rfl (WO.no rfl (WO.no rfl (WO.cons (OP.pickT rfl rfl (WO.nil ?_)))))))))); dsimp only [thn_normal, thn_ret, thn_exit, blk_normal, blk_ret]; refine WC.condT rfl (WC.seq (WC.ops (WO.cons (OP.buildN rfl rfl (WO.cons0 ?_))))); refine OL.storeAll (k := 0) hL hlim rfl rfl rfl rfl rfl rfl (by decide) rfl (fun h' hL => ?_); dsimp only [List.set, Nat.zero_add, Nat.reduceAdd, Nat.reduceMul] at hL; refine WO.cons (OP.mv rfl (WO.nil ?_)); dsimp only [thn_normal, thn_ret, thn_exit, blk_normal, blk_ret]; refine WC.ret ?_; dsimp only [thn_normal, thn_ret, thn_exit, blk_normal, blk_ret])
  rw [show FreeM r x = (noRing, 1000) from if_neg (by grind)]
  exact Fin.ret (resL_cell rfl (hL.cell (k := 0) rfl) rfl rfl) ⟨hL.pfx, none, 0, rfl, Sl.nil 5 _, Within.none _ _ _⟩
  (refine WO.cons (OP.pickF rfl rfl (WO.cons (OP.mv rfl (WO.yes rfl (WO.cons (OP.mv rfl (WO.yes rfl (WO.cons (OP.fieldAddr0 rfl (WO.yes rfl (WO.cons (OL.load1 (k := 1) hL rfl rfl rfl (WO.yes rfl (WO.cons ?_)))))))))))))); refine OP.gtrC rfl rfl (fun hc => ?_) (fun hc => ?_); refine WO.cons (OP.pickF rfl rfl (WO.nil ?_)); dsimp only [thn_normal, thn_ret, thn_exit, blk_normal, blk_ret]; refine WC.condT rfl (WC.seq (WC.ops (WO.cons (OP.buildN rfl rfl (WO.cons0 ?_))))); refine OL.storeAll (k := 0) hL hlim rfl rfl rfl rfl rfl rfl (by decide) rfl (fun h' hL => ?_); dsimp only [List.set, Nat.zero_add, Nat.reduceAdd, Nat.reduceMul] at hL; refine WO.cons (OP.mv rfl (WO.nil ?_)); dsimp only [thn_normal, thn_ret, thn_exit, blk_normal, blk_ret]; refine WC.ret ?_; dsimp only [thn_normal, thn_ret, thn_exit, blk_normal, blk_ret])
  rw [show FreeM r x = (noRing, 1000) from if_neg (by grind)]
  exact Fin.ret (resL_cell rfl (hL.cell (k := 0) rfl) rfl rfl) ⟨hL.pfx, none, 0, rfl, Sl.nil 5 _, Within.none _ _ _⟩
  (refine WO.cons (OP.pickF rfl rfl (WO.nil ?_)); dsimp only [thn_normal, thn_ret, thn_exit, blk_normal, blk_ret]; refine WC.condF rfl (WC.skip ?_); dsimp only [thn_normal, thn_ret, thn_exit, blk_normal, blk_ret]; refine WC.seq (WC.ops (WO.cons (OL.loadAll (k := 1) hL rfl rfl rfl (WO.cons ?_)))); refine OL.callSl hL rfl rfl (c1 _ _ (by first | exact hL.lm hlim | exact Nat.le_refl _ | omega) hL.pfx) (fun a' n' h' hp hL => ?_); refine WO.cons ?_; refine OL.new hL (fun b h' hL => (WO.cons0 ?_)); refine OL.storeAll (k := 0) hL hlim rfl rfl rfl rfl rfl rfl (by decide) rfl (fun h' hL => ?_); dsimp only [List.set, Nat.zero_add, Nat.reduceAdd, Nat.reduceMul] at hL; refine WO.nil ?_; dsimp only [thn_normal, thn_ret, thn_exit, blk_normal, blk_ret]; refine WC.seq (WC.ops (WO.cons (OP.mv rfl (WO.cons (OP.fieldAddr0 rfl (WO.cons0 ?_)))))); refine OL.store1 (k := 0) hL hlim rfl rfl rfl rfl rfl rfl rfl (fun h' hL => ?_); dsimp only [List.set, Nat.zero_add, Nat.reduceAdd, Nat.reduceMul] at hL; refine WO.nil ?_; dsimp only [thn_normal, thn_ret, thn_exit, blk_normal, blk_ret]; refine WC.seq (WC.ops (WO.cons (OL.loadAll (k := 0) hL rfl rfl rfl (WO.cons0 ?_)))); refine OL.storeAll (k := 2) hL hlim rfl rfl rfl rfl rfl rfl (by decide) rfl (fun h' hL => ?_); dsimp only [List.set, Nat.zero_add, Nat.reduceAdd, Nat.reduceMul] at hL; refine WO.cons (OP.mv rfl (WO.nil ?_)); dsimp only [thn_normal, thn_ret, thn_exit, blk_normal, blk_ret]; refine WC.ret ?_)
  rw [show FreeM r x = (⟨x, r.q, r.e, r.ss⟩, 0) from if_pos (by grind)]
  exact Fin.ret (resL_cell rfl (hL.cell (k := 2) rfl) rfl rfl) ⟨hL.pfx, _, _, rfl, hL.slOut (k := 1) rfl⟩
  (refine WO.cons (OP.not rfl (WO.cons (OP.mv rfl (WO.no rfl (WO.no rfl (WO.no rfl (WO.no rfl (WO.cons (OP.pickT rfl rfl (WO.cons (OP.mv rfl (WO.no rfl (WO.no rfl (WO.no rfl (WO.no rfl (WO.cons (OP.pickT rfl rfl (WO.nil ?_)))))))))))))))))); dsimp only [thn_normal, thn_ret, thn_exit, blk_normal, blk_ret]; refine WC.condT rfl (WC.seq (WC.ops (WO.cons (OP.buildN rfl rfl (WO.cons0 ?_))))); refine OL.storeAll (k := 0) hL hlim rfl rfl rfl rfl rfl rfl (by decide) rfl (fun h' hL => ?_); dsimp only [List.set, Nat.zero_add, Nat.reduceAdd, Nat.reduceMul] at hL; refine WO.cons (OP.mv rfl (WO.nil ?_)); dsimp only [thn_normal, thn_ret, thn_exit, blk_normal, blk_ret]; refine WC.ret ?_; dsimp only [thn_normal, thn_ret, thn_exit, blk_normal, blk_ret])
  rw [show FreeM r x = (noRing, 1000) from if_neg (by grind)]
  exact Fin.ret (resL_cell rfl (hL.cell (k := 0) rfl) rfl rfl) ⟨hL.pfx, none, 0, rfl, Sl.nil 5 _, Within.none _ _ _⟩
end
end Go.Proofs.YtgjickapnfnkfaaW.Ai
