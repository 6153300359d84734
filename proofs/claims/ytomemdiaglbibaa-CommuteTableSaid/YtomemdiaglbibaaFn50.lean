/-
 An object (chapter 6), as the small machine runs it.
-/
import Derived.Test.YtomemdiaglbibaaFn46
import Derived.Test.YtomemdiaglbibaaFn32
set_option linter.unusedVariables false
set_option linter.unusedSimpArgs false
set_option maxHeartbeats 4000000
set_option maxRecDepth 100000
namespace Go.Proofs.YtomemdiaglbibaaW.Ai
-- (chorus/object.turn).store; g0 = chorus/store.Apply
def rf_tStore (g0 : Nat) : RFunc :=
 ⟨13, [(.cell 2 (.some 4)), (.tmp 3), (.tmp 4)], (.seq (.ops [rO 1 (.box (.tmp 0)), rO 2 (.new [(.slice .none 0 0), (.slice .none 0 0), (.slice .none 0 0), (.slice .none 0 0)]), rO 3 (.mv (.const (.int .i64 0))), rO 4 (.mv (.const (.int .i64 0)))]) (.seq (.ops [rO 5 (.fieldAddr 0 (.tmp 1)), rO 6 (.load (.some 4) (.tmp 5)), rO 7 (.fieldAddr 4 (.tmp 1)), rO 8 (.load (.some 3) (.tmp 7)), rO 9 (.call (.func g0) [(.tmp 6), (.tmp 8)]), rO 10 (.extract (.tmp 9) 0), rO 11 (.extract (.tmp 9) 1), rO 12 (.extract (.tmp 9) 2), ⟨.none, (.store 4 (.tmp 2) (.tmp 10)), .none, false, []⟩, rO 3 (.mv (.tmp 11)), rO 4 (.mv (.tmp 12))]) .ret))⟩
-- (chorus/object.turn).fds; g0 = chorus/fds.Apply
def rf_tFds (g0 : Nat) : RFunc :=
 ⟨13, [(.cell 2 (.some 4)), (.tmp 3), (.tmp 4)], (.seq (.ops [rO 1 (.box (.tmp 0)), rO 2 (.new [(.slice .none 0 0), (.slice .none 0 0), (.slice .none 0 0), (.slice .none 0 0)]), rO 3 (.mv (.const (.int .i64 0))), rO 4 (.mv (.const (.int .i64 0)))]) (.seq (.ops [rO 5 (.fieldAddr 0 (.tmp 1)), rO 6 (.load (.some 4) (.tmp 5)), rO 7 (.fieldAddr 4 (.tmp 1)), rO 8 (.load (.some 3) (.tmp 7)), rO 9 (.call (.func g0) [(.tmp 6), (.tmp 8)]), rO 10 (.extract (.tmp 9) 0), rO 11 (.extract (.tmp 9) 1), rO 12 (.extract (.tmp 9) 2), ⟨.none, (.store 4 (.tmp 2) (.tmp 10)), .none, false, []⟩, rO 3 (.mv (.tmp 11)), rO 4 (.mv (.tmp 12))]) .ret))⟩
-- (chorus/object.turn).queue; g0 = chorus/queue.Apply
def rf_tQueue (g0 : Nat) : RFunc :=
 ⟨13, [(.cell 2 (.some 4)), (.tmp 3), (.tmp 4)], (.seq (.ops [rO 1 (.box (.tmp 0)), rO 2 (.new [(.slice .none 0 0), (.slice .none 0 0), (.slice .none 0 0), (.slice .none 0 0)]), rO 3 (.mv (.const (.int .i64 0))), rO 4 (.mv (.const (.int .i64 0)))]) (.seq (.ops [rO 5 (.fieldAddr 0 (.tmp 1)), rO 6 (.load (.some 4) (.tmp 5)), rO 7 (.fieldAddr 4 (.tmp 1)), rO 8 (.load (.some 3) (.tmp 7)), rO 9 (.call (.func g0) [(.tmp 6), (.tmp 8)]), rO 10 (.extract (.tmp 9) 0), rO 11 (.extract (.tmp 9) 1), rO 12 (.extract (.tmp 9) 2), ⟨.none, (.store 4 (.tmp 2) (.tmp 10)), .none, false, []⟩, rO 3 (.mv (.tmp 11)), rO 4 (.mv (.tmp 12))]) .ret))⟩
-- chorus/object.Is
def rf_oIs : RFunc :=
 ⟨9, [(.tmp 2)], (.seq (.ops [rO 2 (.mv (.const (.bool false)))]) (.seq (.ops [rO 3 (.mv (.tmp 0)), rO 4 (.bin .geq (.tmp 3) (.const (.int .i64 0))), rO 5 (.mv (.tmp 4)), ⟨(.some 6), (.mv (.tmp 0)), (.some (5, true)), false, []⟩, ⟨(.some 7), (.bin .leq (.tmp 6) (.const (.int .i64 2))), (.some (5, true)), false, []⟩, rO 8 (.pick (.tmp 5) (.tmp 7) (.const (.bool false))), rO 2 (.mv (.tmp 8))]) .ret))⟩
-- chorus/object.Apply; g0 = chorus/object.Is; g1 = (chorus/object.turn).store; g2 = (chorus/object.turn).fds; g3 = (chorus/object.turn).queue
def rf_oApply (g0 g1 g2 g3 : Nat) : RFunc :=
 ⟨34, [(.cell 6 (.some 4)), (.tmp 7), (.tmp 8)], (.seq (.ops [rO 4 (.box (.tmp 1)), rO 5 (.box (.tmp 2)), rO 6 (.new [(.slice .none 0 0), (.slice .none 0 0), (.slice .none 0 0), (.slice .none 0 0)]), rO 7 (.mv (.const (.int .i64 0))), rO 8 (.mv (.const (.int .i64 0)))]) (.seq (.seq (.ops [rO 13 (.mv (.tmp 0)), rO 14 (.call (.func g0) [(.tmp 13)]), rO 15 (.un .not (.tmp 14))]) (.cond (.tmp 15) (.seq (.ops [rO 16 (.build [(.slice .none 0 0), (.slice .none 0 0), (.slice .none 0 0), (.slice .none 0 0)] []), ⟨.none, (.store 4 (.tmp 6) (.tmp 16)), .none, false, []⟩, rO 7 (.mv (.const (.int .i64 0))), rO 8 (.mv (.const (.int .i64 600)))]) .ret) .skip)) (.seq (.ops [rO 17 (.build [.nilFunc, .nilFunc, .nilFunc] [(0, (1, (.func g1))), (1, (1, (.func g2))), (2, (1, (.func g3)))]), rO 9 (.new [.nilFunc, .nilFunc, .nilFunc]), ⟨.none, (.store 3 (.tmp 9) (.tmp 17)), .none, false, []⟩]) (.seq (.ops [⟨(.some 19), (.mv (.tmp 0)), .none, true, []⟩, ⟨(.some 20), (.idxAddrArr 3 1 (.tmp 9) (.tmp 19)), .none, true, []⟩, ⟨(.some 21), (.load .none (.tmp 20)), .none, true, []⟩, ⟨(.some 22), (.load (.some 4) (.tmp 4)), .none, true, []⟩, ⟨(.some 23), (.load (.some 3) (.tmp 5)), .none, true, []⟩, ⟨(.some 24), (.build [(.slice .none 0 0), (.slice .none 0 0), (.slice .none 0 0), (.slice .none 0 0), (.int .i64 0), (.int .i64 0), (.int .i64 0)] [(0, (4, (.tmp 22))), (4, (3, (.tmp 23)))]), .none, true, []⟩, ⟨(.some 25), (.call (.tmp 21) [(.tmp 24)]), .none, true, []⟩, ⟨(.some 18), (.mv (.tmp 25)), .none, true, []⟩, ⟨(.some 26), (.extract (.tmp 18) 0), .none, true, []⟩, ⟨(.some 27), (.extract (.tmp 18) 1), .none, true, []⟩, ⟨(.some 28), (.extract (.tmp 18) 2), .none, true, []⟩, ⟨(.some 10), (.new [(.slice .none 0 0), (.slice .none 0 0), (.slice .none 0 0), (.slice .none 0 0)]), .none, true, []⟩, ⟨.none, (.store 4 (.tmp 10) (.tmp 26)), .none, false, []⟩, rO 11 (.mv (.tmp 27)), rO 12 (.mv (.tmp 28))]) (.seq (.seq (.ops [rO 29 (.mv (.tmp 12)), rO 30 (.bin .neq (.tmp 29) (.const (.int .i64 0)))]) (.cond (.tmp 30) (.seq (.ops [rO 31 (.build [(.slice .none 0 0), (.slice .none 0 0), (.slice .none 0 0), (.slice .none 0 0)] []), ⟨.none, (.store 4 (.tmp 6) (.tmp 31)), .none, false, []⟩, rO 7 (.mv (.const (.int .i64 0))), rO 8 (.mv (.const (.int .i64 600)))]) .ret) .skip)) (.seq (.ops [rO 32 (.load (.some 4) (.tmp 10)), rO 33 (.mv (.tmp 11)), ⟨.none, (.store 4 (.tmp 6) (.tmp 32)), .none, false, []⟩, rO 7 (.mv (.tmp 33)), rO 8 (.mv (.const (.int .i64 0)))]) .ret))))))⟩
section
variable (X : Ext) (F : FuncId → Option RFunc) (g : FuncId)
abbrev S_turnOf (M : S4 → Int → Int → Int → S4 × Int × Int) : Prop := ∀ (lim : Nat) (h : AH) {r0 r1 r2 r3 : Row} {c r a : Int}, lim ≤ h.length → St h r0 r1 r2 r3 → Ret X F lim g [.agg #[r0.v, r1.v, r2.v, r3.v, .int .i64 c, .int .i64 r, .int .i64 a]] h fun v h' => Pfx h h' ∧ MadeS h h' (fun s0 s1 s2 s3 => .tuple #[stV s0 s1 s2 s3, .int .i64 (M ⟨r0.xs, r1.xs, r2.xs, r3.xs⟩ c r a).2.1, .int .i64 (M ⟨r0.xs, r1.xs, r2.xs, r3.xs⟩ c r a).2.2]) (M ⟨r0.xs, r1.xs, r2.xs, r3.xs⟩ c r a).1 v
abbrev S_tStore : Prop := S_turnOf X F g (StoreM 300)
abbrev S_tFds : Prop := S_turnOf X F g (FdsM 400)
abbrev S_tQueue : Prop := S_turnOf X F g (QueueM 500)
abbrev S_oIs : Prop := ∀ (lim : Nat) (h : AH) {ob : Int}, Ret X F lim g [.int .i64 ob] h fun v h' => Pfx h h' ∧ v = .bool (decide (0 ≤ ob ∧ ob ≤ 2))
end
/-- May a state be an object's? -/
def ObMay (ob : Int) (s : S4) : Prop := (ob = 0 ∧ StoreOk s) ∨ (ob = 1 ∧ TabOk s) ∨ (ob = 2 ∧ QueueOk s)
instance (ob : Int) (s : S4) : Decidable (ObMay ob s) := inferInstanceAs (Decidable (_ ∨ _ ∨ _))
/-- What an operation on an object comes to; e: the error. -/
def ObjM (e ob : Int) (s : S4) (c r a : Int) : S4 × Int × Int := if ob = 0 then StoreM e s c r a else if ob = 1 then FdsM e s c r a else if ob = 2 then QueueM e s c r a else (S4.none, 0, e)
theorem StoreM_up {e e' : Int} (he : e ≠ 0) (s : S4) (c r a : Int) : StoreM e' s c r a = if (StoreM e s c r a).2.2 ≠ 0 then (S4.none, 0, e') else StoreM e s c r a := by
 unfold StoreM
 split
 ·simp only [apply_ite Prod.snd, ite_self]; simp
  repeat' split
  all_goals simp
 ·simp [he]
theorem FdsM_up {e e' : Int} (he : e ≠ 0) (s : S4) (c r a : Int) : FdsM e' s c r a = if (FdsM e s c r a).2.2 ≠ 0 then (S4.none, 0, e') else FdsM e s c r a := by
 unfold FdsM
 repeat' split
 all_goals simp_all
theorem QueueM_up {e e' : Int} (he : e ≠ 0) (s : S4) (c r a : Int) : QueueM e' s c r a = if (QueueM e s c r a).2.2 ≠ 0 then (S4.none, 0, e') else QueueM e s c r a := by
 unfold QueueM
 repeat' split
 all_goals simp_all
section
variable {X : Ext} {F : FuncId → Option RFunc} {f : FuncId}
theorem s_tStore {g0 : Nat} (hX : X f = none) (hF : F f = some (rf_tStore g0)) (d0' : S_sApply X F g0) : S_tStore X F f := by
 intro lim h r0 r1 r2 r3 c r a hlim hst
 have hL := Loc.start h
 generalize hN : StoreM 300 ⟨r0.xs, r1.xs, r2.xs, r3.xs⟩ c r a = N
 have d0 : ∀ (lim : Nat) (h' : AH), lim ≤ h'.length → St h' r0 r1 r2 r3 → Ret X F lim g0 [stV r0 r1 r2 r3, .agg #[.int .i64 c, .int .i64 r, .int .i64 a]] h' fun v h'' => Pfx h' h'' ∧ MadeS h' h'' (fun s0 s1 s2 s3 => .tuple #[stV s0 s1 s2 s3, .int .i64 N.2.1, .int .i64 N.2.2]) N.1 v := fun lim h' h1 h2 => hN ▸ d0' lim h' h1 h2
 obtain ⟨s, x, e⟩ := N
 dsimp only at d0 ⊢
 refine Ret.body hX hF rfl ?_
 simp only [argL, rf_tStore]
 (refine Cs (Co (Wc ?_)); refine OL.boxA hL rfl rfl (fun b h' hL => (Wc ?_)); refine OL.new hL (fun b h' hL => (Wm rfl (Wm rfl (Wt ?_)))); refine Cs (Co (Wc (OP.fieldAddr0 rfl (Wc (OL.load (k := 1) hL rfl rfl rfl (Wc (OP.fieldAddr0 rfl (Wc (OL.load (k := 1) hL rfl rfl rfl (Wc ?_)))))))))); refine OL.callSt hL rfl rfl (d0 _ _ (by first | exact hL.lm hlim | exact Nat.le_refl _ | omega) (by first | omega | assumption | exact St.pfx (by assumption) hL.pfx | exact hL.stM (by repeat (first | exact mh | apply mt)) | exact RowOk.pfx (by assumption) hL.pfx | exact (hL.stM (by repeat (first | exact mh | apply mt))).1 | exact (hL.stM (by repeat (first | exact mh | apply mt))).2.1 | exact (hL.stM (by repeat (first | exact mh | apply mt))).2.2.1 | exact (hL.stM (by repeat (first | exact mh | apply mt))).2.2.2)) (fun a0 n0 a1 n1 a2 n2 a3 n3 h' hy hp hL => ?_); (try dsimp only at hL hy ⊢); refine Wc (OP.extract rfl rfl (Wc (OP.extract rfl rfl (Wc (OP.extract rfl rfl (WO.cons0 ?_)))))); refine OL.storeAll (k := 1) hL hlim rfl rfl rfl rfl rfl rfl (by decide) rfl (fun h' hL => ?_); dsimp only [List.set, Nat.zero_add, Nat.reduceAdd, Nat.reduceMul] at hL; refine Wm rfl (Wm rfl (Wt ?_)); refine WC.ret ?_)
 have hw := hL.stOut (r0 := ⟨a0, n0, s.x0⟩) (r1 := ⟨a1, n1, s.x1⟩) (r2 := ⟨a2, n2, s.x2⟩) (r3 := ⟨a3, n3, s.x3⟩) (by repeat (first | exact mh | apply mt))
 exact Fin.ret (resL_cell rfl (hL.cell (k := 1) rfl) rfl rfl) ⟨hL.pfx, _, _, _, _, rfl, ⟨rfl, rfl, rfl, rfl⟩, hw.1, hw.2⟩
theorem s_tFds {g0 : Nat} (hX : X f = none) (hF : F f = some (rf_tFds g0)) (d0' : S_fdsApply X F g0) : S_tFds X F f := by
 intro lim h r0 r1 r2 r3 c r a hlim hst
 have hL := Loc.start h
 generalize hN : FdsM 400 ⟨r0.xs, r1.xs, r2.xs, r3.xs⟩ c r a = N
 have d0 : ∀ (lim : Nat) (h' : AH), lim ≤ h'.length → St h' r0 r1 r2 r3 → Ret X F lim g0 [stV r0 r1 r2 r3, .agg #[.int .i64 c, .int .i64 r, .int .i64 a]] h' fun v h'' => Pfx h' h'' ∧ MadeS h' h'' (fun s0 s1 s2 s3 => .tuple #[stV s0 s1 s2 s3, .int .i64 N.2.1, .int .i64 N.2.2]) N.1 v := fun lim h' h1 h2 => hN ▸ d0' lim h' h1 h2
 obtain ⟨s, x, e⟩ := N
 dsimp only at d0 ⊢
 refine Ret.body hX hF rfl ?_
 simp only [argL, rf_tFds]
 (refine Cs (Co (Wc ?_)); refine OL.boxA hL rfl rfl (fun b h' hL => (Wc ?_)); refine OL.new hL (fun b h' hL => (Wm rfl (Wm rfl (Wt ?_)))); refine Cs (Co (Wc (OP.fieldAddr0 rfl (Wc (OL.load (k := 1) hL rfl rfl rfl (Wc (OP.fieldAddr0 rfl (Wc (OL.load (k := 1) hL rfl rfl rfl (Wc ?_)))))))))); refine OL.callSt hL rfl rfl (d0 _ _ (by first | exact hL.lm hlim | exact Nat.le_refl _ | omega) (by first | omega | assumption | exact St.pfx (by assumption) hL.pfx | exact hL.stM (by repeat (first | exact mh | apply mt)) | exact RowOk.pfx (by assumption) hL.pfx | exact (hL.stM (by repeat (first | exact mh | apply mt))).1 | exact (hL.stM (by repeat (first | exact mh | apply mt))).2.1 | exact (hL.stM (by repeat (first | exact mh | apply mt))).2.2.1 | exact (hL.stM (by repeat (first | exact mh | apply mt))).2.2.2)) (fun a0 n0 a1 n1 a2 n2 a3 n3 h' hy hp hL => ?_); (try dsimp only at hL hy ⊢); refine Wc (OP.extract rfl rfl (Wc (OP.extract rfl rfl (Wc (OP.extract rfl rfl (WO.cons0 ?_)))))); refine OL.storeAll (k := 1) hL hlim rfl rfl rfl rfl rfl rfl (by decide) rfl (fun h' hL => ?_); dsimp only [List.set, Nat.zero_add, Nat.reduceAdd, Nat.reduceMul] at hL; refine Wm rfl (Wm rfl (Wt ?_)); refine WC.ret ?_)
 have hw := hL.stOut (r0 := ⟨a0, n0, s.x0⟩) (r1 := ⟨a1, n1, s.x1⟩) (r2 := ⟨a2, n2, s.x2⟩) (r3 := ⟨a3, n3, s.x3⟩) (by repeat (first | exact mh | apply mt))
 exact Fin.ret (resL_cell rfl (hL.cell (k := 1) rfl) rfl rfl) ⟨hL.pfx, _, _, _, _, rfl, ⟨rfl, rfl, rfl, rfl⟩, hw.1, hw.2⟩
theorem s_tQueue {g0 : Nat} (hX : X f = none) (hF : F f = some (rf_tQueue g0)) (d0' : S_qApply X F g0) : S_tQueue X F f := by
 intro lim h r0 r1 r2 r3 c r a hlim hst
 have hL := Loc.start h
 generalize hN : QueueM 500 ⟨r0.xs, r1.xs, r2.xs, r3.xs⟩ c r a = N
 have d0 : ∀ (lim : Nat) (h' : AH), lim ≤ h'.length → St h' r0 r1 r2 r3 → Ret X F lim g0 [stV r0 r1 r2 r3, .agg #[.int .i64 c, .int .i64 r, .int .i64 a]] h' fun v h'' => Pfx h' h'' ∧ MadeS h' h'' (fun s0 s1 s2 s3 => .tuple #[stV s0 s1 s2 s3, .int .i64 N.2.1, .int .i64 N.2.2]) N.1 v := fun lim h' h1 h2 => hN ▸ d0' lim h' h1 h2
 obtain ⟨s, x, e⟩ := N
 dsimp only at d0 ⊢
 refine Ret.body hX hF rfl ?_
 simp only [argL, rf_tQueue]
 (refine Cs (Co (Wc ?_)); refine OL.boxA hL rfl rfl (fun b h' hL => (Wc ?_)); refine OL.new hL (fun b h' hL => (Wm rfl (Wm rfl (Wt ?_)))); refine Cs (Co (Wc (OP.fieldAddr0 rfl (Wc (OL.load (k := 1) hL rfl rfl rfl (Wc (OP.fieldAddr0 rfl (Wc (OL.load (k := 1) hL rfl rfl rfl (Wc ?_)))))))))); refine OL.callSt hL rfl rfl (d0 _ _ (by first | exact hL.lm hlim | exact Nat.le_refl _ | omega) (by first | omega | assumption | exact St.pfx (by assumption) hL.pfx | exact hL.stM (by repeat (first | exact mh | apply mt)) | exact RowOk.pfx (by assumption) hL.pfx | exact (hL.stM (by repeat (first | exact mh | apply mt))).1 | exact (hL.stM (by repeat (first | exact mh | apply mt))).2.1 | exact (hL.stM (by repeat (first | exact mh | apply mt))).2.2.1 | exact (hL.stM (by repeat (first | exact mh | apply mt))).2.2.2)) (fun a0 n0 a1 n1 a2 n2 a3 n3 h' hy hp hL => ?_); (try dsimp only at hL hy ⊢); refine Wc (OP.extract rfl rfl (Wc (OP.extract rfl rfl (Wc (OP.extract rfl rfl (WO.cons0 ?_)))))); refine OL.storeAll (k := 1) hL hlim rfl rfl rfl rfl rfl rfl (by decide) rfl (fun h' hL => ?_); dsimp only [List.set, Nat.zero_add, Nat.reduceAdd, Nat.reduceMul] at hL; refine Wm rfl (Wm rfl (Wt ?_)); refine WC.ret ?_)
 have hw := hL.stOut (r0 := ⟨a0, n0, s.x0⟩) (r1 := ⟨a1, n1, s.x1⟩) (r2 := ⟨a2, n2, s.x2⟩) (r3 := ⟨a3, n3, s.x3⟩) (by repeat (first | exact mh | apply mt))
 exact Fin.ret (resL_cell rfl (hL.cell (k := 1) rfl) rfl rfl) ⟨hL.pfx, _, _, _, _, rfl, ⟨rfl, rfl, rfl, rfl⟩, hw.1, hw.2⟩
theorem s_oIs (hX : X f = none) (hF : F f = some rf_oIs) : S_oIs X F f := by
 intro lim h ob
 have hL := Loc.start h
 refine Ret.body hX hF rfl ?_
 simp only [argL, rf_oIs]
 (refine Cs (Co (Wm rfl (Wt ?_))); refine Cs (Co (Wm rfl (Wc ?_))); refine OP.geqC rfl rfl (fun hc => ?_) (fun hc => ?_); refine Wm rfl (WO.yes rfl (Wm rfl (WO.yes rfl (Wc ?_)))); refine OP.leqC rfl rfl (fun hc => ?_) (fun hc => ?_); refine Wc (OP.pickT rfl rfl (Wm rfl (Wt ?_))); refine WC.ret ?_; exact Fin.ret rfl ⟨hL.pfx, boolT (by omega)⟩; refine Wc (OP.pickT rfl rfl (Wm rfl (Wt ?_))); refine WC.ret ?_; exact Fin.ret rfl ⟨hL.pfx, boolF (by omega)⟩; refine Wm rfl (WO.no rfl (WO.no rfl (Wc (OP.pickF rfl rfl (Wm rfl (Wt ?_)))))); refine WC.ret ?_; exact Fin.ret rfl ⟨hL.pfx, boolF (by omega)⟩)
end
end Go.Proofs.YtomemdiaglbibaaW.Ai
