/-
 An object (chapter 6), as the small machine runs it.
-/
import Derived.Test.YtalknjppnkpmmaaDoorFn46
import Derived.Test.YtalknjppnkpmmaaDoorFn32
set_option linter.unusedVariables false
set_option linter.unusedSimpArgs false
set_option maxHeartbeats 4000000
set_option maxRecDepth 100000
namespace Go.Proofs.YtalknjppnkpmmaaDoorW.Ai
section
def rf_tStore (g0 : Nat) : RFunc :=
 ⟨13, [(.cell 2 (.some 4)), (.tmp 3), (.tmp 4)], (.seq (.ops [rO 1 (.box (.tmp 0)), rO 2 (.new [(.slice .none 0 0), (.slice .none 0 0), (.slice .none 0 0), (.slice .none 0 0)]), rO 3 (.mv (.const (.int .i64 0))), rO 4 (.mv (.const (.int .i64 0)))]) (.seq (.ops [rO 5 (.fieldAddr 0 (.tmp 1)), rO 6 (.load (.some 4) (.tmp 5)), rO 7 (.fieldAddr 4 (.tmp 1)), rO 8 (.load (.some 3) (.tmp 7)), rO 9 (.call (.func g0) [(.tmp 6), (.tmp 8)]), rO 10 (.extract (.tmp 9) 0), rO 11 (.extract (.tmp 9) 1), rO 12 (.extract (.tmp 9) 2), ⟨.none, (.store 4 (.tmp 2) (.tmp 10)), .none, false, []⟩, rO 3 (.mv (.tmp 11)), rO 4 (.mv (.tmp 12))]) .ret))⟩
def rf_tFds (g0 : Nat) : RFunc :=
 ⟨13, [(.cell 2 (.some 4)), (.tmp 3), (.tmp 4)], (.seq (.ops [rO 1 (.box (.tmp 0)), rO 2 (.new [(.slice .none 0 0), (.slice .none 0 0), (.slice .none 0 0), (.slice .none 0 0)]), rO 3 (.mv (.const (.int .i64 0))), rO 4 (.mv (.const (.int .i64 0)))]) (.seq (.ops [rO 5 (.fieldAddr 0 (.tmp 1)), rO 6 (.load (.some 4) (.tmp 5)), rO 7 (.fieldAddr 4 (.tmp 1)), rO 8 (.load (.some 3) (.tmp 7)), rO 9 (.call (.func g0) [(.tmp 6), (.tmp 8)]), rO 10 (.extract (.tmp 9) 0), rO 11 (.extract (.tmp 9) 1), rO 12 (.extract (.tmp 9) 2), ⟨.none, (.store 4 (.tmp 2) (.tmp 10)), .none, false, []⟩, rO 3 (.mv (.tmp 11)), rO 4 (.mv (.tmp 12))]) .ret))⟩
def rf_tQueue (g0 : Nat) : RFunc :=
 ⟨13, [(.cell 2 (.some 4)), (.tmp 3), (.tmp 4)], (.seq (.ops [rO 1 (.box (.tmp 0)), rO 2 (.new [(.slice .none 0 0), (.slice .none 0 0), (.slice .none 0 0), (.slice .none 0 0)]), rO 3 (.mv (.const (.int .i64 0))), rO 4 (.mv (.const (.int .i64 0)))]) (.seq (.ops [rO 5 (.fieldAddr 0 (.tmp 1)), rO 6 (.load (.some 4) (.tmp 5)), rO 7 (.fieldAddr 4 (.tmp 1)), rO 8 (.load (.some 3) (.tmp 7)), rO 9 (.call (.func g0) [(.tmp 6), (.tmp 8)]), rO 10 (.extract (.tmp 9) 0), rO 11 (.extract (.tmp 9) 1), rO 12 (.extract (.tmp 9) 2), ⟨.none, (.store 4 (.tmp 2) (.tmp 10)), .none, false, []⟩, rO 3 (.mv (.tmp 11)), rO 4 (.mv (.tmp 12))]) .ret))⟩
def rf_oIs : RFunc :=
 ⟨9, [(.tmp 2)], (.seq (.ops [rO 2 (.mv (.const (.bool false)))]) (.seq (.ops [rO 3 (.mv (.tmp 0)), rO 4 (.bin .geq (.tmp 3) (.const (.int .i64 0))), rO 5 (.mv (.tmp 4)), ⟨(.some 6), (.mv (.tmp 0)), (.some (5, true)), false, []⟩, ⟨(.some 7), (.bin .leq (.tmp 6) (.const (.int .i64 2))), (.some (5, true)), false, []⟩, rO 8 (.pick (.tmp 5) (.tmp 7) (.const (.bool false))), rO 2 (.mv (.tmp 8))]) .ret))⟩
def rf_oApply (g0 g1 g2 g3 : Nat) : RFunc :=
 ⟨34, [(.cell 6 (.some 4)), (.tmp 7), (.tmp 8)], (.seq (.ops [rO 4 (.box (.tmp 1)), rO 5 (.box (.tmp 2)), rO 6 (.new [(.slice .none 0 0), (.slice .none 0 0), (.slice .none 0 0), (.slice .none 0 0)]), rO 7 (.mv (.const (.int .i64 0))), rO 8 (.mv (.const (.int .i64 0)))]) (.seq (.seq (.ops [rO 13 (.mv (.tmp 0)), rO 14 (.call (.func g0) [(.tmp 13)]), rO 15 (.un .not (.tmp 14))]) (.cond (.tmp 15) (.seq (.ops [rO 16 (.build [(.slice .none 0 0), (.slice .none 0 0), (.slice .none 0 0), (.slice .none 0 0)] []), ⟨.none, (.store 4 (.tmp 6) (.tmp 16)), .none, false, []⟩, rO 7 (.mv (.const (.int .i64 0))), rO 8 (.mv (.const (.int .i64 600)))]) .ret) .skip)) (.seq (.ops [rO 17 (.build [.nilFunc, .nilFunc, .nilFunc] [(0, (1, (.func g1))), (1, (1, (.func g2))), (2, (1, (.func g3)))]), rO 9 (.new [.nilFunc, .nilFunc, .nilFunc]), ⟨.none, (.store 3 (.tmp 9) (.tmp 17)), .none, false, []⟩]) (.seq (.ops [⟨(.some 19), (.mv (.tmp 0)), .none, true, []⟩, ⟨(.some 20), (.idxAddrArr 3 1 (.tmp 9) (.tmp 19)), .none, true, []⟩, ⟨(.some 21), (.load .none (.tmp 20)), .none, true, []⟩, ⟨(.some 22), (.load (.some 4) (.tmp 4)), .none, true, []⟩, ⟨(.some 23), (.load (.some 3) (.tmp 5)), .none, true, []⟩, ⟨(.some 24), (.build [(.slice .none 0 0), (.slice .none 0 0), (.slice .none 0 0), (.slice .none 0 0), (.int .i64 0), (.int .i64 0), (.int .i64 0)] [(0, (4, (.tmp 22))), (4, (3, (.tmp 23)))]), .none, true, []⟩, ⟨(.some 25), (.call (.tmp 21) [(.tmp 24)]), .none, true, []⟩, ⟨(.some 18), (.mv (.tmp 25)), .none, true, []⟩, ⟨(.some 26), (.extract (.tmp 18) 0), .none, true, []⟩, ⟨(.some 27), (.extract (.tmp 18) 1), .none, true, []⟩, ⟨(.some 28), (.extract (.tmp 18) 2), .none, true, []⟩, ⟨(.some 10), (.new [(.slice .none 0 0), (.slice .none 0 0), (.slice .none 0 0), (.slice .none 0 0)]), .none, true, []⟩, ⟨.none, (.store 4 (.tmp 10) (.tmp 26)), .none, false, []⟩, rO 11 (.mv (.tmp 27)), rO 12 (.mv (.tmp 28))]) (.seq (.seq (.ops [rO 29 (.mv (.tmp 12)), rO 30 (.bin .neq (.tmp 29) (.const (.int .i64 0)))]) (.cond (.tmp 30) (.seq (.ops [rO 31 (.build [(.slice .none 0 0), (.slice .none 0 0), (.slice .none 0 0), (.slice .none 0 0)] []), ⟨.none, (.store 4 (.tmp 6) (.tmp 31)), .none, false, []⟩, rO 7 (.mv (.const (.int .i64 0))), rO 8 (.mv (.const (.int .i64 600)))]) .ret) .skip)) (.seq (.ops [rO 32 (.load (.some 4) (.tmp 10)), rO 33 (.mv (.tmp 11)), ⟨.none, (.store 4 (.tmp 6) (.tmp 32)), .none, false, []⟩, rO 7 (.mv (.tmp 33)), rO 8 (.mv (.const (.int .i64 0)))]) .ret))))))⟩
section
variable (X : Ext) (F : FuncId → Option RFunc) (g : FuncId)
abbrev S_turnOf (M : S4 → Int → Int → Int → S4 × Int × Int) : Prop := ∀ (lim : Nat) (h : AH) {r0 r1 r2 r3 : Row} {c r a : Int}, lim ≤ h.length → St h r0 r1 r2 r3 → Ret X F lim g [.agg #[r0.v, r1.v, r2.v, r3.v, .int .i64 c, .int .i64 r, .int .i64 a]] h fun v h' => Pfx h h' ∧ MadeS h h' (fun s0 s1 s2 s3 => .tuple #[stV s0 s1 s2 s3, .int .i64 (M ⟨r0.xs, r1.xs, r2.xs, r3.xs⟩ c r a).2.1, .int .i64 (M ⟨r0.xs, r1.xs, r2.xs, r3.xs⟩ c r a).2.2]) (M ⟨r0.xs, r1.xs, r2.xs, r3.xs⟩ c r a).1 v
abbrev S_tStore : Prop := S_turnOf X F g (StoreM 300)
abbrev S_tFds : Prop := S_turnOf X F g (FdsM 400)
abbrev S_tQueue : Prop := S_turnOf X F g (QueueM 500)
abbrev S_oIs : Prop := ∀ (lim : Nat) (h : AH) {ob : Int}, Ret X F lim g [.int .i64 ob] h fun v h' => Pfx h h' ∧ v = .bool (decide (0 ≤ ob ∧ ob ≤ 2))
end
def ObMay (ob : Int) (s : S4) : Prop := (ob = 0 ∧ StoreOk s) ∨ (ob = 1 ∧ TabOk s) ∨ (ob = 2 ∧ QueueOk s)
instance (ob : Int) (s : S4) : Decidable (ObMay ob s) := inferInstanceAs (Decidable (_ ∨ _ ∨ _))
def ObjM (e ob : Int) (s : S4) (c r a : Int) : S4 × Int × Int := if ob = 0 then StoreM e s c r a else if ob = 1 then FdsM e s c r a else if ob = 2 then QueueM e s c r a else (S4.none, 0, e)
theorem StoreM_up {e e' : Int} (he : e ≠ 0) (s : S4) (c r a : Int) : StoreM e' s c r a = if (StoreM e s c r a).2.2 ≠ 0 then (S4.none, 0, e') else StoreM e s c r a := by
 unfold StoreM
 split
 ·simp only [apply_ite Prod.snd, ite_self]; simp
  repeat' split
  all_goals simp
 ·simp [he]
theorem FdsM_up {e e' : Int} (he : e ≠ 0) (s : S4) (c r a : Int) : FdsM e' s c r a = if (FdsM e s c r a).2.2 ≠ 0 then (S4.none, 0, e') else FdsM e s c r a := by
 unfold FdsM
 repeat' split
 all_goals simp_all
theorem QueueM_up {e e' : Int} (he : e ≠ 0) (s : S4) (c r a : Int) : QueueM e' s c r a = if (QueueM e s c r a).2.2 ≠ 0 then (S4.none, 0, e') else QueueM e s c r a := by
 unfold QueueM
 repeat' split
 all_goals simp_all
section
variable {X : Ext} {F : FuncId → Option RFunc} {f : FuncId}
theorem s_tStore {g0 : Nat} (hX : X f = none) (hF : F f = some (rf_tStore g0)) (d0' : S_sApply X F g0) : S_tStore X F f := by
 intro lim h r0 r1 r2 r3 c r a hlim hst
 have hL := Loc.start h
 generalize hN : StoreM 300 ⟨r0.xs, r1.xs, r2.xs, r3.xs⟩ c r a = N
 have d0 : ∀ (lim : Nat) (h' : AH), lim ≤ h'.length → St h' r0 r1 r2 r3 → Ret X F lim g0 [stV r0 r1 r2 r3, .agg #[.int .i64 c, .int .i64 r, .int .i64 a]] h' fun v h'' => Pfx h' h'' ∧ MadeS h' h'' (fun s0 s1 s2 s3 => .tuple #[stV s0 s1 s2 s3, .int .i64 N.2.1, .int .i64 N.2.2]) N.1 v := fun lim h' h1 h2 => hN ▸ d0' lim h' h1 h2
 obtain ⟨s, x, e⟩ := N
 dsimp only at d0 ⊢
 refine Ret.body hX hF rfl ?_
 simp only [argL, rf_tStore]
 (refine Cs (Co (Wc ?_)); refine OL.boxA hL rfl rfl (fun b h' hL => (Wc ?_)); refine OL.new hL (fun b h' hL => (Wm rfl (Wm rfl (Wt ?_)))); refine Cs (Co (Wc (OP.fieldAddr0 rfl (Wc (OL.load (k := 1) hL rfl rfl rfl (Wc (OP.fieldAddr0 rfl (Wc (OL.load (k := 1) hL rfl rfl rfl (Wc ?_)))))))))); refine OL.callSt hL rfl rfl (d0 _ _ (by first | exact hL.lm hlim | exact Nat.le_refl _ | omega) (by first | omega | assumption | exact St.pfx (by assumption) hL.pfx | exact hL.stM (by repeat (first | exact mh | apply mt)) | exact RowOk.pfx (by assumption) hL.pfx | exact (hL.stM (by repeat (first | exact mh | apply mt))).1 | exact (hL.stM (by repeat (first | exact mh | apply mt))).2.1 | exact (hL.stM (by repeat (first | exact mh | apply mt))).2.2.1 | exact (hL.stM (by repeat (first | exact mh | apply mt))).2.2.2)) (fun a0 n0 a1 n1 a2 n2 a3 n3 h' hy hp hL => ?_); (try dsimp only at hL hy ⊢); refine Wc (OP.extract rfl rfl (Wc (OP.extract rfl rfl (Wc (OP.extract rfl rfl (WO.cons0 ?_)))))); refine OL.storeAll (k := 1) hL hlim rfl rfl rfl rfl rfl rfl (by decide) rfl (fun h' hL => ?_); dsimp only [List.set, Nat.zero_add, Nat.reduceAdd, Nat.reduceMul] at hL; refine Wm rfl (Wm rfl (Wt ?_)); refine WC.ret ?_)
 have hw := hL.stOut (r0 := ⟨a0, n0, s.x0⟩) (r1 := ⟨a1, n1, s.x1⟩) (r2 := ⟨a2, n2, s.x2⟩) (r3 := ⟨a3, n3, s.x3⟩) (by repeat (first | exact mh | apply mt))
 exact Fin.ret (resL_cell rfl (hL.cell (k := 1) rfl) rfl rfl) ⟨hL.pfx, _, _, _, _, rfl, ⟨rfl, rfl, rfl, rfl⟩, hw.1, hw.2⟩
theorem s_tFds {g0 : Nat} (hX : X f = none) (hF : F f = some (rf_tFds g0)) (d0' : S_fdsApply X F g0) : S_tFds X F f := by
 intro lim h r0 r1 r2 r3 c r a hlim hst
 have hL := Loc.start h
 generalize hN : FdsM 400 ⟨r0.xs, r1.xs, r2.xs, r3.xs⟩ c r a = N
 have d0 : ∀ (lim : Nat) (h' : AH), lim ≤ h'.length → St h' r0 r1 r2 r3 → Ret X F lim g0 [stV r0 r1 r2 r3, .agg #[.int .i64 c, .int .i64 r, .int .i64 a]] h' fun v h'' => Pfx h' h'' ∧ MadeS h' h'' (fun s0 s1 s2 s3 => .tuple #[stV s0 s1 s2 s3, .int .i64 N.2.1, .int .i64 N.2.2]) N.1 v := fun lim h' h1 h2 => hN ▸ d0' lim h' h1 h2
 obtain ⟨s, x, e⟩ := N
 dsimp only at d0 ⊢
 refine Ret.body hX hF rfl ?_
 simp only [argL, rf_tFds]
 (refine Cs (Co (Wc ?_)); refine OL.boxA hL rfl rfl (fun b h' hL => (Wc ?_)); refine OL.new hL (fun b h' hL => (Wm rfl (Wm rfl (Wt ?_)))); refine Cs (Co (Wc (OP.fieldAddr0 rfl (Wc (OL.load (k := 1) hL rfl rfl rfl (Wc (OP.fieldAddr0 rfl (Wc (OL.load (k := 1) hL rfl rfl rfl (Wc ?_)))))))))); refine OL.callSt hL rfl rfl (d0 _ _ (by first | exact hL.lm hlim | exact Nat.le_refl _ | omega) (by first | omega | assumption | exact St.pfx (by assumption) hL.pfx | exact hL.stM (by repeat (first | exact mh | apply mt)) | exact RowOk.pfx (by assumption) hL.pfx | exact (hL.stM (by repeat (first | exact mh | apply mt))).1 | exact (hL.stM (by repeat (first | exact mh | apply mt))).2.1 | exact (hL.stM (by repeat (first | exact mh | apply mt))).2.2.1 | exact (hL.stM (by repeat (first | exact mh | apply mt))).2.2.2)) (fun a0 n0 a1 n1 a2 n2 a3 n3 h' hy hp hL => ?_); (try dsimp only at hL hy ⊢); refine Wc (OP.extract rfl rfl (Wc (OP.extract rfl rfl (Wc (OP.extract rfl rfl (WO.cons0 ?_)))))); refine OL.storeAll (k := 1) hL hlim rfl rfl rfl rfl rfl rfl (by decide) rfl (fun h' hL => ?_); dsimp only [List.set, Nat.zero_add, Nat.reduceAdd, Nat.reduceMul] at hL; refine Wm rfl (Wm rfl (Wt ?_)); refine WC.ret ?_)
 have hw := hL.stOut (r0 := ⟨a0, n0, s.x0⟩) (r1 := ⟨a1, n1, s.x1⟩) (r2 := ⟨a2, n2, s.x2⟩) (r3 := ⟨a3, n3, s.x3⟩) (by repeat (first | exact mh | apply mt))
 exact Fin.ret (resL_cell rfl (hL.cell (k := 1) rfl) rfl rfl) ⟨hL.pfx, _, _, _, _, rfl, ⟨rfl, rfl, rfl, rfl⟩, hw.1, hw.2⟩
theorem s_tQueue {g0 : Nat} (hX : X f = none) (hF : F f = some (rf_tQueue g0)) (d0' : S_qApply X F g0) : S_tQueue X F f := by
 intro lim h r0 r1 r2 r3 c r a hlim hst
 have hL := Loc.start h
 generalize hN : QueueM 500 ⟨r0.xs, r1.xs, r2.xs, r3.xs⟩ c r a = N
 have d0 : ∀ (lim : Nat) (h' : AH), lim ≤ h'.length → St h' r0 r1 r2 r3 → Ret X F lim g0 [stV r0 r1 r2 r3, .agg #[.int .i64 c, .int .i64 r, .int .i64 a]] h' fun v h'' => Pfx h' h'' ∧ MadeS h' h'' (fun s0 s1 s2 s3 => .tuple #[stV s0 s1 s2 s3, .int .i64 N.2.1, .int .i64 N.2.2]) N.1 v := fun lim h' h1 h2 => hN ▸ d0' lim h' h1 h2
 obtain ⟨s, x, e⟩ := N
 dsimp only at d0 ⊢
 refine Ret.body hX hF rfl ?_
 simp only [argL, rf_tQueue]
 (refine Cs (Co (Wc ?_)); refine OL.boxA hL rfl rfl (fun b h' hL => (Wc ?_)); refine OL.new hL (fun b h' hL => (Wm rfl (Wm rfl (Wt ?_)))); refine Cs (Co (Wc (OP.fieldAddr0 rfl (Wc (OL.load (k := 1) hL rfl rfl rfl (Wc (OP.fieldAddr0 rfl (Wc (OL.load (k := 1) hL rfl rfl rfl (Wc ?_)))))))))); refine OL.callSt hL rfl rfl (d0 _ _ (by first | exact hL.lm hlim | exact Nat.le_refl _ | omega) (by first | omega | assumption | exact St.pfx (by assumption) hL.pfx | exact hL.stM (by repeat (first | exact mh | apply mt)) | exact RowOk.pfx (by assumption) hL.pfx | exact (hL.stM (by repeat (first | exact mh | apply mt))).1 | exact (hL.stM (by repeat (first | exact mh | apply mt))).2.1 | exact (hL.stM (by repeat (first | exact mh | apply mt))).2.2.1 | exact (hL.stM (by repeat (first | exact mh | apply mt))).2.2.2)) (fun a0 n0 a1 n1 a2 n2 a3 n3 h' hy hp hL => ?_); (try dsimp only at hL hy ⊢); refine Wc (OP.extract rfl rfl (Wc (OP.extract rfl rfl (Wc (OP.extract rfl rfl (WO.cons0 ?_)))))); refine OL.storeAll (k := 1) hL hlim rfl rfl rfl rfl rfl rfl (by decide) rfl (fun h' hL => ?_); dsimp only [List.set, Nat.zero_add, Nat.reduceAdd, Nat.reduceMul] at hL; refine Wm rfl (Wm rfl (Wt ?_)); refine WC.ret ?_)
 have hw := hL.stOut (r0 := ⟨a0, n0, s.x0⟩) (r1 := ⟨a1, n1, s.x1⟩) (r2 := ⟨a2, n2, s.x2⟩) (r3 := ⟨a3, n3, s.x3⟩) (by repeat (first | exact mh | apply mt))
 exact Fin.ret (resL_cell rfl (hL.cell (k := 1) rfl) rfl rfl) ⟨hL.pfx, _, _, _, _, rfl, ⟨rfl, rfl, rfl, rfl⟩, hw.1, hw.2⟩
theorem s_oIs (hX : X f = none) (hF : F f = some rf_oIs) : S_oIs X F f := by
 intro lim h ob
 have hL := Loc.start h
 refine Ret.body hX hF rfl ?_
 simp only [argL, rf_oIs]
 (refine Cs (Co (Wm rfl (Wt ?_))); refine Cs (Co (Wm rfl (Wc ?_))); refine OP.geqC rfl rfl (fun hc => ?_) (fun hc => ?_); refine Wm rfl (WO.yes rfl (Wm rfl (WO.yes rfl (Wc ?_)))); refine OP.leqC rfl rfl (fun hc => ?_) (fun hc => ?_); refine Wc (OP.pickT rfl rfl (Wm rfl (Wt ?_))); refine WC.ret ?_; exact Fin.ret rfl ⟨hL.pfx, boolT (by omega)⟩; refine Wc (OP.pickT rfl rfl (Wm rfl (Wt ?_))); refine WC.ret ?_; exact Fin.ret rfl ⟨hL.pfx, boolF (by omega)⟩; refine Wm rfl (WO.no rfl (WO.no rfl (Wc (OP.pickF rfl rfl (Wm rfl (Wt ?_)))))); refine WC.ret ?_; exact Fin.ret rfl ⟨hL.pfx, boolF (by omega)⟩)
end
end
section
section
variable (X : Ext) (F : FuncId → Option RFunc) (g : FuncId)
abbrev S_oApply : Prop := ∀ (lim : Nat) (h : AH) {r0 r1 r2 r3 : Row} {ob c r a : Int}, lim ≤ h.length → St h r0 r1 r2 r3 → Ret X F lim g [.int .i64 ob, stV r0 r1 r2 r3, .agg #[.int .i64 c, .int .i64 r, .int .i64 a]] h fun v h' => Pfx h h' ∧ MadeS h h' (fun s0 s1 s2 s3 => .tuple #[stV s0 s1 s2 s3, .int .i64 (ObjM 600 ob ⟨r0.xs, r1.xs, r2.xs, r3.xs⟩ c r a).2.1, .int .i64 (ObjM 600 ob ⟨r0.xs, r1.xs, r2.xs, r3.xs⟩ c r a).2.2]) (ObjM 600 ob ⟨r0.xs, r1.xs, r2.xs, r3.xs⟩ c r a).1 v
abbrev S_rowMayX : Prop := ∀ (lim : Nat) (h : AH) {r0 r1 r2 r3 : Row} {ob : Int}, (ob < 0 ∨ ob > 2) → Ret X F lim g [.int .i64 ob, stV r0 r1 r2 r3] h fun v h' => Pfx h h' ∧ v = .bool false
abbrev S_rApplyX : Prop := ∀ (lim : Nat) (h : AH) {r0 r1 r2 r3 : Row} {ob c r a e : Int}, lim ≤ h.length → (ob < 0 ∨ ob > 2) → Ret X F lim g [.int .i64 ob, stV r0 r1 r2 r3, .agg #[.int .i64 c, .int .i64 r, .int .i64 a], .int .i64 e] h fun v h' => Pfx h h' ∧ MadeS h h' (fun s0 s1 s2 s3 => .tuple #[stV s0 s1 s2 s3, .int .i64 0, .int .i64 e]) S4.none v
abbrev S_rApplyO : Prop := ∀ (lim : Nat) (h : AH) {r0 r1 r2 r3 : Row} {ob c r a e : Int}, lim ≤ h.length → St h r0 r1 r2 r3 → Ret X F lim g [.int .i64 ob, stV r0 r1 r2 r3, .agg #[.int .i64 c, .int .i64 r, .int .i64 a], .int .i64 e] h fun v h' => Pfx h h' ∧ MadeS h h' (fun s0 s1 s2 s3 => .tuple #[stV s0 s1 s2 s3, .int .i64 (ObjM e ob ⟨r0.xs, r1.xs, r2.xs, r3.xs⟩ c r a).2.1, .int .i64 (ObjM e ob ⟨r0.xs, r1.xs, r2.xs, r3.xs⟩ c r a).2.2]) (ObjM e ob ⟨r0.xs, r1.xs, r2.xs, r3.xs⟩ c r a).1 v
end
theorem ObjM_x {e ob : Int} (h : ob < 0 ∨ ob > 2) (s : S4) (c r a : Int) : ObjM e ob s c r a = (S4.none, 0, e) := (if_neg (by omega)).trans ((if_neg (by omega)).trans (if_neg (by omega)))
theorem ObMay_x {ob : Int} (h : ob < 0 ∨ ob > 2) (s : S4) : ¬ ObMay ob s := by unfold ObMay; omega
theorem ObMay_0 (s : S4) : ObMay 0 s ↔ StoreOk s := by simp [ObMay]
theorem ObMay_1 (s : S4) : ObMay 1 s ↔ TabOk s := by simp [ObMay]
theorem ObMay_2 (s : S4) : ObMay 2 s ↔ QueueOk s := by simp [ObMay]
section
variable {X : Ext} {F : FuncId → Option RFunc} {f : FuncId}
theorem s_oApply {g0 g1 g2 g3 : Nat} (hX : X f = none) (hF : F f = some (rf_oApply g0 g1 g2 g3)) (d0' : S_oIs X F g0) (d1' : S_tStore X F g1) (d2' : S_tFds X F g2) (d3' : S_tQueue X F g3) : S_oApply X F f := by
 intro lim h r0 r1 r2 r3 ob c r a hlim hst
 have hL := Loc.start h
 refine Ret.body hX hF rfl ?_
 simp only [argL, rf_oApply]
 by_cases hob : 0 ≤ ob ∧ ob ≤ 2
 ·have ho3 : ob = 0 ∨ ob = 1 ∨ ob = 2 := by omega
  rcases ho3 with rfl | rfl | rfl
  ·have d0 : ∀ lim h', Ret X F lim g0 [.int .i64 0] h' fun v h'' => Pfx h' h'' ∧ v = .bool true := fun lim h' => d0' lim h'
   have hO : ObjM 600 0 ⟨r0.xs, r1.xs, r2.xs, r3.xs⟩ c r a = if (StoreM 300 ⟨r0.xs, r1.xs, r2.xs, r3.xs⟩ c r a).2.2 ≠ 0 then (S4.none, 0, 600) else StoreM 300 ⟨r0.xs, r1.xs, r2.xs, r3.xs⟩ c r a := by
    rw [← StoreM_up (by decide)]
    rfl
   rw [hO]
   clear hO
   generalize hN : StoreM 300 ⟨r0.xs, r1.xs, r2.xs, r3.xs⟩ c r a = N
   have d4 : ∀ (lim : Nat) (h' : AH), lim ≤ h'.length → St h' r0 r1 r2 r3 → Ret X F lim g1 [.agg #[r0.v, r1.v, r2.v, r3.v, .int .i64 c, .int .i64 r, .int .i64 a]] h' fun v h'' => Pfx h' h'' ∧ MadeS h' h'' (fun s0 s1 s2 s3 => .tuple #[stV s0 s1 s2 s3, .int .i64 N.2.1, .int .i64 N.2.2]) N.1 v := fun lim h' h1 h2 => hN ▸ d1' lim h' h1 h2
   obtain ⟨s, x, e⟩ := N
   clear hN
   dsimp only at d4 ⊢
   by_cases he : e = 0
   ·subst he
    rw [if_neg (fun q => q rfl)]
    (refine Cs (Co (Wc ?_)); refine OL.boxA hL rfl rfl (fun b h' hL => (Wc ?_)); refine OL.boxA hL rfl rfl (fun b h' hL => (Wc ?_)); refine OL.new hL (fun b h' hL => (Wm rfl (Wm rfl (Wt ?_)))); refine Cs (Cs (Co (Wm rfl (Wc ?_)))); refine OL.callV hL rfl rfl (d0 _ _) (fun h' hp hL => (Wc (OP.not rfl (Wt ?_)))); refine WC.condF rfl (Ks ?_); refine Cs (Co (Wc (OP.buildN rfl (by simp [over, Value.cells]; rfl) ?_))); refine Wc ?_; refine OL.new hL (fun b h' hL => (WO.cons0 ?_)); refine OL.storeAll (k := 0) hL hlim rfl rfl rfl rfl rfl rfl (by decide) rfl (fun h' hL => ?_); dsimp only [List.set, Nat.zero_add, Nat.reduceAdd, Nat.reduceMul] at hL; refine Wt ?_; refine Cs (Co (WO.consQ (OP.mv rfl (WO.consQ (OP.idxArrZ rfl rfl (by decide) (by simp only [Int.reduceToNat, Nat.mul_one, Nat.zero_add, Nat.reduceMul, Nat.reduceAdd]; rfl) ?_))))); refine WO.consQ (OL.load1 (k := 0) hL rfl rfl rfl (WO.consQ (OL.loadAll (k := 3) hL rfl rfl rfl (WO.consQ (OL.loadAll (k := 2) hL rfl rfl rfl (WO.consQ (OP.buildN rfl (by simp [over, Value.cells]; rfl) ?_))))))))
    (refine WO.consQ ?_)
    refine OL.callSt hL rfl rfl (d4 _ _ (by first | exact hL.lm hlim | exact Nat.le_refl _) (hst.pfx hL.pfx)) (fun a0 n0 a1 n1 a2 n2 a3 n3 h' hy hp hL => ?_)
    (try dsimp only at hL ⊢)
    (refine WO.consQ (OP.mv rfl (WO.consQ (OP.extract rfl rfl (WO.consQ (OP.extract rfl rfl (WO.consQ (OP.extract rfl rfl (WO.consQ ?_)))))))); refine OL.new hL (fun b h' hL => (WO.cons0 ?_)); refine OL.storeAll (k := 0) hL hlim rfl rfl rfl rfl rfl rfl (by decide) rfl (fun h' hL => ?_); dsimp only [List.set, Nat.zero_add, Nat.reduceAdd, Nat.reduceMul] at hL; refine Wm rfl (Wm rfl (Wt ?_)); refine Cs (Cs (Co (Wm rfl (Wc (OP.neqF rfl rfl (by omega) ?_))))); refine Wt ?_; refine WC.condF rfl (Ks ?_); refine Cs (Co (Wc (OL.loadAll (k := 0) hL rfl rfl rfl (Wm rfl (WO.cons0 ?_))))); refine OL.storeAll (k := 3) hL hlim rfl rfl rfl rfl rfl rfl (by decide) rfl (fun h' hL => ?_); dsimp only [List.set, Nat.zero_add, Nat.reduceAdd, Nat.reduceMul] at hL; refine Wm rfl (Wm rfl (Wt ?_)); refine WC.ret ?_)
    have hw := hL.stOut (r0 := ⟨a0, n0, s.x0⟩) (r1 := ⟨a1, n1, s.x1⟩) (r2 := ⟨a2, n2, s.x2⟩) (r3 := ⟨a3, n3, s.x3⟩) (by repeat (first | exact mh | apply mt))
    exact Fin.ret (resL_cell rfl (hL.cell (k := 3) rfl) rfl rfl) ⟨hL.pfx, _, _, _, _, rfl, ⟨rfl, rfl, rfl, rfl⟩, hw.1, hw.2⟩
   ·rw [if_pos he]
    (refine Cs (Co (Wc ?_)); refine OL.boxA hL rfl rfl (fun b h' hL => (Wc ?_)); refine OL.boxA hL rfl rfl (fun b h' hL => (Wc ?_)); refine OL.new hL (fun b h' hL => (Wm rfl (Wm rfl (Wt ?_)))); refine Cs (Cs (Co (Wm rfl (Wc ?_)))); refine OL.callV hL rfl rfl (d0 _ _) (fun h' hp hL => (Wc (OP.not rfl (Wt ?_)))); refine WC.condF rfl (Ks ?_); refine Cs (Co (Wc (OP.buildN rfl (by simp [over, Value.cells]; rfl) ?_))); refine Wc ?_; refine OL.new hL (fun b h' hL => (WO.cons0 ?_)); refine OL.storeAll (k := 0) hL hlim rfl rfl rfl rfl rfl rfl (by decide) rfl (fun h' hL => ?_); dsimp only [List.set, Nat.zero_add, Nat.reduceAdd, Nat.reduceMul] at hL; refine Wt ?_; refine Cs (Co (WO.consQ (OP.mv rfl (WO.consQ (OP.idxArrZ rfl rfl (by decide) (by simp only [Int.reduceToNat, Nat.mul_one, Nat.zero_add, Nat.reduceMul, Nat.reduceAdd]; rfl) ?_))))); refine WO.consQ (OL.load1 (k := 0) hL rfl rfl rfl (WO.consQ (OL.loadAll (k := 3) hL rfl rfl rfl (WO.consQ (OL.loadAll (k := 2) hL rfl rfl rfl (WO.consQ (OP.buildN rfl (by simp [over, Value.cells]; rfl) ?_))))))))
    (refine WO.consQ ?_)
    refine OL.callSt hL rfl rfl (d4 _ _ (by first | exact hL.lm hlim | exact Nat.le_refl _) (hst.pfx hL.pfx)) (fun a0 n0 a1 n1 a2 n2 a3 n3 h' hy hp hL => ?_)
    (try dsimp only at hL ⊢)
    (refine WO.consQ (OP.mv rfl (WO.consQ (OP.extract rfl rfl (WO.consQ (OP.extract rfl rfl (WO.consQ (OP.extract rfl rfl (WO.consQ ?_)))))))); refine OL.new hL (fun b h' hL => (WO.cons0 ?_)); refine OL.storeAll (k := 0) hL hlim rfl rfl rfl rfl rfl rfl (by decide) rfl (fun h' hL => ?_); dsimp only [List.set, Nat.zero_add, Nat.reduceAdd, Nat.reduceMul] at hL; refine Wm rfl (Wm rfl (Wt ?_)); refine Cs (Cs (Co (Wm rfl (Wc (OP.neqT rfl rfl (by omega) ?_))))); refine Wt ?_; refine WC.condT rfl (Cs (Co (Wc (OP.buildN rfl rfl (WO.cons0 ?_))))); refine OL.storeAll (k := 3) hL hlim rfl rfl rfl rfl rfl rfl (by decide) rfl (fun h' hL => ?_); dsimp only [List.set, Nat.zero_add, Nat.reduceAdd, Nat.reduceMul] at hL; refine Wm rfl (Wm rfl (Wt ?_)); refine WC.ret ?_; dsimp only [zn, zr, zx, yn, yr])
    exact Fin.ret (resL_cell rfl (hL.cell (k := 3) rfl) rfl rfl) ⟨hL.pfx, nilRow, nilRow, nilRow, nilRow, rfl, ⟨rfl, rfl, rfl, rfl⟩, nilSt _, nilIn _ _⟩
  ·have d0 : ∀ lim h', Ret X F lim g0 [.int .i64 1] h' fun v h'' => Pfx h' h'' ∧ v = .bool true := fun lim h' => d0' lim h'
   have hO : ObjM 600 1 ⟨r0.xs, r1.xs, r2.xs, r3.xs⟩ c r a = if (FdsM 400 ⟨r0.xs, r1.xs, r2.xs, r3.xs⟩ c r a).2.2 ≠ 0 then (S4.none, 0, 600) else FdsM 400 ⟨r0.xs, r1.xs, r2.xs, r3.xs⟩ c r a := by
    rw [← FdsM_up (by decide)]
    rfl
   rw [hO]
   clear hO
   generalize hN : FdsM 400 ⟨r0.xs, r1.xs, r2.xs, r3.xs⟩ c r a = N
   have d4 : ∀ (lim : Nat) (h' : AH), lim ≤ h'.length → St h' r0 r1 r2 r3 → Ret X F lim g2 [.agg #[r0.v, r1.v, r2.v, r3.v, .int .i64 c, .int .i64 r, .int .i64 a]] h' fun v h'' => Pfx h' h'' ∧ MadeS h' h'' (fun s0 s1 s2 s3 => .tuple #[stV s0 s1 s2 s3, .int .i64 N.2.1, .int .i64 N.2.2]) N.1 v := fun lim h' h1 h2 => hN ▸ d2' lim h' h1 h2
   obtain ⟨s, x, e⟩ := N
   clear hN
   dsimp only at d4 ⊢
   by_cases he : e = 0
   ·subst he
    rw [if_neg (fun q => q rfl)]
    (refine Cs (Co (Wc ?_)); refine OL.boxA hL rfl rfl (fun b h' hL => (Wc ?_)); refine OL.boxA hL rfl rfl (fun b h' hL => (Wc ?_)); refine OL.new hL (fun b h' hL => (Wm rfl (Wm rfl (Wt ?_)))); refine Cs (Cs (Co (Wm rfl (Wc ?_)))); refine OL.callV hL rfl rfl (d0 _ _) (fun h' hp hL => (Wc (OP.not rfl (Wt ?_)))); refine WC.condF rfl (Ks ?_); refine Cs (Co (Wc (OP.buildN rfl (by simp [over, Value.cells]; rfl) ?_))); refine Wc ?_; refine OL.new hL (fun b h' hL => (WO.cons0 ?_)); refine OL.storeAll (k := 0) hL hlim rfl rfl rfl rfl rfl rfl (by decide) rfl (fun h' hL => ?_); dsimp only [List.set, Nat.zero_add, Nat.reduceAdd, Nat.reduceMul] at hL; refine Wt ?_; refine Cs (Co (WO.consQ (OP.mv rfl (WO.consQ (OP.idxArrZ rfl rfl (by decide) (by simp only [Int.reduceToNat, Nat.mul_one, Nat.zero_add, Nat.reduceMul, Nat.reduceAdd]; rfl) ?_))))); refine WO.consQ (OL.load1 (k := 0) hL rfl rfl rfl (WO.consQ (OL.loadAll (k := 3) hL rfl rfl rfl (WO.consQ (OL.loadAll (k := 2) hL rfl rfl rfl (WO.consQ (OP.buildN rfl (by simp [over, Value.cells]; rfl) ?_))))))))
    (refine WO.consQ ?_)
    refine OL.callSt hL rfl rfl (d4 _ _ (by first | exact hL.lm hlim | exact Nat.le_refl _) (hst.pfx hL.pfx)) (fun a0 n0 a1 n1 a2 n2 a3 n3 h' hy hp hL => ?_)
    (try dsimp only at hL ⊢)
    (refine WO.consQ (OP.mv rfl (WO.consQ (OP.extract rfl rfl (WO.consQ (OP.extract rfl rfl (WO.consQ (OP.extract rfl rfl (WO.consQ ?_)))))))); refine OL.new hL (fun b h' hL => (WO.cons0 ?_)); refine OL.storeAll (k := 0) hL hlim rfl rfl rfl rfl rfl rfl (by decide) rfl (fun h' hL => ?_); dsimp only [List.set, Nat.zero_add, Nat.reduceAdd, Nat.reduceMul] at hL; refine Wm rfl (Wm rfl (Wt ?_)); refine Cs (Cs (Co (Wm rfl (Wc (OP.neqF rfl rfl (by omega) ?_))))); refine Wt ?_; refine WC.condF rfl (Ks ?_); refine Cs (Co (Wc (OL.loadAll (k := 0) hL rfl rfl rfl (Wm rfl (WO.cons0 ?_))))); refine OL.storeAll (k := 3) hL hlim rfl rfl rfl rfl rfl rfl (by decide) rfl (fun h' hL => ?_); dsimp only [List.set, Nat.zero_add, Nat.reduceAdd, Nat.reduceMul] at hL; refine Wm rfl (Wm rfl (Wt ?_)); refine WC.ret ?_)
    have hw := hL.stOut (r0 := ⟨a0, n0, s.x0⟩) (r1 := ⟨a1, n1, s.x1⟩) (r2 := ⟨a2, n2, s.x2⟩) (r3 := ⟨a3, n3, s.x3⟩) (by repeat (first | exact mh | apply mt))
    exact Fin.ret (resL_cell rfl (hL.cell (k := 3) rfl) rfl rfl) ⟨hL.pfx, _, _, _, _, rfl, ⟨rfl, rfl, rfl, rfl⟩, hw.1, hw.2⟩
   ·rw [if_pos he]
    (refine Cs (Co (Wc ?_)); refine OL.boxA hL rfl rfl (fun b h' hL => (Wc ?_)); refine OL.boxA hL rfl rfl (fun b h' hL => (Wc ?_)); refine OL.new hL (fun b h' hL => (Wm rfl (Wm rfl (Wt ?_)))); refine Cs (Cs (Co (Wm rfl (Wc ?_)))); refine OL.callV hL rfl rfl (d0 _ _) (fun h' hp hL => (Wc (OP.not rfl (Wt ?_)))); refine WC.condF rfl (Ks ?_); refine Cs (Co (Wc (OP.buildN rfl (by simp [over, Value.cells]; rfl) ?_))); refine Wc ?_; refine OL.new hL (fun b h' hL => (WO.cons0 ?_)); refine OL.storeAll (k := 0) hL hlim rfl rfl rfl rfl rfl rfl (by decide) rfl (fun h' hL => ?_); dsimp only [List.set, Nat.zero_add, Nat.reduceAdd, Nat.reduceMul] at hL; refine Wt ?_; refine Cs (Co (WO.consQ (OP.mv rfl (WO.consQ (OP.idxArrZ rfl rfl (by decide) (by simp only [Int.reduceToNat, Nat.mul_one, Nat.zero_add, Nat.reduceMul, Nat.reduceAdd]; rfl) ?_))))); refine WO.consQ (OL.load1 (k := 0) hL rfl rfl rfl (WO.consQ (OL.loadAll (k := 3) hL rfl rfl rfl (WO.consQ (OL.loadAll (k := 2) hL rfl rfl rfl (WO.consQ (OP.buildN rfl (by simp [over, Value.cells]; rfl) ?_))))))))
    (refine WO.consQ ?_)
    refine OL.callSt hL rfl rfl (d4 _ _ (by first | exact hL.lm hlim | exact Nat.le_refl _) (hst.pfx hL.pfx)) (fun a0 n0 a1 n1 a2 n2 a3 n3 h' hy hp hL => ?_)
    (try dsimp only at hL ⊢)
    (refine WO.consQ (OP.mv rfl (WO.consQ (OP.extract rfl rfl (WO.consQ (OP.extract rfl rfl (WO.consQ (OP.extract rfl rfl (WO.consQ ?_)))))))); refine OL.new hL (fun b h' hL => (WO.cons0 ?_)); refine OL.storeAll (k := 0) hL hlim rfl rfl rfl rfl rfl rfl (by decide) rfl (fun h' hL => ?_); dsimp only [List.set, Nat.zero_add, Nat.reduceAdd, Nat.reduceMul] at hL; refine Wm rfl (Wm rfl (Wt ?_)); refine Cs (Cs (Co (Wm rfl (Wc (OP.neqT rfl rfl (by omega) ?_))))); refine Wt ?_; refine WC.condT rfl (Cs (Co (Wc (OP.buildN rfl rfl (WO.cons0 ?_))))); refine OL.storeAll (k := 3) hL hlim rfl rfl rfl rfl rfl rfl (by decide) rfl (fun h' hL => ?_); dsimp only [List.set, Nat.zero_add, Nat.reduceAdd, Nat.reduceMul] at hL; refine Wm rfl (Wm rfl (Wt ?_)); refine WC.ret ?_; dsimp only [zn, zr, zx, yn, yr])
    exact Fin.ret (resL_cell rfl (hL.cell (k := 3) rfl) rfl rfl) ⟨hL.pfx, nilRow, nilRow, nilRow, nilRow, rfl, ⟨rfl, rfl, rfl, rfl⟩, nilSt _, nilIn _ _⟩
  ·have d0 : ∀ lim h', Ret X F lim g0 [.int .i64 2] h' fun v h'' => Pfx h' h'' ∧ v = .bool true := fun lim h' => d0' lim h'
   have hO : ObjM 600 2 ⟨r0.xs, r1.xs, r2.xs, r3.xs⟩ c r a = if (QueueM 500 ⟨r0.xs, r1.xs, r2.xs, r3.xs⟩ c r a).2.2 ≠ 0 then (S4.none, 0, 600) else QueueM 500 ⟨r0.xs, r1.xs, r2.xs, r3.xs⟩ c r a := by
    rw [← QueueM_up (by decide)]
    rfl
   rw [hO]
   clear hO
   generalize hN : QueueM 500 ⟨r0.xs, r1.xs, r2.xs, r3.xs⟩ c r a = N
   have d4 : ∀ (lim : Nat) (h' : AH), lim ≤ h'.length → St h' r0 r1 r2 r3 → Ret X F lim g3 [.agg #[r0.v, r1.v, r2.v, r3.v, .int .i64 c, .int .i64 r, .int .i64 a]] h' fun v h'' => Pfx h' h'' ∧ MadeS h' h'' (fun s0 s1 s2 s3 => .tuple #[stV s0 s1 s2 s3, .int .i64 N.2.1, .int .i64 N.2.2]) N.1 v := fun lim h' h1 h2 => hN ▸ d3' lim h' h1 h2
   obtain ⟨s, x, e⟩ := N
   clear hN
   dsimp only at d4 ⊢
   by_cases he : e = 0
   ·subst he
    rw [if_neg (fun q => q rfl)]
    (refine Cs (Co (Wc ?_)); refine OL.boxA hL rfl rfl (fun b h' hL => (Wc ?_)); refine OL.boxA hL rfl rfl (fun b h' hL => (Wc ?_)); refine OL.new hL (fun b h' hL => (Wm rfl (Wm rfl (Wt ?_)))); refine Cs (Cs (Co (Wm rfl (Wc ?_)))); refine OL.callV hL rfl rfl (d0 _ _) (fun h' hp hL => (Wc (OP.not rfl (Wt ?_)))); refine WC.condF rfl (Ks ?_); refine Cs (Co (Wc (OP.buildN rfl (by simp [over, Value.cells]; rfl) ?_))); refine Wc ?_; refine OL.new hL (fun b h' hL => (WO.cons0 ?_)); refine OL.storeAll (k := 0) hL hlim rfl rfl rfl rfl rfl rfl (by decide) rfl (fun h' hL => ?_); dsimp only [List.set, Nat.zero_add, Nat.reduceAdd, Nat.reduceMul] at hL; refine Wt ?_; refine Cs (Co (WO.consQ (OP.mv rfl (WO.consQ (OP.idxArrZ rfl rfl (by decide) (by simp only [Int.reduceToNat, Nat.mul_one, Nat.zero_add, Nat.reduceMul, Nat.reduceAdd]; rfl) ?_))))); refine WO.consQ (OL.load1 (k := 0) hL rfl rfl rfl (WO.consQ (OL.loadAll (k := 3) hL rfl rfl rfl (WO.consQ (OL.loadAll (k := 2) hL rfl rfl rfl (WO.consQ (OP.buildN rfl (by simp [over, Value.cells]; rfl) ?_))))))))
    (refine WO.consQ ?_)
    refine OL.callSt hL rfl rfl (d4 _ _ (by first | exact hL.lm hlim | exact Nat.le_refl _) (hst.pfx hL.pfx)) (fun a0 n0 a1 n1 a2 n2 a3 n3 h' hy hp hL => ?_)
    (try dsimp only at hL ⊢)
    (refine WO.consQ (OP.mv rfl (WO.consQ (OP.extract rfl rfl (WO.consQ (OP.extract rfl rfl (WO.consQ (OP.extract rfl rfl (WO.consQ ?_)))))))); refine OL.new hL (fun b h' hL => (WO.cons0 ?_)); refine OL.storeAll (k := 0) hL hlim rfl rfl rfl rfl rfl rfl (by decide) rfl (fun h' hL => ?_); dsimp only [List.set, Nat.zero_add, Nat.reduceAdd, Nat.reduceMul] at hL; refine Wm rfl (Wm rfl (Wt ?_)); refine Cs (Cs (Co (Wm rfl (Wc (OP.neqF rfl rfl (by omega) ?_))))); refine Wt ?_; refine WC.condF rfl (Ks ?_); refine Cs (Co (Wc (OL.loadAll (k := 0) hL rfl rfl rfl (Wm rfl (WO.cons0 ?_))))); refine OL.storeAll (k := 3) hL hlim rfl rfl rfl rfl rfl rfl (by decide) rfl (fun h' hL => ?_); dsimp only [List.set, Nat.zero_add, Nat.reduceAdd, Nat.reduceMul] at hL; refine Wm rfl (Wm rfl (Wt ?_)); refine WC.ret ?_)
    have hw := hL.stOut (r0 := ⟨a0, n0, s.x0⟩) (r1 := ⟨a1, n1, s.x1⟩) (r2 := ⟨a2, n2, s.x2⟩) (r3 := ⟨a3, n3, s.x3⟩) (by repeat (first | exact mh | apply mt))
    exact Fin.ret (resL_cell rfl (hL.cell (k := 3) rfl) rfl rfl) ⟨hL.pfx, _, _, _, _, rfl, ⟨rfl, rfl, rfl, rfl⟩, hw.1, hw.2⟩
   ·rw [if_pos he]
    (refine Cs (Co (Wc ?_)); refine OL.boxA hL rfl rfl (fun b h' hL => (Wc ?_)); refine OL.boxA hL rfl rfl (fun b h' hL => (Wc ?_)); refine OL.new hL (fun b h' hL => (Wm rfl (Wm rfl (Wt ?_)))); refine Cs (Cs (Co (Wm rfl (Wc ?_)))); refine OL.callV hL rfl rfl (d0 _ _) (fun h' hp hL => (Wc (OP.not rfl (Wt ?_)))); refine WC.condF rfl (Ks ?_); refine Cs (Co (Wc (OP.buildN rfl (by simp [over, Value.cells]; rfl) ?_))); refine Wc ?_; refine OL.new hL (fun b h' hL => (WO.cons0 ?_)); refine OL.storeAll (k := 0) hL hlim rfl rfl rfl rfl rfl rfl (by decide) rfl (fun h' hL => ?_); dsimp only [List.set, Nat.zero_add, Nat.reduceAdd, Nat.reduceMul] at hL; refine Wt ?_; refine Cs (Co (WO.consQ (OP.mv rfl (WO.consQ (OP.idxArrZ rfl rfl (by decide) (by simp only [Int.reduceToNat, Nat.mul_one, Nat.zero_add, Nat.reduceMul, Nat.reduceAdd]; rfl) ?_))))); refine WO.consQ (OL.load1 (k := 0) hL rfl rfl rfl (WO.consQ (OL.loadAll (k := 3) hL rfl rfl rfl (WO.consQ (OL.loadAll (k := 2) hL rfl rfl rfl (WO.consQ (OP.buildN rfl (by simp [over, Value.cells]; rfl) ?_))))))))
    (refine WO.consQ ?_)
    refine OL.callSt hL rfl rfl (d4 _ _ (by first | exact hL.lm hlim | exact Nat.le_refl _) (hst.pfx hL.pfx)) (fun a0 n0 a1 n1 a2 n2 a3 n3 h' hy hp hL => ?_)
    (try dsimp only at hL ⊢)
    (refine WO.consQ (OP.mv rfl (WO.consQ (OP.extract rfl rfl (WO.consQ (OP.extract rfl rfl (WO.consQ (OP.extract rfl rfl (WO.consQ ?_)))))))); refine OL.new hL (fun b h' hL => (WO.cons0 ?_)); refine OL.storeAll (k := 0) hL hlim rfl rfl rfl rfl rfl rfl (by decide) rfl (fun h' hL => ?_); dsimp only [List.set, Nat.zero_add, Nat.reduceAdd, Nat.reduceMul] at hL; refine Wm rfl (Wm rfl (Wt ?_)); refine Cs (Cs (Co (Wm rfl (Wc (OP.neqT rfl rfl (by omega) ?_))))); refine Wt ?_; refine WC.condT rfl (Cs (Co (Wc (OP.buildN rfl rfl (WO.cons0 ?_))))); refine OL.storeAll (k := 3) hL hlim rfl rfl rfl rfl rfl rfl (by decide) rfl (fun h' hL => ?_); dsimp only [List.set, Nat.zero_add, Nat.reduceAdd, Nat.reduceMul] at hL; refine Wm rfl (Wm rfl (Wt ?_)); refine WC.ret ?_; dsimp only [zn, zr, zx, yn, yr])
    exact Fin.ret (resL_cell rfl (hL.cell (k := 3) rfl) rfl rfl) ⟨hL.pfx, nilRow, nilRow, nilRow, nilRow, rfl, ⟨rfl, rfl, rfl, rfl⟩, nilSt _, nilIn _ _⟩
 ·rw [ObjM_x (by omega)]
  have d0 : ∀ lim h', Ret X F lim g0 [.int .i64 ob] h' fun v h'' => Pfx h' h'' ∧ v = .bool false := fun lim h' => (decide_eq_false hob) ▸ d0' lim h' (ob := ob)
  (refine Cs (Co (Wc ?_)); refine OL.boxA hL rfl rfl (fun b h' hL => (Wc ?_)); refine OL.boxA hL rfl rfl (fun b h' hL => (Wc ?_)); refine OL.new hL (fun b h' hL => (Wm rfl (Wm rfl (Wt ?_)))); refine Cs (Cs (Co (Wm rfl (Wc ?_)))); refine OL.callV hL rfl rfl (d0 _ _) (fun h' hp hL => (Wc (OP.not rfl (Wt ?_)))); refine WC.condT rfl (Cs (Co (Wc (OP.buildN rfl rfl (WO.cons0 ?_))))); refine OL.storeAll (k := 0) hL hlim rfl rfl rfl rfl rfl rfl (by decide) rfl (fun h' hL => ?_); dsimp only [List.set, Nat.zero_add, Nat.reduceAdd, Nat.reduceMul] at hL; refine Wm rfl (Wm rfl (Wt ?_)); refine WC.ret ?_; dsimp only [zn, zr, zx, yn, yr])
  exact Fin.ret (resL_cell rfl (hL.cell (k := 0) rfl) rfl rfl) ⟨hL.pfx, nilRow, nilRow, nilRow, nilRow, rfl, ⟨rfl, rfl, rfl, rfl⟩, nilSt _, nilIn _ _⟩
theorem s_StateMayX {g0 : Nat} (hX : X f = none) (hF : F f = some (rf_StateMay g0)) : S_rowMayX X F f := by
 intro lim h r0 r1 r2 r3 ob hob
 have hL := Loc.start h
 refine Ret.body hX hF rfl ?_
 simp only [argL, rf_StateMay]
 (refine Cs (Co (Wc ?_)); refine OL.boxA hL rfl rfl (fun b h' hL => (Wm rfl (Wt ?_))); refine Cs (Cs (Co (Wm rfl (Wt ?_)))); refine WC.block ?_)
 refine WC.unroll ?_
 rcases hob with hob | hob
 ·(refine Cs (Cs (Co (Wm rfl (Wc (OP.lssT rfl rfl (by omega) ?_))))); refine Wt ?_; refine WC.condT rfl (Ks ?_); refine Cs (WC.block (Cs (Co (Wm rfl (Wc (OP.lssT rfl rfl (by omega) ?_)))))); refine Wm rfl (WO.no rfl (WO.no rfl (Wc (OP.pickT rfl rfl (Wm rfl (WO.no rfl (WO.no rfl (WO.no rfl (WO.no rfl (WO.no rfl (WO.no rfl (WO.no rfl (Wc (OP.pickT rfl rfl (Wt ?_))))))))))))))); refine WC.condT rfl (Cs (Co (Wm rfl (Wt ?_)))); refine WC.ret ?_; dsimp only [zn, zr, zx, yn, yr]; exact Fin.ret rfl ⟨hL.pfx, rfl⟩)
 ·(refine Cs (Cs (Co (Wm rfl (Wc (OP.lssT rfl rfl (by omega) ?_))))); refine Wt ?_; refine WC.condT rfl (Ks ?_); refine Cs (WC.block (Cs (Co (Wm rfl (Wc (OP.lssF rfl rfl (by omega) ?_)))))); refine Wm rfl (WO.yes rfl (Wm rfl (WO.yes rfl (Wc (OP.gtrT rfl rfl (by omega) ?_))))); refine Wc (OP.pickF rfl rfl (Wm rfl (WO.no rfl (WO.no rfl (WO.no rfl (WO.no rfl (WO.no rfl (WO.no rfl (WO.no rfl (Wc (OP.pickT rfl rfl (Wt ?_)))))))))))); refine WC.condT rfl (Cs (Co (Wm rfl (Wt ?_)))); refine WC.ret ?_; dsimp only [zn, zr, zx, yn, yr]; exact Fin.ret rfl ⟨hL.pfx, rfl⟩)
theorem s_rApplyX {g0 g1 g2 g3 g4 g5 g6 : Nat} (hX : X f = none) (hF : F f = some (rf_rApply g0 g1 g2 g3 g4 g5 g6)) (d0' : S_rowMayX X F g0) : S_rApplyX X F f := by
 intro lim h r0 r1 r2 r3 ob c r a e hlim hob
 have hL := Loc.start h
 have d0 : ∀ lim h', Ret X F lim g0 [.int .i64 ob, stV r0 r1 r2 r3] h' fun v h'' => Pfx h' h'' ∧ v = .bool false := fun lim h' => d0' lim h' hob
 refine Ret.body hX hF rfl ?_
 simp only [argL, rf_rApply]
 (refine Cs (Co (Wc ?_)); refine OL.boxA hL rfl rfl (fun b h' hL => (Wc ?_)); refine OL.boxA hL rfl rfl (fun b h' hL => (Wc ?_)); refine OL.new hL (fun b h' hL => (Wm rfl (Wm rfl (Wt ?_)))); refine Cs (Cs (Co (Wm rfl (Wc (OL.loadAll (k := 2) hL rfl rfl rfl (Wc ?_)))))); refine OL.callV hL rfl rfl (d0 _ _) (fun h' hp hL => (Wc (OP.not rfl (Wm rfl (WO.no rfl (WO.no rfl (WO.no rfl (Wc (OP.pickT rfl rfl (Wt ?_)))))))))); refine WC.condT rfl (Cs (Co (Wc (OP.buildN rfl rfl (Wm rfl (WO.cons0 ?_)))))); refine OL.storeAll (k := 0) hL hlim rfl rfl rfl rfl rfl rfl (by decide) rfl (fun h' hL => ?_); dsimp only [List.set, Nat.zero_add, Nat.reduceAdd, Nat.reduceMul] at hL; refine Wm rfl (Wm rfl (Wt ?_)); refine WC.ret ?_; dsimp only [zn, zr, zx, yn, yr])
 exact Fin.ret (resL_cell rfl (hL.cell (k := 0) rfl) rfl rfl) ⟨hL.pfx, nilRow, nilRow, nilRow, nilRow, rfl, ⟨rfl, rfl, rfl, rfl⟩, nilSt _, nilIn _ _⟩
theorem s_rApplyO {g0 g1 g2 g3 g4 g5 g6 : Nat} (hF : F f = some (rf_rApply g0 g1 g2 g3 g4 g5 g6)) (c0 : S_rApplyS X F f) (c1 : S_rApplyF X F f) (c2 : S_rApplyQ X F f) (c3 : S_rApplyX X F f) : S_rApplyO X F f := by
 intro lim h r0 r1 r2 r3 ob c r a e hlim hst
 by_cases h0 : ob = 0
 ·subst h0
  exact c0 lim h hlim hst
 by_cases h1 : ob = 1
 ·subst h1
  exact c1 lim h hlim hst
 by_cases h2 : ob = 2
 ·subst h2
  exact c2 lim h hlim hst
 rw [ObjM_x (by omega)]
 exact c3 lim h hlim (by omega)
end
end
section
def rowM (ob : Int) (xs : List Int) (c a : Int) : List Int × Int :=
 if ob = 0 then (if c = 0 then ([a], firstL xs) else if c = 1 then ([], firstL xs) else (xs, firstL xs))
 else if ob = 1 then (if c = 0 then takeL xs else if c = 1 then freeL xs a else (xs, (xs.length : Int)))
 else (if c = 0 then (if xs.length ≥ 4 then (xs, 0) else (xs ++ [a], 1)) else if c = 1 then (xs.tail, firstL xs) else (xs, (xs.length : Int)))
def RowMay (ob : Int) (xs : List Int) : Prop := if ob = 0 then ((xs.length : Int) ≤ 1 ∧ ArgsOk xs) else if ob = 1 then TabRow xs else ((xs.length : Int) ≤ 4 ∧ ArgsOk xs)
theorem ObMay_rows {ob : Int} {s : S4} : ObMay ob s ↔ (0 ≤ ob ∧ ob ≤ 2) ∧ RowMay ob s.x0 ∧ RowMay ob s.x1 ∧ RowMay ob s.x2 ∧ RowMay ob s.x3 := by
 by_cases h0 : ob = 0
 ·subst h0; rw [ObMay_0]; exact ⟨fun h => ⟨by decide, h⟩, fun h => h.2⟩
 by_cases h1 : ob = 1
 ·subst h1; rw [ObMay_1]; exact ⟨fun h => ⟨by decide, h⟩, fun h => h.2⟩
 by_cases h2 : ob = 2
 ·subst h2; rw [ObMay_2]; exact ⟨fun h => ⟨by decide, h⟩, fun h => h.2⟩
 exact ⟨fun h => absurd h (ObMay_x (by omega) s), fun h => by omega⟩
theorem RowMay_get {ob r : Int} {s : S4} (h : ObMay ob s) : RowMay ob (s.get r) := by
 have h := (ObMay_rows.1 h).2
 unfold S4.get
 repeat' split
 ·exact h.1
 ·exact h.2.1
 ·exact h.2.2.1
 ·exact h.2.2.2
theorem RowMay_nil {ob : Int} : RowMay ob [] := by
 unfold RowMay
 repeat' split
 ·exact ⟨by decide, by decide⟩
 ·exact TabRow.nil
 ·exact ⟨by decide, by decide⟩
theorem ObMay_put {ob r : Int} {s : S4} (h : ObMay ob s) {xs : List Int} (hx : RowMay ob xs) : ObMay ob (s.put r xs) := by
 have h := ObMay_rows.1 h
 refine ObMay_rows.2 ⟨h.1, ?_⟩
 unfold S4.put
 repeat' split
 ·exact ⟨hx, h.2.2⟩
 ·exact ⟨h.2.1, hx, h.2.2.2⟩
 ·exact ⟨h.2.1, h.2.2.1, hx, h.2.2.2.2⟩
 ·exact ⟨h.2.1, h.2.2.1, h.2.2.2.1, hx⟩
theorem ObMay_none {ob : Int} (h : 0 ≤ ob ∧ ob ≤ 2) : ObMay ob S4.none := ObMay_rows.2 ⟨h, RowMay_nil, RowMay_nil, RowMay_nil, RowMay_nil⟩
theorem S4.put_get (s : S4) {r : Int} (hr : 0 ≤ r ∧ r ≤ 3) : s.put r (s.get r) = s := by
 obtain h | h | h | h : r = 0 ∨ r = 1 ∨ r = 2 ∨ r = 3 := by omega
 all_goals subst h; rfl
theorem ObjM_no {e ob : Int} {s : S4} {c r a : Int} (h : ¬ (ObMay ob s ∧ OpOk c r a)) : ObjM e ob s c r a = (S4.none, 0, e) := by
 unfold ObjM
 split
 ·rename_i h0; subst h0; rw [ObMay_0] at h; exact if_neg h
 split
 ·rename_i h0; subst h0; rw [ObMay_1] at h; exact if_neg h
 split
 ·rename_i h0; subst h0; rw [ObMay_2] at h; exact if_neg h
 rfl
theorem ObjM_row {e ob : Int} {s : S4} {c r a : Int} (h : ObMay ob s) (ho : OpOk c r a) (hc : c ≠ 3) : ObjM e ob s c r a = (s.put r (rowM ob (s.get r) c a).1, (rowM ob (s.get r) c a).2, 0) := by
 have hr : 0 ≤ r ∧ r ≤ 3 := by unfold OpOk at ho; omega
 have hp := S4.put_get s hr
 have hc3 : c = 0 ∨ c = 1 ∨ c = 2 := by unfold OpOk at ho; omega
 unfold ObjM
 split
 ·rename_i h0; subst h0; rw [ObMay_0] at h
  rw [StoreM, if_pos ⟨h, ho⟩]
  rcases hc3 with rfl | rfl | rfl <;> simp [rowM, hp]
 split
 ·rename_i h0; subst h0; rw [ObMay_1] at h
  rw [FdsM, if_pos ⟨h, ho⟩]
  rcases hc3 with rfl | rfl | rfl <;> simp [rowM, hp]
 split
 ·rename_i h0; subst h0; rw [ObMay_2] at h
  rw [QueueM, if_pos ⟨h, ho⟩]
  rcases hc3 with rfl | rfl | rfl
  ·simp only [rowM, if_true]
   by_cases h4 : (s.get r).length ≥ 4 <;> simp [h4, hp]
  ·simp [rowM]
  ·simp [rowM, hp]
 ·exact absurd h (ObMay_x (by omega) s)
def scanM (ob : Int) (s : S4) : Int := if ob = 0 then sumL (allL s) else ((allL s).length : Int)
theorem ObjM_scan {e ob : Int} {s : S4} {r a : Int} (h : ObMay ob s) (ho : OpOk 3 r a) : ObjM e ob s 3 r a = (s, scanM ob s, 0) := by
 unfold ObjM
 split
 ·rename_i h0; subst h0; rw [ObMay_0] at h
  rw [StoreM, if_pos ⟨h, ho⟩]; rfl
 split
 ·rename_i h0; subst h0; rw [ObMay_1] at h
  rw [FdsM, if_pos ⟨h, ho⟩]; rfl
 split
 ·rename_i h0; subst h0; rw [ObMay_2] at h
  rw [QueueM, if_pos ⟨h, ho⟩]; rfl
 ·exact absurd h (ObMay_x (by omega) s)
theorem rowM_may {ob : Int} {xs : List Int} {c a : Int} (h : RowMay ob xs) (ha : 0 ≤ a ∧ a ≤ 255) : RowMay ob (rowM ob xs c a).1 := by
 unfold RowMay rowM at *
 by_cases h0 : ob = 0
 ·simp only [h0, if_true] at h ⊢
  by_cases c0 : c = 0
  ·simp only [c0, if_true]
   exact ⟨by simp, fun x hx => by simp at hx; omega⟩
  by_cases c1 : c = 1
  ·simp [c1, ArgsOk]
  simp only [c0, c1, if_false]; exact h
 by_cases h1 : ob = 1
 ·simp only [h1, if_true] at h ⊢
  have h10 : ¬ (1 : Int) = 0 := by decide
  simp only [h10, if_false] at h ⊢
  by_cases c0 : c = 0
  ·simp only [c0, if_true]
   rcases takeL_cases h with ⟨hk, -⟩ | ⟨ys, t, hk, -, hT, -⟩
   ·rw [hk]; exact h
   ·rw [hk]; exact hT
  by_cases c1 : c = 1
  ·simp only [c0, c1, if_true, if_false, h10]
   by_cases hx : a ∈ xs
   ·rw [freeL_in hx]; exact outL_row h a
   ·rw [freeL_no hx]; exact h
  simp only [c0, c1, if_false]; exact h
 simp only [h0, h1, if_false] at h ⊢
 by_cases c0 : c = 0
 ·simp only [c0, if_true]
  split
  ·exact h
  ·refine ⟨by simp; omega, fun x hx => ?_⟩
   rcases List.mem_append.1 hx with hx | hx
   ·exact h.2 x hx
   ·simp at hx; omega
 by_cases c1 : c = 1
 ·have h10 : ¬ (1 : Int) = 0 := by decide
  simp only [c0, c1, if_true, if_false, h10]
  exact ⟨by simp only [List.length_tail]; omega, fun x hx => h.2 x (List.mem_of_mem_tail hx)⟩
 simp only [c0, c1, if_false]; exact h
section
variable {X : Ext} {F : FuncId → Option RFunc}
theorem applyO {g : FuncId} (e1 : S_oApply X F g) (ob : Int) (s : S4) (c r a : Int) (N : S4 × Int × Int) (hN : ObjM 600 ob s c r a = N) : ∀ (lim : Nat) (h' : AH) {r0 r1 r2 r3 : Row}, lim ≤ h'.length → St h' r0 r1 r2 r3 → r0.xs = s.x0 → r1.xs = s.x1 → r2.xs = s.x2 → r3.xs = s.x3 → Ret X F lim g [.int .i64 ob, stV r0 r1 r2 r3, .agg #[.int .i64 c, .int .i64 r, .int .i64 a]] h' fun v h'' => Pfx h' h'' ∧ MadeS h' h'' (fun s0 s1 s2 s3 => .tuple #[stV s0 s1 s2 s3, .int .i64 N.2.1, .int .i64 N.2.2]) N.1 v := by
 intro lim h' r0 r1 r2 r3 hl hst q0 q1 q2 q3
 have := e1 lim h' (ob := ob) (c := c) (r := r) (a := a) hl hst
 rw [q0, q1, q2, q3] at this
 subst hN
 exact this
end
end
end Go.Proofs.YtalknjppnkpmmaaDoorW.Ai
