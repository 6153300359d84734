/-
 Stores (chapter 3), as the small machine runs them: what may be, what an operation does.
-/
import Derived.Test.YtalknjppnkpmmaaDoorFn21
set_option linter.unusedVariables false
set_option linter.unusedSimpArgs false
set_option maxHeartbeats 4000000
set_option maxRecDepth 100000
namespace Go.Proofs.YtalknjppnkpmmaaDoorW.Ai
section
def rf_sMay (g0 : Nat) : RFunc :=
 ⟨14, [(.tmp 2)], (.seq (.ops [rO 1 (.box (.tmp 0)), rO 2 (.mv (.const (.bool false)))]) (.seq (.seq (.ops [rO 5 (.fieldAddr 0 (.tmp 1)), rO 6 (.load (.some 4) (.tmp 5)), rO 7 (.mv (.const (.int .i64 0)))]) (.block 0 (.loop (.seq (.ops [rO 8 (.bin .lss (.tmp 7) (.const (.int .i64 4)))]) (.seq (.cond (.tmp 8) .skip (.exit 0)) (.seq (.block 1 (.seq (.ops [rO 9 (.idxArr 4 1 .none (.tmp 6) (.tmp 7)), rO 4 (.mv (.tmp 9))]) (.seq (.ops [rO 10 (.mv (.tmp 4)), rO 11 (.call (.func g0) [(.tmp 10), (.const (.int .i64 1))]), rO 12 (.un .not (.tmp 11))]) (.cond (.tmp 12) (.seq (.ops [rO 2 (.mv (.const (.bool false)))]) .ret) .skip)))) (.ops [rO 13 (.bin .add (.tmp 7) (.const (.int .i64 1))), rO 7 (.mv (.tmp 13))]))))))) (.seq (.ops [rO 2 (.mv (.const (.bool true)))]) .ret)))⟩
def rf_sApply (g0 g1 g2 g3 g4 : Nat) : RFunc :=
 ⟨56, [(.cell 4 (.some 4)), (.tmp 5), (.tmp 6)], (.seq (.ops [rO 2 (.box (.tmp 0)), rO 3 (.box (.tmp 1)), rO 4 (.new [(.slice .none 0 0), (.slice .none 0 0), (.slice .none 0 0), (.slice .none 0 0)]), rO 5 (.mv (.const (.int .i64 0))), rO 6 (.mv (.const (.int .i64 0)))]) (.seq (.seq (.ops [rO 10 (.load (.some 4) (.tmp 2)), rO 11 (.call (.func g0) [(.tmp 10)]), rO 12 (.un .not (.tmp 11)), rO 13 (.mv (.tmp 12)), ⟨(.some 14), (.load (.some 3) (.tmp 3)), (.some (13, false)), false, []⟩, ⟨(.some 15), (.call (.func g1) [(.tmp 14)]), (.some (13, false)), false, []⟩, ⟨(.some 16), (.un .not (.tmp 15)), (.some (13, false)), false, []⟩, rO 17 (.pick (.tmp 13) (.const (.bool true)) (.tmp 16))]) (.cond (.tmp 17) (.seq (.ops [rO 18 (.build [(.slice .none 0 0), (.slice .none 0 0), (.slice .none 0 0), (.slice .none 0 0)] []), ⟨.none, (.store 4 (.tmp 4) (.tmp 18)), .none, false, []⟩, rO 5 (.mv (.const (.int .i64 0))), rO 6 (.mv (.const (.int .i64 300)))]) .ret) .skip)) (.seq (.ops [rO 19 (.load (.some 4) (.tmp 2)), rO 20 (.call (.func g2) [(.tmp 19)]), rO 7 (.new [(.slice .none 0 0), (.slice .none 0 0), (.slice .none 0 0), (.slice .none 0 0)]), ⟨.none, (.store 4 (.tmp 7) (.tmp 20)), .none, false, []⟩, rO 8 (.mv (.const (.int .i64 (-1))))]) (.seq (.ops [rO 21 (.fieldAddr 1 (.tmp 3)), rO 22 (.load .none (.tmp 21)), rO 23 (.fieldAddr 0 (.tmp 7)), rO 24 (.idxAddrArr 4 1 (.tmp 23) (.tmp 22)), rO 9 (.mv (.tmp 24))]) (.seq (.seq (.ops [rO 25 (.mv (.tmp 9)), rO 26 (.nilCheck (.tmp 25)), rO 27 (.load .none (.tmp 26)), rO 28 (.len 1 (.tmp 27)), rO 29 (.bin .gtr (.tmp 28) (.const (.int .i64 0)))]) (.cond (.tmp 29) (.ops [rO 30 (.mv (.tmp 9)), rO 31 (.nilCheck (.tmp 30)), rO 32 (.load .none (.tmp 31)), rO 33 (.idxAddr 1 (.tmp 32) (.const (.int .i64 0))), rO 34 (.load .none (.tmp 33)), rO 8 (.mv (.tmp 34))]) .skip)) (.seq (.seq (.ops [rO 35 (.fieldAddr 0 (.tmp 3)), rO 36 (.load .none (.tmp 35))]) (.block 0 (.seq (.ops [rO 38 (.bin .eql (.tmp 36) (.const (.int .i64 0))), rO 37 (.mv (.tmp 38))]) (.cond (.tmp 37) (.ops [rO 39 (.mv (.tmp 9)), rO 40 (.fieldAddr 2 (.tmp 3)), rO 41 (.load .none (.tmp 40)), rO 42 (.buildSlice [(.int .i64 0)] 1 [(0, (1, (.tmp 41)))]), rO 43 (.nilCheck (.tmp 39)), ⟨.none, (.store 1 (.tmp 43) (.tmp 42)), .none, false, []⟩]) (.seq (.ops [rO 45 (.bin .eql (.tmp 36) (.const (.int .i64 1))), rO 44 (.mv (.tmp 45))]) (.cond (.tmp 44) (.ops [rO 46 (.mv (.tmp 9)), rO 47 (.nilCheck (.tmp 46)), ⟨.none, (.store 1 (.tmp 47) (.const (.slice .none 0 0))), .none, false, []⟩]) (.seq (.ops [rO 49 (.bin .eql (.tmp 36) (.const (.int .i64 3))), rO 48 (.mv (.tmp 49))]) (.cond (.tmp 48) (.ops [rO 50 (.fieldAddr 0 (.tmp 7)), rO 51 (.sliceArr 4 1 (.tmp 50) .none .none .none), rO 52 (.call (.func g3) [(.tmp 51)]), rO 53 (.call (.func g4) [(.tmp 52)]), rO 8 (.mv (.tmp 53))]) .skip)))))))) (.seq (.ops [rO 54 (.load (.some 4) (.tmp 7)), rO 55 (.mv (.tmp 8)), ⟨.none, (.store 4 (.tmp 4) (.tmp 54)), .none, false, []⟩, rO 5 (.mv (.tmp 55)), rO 6 (.mv (.const (.int .i64 0)))]) .ret)))))))⟩
def S4.get (s : S4) (r : Int) : List Int := if r = 0 then s.x0 else if r = 1 then s.x1 else if r = 2 then s.x2 else s.x3
def S4.put (s : S4) (r : Int) (xs : List Int) : S4 := if r = 0 then ⟨xs, s.x1, s.x2, s.x3⟩ else if r = 1 then ⟨s.x0, xs, s.x2, s.x3⟩ else if r = 2 then ⟨s.x0, s.x1, xs, s.x3⟩ else ⟨s.x0, s.x1, s.x2, xs⟩
def firstL : List Int → Int
 | [] => -1
 | x :: _ => x
abbrev RowsOk (m : Int) (s : S4) : Prop := ((s.x0.length : Int) ≤ m ∧ ArgsOk s.x0) ∧ ((s.x1.length : Int) ≤ m ∧ ArgsOk s.x1) ∧ ((s.x2.length : Int) ≤ m ∧ ArgsOk s.x2) ∧ ((s.x3.length : Int) ≤ m ∧ ArgsOk s.x3)
def StoreOk (s : S4) : Prop := RowsOk 1 s
instance (s : S4) : Decidable (StoreOk s) := inferInstanceAs (Decidable (RowsOk 1 s))
def allL (s : S4) : List Int := s.x0 ++ s.x1 ++ s.x2 ++ s.x3
def StoreM (e : Int) (s : S4) (c r a : Int) : S4 × Int × Int :=
 if StoreOk s ∧ OpOk c r a then
  if c = 0 then (s.put r [a], firstL (s.get r), 0) else if c = 1 then (s.put r [], firstL (s.get r), 0) else if c = 2 then (s, firstL (s.get r), 0) else (s, sumL (allL s), 0)
 else (S4.none, 0, e)
section
variable (X : Ext) (F : FuncId → Option RFunc) (g : FuncId)
abbrev S_sMay : Prop := ∀ (lim : Nat) (h : AH) {r0 r1 r2 r3 : Row}, St h r0 r1 r2 r3 → Ret X F lim g [stV r0 r1 r2 r3] h fun v h' => Pfx h h' ∧ v = .bool (decide (StoreOk ⟨r0.xs, r1.xs, r2.xs, r3.xs⟩))
abbrev S_ApplyOf (M : S4 → Int → Int → Int → S4 × Int × Int) : Prop := ∀ (lim : Nat) (h : AH) {r0 r1 r2 r3 : Row} {c r a : Int}, lim ≤ h.length → St h r0 r1 r2 r3 → Ret X F lim g [stV r0 r1 r2 r3, .agg #[.int .i64 c, .int .i64 r, .int .i64 a]] h fun v h' => Pfx h h' ∧ MadeS h h' (fun s0 s1 s2 s3 => .tuple #[stV s0 s1 s2 s3, .int .i64 (M ⟨r0.xs, r1.xs, r2.xs, r3.xs⟩ c r a).2.1, .int .i64 (M ⟨r0.xs, r1.xs, r2.xs, r3.xs⟩ c r a).2.2]) (M ⟨r0.xs, r1.xs, r2.xs, r3.xs⟩ c r a).1 v
abbrev S_sApply : Prop := S_ApplyOf X F g (StoreM 300)
end
theorem firstL_get {xs : List Int} (h : 0 < xs.length) : xs[0] = firstL xs := by
 cases xs with
 | nil => simp at h
 | cons x xs => rfl
theorem firstL_nil {xs : List Int} (h : xs.length = 0) : firstL xs = -1 := by
 rw [List.eq_nil_of_length_eq_zero h]; rfl
theorem all_args {s : S4} {m : Int} (h : RowsOk m s) : ArgsOk (allL s) := by
 intro x hx
 simp only [allL, List.mem_append] at hx
 rcases hx with ((hx | hx) | hx) | hx
 ·exact h.1.2 x hx
 ·exact h.2.1.2 x hx
 ·exact h.2.2.1.2 x hx
 ·exact h.2.2.2.2 x hx
section
variable {X : Ext} {F : FuncId → Option RFunc} {f : FuncId}
theorem s_sMay {g0 : Nat} (hX : X f = none) (hF : F f = some (rf_sMay g0)) (c0' : S_Args X F g0) : S_sMay X F f := by
 intro lim h r0 r1 r2 r3 hst
 have hL := Loc.start h
 have cc : ∀ {r : Row}, RowOk h r → ∀ lim h', Pfx h h' → Ret X F lim g0 [r.v, .int .i64 1] h' fun v h'' => Pfx h' h'' ∧ v = .bool (decide ((r.xs.length : Int) ≤ 1 ∧ ArgsOk r.xs)) := fun hr lim h' hp => by have := c0' lim h' (m := 1) (hr.pfx hp); rw [← hr.1.ilen] at this; exact this
 have c0 := cc hst.1
 have c1 := cc hst.2.1
 have c2 := cc hst.2.2.1
 have c3 := cc hst.2.2.2
 have hd : decide (StoreOk ⟨r0.xs, r1.xs, r2.xs, r3.xs⟩) = decide (((r0.xs.length : Int) ≤ 1 ∧ ArgsOk r0.xs) ∧ ((r1.xs.length : Int) ≤ 1 ∧ ArgsOk r1.xs) ∧ ((r2.xs.length : Int) ≤ 1 ∧ ArgsOk r2.xs) ∧ ((r3.xs.length : Int) ≤ 1 ∧ ArgsOk r3.xs)) := decIff Iff.rfl
 rw [hd]
 refine Ret.body hX hF rfl ?_
 simp only [argL, rf_sMay]
 (refine Cs (Co (Wc ?_)); refine OL.boxA hL rfl rfl (fun b h' hL => (Wm rfl (Wt ?_))); refine Cs (Cs (Co (Wc (OP.fieldAddr0 rfl (Wc (OL.loadAll (k := 0) hL rfl rfl rfl (Wm rfl (Wt ?_)))))))); refine WC.block ?_)
 refine WC.unroll ?_
 (refine Cs (Co (Wc (OP.lssT rfl rfl (by omega) ?_))); refine Wn ?_; dsimp only [zn, zr, zx, yn, yr]; refine Cs (WC.condT rfl (WC.skip ?_)); dsimp only [zn, zr, zx, yn, yr]; refine Cs (WC.block (Cs (Co (Wc (OP.idxArr1 rfl rfl (by decide) rfl ?_))))); refine Wm rfl (Wn ?_); dsimp only [zn, zr, zx, yn, yr]; refine Cs (Co (Wm rfl (Wc ?_))); refine OL.callB hL rfl rfl (c0 _ _ hL.pfx) (fun h' hp hL hc => ?_) (fun h' hp hL hc => ?_); refine Wc (OP.not rfl (Wn ?_)); dsimp only [zn, zr, zx, yn, yr]; refine WC.condF rfl (WC.skip ?_); dsimp only [zn, zr, zx, yn, yr]; refine Co (Wc (OP.addL rfl rfl (by simp only [Int.reduceAdd]; rfl) (by decide) ?_)); refine Wm rfl (Wn ?_); dsimp only [zn, zr, zx, yn, yr])
 refine WC.unroll ?_
 (refine Cs (Co (Wc (OP.lssT rfl rfl (by omega) ?_))); refine Wn ?_; dsimp only [zn, zr, zx, yn, yr]; refine Cs (WC.condT rfl (WC.skip ?_)); dsimp only [zn, zr, zx, yn, yr]; refine Cs (WC.block (Cs (Co (Wc (OP.idxArr1 rfl rfl (by decide) rfl ?_))))); refine Wm rfl (Wn ?_); dsimp only [zn, zr, zx, yn, yr]; refine Cs (Co (Wm rfl (Wc ?_))); refine OL.callB hL rfl rfl (c1 _ _ hL.pfx) (fun h' hp hL hc => ?_) (fun h' hp hL hc => ?_); refine Wc (OP.not rfl (Wn ?_)); dsimp only [zn, zr, zx, yn, yr]; refine WC.condF rfl (WC.skip ?_); dsimp only [zn, zr, zx, yn, yr]; refine Co (Wc (OP.addL rfl rfl (by simp only [Int.reduceAdd]; rfl) (by decide) ?_)); refine Wm rfl (Wn ?_); dsimp only [zn, zr, zx, yn, yr])
 refine WC.unroll ?_
 (refine Cs (Co (Wc (OP.lssT rfl rfl (by omega) ?_))); refine Wn ?_; dsimp only [zn, zr, zx, yn, yr]; refine Cs (WC.condT rfl (WC.skip ?_)); dsimp only [zn, zr, zx, yn, yr]; refine Cs (WC.block (Cs (Co (Wc (OP.idxArr1 rfl rfl (by decide) rfl ?_))))); refine Wm rfl (Wn ?_); dsimp only [zn, zr, zx, yn, yr]; refine Cs (Co (Wm rfl (Wc ?_))); refine OL.callB hL rfl rfl (c2 _ _ hL.pfx) (fun h' hp hL hc => ?_) (fun h' hp hL hc => ?_); refine Wc (OP.not rfl (Wn ?_)); dsimp only [zn, zr, zx, yn, yr]; refine WC.condF rfl (WC.skip ?_); dsimp only [zn, zr, zx, yn, yr]; refine Co (Wc (OP.addL rfl rfl (by simp only [Int.reduceAdd]; rfl) (by decide) ?_)); refine Wm rfl (Wn ?_); dsimp only [zn, zr, zx, yn, yr])
 refine WC.unroll ?_
 (refine Cs (Co (Wc (OP.lssT rfl rfl (by omega) ?_))); refine Wn ?_; dsimp only [zn, zr, zx, yn, yr]; refine Cs (WC.condT rfl (WC.skip ?_)); dsimp only [zn, zr, zx, yn, yr]; refine Cs (WC.block (Cs (Co (Wc (OP.idxArr1 rfl rfl (by decide) rfl ?_))))); refine Wm rfl (Wn ?_); dsimp only [zn, zr, zx, yn, yr]; refine Cs (Co (Wm rfl (Wc ?_))); refine OL.callB hL rfl rfl (c3 _ _ hL.pfx) (fun h' hp hL hc => ?_) (fun h' hp hL hc => ?_); refine Wc (OP.not rfl (Wn ?_)); dsimp only [zn, zr, zx, yn, yr]; refine WC.condF rfl (WC.skip ?_); dsimp only [zn, zr, zx, yn, yr]; refine Co (Wc (OP.addL rfl rfl (by simp only [Int.reduceAdd]; rfl) (by decide) ?_)); refine Wm rfl (Wn ?_); dsimp only [zn, zr, zx, yn, yr])
 refine WC.unroll ?_
 (refine Cs (Co (Wc (OP.lssF rfl rfl (by omega) ?_))); refine Wt ?_; refine Cs (WC.condF rfl (WC.exit ?_)); dsimp only [zn, zr, zx, yn, yr]; rw [yx, if_pos rfl]; dsimp only [zn, zr, zx, yn, yr]; refine Cs (Co (Wm rfl (Wt ?_))); refine WC.ret ?_; exact Fin.ret rfl ⟨hL.pfx, boolT (by grind)⟩; refine Wc (OP.not rfl (Wt ?_)); refine WC.condT rfl (Cs (Co (Wm rfl (Wt ?_)))); refine WC.ret ?_; dsimp only [zn, zr, zx, yn, yr]; exact Fin.ret rfl ⟨hL.pfx, boolF (by grind)⟩; refine Wc (OP.not rfl (Wt ?_)); refine WC.condT rfl (Cs (Co (Wm rfl (Wt ?_)))); refine WC.ret ?_; dsimp only [zn, zr, zx, yn, yr]; exact Fin.ret rfl ⟨hL.pfx, boolF (by grind)⟩; refine Wc (OP.not rfl (Wt ?_)); refine WC.condT rfl (Cs (Co (Wm rfl (Wt ?_)))); refine WC.ret ?_; dsimp only [zn, zr, zx, yn, yr]; exact Fin.ret rfl ⟨hL.pfx, boolF (by grind)⟩; refine Wc (OP.not rfl (Wt ?_)); refine WC.condT rfl (Cs (Co (Wm rfl (Wt ?_)))); refine WC.ret ?_; dsimp only [zn, zr, zx, yn, yr]; exact Fin.ret rfl ⟨hL.pfx, boolF (by grind)⟩)
theorem s_sApply {g0 g1 g2 g3 g4 : Nat} (hX : X f = none) (hF : F f = some (rf_sApply g0 g1 g2 g3 g4)) (c0 : S_sMay X F g0) (c1 : S_oMay X F g1) (c2 : S_sCopy X F g2) (c3 : S_Concat X F g3) (c4 : S_sum X F g4) : S_sApply X F f := by
 intro lim h r0 r1 r2 r3 c r a hlim hst
 have hL := Loc.start h
 have z1 : ¬ (StoreOk ⟨r0.xs, r1.xs, r2.xs, r3.xs⟩ ∧ OpOk c r a) → StoreM 300 ⟨r0.xs, r1.xs, r2.xs, r3.xs⟩ c r a = (S4.none, 0, 300) := fun hh => if_neg hh
 refine Ret.body hX hF rfl ?_
 simp only [argL, rf_sApply]
 (refine Cs (Co (Wc ?_)); refine OL.boxA hL rfl rfl (fun b h' hL => (Wc ?_)); refine OL.boxA hL rfl rfl (fun b h' hL => (Wc ?_)); refine OL.new hL (fun b h' hL => (Wm rfl (Wm rfl (Wt ?_)))); refine Cs (Cs (Co (Wc (OL.loadAll (k := 2) hL rfl rfl rfl (Wc ?_))))); refine OL.callB hL rfl rfl (c0 _ _ (by first | omega | assumption | exact St.pfx (by assumption) hL.pfx | exact hL.stM (by repeat (first | exact mh | apply mt)))) (fun h' hp hL hc => ?_) (fun h' hp hL hc => ?_); refine Wc (OP.not rfl (Wm rfl (WO.yes rfl (Wc (OL.loadAll (k := 1) hL rfl rfl rfl (WO.yes rfl (Wc ?_))))))); refine OL.callB hL rfl rfl (c1 _ _) (fun h' hp hL hc => ?_) (fun h' hp hL hc => ?_); refine WO.yes rfl (Wc (OP.not rfl (Wc (OP.pickF rfl rfl (Wt ?_))))); refine WC.condF rfl (Ks ?_); refine Cs (Co (Wc (OL.loadAll (k := 2) hL rfl rfl rfl (Wc ?_)))); refine OL.callSt hL rfl rfl (c2 _ _ (by first | exact hL.lm hlim | exact Nat.le_refl _ | omega) (by first | omega | assumption | exact St.pfx (by assumption) hL.pfx | exact hL.stM (by repeat (first | exact mh | apply mt)))) (fun a0 n0 a1 n1 a2 n2 a3 n3 h' hy hp hL => ?_); (try dsimp only at hL hy ⊢); refine Wc ?_; refine OL.new hL (fun b h' hL => (WO.cons0 ?_)); refine OL.storeAll (k := 0) hL hlim rfl rfl rfl rfl rfl rfl (by decide) rfl (fun h' hL => ?_); dsimp only [List.set, Nat.zero_add, Nat.reduceAdd, Nat.reduceMul] at hL; refine Wm rfl (Wt ?_); refine Cs (Co (Wc (OP.fieldAddr0 rfl (Wc (OL.load1 (k := 3) hL rfl rfl rfl (Wc (OP.fieldAddr0 rfl ?_))))))))
 have hc1 : StoreOk ⟨r0.xs, r1.xs, r2.xs, r3.xs⟩ := by assumption
 have hr : r = 0 ∨ r = 1 ∨ r = 2 ∨ r = 3 := by omega
 have zc0 : c = 0 → StoreM 300 ⟨r0.xs, r1.xs, r2.xs, r3.xs⟩ c r a = (S4.put ⟨r0.xs, r1.xs, r2.xs, r3.xs⟩ r [a], firstL (S4.get ⟨r0.xs, r1.xs, r2.xs, r3.xs⟩ r), 0) := fun h => (if_pos ⟨hc1, hc⟩).trans (if_pos h)
 have zc1 : c = 1 → StoreM 300 ⟨r0.xs, r1.xs, r2.xs, r3.xs⟩ c r a = (S4.put ⟨r0.xs, r1.xs, r2.xs, r3.xs⟩ r [], firstL (S4.get ⟨r0.xs, r1.xs, r2.xs, r3.xs⟩ r), 0) := fun h => (if_pos ⟨hc1, hc⟩).trans ((if_neg (by omega)).trans (if_pos h))
 have zc2 : c = 2 → StoreM 300 ⟨r0.xs, r1.xs, r2.xs, r3.xs⟩ c r a = (⟨r0.xs, r1.xs, r2.xs, r3.xs⟩, firstL (S4.get ⟨r0.xs, r1.xs, r2.xs, r3.xs⟩ r), 0) := fun h => (if_pos ⟨hc1, hc⟩).trans ((if_neg (by omega)).trans ((if_neg (by omega)).trans (if_pos h)))
 have zc3 : c = 3 → StoreM 300 ⟨r0.xs, r1.xs, r2.xs, r3.xs⟩ c r a = (⟨r0.xs, r1.xs, r2.xs, r3.xs⟩, sumL (allL ⟨r0.xs, r1.xs, r2.xs, r3.xs⟩), 0) := fun h => (if_pos ⟨hc1, hc⟩).trans ((if_neg (by omega)).trans ((if_neg (by omega)).trans (if_neg (by omega))))
 have hlen : ((r0.xs.length : Int) ≤ 1 ∧ ArgsOk r0.xs) ∧ ((r1.xs.length : Int) ≤ 1 ∧ ArgsOk r1.xs) ∧ ((r2.xs.length : Int) ≤ 1 ∧ ArgsOk r2.xs) ∧ ((r3.xs.length : Int) ≤ 1 ∧ ArgsOk r3.xs) := hc1
 have hln : r0.xs.length ≤ 1 ∧ r1.xs.length ≤ 1 ∧ r2.xs.length ≤ 1 ∧ r3.xs.length ≤ 1 := ⟨by have := hlen.1.1; omega, by have := hlen.2.1.1; omega, by have := hlen.2.2.1.1; omega, by have := hlen.2.2.2.1; omega⟩
 clear z1
 dsimp only [Row.v] at hL ⊢
 have hq := hL.stM (by repeat (first | exact mh | apply mt))
 have q0 : Sl 1 h' a0 n0 n0 (ints r0.xs) := hq.1.1
 have q1 : Sl 1 h' a1 n1 n1 (ints r1.xs) := hq.2.1.1
 have q2 : Sl 1 h' a2 n2 n2 (ints r2.xs) := hq.2.2.1.1
 have q3 : Sl 1 h' a3 n3 n3 (ints r3.xs) := hq.2.2.2.1
 rcases hr with rfl | rfl | rfl | rfl
 ·by_cases hpos : n0 = 0
  ·have hb : firstL r0.xs = -1 := firstL_nil (by omega)
   (refine Wc (OP.idxArrZ rfl rfl (by decide) (by simp only [Int.reduceToNat, Nat.mul_one, Nat.zero_add, Nat.reduceMul, Nat.reduceAdd]; rfl) ?_); refine Wm rfl (Wt ?_); refine Cs (Cs (Co (Wm rfl (Wc (OP.nilP rfl (Wc (OL.load1 (k := 0) hL rfl rfl rfl (Wc (OP.lenS rfl (Wc (OP.gtrF rfl rfl (by omega) ?_))))))))))); refine Wt ?_; refine WC.condF rfl (Ks ?_); refine Cs (Cs (Co (Wc (OP.fieldAddr0 rfl (Wc (OL.load1 (k := 3) hL rfl rfl rfl (Wt ?_))))))); refine WC.block (Cs (Co (Wc ?_))); refine OP.eqlC rfl rfl (fun hc => ?_) (fun hc => ?_); refine Wm rfl (Wt ?_); refine WC.condT rfl (Co (Wm rfl (Wc (OP.fieldAddr0 rfl (Wc (OL.load1 (k := 3) hL rfl rfl rfl (Wc ?_))))))); refine OL.buildSlice hL rfl (by simp [over, Value.cells]; rfl) rfl (fun b h' hL => ?_); refine Wc (OP.nilP rfl (WO.cons0 ?_)); refine OL.store1 (k := 1) hL hlim rfl rfl rfl rfl rfl rfl rfl (fun h' hL => ?_); dsimp only [List.set, Nat.zero_add, Nat.reduceAdd, Nat.reduceMul] at hL; refine Wt ?_; refine Cs (Co (Wc (OL.loadAll (k := 1) hL rfl rfl rfl (Wm rfl (WO.cons0 ?_))))); refine OL.storeAll (k := 3) hL hlim rfl rfl rfl rfl rfl rfl (by decide) rfl (fun h' hL => ?_); dsimp only [List.set, Nat.zero_add, Nat.reduceAdd, Nat.reduceMul] at hL; refine Wm rfl (Wm rfl (Wt ?_)); refine WC.ret ?_)
   rw [zc0 (by omega), show S4.get ⟨r0.xs, r1.xs, r2.xs, r3.xs⟩ 0 = r0.xs from rfl, hb]
   have hw := hL.rowBx (n := 1) (xs := [a]) (by repeat (first | exact mh | apply mt)) rfl (by omega)
   have hq := hL.stM (by repeat (first | exact mh | apply mt))
   have hi := (hL.stOut (by repeat (first | exact mh | apply mt))).2
   exact Fin.ret (resL_cell rfl (hL.cell (k := 3) rfl) rfl rfl) ⟨hL.pfx, ⟨_, 1, [a]⟩, ⟨a1, n1, r1.xs⟩, ⟨a2, n2, r2.xs⟩, ⟨a3, n3, r3.xs⟩, rfl, ⟨rfl, rfl, rfl, rfl⟩, ⟨hw.1, hq.2.1, hq.2.2.1, hq.2.2.2⟩, hw.2, hi.2.1, hi.2.2.1, hi.2.2.2⟩
   (refine Wm rfl (Wt ?_); refine WC.condF rfl (Cs (Co (Wc ?_))); refine OP.eqlC rfl rfl (fun hc => ?_) (fun hc => ?_); refine Wm rfl (Wt ?_); refine WC.condT rfl (Co (Wm rfl (Wc (OP.nilP rfl (WO.cons0 ?_))))); refine OL.store1 (k := 0) hL hlim rfl rfl rfl rfl rfl rfl rfl (fun h' hL => ?_); dsimp only [List.set, Nat.zero_add, Nat.reduceAdd, Nat.reduceMul] at hL; refine Wt ?_; refine Cs (Co (Wc (OL.loadAll (k := 0) hL rfl rfl rfl (Wm rfl (WO.cons0 ?_))))); refine OL.storeAll (k := 2) hL hlim rfl rfl rfl rfl rfl rfl (by decide) rfl (fun h' hL => ?_); dsimp only [List.set, Nat.zero_add, Nat.reduceAdd, Nat.reduceMul] at hL; refine Wm rfl (Wm rfl (Wt ?_)); refine WC.ret ?_)
   rw [zc1 (by omega), show S4.get ⟨r0.xs, r1.xs, r2.xs, r3.xs⟩ 0 = r0.xs from rfl, hb]
   have hq := hL.stM (by repeat (first | exact mh | apply mt))
   have hi := (hL.stOut (by repeat (first | exact mh | apply mt))).2
   exact Fin.ret (resL_cell rfl (hL.cell (k := 2) rfl) rfl rfl) ⟨hL.pfx, nilRow, ⟨a1, n1, r1.xs⟩, ⟨a2, n2, r2.xs⟩, ⟨a3, n3, r3.xs⟩, rfl, ⟨rfl, rfl, rfl, rfl⟩, ⟨nilRow_ok _, hq.2.1, hq.2.2.1, hq.2.2.2⟩, nilRow_in _ _, hi.2.1, hi.2.2.1, hi.2.2.2⟩
   (refine Wm rfl (Wt ?_); refine WC.condF rfl (Cs (Co (Wc ?_))); refine OP.eqlC rfl rfl (fun hc => ?_) (fun hc => ?_); refine Wm rfl (Wt ?_); refine WC.condT rfl (Co (Wc (OP.fieldAddr0 rfl (Wc (OP.sliceArr0 rfl ?_))))))
   (refine Wc ?_)
   refine OL.call hL rfl rfl (c3 _ _ (hL.lm hlim) (r0 := ⟨a0, n0, r0.xs⟩) (r1 := ⟨a1, n1, r1.xs⟩) (r2 := ⟨a2, n2, r2.xs⟩) (r3 := ⟨a3, n3, r3.xs⟩) (hL.cell (k := 0) rfl) (hL.stM (by repeat (first | exact mh | apply mt))) ⟨by show n0 ≤ 2 ^ 40; omega, by show n1 ≤ 2 ^ 40; omega, by show n2 ≤ 2 ^ 40; omega, by show n3 ≤ 2 ^ 40; omega⟩) (fun v h1 hp hL hv => ?_)
   obtain ⟨aa, nn, cc, rfl, hnn, hss⟩ := hv
   have hnn : nn = n0 + n1 + n2 + n3 := hnn
   skip
   (refine Wc ?_)
   refine OL.callV hL rfl rfl (c4 _ _ hss (by omega) (all_args (s := ⟨r0.xs, r1.xs, r2.xs, r3.xs⟩) hc1)) (fun h' hp hL => ?_)
   (refine Wm rfl (Wt ?_); refine Cs (Co (Wc (OL.loadAll (k := 0) hL rfl rfl rfl (Wm rfl (WO.cons0 ?_))))); refine OL.storeAll (k := 2) hL hlim rfl rfl rfl rfl rfl rfl (by decide) rfl (fun h' hL => ?_); dsimp only [List.set, Nat.zero_add, Nat.reduceAdd, Nat.reduceMul] at hL; refine Wm rfl (Wm rfl (Wt ?_)); refine WC.ret ?_)
   rw [zc3 (by omega)]
   have hq := hL.stM (by repeat (first | exact mh | apply mt))
   have hi := (hL.stOut (by repeat (first | exact mh | apply mt))).2
   exact Fin.ret (resL_cell rfl (hL.cell (k := 2) rfl) rfl rfl) ⟨hL.pfx, ⟨a0, n0, r0.xs⟩, ⟨a1, n1, r1.xs⟩, ⟨a2, n2, r2.xs⟩, ⟨a3, n3, r3.xs⟩, rfl, ⟨rfl, rfl, rfl, rfl⟩, ⟨hq.1, hq.2.1, hq.2.2.1, hq.2.2.2⟩, hi.1, hi.2.1, hi.2.2.1, hi.2.2.2⟩
   (refine Wm rfl (Wn ?_); dsimp only [zn, zr, zx, yn, yr]; refine WC.condF rfl (WC.skip ?_); dsimp only [zn, zr, zx, yn, yr]; refine Cs (Co (Wc (OL.loadAll (k := 0) hL rfl rfl rfl (Wm rfl (WO.cons0 ?_))))); refine OL.storeAll (k := 2) hL hlim rfl rfl rfl rfl rfl rfl (by decide) rfl (fun h' hL => ?_); dsimp only [List.set, Nat.zero_add, Nat.reduceAdd, Nat.reduceMul] at hL; refine Wm rfl (Wm rfl (Wn ?_)); dsimp only [zn, zr, zx, yn, yr]; refine WC.ret ?_)
   rw [zc2 (by omega), show S4.get ⟨r0.xs, r1.xs, r2.xs, r3.xs⟩ 0 = r0.xs from rfl, hb]
   have hq := hL.stM (by repeat (first | exact mh | apply mt))
   have hi := (hL.stOut (by repeat (first | exact mh | apply mt))).2
   exact Fin.ret (resL_cell rfl (hL.cell (k := 2) rfl) rfl rfl) ⟨hL.pfx, ⟨a0, n0, r0.xs⟩, ⟨a1, n1, r1.xs⟩, ⟨a2, n2, r2.xs⟩, ⟨a3, n3, r3.xs⟩, rfl, ⟨rfl, rfl, rfl, rfl⟩, ⟨hq.1, hq.2.1, hq.2.2.1, hq.2.2.2⟩, hi.1, hi.2.1, hi.2.2.1, hi.2.2.2⟩
  ·have hpl : 0 < r0.xs.length := by omega
   have ha : r0.xs[Int.toNat 0] = firstL r0.xs := firstL_get hpl
   (refine Wc (OP.idxArrZ rfl rfl (by decide) (by simp only [Int.reduceToNat, Nat.mul_one, Nat.zero_add, Nat.reduceMul, Nat.reduceAdd]; rfl) ?_); refine Wm rfl (Wt ?_); refine Cs (Cs (Co (Wm rfl (Wc (OP.nilP rfl (Wc (OL.load1 (k := 0) hL rfl rfl rfl (Wc (OP.lenS rfl (Wc (OP.gtrT rfl rfl (by omega) ?_))))))))))); refine Wt ?_; refine WC.condT rfl (Co (Wm rfl (Wc (OP.nilP rfl (Wc (OL.load1 (k := 0) hL rfl rfl rfl (Wc (OP.idxZ (by assumption) rfl rfl (by omega) ?_)))))))); refine Wc (OP.ldI (by assumption) rfl (by omega) ?_); refine Wm rfl (Wt ?_); refine Cs (Cs (Co (Wc (OP.fieldAddr0 rfl (Wc (OL.load1 (k := 3) hL rfl rfl rfl (Wt ?_))))))); refine WC.block (Cs (Co (Wc ?_))); refine OP.eqlC rfl rfl (fun hc => ?_) (fun hc => ?_); refine Wm rfl (Wt ?_); refine WC.condT rfl (Co (Wm rfl (Wc (OP.fieldAddr0 rfl (Wc (OL.load1 (k := 3) hL rfl rfl rfl (Wc ?_))))))); refine OL.buildSlice hL rfl (by simp [over, Value.cells]; rfl) rfl (fun b h' hL => ?_); refine Wc (OP.nilP rfl (WO.cons0 ?_)); refine OL.store1 (k := 1) hL hlim rfl rfl rfl rfl rfl rfl rfl (fun h' hL => ?_); dsimp only [List.set, Nat.zero_add, Nat.reduceAdd, Nat.reduceMul] at hL; refine Wt ?_; refine Cs (Co (Wc (OL.loadAll (k := 1) hL rfl rfl rfl (Wm rfl (WO.cons0 ?_))))); refine OL.storeAll (k := 3) hL hlim rfl rfl rfl rfl rfl rfl (by decide) rfl (fun h' hL => ?_); dsimp only [List.set, Nat.zero_add, Nat.reduceAdd, Nat.reduceMul] at hL; refine Wm rfl (Wm rfl (Wt ?_)); refine WC.ret ?_)
   rw [ha]
   rw [zc0 (by omega), show S4.get ⟨r0.xs, r1.xs, r2.xs, r3.xs⟩ 0 = r0.xs from rfl]
   have hw := hL.rowBx (n := 1) (xs := [a]) (by repeat (first | exact mh | apply mt)) rfl (by omega)
   have hq := hL.stM (by repeat (first | exact mh | apply mt))
   have hi := (hL.stOut (by repeat (first | exact mh | apply mt))).2
   exact Fin.ret (resL_cell rfl (hL.cell (k := 3) rfl) rfl rfl) ⟨hL.pfx, ⟨_, 1, [a]⟩, ⟨a1, n1, r1.xs⟩, ⟨a2, n2, r2.xs⟩, ⟨a3, n3, r3.xs⟩, rfl, ⟨rfl, rfl, rfl, rfl⟩, ⟨hw.1, hq.2.1, hq.2.2.1, hq.2.2.2⟩, hw.2, hi.2.1, hi.2.2.1, hi.2.2.2⟩
   (refine Wm rfl (Wt ?_); refine WC.condF rfl (Cs (Co (Wc ?_))); refine OP.eqlC rfl rfl (fun hc => ?_) (fun hc => ?_); refine Wm rfl (Wt ?_); refine WC.condT rfl (Co (Wm rfl (Wc (OP.nilP rfl (WO.cons0 ?_))))); refine OL.store1 (k := 0) hL hlim rfl rfl rfl rfl rfl rfl rfl (fun h' hL => ?_); dsimp only [List.set, Nat.zero_add, Nat.reduceAdd, Nat.reduceMul] at hL; refine Wt ?_; refine Cs (Co (Wc (OL.loadAll (k := 0) hL rfl rfl rfl (Wm rfl (WO.cons0 ?_))))); refine OL.storeAll (k := 2) hL hlim rfl rfl rfl rfl rfl rfl (by decide) rfl (fun h' hL => ?_); dsimp only [List.set, Nat.zero_add, Nat.reduceAdd, Nat.reduceMul] at hL; refine Wm rfl (Wm rfl (Wt ?_)); refine WC.ret ?_)
   rw [ha]
   rw [zc1 (by omega), show S4.get ⟨r0.xs, r1.xs, r2.xs, r3.xs⟩ 0 = r0.xs from rfl]
   have hq := hL.stM (by repeat (first | exact mh | apply mt))
   have hi := (hL.stOut (by repeat (first | exact mh | apply mt))).2
   exact Fin.ret (resL_cell rfl (hL.cell (k := 2) rfl) rfl rfl) ⟨hL.pfx, nilRow, ⟨a1, n1, r1.xs⟩, ⟨a2, n2, r2.xs⟩, ⟨a3, n3, r3.xs⟩, rfl, ⟨rfl, rfl, rfl, rfl⟩, ⟨nilRow_ok _, hq.2.1, hq.2.2.1, hq.2.2.2⟩, nilRow_in _ _, hi.2.1, hi.2.2.1, hi.2.2.2⟩
   (refine Wm rfl (Wt ?_); refine WC.condF rfl (Cs (Co (Wc ?_))); refine OP.eqlC rfl rfl (fun hc => ?_) (fun hc => ?_); refine Wm rfl (Wt ?_); refine WC.condT rfl (Co (Wc (OP.fieldAddr0 rfl (Wc (OP.sliceArr0 rfl ?_))))))
   (refine Wc ?_)
   refine OL.call hL rfl rfl (c3 _ _ (hL.lm hlim) (r0 := ⟨a0, n0, r0.xs⟩) (r1 := ⟨a1, n1, r1.xs⟩) (r2 := ⟨a2, n2, r2.xs⟩) (r3 := ⟨a3, n3, r3.xs⟩) (hL.cell (k := 0) rfl) (hL.stM (by repeat (first | exact mh | apply mt))) ⟨by show n0 ≤ 2 ^ 40; omega, by show n1 ≤ 2 ^ 40; omega, by show n2 ≤ 2 ^ 40; omega, by show n3 ≤ 2 ^ 40; omega⟩) (fun v h1 hp hL hv => ?_)
   obtain ⟨aa, nn, cc, rfl, hnn, hss⟩ := hv
   have hnn : nn = n0 + n1 + n2 + n3 := hnn
   skip
   (refine Wc ?_)
   refine OL.callV hL rfl rfl (c4 _ _ hss (by omega) (all_args (s := ⟨r0.xs, r1.xs, r2.xs, r3.xs⟩) hc1)) (fun h' hp hL => ?_)
   (refine Wm rfl (Wt ?_); refine Cs (Co (Wc (OL.loadAll (k := 0) hL rfl rfl rfl (Wm rfl (WO.cons0 ?_))))); refine OL.storeAll (k := 2) hL hlim rfl rfl rfl rfl rfl rfl (by decide) rfl (fun h' hL => ?_); dsimp only [List.set, Nat.zero_add, Nat.reduceAdd, Nat.reduceMul] at hL; refine Wm rfl (Wm rfl (Wt ?_)); refine WC.ret ?_)
   rw [zc3 (by omega)]
   have hq := hL.stM (by repeat (first | exact mh | apply mt))
   have hi := (hL.stOut (by repeat (first | exact mh | apply mt))).2
   exact Fin.ret (resL_cell rfl (hL.cell (k := 2) rfl) rfl rfl) ⟨hL.pfx, ⟨a0, n0, r0.xs⟩, ⟨a1, n1, r1.xs⟩, ⟨a2, n2, r2.xs⟩, ⟨a3, n3, r3.xs⟩, rfl, ⟨rfl, rfl, rfl, rfl⟩, ⟨hq.1, hq.2.1, hq.2.2.1, hq.2.2.2⟩, hi.1, hi.2.1, hi.2.2.1, hi.2.2.2⟩
   (refine Wm rfl (Wn ?_); dsimp only [zn, zr, zx, yn, yr]; refine WC.condF rfl (WC.skip ?_); dsimp only [zn, zr, zx, yn, yr]; refine Cs (Co (Wc (OL.loadAll (k := 0) hL rfl rfl rfl (Wm rfl (WO.cons0 ?_))))); refine OL.storeAll (k := 2) hL hlim rfl rfl rfl rfl rfl rfl (by decide) rfl (fun h' hL => ?_); dsimp only [List.set, Nat.zero_add, Nat.reduceAdd, Nat.reduceMul] at hL; refine Wm rfl (Wm rfl (Wn ?_)); dsimp only [zn, zr, zx, yn, yr]; refine WC.ret ?_)
   rw [ha]
   rw [zc2 (by omega), show S4.get ⟨r0.xs, r1.xs, r2.xs, r3.xs⟩ 0 = r0.xs from rfl]
   have hq := hL.stM (by repeat (first | exact mh | apply mt))
   have hi := (hL.stOut (by repeat (first | exact mh | apply mt))).2
   exact Fin.ret (resL_cell rfl (hL.cell (k := 2) rfl) rfl rfl) ⟨hL.pfx, ⟨a0, n0, r0.xs⟩, ⟨a1, n1, r1.xs⟩, ⟨a2, n2, r2.xs⟩, ⟨a3, n3, r3.xs⟩, rfl, ⟨rfl, rfl, rfl, rfl⟩, ⟨hq.1, hq.2.1, hq.2.2.1, hq.2.2.2⟩, hi.1, hi.2.1, hi.2.2.1, hi.2.2.2⟩
 ·by_cases hpos : n1 = 0
  ·have hb : firstL r1.xs = -1 := firstL_nil (by omega)
   (refine Wc (OP.idxArrZ rfl rfl (by decide) (by simp only [Int.reduceToNat, Nat.mul_one, Nat.zero_add, Nat.reduceMul, Nat.reduceAdd]; rfl) ?_); refine Wm rfl (Wt ?_); refine Cs (Cs (Co (Wm rfl (Wc (OP.nilP rfl (Wc (OL.load1 (k := 0) hL rfl rfl rfl (Wc (OP.lenS rfl (Wc (OP.gtrF rfl rfl (by omega) ?_))))))))))); refine Wt ?_; refine WC.condF rfl (Ks ?_); refine Cs (Cs (Co (Wc (OP.fieldAddr0 rfl (Wc (OL.load1 (k := 3) hL rfl rfl rfl (Wt ?_))))))); refine WC.block (Cs (Co (Wc ?_))); refine OP.eqlC rfl rfl (fun hc => ?_) (fun hc => ?_); refine Wm rfl (Wt ?_); refine WC.condT rfl (Co (Wm rfl (Wc (OP.fieldAddr0 rfl (Wc (OL.load1 (k := 3) hL rfl rfl rfl (Wc ?_))))))); refine OL.buildSlice hL rfl (by simp [over, Value.cells]; rfl) rfl (fun b h' hL => ?_); refine Wc (OP.nilP rfl (WO.cons0 ?_)); refine OL.store1 (k := 1) hL hlim rfl rfl rfl rfl rfl rfl rfl (fun h' hL => ?_); dsimp only [List.set, Nat.zero_add, Nat.reduceAdd, Nat.reduceMul] at hL; refine Wt ?_; refine Cs (Co (Wc (OL.loadAll (k := 1) hL rfl rfl rfl (Wm rfl (WO.cons0 ?_))))); refine OL.storeAll (k := 3) hL hlim rfl rfl rfl rfl rfl rfl (by decide) rfl (fun h' hL => ?_); dsimp only [List.set, Nat.zero_add, Nat.reduceAdd, Nat.reduceMul] at hL; refine Wm rfl (Wm rfl (Wt ?_)); refine WC.ret ?_)
   rw [zc0 (by omega), show S4.get ⟨r0.xs, r1.xs, r2.xs, r3.xs⟩ 1 = r1.xs from rfl, hb]
   have hw := hL.rowBx (n := 1) (xs := [a]) (by repeat (first | exact mh | apply mt)) rfl (by omega)
   have hq := hL.stM (by repeat (first | exact mh | apply mt))
   have hi := (hL.stOut (by repeat (first | exact mh | apply mt))).2
   exact Fin.ret (resL_cell rfl (hL.cell (k := 3) rfl) rfl rfl) ⟨hL.pfx, ⟨a0, n0, r0.xs⟩, ⟨_, 1, [a]⟩, ⟨a2, n2, r2.xs⟩, ⟨a3, n3, r3.xs⟩, rfl, ⟨rfl, rfl, rfl, rfl⟩, ⟨hq.1, hw.1, hq.2.2.1, hq.2.2.2⟩, hi.1, hw.2, hi.2.2.1, hi.2.2.2⟩
   (refine Wm rfl (Wt ?_); refine WC.condF rfl (Cs (Co (Wc ?_))); refine OP.eqlC rfl rfl (fun hc => ?_) (fun hc => ?_); refine Wm rfl (Wt ?_); refine WC.condT rfl (Co (Wm rfl (Wc (OP.nilP rfl (WO.cons0 ?_))))); refine OL.store1 (k := 0) hL hlim rfl rfl rfl rfl rfl rfl rfl (fun h' hL => ?_); dsimp only [List.set, Nat.zero_add, Nat.reduceAdd, Nat.reduceMul] at hL; refine Wt ?_; refine Cs (Co (Wc (OL.loadAll (k := 0) hL rfl rfl rfl (Wm rfl (WO.cons0 ?_))))); refine OL.storeAll (k := 2) hL hlim rfl rfl rfl rfl rfl rfl (by decide) rfl (fun h' hL => ?_); dsimp only [List.set, Nat.zero_add, Nat.reduceAdd, Nat.reduceMul] at hL; refine Wm rfl (Wm rfl (Wt ?_)); refine WC.ret ?_)
   rw [zc1 (by omega), show S4.get ⟨r0.xs, r1.xs, r2.xs, r3.xs⟩ 1 = r1.xs from rfl, hb]
   have hq := hL.stM (by repeat (first | exact mh | apply mt))
   have hi := (hL.stOut (by repeat (first | exact mh | apply mt))).2
   exact Fin.ret (resL_cell rfl (hL.cell (k := 2) rfl) rfl rfl) ⟨hL.pfx, ⟨a0, n0, r0.xs⟩, nilRow, ⟨a2, n2, r2.xs⟩, ⟨a3, n3, r3.xs⟩, rfl, ⟨rfl, rfl, rfl, rfl⟩, ⟨hq.1, nilRow_ok _, hq.2.2.1, hq.2.2.2⟩, hi.1, nilRow_in _ _, hi.2.2.1, hi.2.2.2⟩
   (refine Wm rfl (Wn ?_); dsimp only [zn, zr, zx, yn, yr]; refine WC.condF rfl (Cs (Co (Wc (OP.eqlF rfl rfl (by omega) ?_)))); refine Wm rfl (Wn ?_); dsimp only [zn, zr, zx, yn, yr]; refine WC.condF rfl (WC.skip ?_); dsimp only [zn, zr, zx, yn, yr]; refine Cs (Co (Wc (OL.loadAll (k := 0) hL rfl rfl rfl (Wm rfl (WO.cons0 ?_))))); refine OL.storeAll (k := 2) hL hlim rfl rfl rfl rfl rfl rfl (by decide) rfl (fun h' hL => ?_); dsimp only [List.set, Nat.zero_add, Nat.reduceAdd, Nat.reduceMul] at hL; refine Wm rfl (Wm rfl (Wn ?_)); dsimp only [zn, zr, zx, yn, yr]; refine WC.ret ?_)
   rw [zc2 (by omega), show S4.get ⟨r0.xs, r1.xs, r2.xs, r3.xs⟩ 1 = r1.xs from rfl, hb]
   have hq := hL.stM (by repeat (first | exact mh | apply mt))
   have hi := (hL.stOut (by repeat (first | exact mh | apply mt))).2
   exact Fin.ret (resL_cell rfl (hL.cell (k := 2) rfl) rfl rfl) ⟨hL.pfx, ⟨a0, n0, r0.xs⟩, ⟨a1, n1, r1.xs⟩, ⟨a2, n2, r2.xs⟩, ⟨a3, n3, r3.xs⟩, rfl, ⟨rfl, rfl, rfl, rfl⟩, ⟨hq.1, hq.2.1, hq.2.2.1, hq.2.2.2⟩, hi.1, hi.2.1, hi.2.2.1, hi.2.2.2⟩
  ·have hpl : 0 < r1.xs.length := by omega
   have ha : r1.xs[Int.toNat 0] = firstL r1.xs := firstL_get hpl
   (refine Wc (OP.idxArrZ rfl rfl (by decide) (by simp only [Int.reduceToNat, Nat.mul_one, Nat.zero_add, Nat.reduceMul, Nat.reduceAdd]; rfl) ?_); refine Wm rfl (Wt ?_); refine Cs (Cs (Co (Wm rfl (Wc (OP.nilP rfl (Wc (OL.load1 (k := 0) hL rfl rfl rfl (Wc (OP.lenS rfl (Wc (OP.gtrT rfl rfl (by omega) ?_))))))))))); refine Wt ?_; refine WC.condT rfl (Co (Wm rfl (Wc (OP.nilP rfl (Wc (OL.load1 (k := 0) hL rfl rfl rfl (Wc (OP.idxZ (by assumption) rfl rfl (by omega) ?_)))))))); refine Wc (OP.ldI (by assumption) rfl (by omega) ?_); refine Wm rfl (Wt ?_); refine Cs (Cs (Co (Wc (OP.fieldAddr0 rfl (Wc (OL.load1 (k := 3) hL rfl rfl rfl (Wt ?_))))))); refine WC.block (Cs (Co (Wc ?_))); refine OP.eqlC rfl rfl (fun hc => ?_) (fun hc => ?_); refine Wm rfl (Wt ?_); refine WC.condT rfl (Co (Wm rfl (Wc (OP.fieldAddr0 rfl (Wc (OL.load1 (k := 3) hL rfl rfl rfl (Wc ?_))))))); refine OL.buildSlice hL rfl (by simp [over, Value.cells]; rfl) rfl (fun b h' hL => ?_); refine Wc (OP.nilP rfl (WO.cons0 ?_)); refine OL.store1 (k := 1) hL hlim rfl rfl rfl rfl rfl rfl rfl (fun h' hL => ?_); dsimp only [List.set, Nat.zero_add, Nat.reduceAdd, Nat.reduceMul] at hL; refine Wt ?_; refine Cs (Co (Wc (OL.loadAll (k := 1) hL rfl rfl rfl (Wm rfl (WO.cons0 ?_))))); refine OL.storeAll (k := 3) hL hlim rfl rfl rfl rfl rfl rfl (by decide) rfl (fun h' hL => ?_); dsimp only [List.set, Nat.zero_add, Nat.reduceAdd, Nat.reduceMul] at hL; refine Wm rfl (Wm rfl (Wt ?_)); refine WC.ret ?_)
   rw [ha]
   rw [zc0 (by omega), show S4.get ⟨r0.xs, r1.xs, r2.xs, r3.xs⟩ 1 = r1.xs from rfl]
   have hw := hL.rowBx (n := 1) (xs := [a]) (by repeat (first | exact mh | apply mt)) rfl (by omega)
   have hq := hL.stM (by repeat (first | exact mh | apply mt))
   have hi := (hL.stOut (by repeat (first | exact mh | apply mt))).2
   exact Fin.ret (resL_cell rfl (hL.cell (k := 3) rfl) rfl rfl) ⟨hL.pfx, ⟨a0, n0, r0.xs⟩, ⟨_, 1, [a]⟩, ⟨a2, n2, r2.xs⟩, ⟨a3, n3, r3.xs⟩, rfl, ⟨rfl, rfl, rfl, rfl⟩, ⟨hq.1, hw.1, hq.2.2.1, hq.2.2.2⟩, hi.1, hw.2, hi.2.2.1, hi.2.2.2⟩
   (refine Wm rfl (Wt ?_); refine WC.condF rfl (Cs (Co (Wc ?_))); refine OP.eqlC rfl rfl (fun hc => ?_) (fun hc => ?_); refine Wm rfl (Wt ?_); refine WC.condT rfl (Co (Wm rfl (Wc (OP.nilP rfl (WO.cons0 ?_))))); refine OL.store1 (k := 0) hL hlim rfl rfl rfl rfl rfl rfl rfl (fun h' hL => ?_); dsimp only [List.set, Nat.zero_add, Nat.reduceAdd, Nat.reduceMul] at hL; refine Wt ?_; refine Cs (Co (Wc (OL.loadAll (k := 0) hL rfl rfl rfl (Wm rfl (WO.cons0 ?_))))); refine OL.storeAll (k := 2) hL hlim rfl rfl rfl rfl rfl rfl (by decide) rfl (fun h' hL => ?_); dsimp only [List.set, Nat.zero_add, Nat.reduceAdd, Nat.reduceMul] at hL; refine Wm rfl (Wm rfl (Wt ?_)); refine WC.ret ?_)
   rw [ha]
   rw [zc1 (by omega), show S4.get ⟨r0.xs, r1.xs, r2.xs, r3.xs⟩ 1 = r1.xs from rfl]
   have hq := hL.stM (by repeat (first | exact mh | apply mt))
   have hi := (hL.stOut (by repeat (first | exact mh | apply mt))).2
   exact Fin.ret (resL_cell rfl (hL.cell (k := 2) rfl) rfl rfl) ⟨hL.pfx, ⟨a0, n0, r0.xs⟩, nilRow, ⟨a2, n2, r2.xs⟩, ⟨a3, n3, r3.xs⟩, rfl, ⟨rfl, rfl, rfl, rfl⟩, ⟨hq.1, nilRow_ok _, hq.2.2.1, hq.2.2.2⟩, hi.1, nilRow_in _ _, hi.2.2.1, hi.2.2.2⟩
   (refine Wm rfl (Wn ?_); dsimp only [zn, zr, zx, yn, yr]; refine WC.condF rfl (Cs (Co (Wc (OP.eqlF rfl rfl (by omega) ?_)))); refine Wm rfl (Wn ?_); dsimp only [zn, zr, zx, yn, yr]; refine WC.condF rfl (WC.skip ?_); dsimp only [zn, zr, zx, yn, yr]; refine Cs (Co (Wc (OL.loadAll (k := 0) hL rfl rfl rfl (Wm rfl (WO.cons0 ?_))))); refine OL.storeAll (k := 2) hL hlim rfl rfl rfl rfl rfl rfl (by decide) rfl (fun h' hL => ?_); dsimp only [List.set, Nat.zero_add, Nat.reduceAdd, Nat.reduceMul] at hL; refine Wm rfl (Wm rfl (Wn ?_)); dsimp only [zn, zr, zx, yn, yr]; refine WC.ret ?_)
   rw [ha]
   rw [zc2 (by omega), show S4.get ⟨r0.xs, r1.xs, r2.xs, r3.xs⟩ 1 = r1.xs from rfl]
   have hq := hL.stM (by repeat (first | exact mh | apply mt))
   have hi := (hL.stOut (by repeat (first | exact mh | apply mt))).2
   exact Fin.ret (resL_cell rfl (hL.cell (k := 2) rfl) rfl rfl) ⟨hL.pfx, ⟨a0, n0, r0.xs⟩, ⟨a1, n1, r1.xs⟩, ⟨a2, n2, r2.xs⟩, ⟨a3, n3, r3.xs⟩, rfl, ⟨rfl, rfl, rfl, rfl⟩, ⟨hq.1, hq.2.1, hq.2.2.1, hq.2.2.2⟩, hi.1, hi.2.1, hi.2.2.1, hi.2.2.2⟩
 ·by_cases hpos : n2 = 0
  ·have hb : firstL r2.xs = -1 := firstL_nil (by omega)
   (refine Wc (OP.idxArrZ rfl rfl (by decide) (by simp only [Int.reduceToNat, Nat.mul_one, Nat.zero_add, Nat.reduceMul, Nat.reduceAdd]; rfl) ?_); refine Wm rfl (Wt ?_); refine Cs (Cs (Co (Wm rfl (Wc (OP.nilP rfl (Wc (OL.load1 (k := 0) hL rfl rfl rfl (Wc (OP.lenS rfl (Wc (OP.gtrF rfl rfl (by omega) ?_))))))))))); refine Wt ?_; refine WC.condF rfl (Ks ?_); refine Cs (Cs (Co (Wc (OP.fieldAddr0 rfl (Wc (OL.load1 (k := 3) hL rfl rfl rfl (Wt ?_))))))); refine WC.block (Cs (Co (Wc ?_))); refine OP.eqlC rfl rfl (fun hc => ?_) (fun hc => ?_); refine Wm rfl (Wt ?_); refine WC.condT rfl (Co (Wm rfl (Wc (OP.fieldAddr0 rfl (Wc (OL.load1 (k := 3) hL rfl rfl rfl (Wc ?_))))))); refine OL.buildSlice hL rfl (by simp [over, Value.cells]; rfl) rfl (fun b h' hL => ?_); refine Wc (OP.nilP rfl (WO.cons0 ?_)); refine OL.store1 (k := 1) hL hlim rfl rfl rfl rfl rfl rfl rfl (fun h' hL => ?_); dsimp only [List.set, Nat.zero_add, Nat.reduceAdd, Nat.reduceMul] at hL; refine Wt ?_; refine Cs (Co (Wc (OL.loadAll (k := 1) hL rfl rfl rfl (Wm rfl (WO.cons0 ?_))))); refine OL.storeAll (k := 3) hL hlim rfl rfl rfl rfl rfl rfl (by decide) rfl (fun h' hL => ?_); dsimp only [List.set, Nat.zero_add, Nat.reduceAdd, Nat.reduceMul] at hL; refine Wm rfl (Wm rfl (Wt ?_)); refine WC.ret ?_)
   rw [zc0 (by omega), show S4.get ⟨r0.xs, r1.xs, r2.xs, r3.xs⟩ 2 = r2.xs from rfl, hb]
   have hw := hL.rowBx (n := 1) (xs := [a]) (by repeat (first | exact mh | apply mt)) rfl (by omega)
   have hq := hL.stM (by repeat (first | exact mh | apply mt))
   have hi := (hL.stOut (by repeat (first | exact mh | apply mt))).2
   exact Fin.ret (resL_cell rfl (hL.cell (k := 3) rfl) rfl rfl) ⟨hL.pfx, ⟨a0, n0, r0.xs⟩, ⟨a1, n1, r1.xs⟩, ⟨_, 1, [a]⟩, ⟨a3, n3, r3.xs⟩, rfl, ⟨rfl, rfl, rfl, rfl⟩, ⟨hq.1, hq.2.1, hw.1, hq.2.2.2⟩, hi.1, hi.2.1, hw.2, hi.2.2.2⟩
   (refine Wm rfl (Wt ?_); refine WC.condF rfl (Cs (Co (Wc ?_))); refine OP.eqlC rfl rfl (fun hc => ?_) (fun hc => ?_); refine Wm rfl (Wt ?_); refine WC.condT rfl (Co (Wm rfl (Wc (OP.nilP rfl (WO.cons0 ?_))))); refine OL.store1 (k := 0) hL hlim rfl rfl rfl rfl rfl rfl rfl (fun h' hL => ?_); dsimp only [List.set, Nat.zero_add, Nat.reduceAdd, Nat.reduceMul] at hL; refine Wt ?_; refine Cs (Co (Wc (OL.loadAll (k := 0) hL rfl rfl rfl (Wm rfl (WO.cons0 ?_))))); refine OL.storeAll (k := 2) hL hlim rfl rfl rfl rfl rfl rfl (by decide) rfl (fun h' hL => ?_); dsimp only [List.set, Nat.zero_add, Nat.reduceAdd, Nat.reduceMul] at hL; refine Wm rfl (Wm rfl (Wt ?_)); refine WC.ret ?_)
   rw [zc1 (by omega), show S4.get ⟨r0.xs, r1.xs, r2.xs, r3.xs⟩ 2 = r2.xs from rfl, hb]
   have hq := hL.stM (by repeat (first | exact mh | apply mt))
   have hi := (hL.stOut (by repeat (first | exact mh | apply mt))).2
   exact Fin.ret (resL_cell rfl (hL.cell (k := 2) rfl) rfl rfl) ⟨hL.pfx, ⟨a0, n0, r0.xs⟩, ⟨a1, n1, r1.xs⟩, nilRow, ⟨a3, n3, r3.xs⟩, rfl, ⟨rfl, rfl, rfl, rfl⟩, ⟨hq.1, hq.2.1, nilRow_ok _, hq.2.2.2⟩, hi.1, hi.2.1, nilRow_in _ _, hi.2.2.2⟩
   (refine Wm rfl (Wn ?_); dsimp only [zn, zr, zx, yn, yr]; refine WC.condF rfl (Cs (Co (Wc (OP.eqlF rfl rfl (by omega) ?_)))); refine Wm rfl (Wn ?_); dsimp only [zn, zr, zx, yn, yr]; refine WC.condF rfl (WC.skip ?_); dsimp only [zn, zr, zx, yn, yr]; refine Cs (Co (Wc (OL.loadAll (k := 0) hL rfl rfl rfl (Wm rfl (WO.cons0 ?_))))); refine OL.storeAll (k := 2) hL hlim rfl rfl rfl rfl rfl rfl (by decide) rfl (fun h' hL => ?_); dsimp only [List.set, Nat.zero_add, Nat.reduceAdd, Nat.reduceMul] at hL; refine Wm rfl (Wm rfl (Wn ?_)); dsimp only [zn, zr, zx, yn, yr]; refine WC.ret ?_)
   rw [zc2 (by omega), show S4.get ⟨r0.xs, r1.xs, r2.xs, r3.xs⟩ 2 = r2.xs from rfl, hb]
   have hq := hL.stM (by repeat (first | exact mh | apply mt))
   have hi := (hL.stOut (by repeat (first | exact mh | apply mt))).2
   exact Fin.ret (resL_cell rfl (hL.cell (k := 2) rfl) rfl rfl) ⟨hL.pfx, ⟨a0, n0, r0.xs⟩, ⟨a1, n1, r1.xs⟩, ⟨a2, n2, r2.xs⟩, ⟨a3, n3, r3.xs⟩, rfl, ⟨rfl, rfl, rfl, rfl⟩, ⟨hq.1, hq.2.1, hq.2.2.1, hq.2.2.2⟩, hi.1, hi.2.1, hi.2.2.1, hi.2.2.2⟩
  ·have hpl : 0 < r2.xs.length := by omega
   have ha : r2.xs[Int.toNat 0] = firstL r2.xs := firstL_get hpl
   (refine Wc (OP.idxArrZ rfl rfl (by decide) (by simp only [Int.reduceToNat, Nat.mul_one, Nat.zero_add, Nat.reduceMul, Nat.reduceAdd]; rfl) ?_); refine Wm rfl (Wt ?_); refine Cs (Cs (Co (Wm rfl (Wc (OP.nilP rfl (Wc (OL.load1 (k := 0) hL rfl rfl rfl (Wc (OP.lenS rfl (Wc (OP.gtrT rfl rfl (by omega) ?_))))))))))); refine Wt ?_; refine WC.condT rfl (Co (Wm rfl (Wc (OP.nilP rfl (Wc (OL.load1 (k := 0) hL rfl rfl rfl (Wc (OP.idxZ (by assumption) rfl rfl (by omega) ?_)))))))); refine Wc (OP.ldI (by assumption) rfl (by omega) ?_); refine Wm rfl (Wt ?_); refine Cs (Cs (Co (Wc (OP.fieldAddr0 rfl (Wc (OL.load1 (k := 3) hL rfl rfl rfl (Wt ?_))))))); refine WC.block (Cs (Co (Wc ?_))); refine OP.eqlC rfl rfl (fun hc => ?_) (fun hc => ?_); refine Wm rfl (Wt ?_); refine WC.condT rfl (Co (Wm rfl (Wc (OP.fieldAddr0 rfl (Wc (OL.load1 (k := 3) hL rfl rfl rfl (Wc ?_))))))); refine OL.buildSlice hL rfl (by simp [over, Value.cells]; rfl) rfl (fun b h' hL => ?_); refine Wc (OP.nilP rfl (WO.cons0 ?_)); refine OL.store1 (k := 1) hL hlim rfl rfl rfl rfl rfl rfl rfl (fun h' hL => ?_); dsimp only [List.set, Nat.zero_add, Nat.reduceAdd, Nat.reduceMul] at hL; refine Wt ?_; refine Cs (Co (Wc (OL.loadAll (k := 1) hL rfl rfl rfl (Wm rfl (WO.cons0 ?_))))); refine OL.storeAll (k := 3) hL hlim rfl rfl rfl rfl rfl rfl (by decide) rfl (fun h' hL => ?_); dsimp only [List.set, Nat.zero_add, Nat.reduceAdd, Nat.reduceMul] at hL; refine Wm rfl (Wm rfl (Wt ?_)); refine WC.ret ?_)
   rw [ha]
   rw [zc0 (by omega), show S4.get ⟨r0.xs, r1.xs, r2.xs, r3.xs⟩ 2 = r2.xs from rfl]
   have hw := hL.rowBx (n := 1) (xs := [a]) (by repeat (first | exact mh | apply mt)) rfl (by omega)
   have hq := hL.stM (by repeat (first | exact mh | apply mt))
   have hi := (hL.stOut (by repeat (first | exact mh | apply mt))).2
   exact Fin.ret (resL_cell rfl (hL.cell (k := 3) rfl) rfl rfl) ⟨hL.pfx, ⟨a0, n0, r0.xs⟩, ⟨a1, n1, r1.xs⟩, ⟨_, 1, [a]⟩, ⟨a3, n3, r3.xs⟩, rfl, ⟨rfl, rfl, rfl, rfl⟩, ⟨hq.1, hq.2.1, hw.1, hq.2.2.2⟩, hi.1, hi.2.1, hw.2, hi.2.2.2⟩
   (refine Wm rfl (Wt ?_); refine WC.condF rfl (Cs (Co (Wc ?_))); refine OP.eqlC rfl rfl (fun hc => ?_) (fun hc => ?_); refine Wm rfl (Wt ?_); refine WC.condT rfl (Co (Wm rfl (Wc (OP.nilP rfl (WO.cons0 ?_))))); refine OL.store1 (k := 0) hL hlim rfl rfl rfl rfl rfl rfl rfl (fun h' hL => ?_); dsimp only [List.set, Nat.zero_add, Nat.reduceAdd, Nat.reduceMul] at hL; refine Wt ?_; refine Cs (Co (Wc (OL.loadAll (k := 0) hL rfl rfl rfl (Wm rfl (WO.cons0 ?_))))); refine OL.storeAll (k := 2) hL hlim rfl rfl rfl rfl rfl rfl (by decide) rfl (fun h' hL => ?_); dsimp only [List.set, Nat.zero_add, Nat.reduceAdd, Nat.reduceMul] at hL; refine Wm rfl (Wm rfl (Wt ?_)); refine WC.ret ?_)
   rw [ha]
   rw [zc1 (by omega), show S4.get ⟨r0.xs, r1.xs, r2.xs, r3.xs⟩ 2 = r2.xs from rfl]
   have hq := hL.stM (by repeat (first | exact mh | apply mt))
   have hi := (hL.stOut (by repeat (first | exact mh | apply mt))).2
   exact Fin.ret (resL_cell rfl (hL.cell (k := 2) rfl) rfl rfl) ⟨hL.pfx, ⟨a0, n0, r0.xs⟩, ⟨a1, n1, r1.xs⟩, nilRow, ⟨a3, n3, r3.xs⟩, rfl, ⟨rfl, rfl, rfl, rfl⟩, ⟨hq.1, hq.2.1, nilRow_ok _, hq.2.2.2⟩, hi.1, hi.2.1, nilRow_in _ _, hi.2.2.2⟩
   (refine Wm rfl (Wn ?_); dsimp only [zn, zr, zx, yn, yr]; refine WC.condF rfl (Cs (Co (Wc (OP.eqlF rfl rfl (by omega) ?_)))); refine Wm rfl (Wn ?_); dsimp only [zn, zr, zx, yn, yr]; refine WC.condF rfl (WC.skip ?_); dsimp only [zn, zr, zx, yn, yr]; refine Cs (Co (Wc (OL.loadAll (k := 0) hL rfl rfl rfl (Wm rfl (WO.cons0 ?_))))); refine OL.storeAll (k := 2) hL hlim rfl rfl rfl rfl rfl rfl (by decide) rfl (fun h' hL => ?_); dsimp only [List.set, Nat.zero_add, Nat.reduceAdd, Nat.reduceMul] at hL; refine Wm rfl (Wm rfl (Wn ?_)); dsimp only [zn, zr, zx, yn, yr]; refine WC.ret ?_)
   rw [ha]
   rw [zc2 (by omega), show S4.get ⟨r0.xs, r1.xs, r2.xs, r3.xs⟩ 2 = r2.xs from rfl]
   have hq := hL.stM (by repeat (first | exact mh | apply mt))
   have hi := (hL.stOut (by repeat (first | exact mh | apply mt))).2
   exact Fin.ret (resL_cell rfl (hL.cell (k := 2) rfl) rfl rfl) ⟨hL.pfx, ⟨a0, n0, r0.xs⟩, ⟨a1, n1, r1.xs⟩, ⟨a2, n2, r2.xs⟩, ⟨a3, n3, r3.xs⟩, rfl, ⟨rfl, rfl, rfl, rfl⟩, ⟨hq.1, hq.2.1, hq.2.2.1, hq.2.2.2⟩, hi.1, hi.2.1, hi.2.2.1, hi.2.2.2⟩
 ·by_cases hpos : n3 = 0
  ·have hb : firstL r3.xs = -1 := firstL_nil (by omega)
   (refine Wc (OP.idxArrZ rfl rfl (by decide) (by simp only [Int.reduceToNat, Nat.mul_one, Nat.zero_add, Nat.reduceMul, Nat.reduceAdd]; rfl) ?_); refine Wm rfl (Wt ?_); refine Cs (Cs (Co (Wm rfl (Wc (OP.nilP rfl (Wc (OL.load1 (k := 0) hL rfl rfl rfl (Wc (OP.lenS rfl (Wc (OP.gtrF rfl rfl (by omega) ?_))))))))))); refine Wt ?_; refine WC.condF rfl (Ks ?_); refine Cs (Cs (Co (Wc (OP.fieldAddr0 rfl (Wc (OL.load1 (k := 3) hL rfl rfl rfl (Wt ?_))))))); refine WC.block (Cs (Co (Wc ?_))); refine OP.eqlC rfl rfl (fun hc => ?_) (fun hc => ?_); refine Wm rfl (Wt ?_); refine WC.condT rfl (Co (Wm rfl (Wc (OP.fieldAddr0 rfl (Wc (OL.load1 (k := 3) hL rfl rfl rfl (Wc ?_))))))); refine OL.buildSlice hL rfl (by simp [over, Value.cells]; rfl) rfl (fun b h' hL => ?_); refine Wc (OP.nilP rfl (WO.cons0 ?_)); refine OL.store1 (k := 1) hL hlim rfl rfl rfl rfl rfl rfl rfl (fun h' hL => ?_); dsimp only [List.set, Nat.zero_add, Nat.reduceAdd, Nat.reduceMul] at hL; refine Wt ?_; refine Cs (Co (Wc (OL.loadAll (k := 1) hL rfl rfl rfl (Wm rfl (WO.cons0 ?_))))); refine OL.storeAll (k := 3) hL hlim rfl rfl rfl rfl rfl rfl (by decide) rfl (fun h' hL => ?_); dsimp only [List.set, Nat.zero_add, Nat.reduceAdd, Nat.reduceMul] at hL; refine Wm rfl (Wm rfl (Wt ?_)); refine WC.ret ?_)
   rw [zc0 (by omega), show S4.get ⟨r0.xs, r1.xs, r2.xs, r3.xs⟩ 3 = r3.xs from rfl, hb]
   have hw := hL.rowBx (n := 1) (xs := [a]) (by repeat (first | exact mh | apply mt)) rfl (by omega)
   have hq := hL.stM (by repeat (first | exact mh | apply mt))
   have hi := (hL.stOut (by repeat (first | exact mh | apply mt))).2
   exact Fin.ret (resL_cell rfl (hL.cell (k := 3) rfl) rfl rfl) ⟨hL.pfx, ⟨a0, n0, r0.xs⟩, ⟨a1, n1, r1.xs⟩, ⟨a2, n2, r2.xs⟩, ⟨_, 1, [a]⟩, rfl, ⟨rfl, rfl, rfl, rfl⟩, ⟨hq.1, hq.2.1, hq.2.2.1, hw.1⟩, hi.1, hi.2.1, hi.2.2.1, hw.2⟩
   (refine Wm rfl (Wt ?_); refine WC.condF rfl (Cs (Co (Wc ?_))); refine OP.eqlC rfl rfl (fun hc => ?_) (fun hc => ?_); refine Wm rfl (Wt ?_); refine WC.condT rfl (Co (Wm rfl (Wc (OP.nilP rfl (WO.cons0 ?_))))); refine OL.store1 (k := 0) hL hlim rfl rfl rfl rfl rfl rfl rfl (fun h' hL => ?_); dsimp only [List.set, Nat.zero_add, Nat.reduceAdd, Nat.reduceMul] at hL; refine Wt ?_; refine Cs (Co (Wc (OL.loadAll (k := 0) hL rfl rfl rfl (Wm rfl (WO.cons0 ?_))))); refine OL.storeAll (k := 2) hL hlim rfl rfl rfl rfl rfl rfl (by decide) rfl (fun h' hL => ?_); dsimp only [List.set, Nat.zero_add, Nat.reduceAdd, Nat.reduceMul] at hL; refine Wm rfl (Wm rfl (Wt ?_)); refine WC.ret ?_)
   rw [zc1 (by omega), show S4.get ⟨r0.xs, r1.xs, r2.xs, r3.xs⟩ 3 = r3.xs from rfl, hb]
   have hq := hL.stM (by repeat (first | exact mh | apply mt))
   have hi := (hL.stOut (by repeat (first | exact mh | apply mt))).2
   exact Fin.ret (resL_cell rfl (hL.cell (k := 2) rfl) rfl rfl) ⟨hL.pfx, ⟨a0, n0, r0.xs⟩, ⟨a1, n1, r1.xs⟩, ⟨a2, n2, r2.xs⟩, nilRow, rfl, ⟨rfl, rfl, rfl, rfl⟩, ⟨hq.1, hq.2.1, hq.2.2.1, nilRow_ok _⟩, hi.1, hi.2.1, hi.2.2.1, nilRow_in _ _⟩
   (refine Wm rfl (Wn ?_); dsimp only [zn, zr, zx, yn, yr]; refine WC.condF rfl (Cs (Co (Wc (OP.eqlF rfl rfl (by omega) ?_)))); refine Wm rfl (Wn ?_); dsimp only [zn, zr, zx, yn, yr]; refine WC.condF rfl (WC.skip ?_); dsimp only [zn, zr, zx, yn, yr]; refine Cs (Co (Wc (OL.loadAll (k := 0) hL rfl rfl rfl (Wm rfl (WO.cons0 ?_))))); refine OL.storeAll (k := 2) hL hlim rfl rfl rfl rfl rfl rfl (by decide) rfl (fun h' hL => ?_); dsimp only [List.set, Nat.zero_add, Nat.reduceAdd, Nat.reduceMul] at hL; refine Wm rfl (Wm rfl (Wn ?_)); dsimp only [zn, zr, zx, yn, yr]; refine WC.ret ?_)
   rw [zc2 (by omega), show S4.get ⟨r0.xs, r1.xs, r2.xs, r3.xs⟩ 3 = r3.xs from rfl, hb]
   have hq := hL.stM (by repeat (first | exact mh | apply mt))
   have hi := (hL.stOut (by repeat (first | exact mh | apply mt))).2
   exact Fin.ret (resL_cell rfl (hL.cell (k := 2) rfl) rfl rfl) ⟨hL.pfx, ⟨a0, n0, r0.xs⟩, ⟨a1, n1, r1.xs⟩, ⟨a2, n2, r2.xs⟩, ⟨a3, n3, r3.xs⟩, rfl, ⟨rfl, rfl, rfl, rfl⟩, ⟨hq.1, hq.2.1, hq.2.2.1, hq.2.2.2⟩, hi.1, hi.2.1, hi.2.2.1, hi.2.2.2⟩
  ·have hpl : 0 < r3.xs.length := by omega
   have ha : r3.xs[Int.toNat 0] = firstL r3.xs := firstL_get hpl
   (refine Wc (OP.idxArrZ rfl rfl (by decide) (by simp only [Int.reduceToNat, Nat.mul_one, Nat.zero_add, Nat.reduceMul, Nat.reduceAdd]; rfl) ?_); refine Wm rfl (Wt ?_); refine Cs (Cs (Co (Wm rfl (Wc (OP.nilP rfl (Wc (OL.load1 (k := 0) hL rfl rfl rfl (Wc (OP.lenS rfl (Wc (OP.gtrT rfl rfl (by omega) ?_))))))))))); refine Wt ?_; refine WC.condT rfl (Co (Wm rfl (Wc (OP.nilP rfl (Wc (OL.load1 (k := 0) hL rfl rfl rfl (Wc (OP.idxZ (by assumption) rfl rfl (by omega) ?_)))))))); refine Wc (OP.ldI (by assumption) rfl (by omega) ?_); refine Wm rfl (Wt ?_); refine Cs (Cs (Co (Wc (OP.fieldAddr0 rfl (Wc (OL.load1 (k := 3) hL rfl rfl rfl (Wt ?_))))))); refine WC.block (Cs (Co (Wc ?_))); refine OP.eqlC rfl rfl (fun hc => ?_) (fun hc => ?_); refine Wm rfl (Wt ?_); refine WC.condT rfl (Co (Wm rfl (Wc (OP.fieldAddr0 rfl (Wc (OL.load1 (k := 3) hL rfl rfl rfl (Wc ?_))))))); refine OL.buildSlice hL rfl (by simp [over, Value.cells]; rfl) rfl (fun b h' hL => ?_); refine Wc (OP.nilP rfl (WO.cons0 ?_)); refine OL.store1 (k := 1) hL hlim rfl rfl rfl rfl rfl rfl rfl (fun h' hL => ?_); dsimp only [List.set, Nat.zero_add, Nat.reduceAdd, Nat.reduceMul] at hL; refine Wt ?_; refine Cs (Co (Wc (OL.loadAll (k := 1) hL rfl rfl rfl (Wm rfl (WO.cons0 ?_))))); refine OL.storeAll (k := 3) hL hlim rfl rfl rfl rfl rfl rfl (by decide) rfl (fun h' hL => ?_); dsimp only [List.set, Nat.zero_add, Nat.reduceAdd, Nat.reduceMul] at hL; refine Wm rfl (Wm rfl (Wt ?_)); refine WC.ret ?_)
   rw [ha]
   rw [zc0 (by omega), show S4.get ⟨r0.xs, r1.xs, r2.xs, r3.xs⟩ 3 = r3.xs from rfl]
   have hw := hL.rowBx (n := 1) (xs := [a]) (by repeat (first | exact mh | apply mt)) rfl (by omega)
   have hq := hL.stM (by repeat (first | exact mh | apply mt))
   have hi := (hL.stOut (by repeat (first | exact mh | apply mt))).2
   exact Fin.ret (resL_cell rfl (hL.cell (k := 3) rfl) rfl rfl) ⟨hL.pfx, ⟨a0, n0, r0.xs⟩, ⟨a1, n1, r1.xs⟩, ⟨a2, n2, r2.xs⟩, ⟨_, 1, [a]⟩, rfl, ⟨rfl, rfl, rfl, rfl⟩, ⟨hq.1, hq.2.1, hq.2.2.1, hw.1⟩, hi.1, hi.2.1, hi.2.2.1, hw.2⟩
   (refine Wm rfl (Wt ?_); refine WC.condF rfl (Cs (Co (Wc ?_))); refine OP.eqlC rfl rfl (fun hc => ?_) (fun hc => ?_); refine Wm rfl (Wt ?_); refine WC.condT rfl (Co (Wm rfl (Wc (OP.nilP rfl (WO.cons0 ?_))))); refine OL.store1 (k := 0) hL hlim rfl rfl rfl rfl rfl rfl rfl (fun h' hL => ?_); dsimp only [List.set, Nat.zero_add, Nat.reduceAdd, Nat.reduceMul] at hL; refine Wt ?_; refine Cs (Co (Wc (OL.loadAll (k := 0) hL rfl rfl rfl (Wm rfl (WO.cons0 ?_))))); refine OL.storeAll (k := 2) hL hlim rfl rfl rfl rfl rfl rfl (by decide) rfl (fun h' hL => ?_); dsimp only [List.set, Nat.zero_add, Nat.reduceAdd, Nat.reduceMul] at hL; refine Wm rfl (Wm rfl (Wt ?_)); refine WC.ret ?_)
   rw [ha]
   rw [zc1 (by omega), show S4.get ⟨r0.xs, r1.xs, r2.xs, r3.xs⟩ 3 = r3.xs from rfl]
   have hq := hL.stM (by repeat (first | exact mh | apply mt))
   have hi := (hL.stOut (by repeat (first | exact mh | apply mt))).2
   exact Fin.ret (resL_cell rfl (hL.cell (k := 2) rfl) rfl rfl) ⟨hL.pfx, ⟨a0, n0, r0.xs⟩, ⟨a1, n1, r1.xs⟩, ⟨a2, n2, r2.xs⟩, nilRow, rfl, ⟨rfl, rfl, rfl, rfl⟩, ⟨hq.1, hq.2.1, hq.2.2.1, nilRow_ok _⟩, hi.1, hi.2.1, hi.2.2.1, nilRow_in _ _⟩
   (refine Wm rfl (Wn ?_); dsimp only [zn, zr, zx, yn, yr]; refine WC.condF rfl (Cs (Co (Wc (OP.eqlF rfl rfl (by omega) ?_)))); refine Wm rfl (Wn ?_); dsimp only [zn, zr, zx, yn, yr]; refine WC.condF rfl (WC.skip ?_); dsimp only [zn, zr, zx, yn, yr]; refine Cs (Co (Wc (OL.loadAll (k := 0) hL rfl rfl rfl (Wm rfl (WO.cons0 ?_))))); refine OL.storeAll (k := 2) hL hlim rfl rfl rfl rfl rfl rfl (by decide) rfl (fun h' hL => ?_); dsimp only [List.set, Nat.zero_add, Nat.reduceAdd, Nat.reduceMul] at hL; refine Wm rfl (Wm rfl (Wn ?_)); dsimp only [zn, zr, zx, yn, yr]; refine WC.ret ?_)
   rw [ha]
   rw [zc2 (by omega), show S4.get ⟨r0.xs, r1.xs, r2.xs, r3.xs⟩ 3 = r3.xs from rfl]
   have hq := hL.stM (by repeat (first | exact mh | apply mt))
   have hi := (hL.stOut (by repeat (first | exact mh | apply mt))).2
   exact Fin.ret (resL_cell rfl (hL.cell (k := 2) rfl) rfl rfl) ⟨hL.pfx, ⟨a0, n0, r0.xs⟩, ⟨a1, n1, r1.xs⟩, ⟨a2, n2, r2.xs⟩, ⟨a3, n3, r3.xs⟩, rfl, ⟨rfl, rfl, rfl, rfl⟩, ⟨hq.1, hq.2.1, hq.2.2.1, hq.2.2.2⟩, hi.1, hi.2.1, hi.2.2.1, hi.2.2.2⟩
 (refine WO.yes rfl (Wc (OP.not rfl (Wc (OP.pickF rfl rfl (Wt ?_))))); refine WC.condT rfl (Cs (Co (Wc (OP.buildN rfl rfl (WO.cons0 ?_))))); refine OL.storeAll (k := 0) hL hlim rfl rfl rfl rfl rfl rfl (by decide) rfl (fun h' hL => ?_); dsimp only [List.set, Nat.zero_add, Nat.reduceAdd, Nat.reduceMul] at hL; refine Wm rfl (Wm rfl (Wt ?_)); refine WC.ret ?_; dsimp only [zn, zr, zx, yn, yr]; rw [z1 (by grind)]; exact Fin.ret (resL_cell rfl (hL.cell (k := 0) rfl) rfl rfl) ⟨hL.pfx, nilRow, nilRow, nilRow, nilRow, rfl, ⟨rfl, rfl, rfl, rfl⟩, nilSt _, nilIn _ _⟩; refine Wc (OP.not rfl (Wm rfl (WO.no rfl (WO.no rfl (WO.no rfl (Wc (OP.pickT rfl rfl (Wt ?_)))))))); refine WC.condT rfl (Cs (Co (Wc (OP.buildN rfl rfl (WO.cons0 ?_))))); refine OL.storeAll (k := 0) hL hlim rfl rfl rfl rfl rfl rfl (by decide) rfl (fun h' hL => ?_); dsimp only [List.set, Nat.zero_add, Nat.reduceAdd, Nat.reduceMul] at hL; refine Wm rfl (Wm rfl (Wt ?_)); refine WC.ret ?_; dsimp only [zn, zr, zx, yn, yr]; rw [z1 (by grind)]; exact Fin.ret (resL_cell rfl (hL.cell (k := 0) rfl) rfl rfl) ⟨hL.pfx, nilRow, nilRow, nilRow, nilRow, rfl, ⟨rfl, rfl, rfl, rfl⟩, nilSt _, nilIn _ _⟩)
end
end
end Go.Proofs.YtalknjppnkpmmaaDoorW.Ai
