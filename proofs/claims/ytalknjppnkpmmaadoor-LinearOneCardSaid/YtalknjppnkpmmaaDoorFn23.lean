/-
 Stores by the document (chapters 3, 6), as the small machine runs them.
-/
import Derived.Test.YtalknjppnkpmmaaDoorFn22
set_option linter.unusedVariables false
set_option linter.unusedSimpArgs false
set_option maxHeartbeats 4000000
set_option maxRecDepth 100000
namespace Go.Proofs.YtalknjppnkpmmaaDoorW.Ai
section
def rf_first : RFunc :=
 ⟨9, [(.tmp 2)], (.seq (.ops [rO 2 (.mv (.const (.int .i64 0)))]) (.seq (.seq (.ops [rO 3 (.mv (.tmp 0)), rO 4 (.len 1 (.tmp 3)), rO 5 (.bin .eql (.tmp 4) (.const (.int .i64 0)))]) (.cond (.tmp 5) (.seq (.ops [rO 2 (.mv (.const (.int .i64 (-1))))]) .ret) .skip)) (.seq (.ops [rO 6 (.mv (.tmp 0)), rO 7 (.idxAddr 1 (.tmp 6) (.const (.int .i64 0))), rO 8 (.load .none (.tmp 7)), rO 2 (.mv (.tmp 8))]) .ret)))⟩
def rf_rowMay (g0 : Nat) : RFunc :=
 ⟨54, [(.tmp 4)], (.seq (.ops [rO 4 (.mv (.const (.bool false)))]) (.seq (.ops [rO 7 (.buildSlice [(.int .i64 0), (.int .i64 0), (.int .i64 0)] 3 [(0, (1, (.const (.int .i64 1)))), (1, (1, (.const (.int .i64 4)))), (2, (1, (.const (.int .i64 4))))]), rO 8 (.mv (.tmp 0)), rO 9 (.idxAddr 1 (.tmp 7) (.tmp 8)), rO 10 (.load .none (.tmp 9)), rO 5 (.mv (.tmp 10))]) (.seq (.seq (.ops [rO 6 (.mv (.const (.int .i64 0)))]) (.block 0 (.loop (.seq (.seq (.ops [rO 11 (.mv (.tmp 6)), rO 12 (.mv (.tmp 1)), rO 13 (.len 1 (.tmp 12)), rO 14 (.bin .lss (.tmp 11) (.tmp 13))]) (.cond (.tmp 14) .skip (.exit 0))) (.seq (.block 1 (.seq (.ops [rO 17 (.mv (.tmp 1)), rO 18 (.mv (.tmp 6)), rO 19 (.idxAddr 1 (.tmp 17) (.tmp 18)), rO 20 (.load .none (.tmp 19)), rO 21 (.call (.func g0) [(.tmp 20), (.const (.int .i64 0)), (.const (.int .i64 255))]), rO 22 (.un .not (.tmp 21)), rO 23 (.mv (.tmp 22)), ⟨(.some 24), (.mv (.tmp 0)), (.some (23, false)), false, []⟩, ⟨(.some 25), (.bin .eql (.tmp 24) (.const (.int .i64 1))), (.some (23, false)), false, []⟩, ⟨(.some 26), (.mv (.tmp 25)), (.some (23, false)), false, []⟩, ⟨(.some 27), (.mv (.tmp 1)), (.some (26, true)), false, []⟩, ⟨(.some 28), (.mv (.tmp 6)), (.some (26, true)), false, []⟩, ⟨(.some 29), (.idxAddr 1 (.tmp 27) (.tmp 28)), (.some (26, true)), false, []⟩, ⟨(.some 30), (.load .none (.tmp 29)), (.some (26, true)), false, []⟩, ⟨(.some 31), (.bin .geq (.tmp 30) (.const (.int .i64 4))), (.some (26, true)), false, []⟩, ⟨(.some 32), (.mv (.tmp 31)), (.some (26, true)), false, []⟩, ⟨(.some 33), (.mv (.tmp 6)), (.some (32, false)), false, []⟩, ⟨(.some 34), (.bin .gtr (.tmp 33) (.const (.int .i64 0))), (.some (32, false)), false, []⟩, ⟨(.some 35), (.mv (.tmp 34)), (.some (32, false)), false, []⟩, ⟨(.some 36), (.mv (.tmp 1)), (.some (35, true)), true, []⟩, ⟨(.some 37), (.mv (.tmp 6)), (.some (35, true)), true, []⟩, ⟨(.some 38), (.idxAddr 1 (.tmp 36) (.tmp 37)), (.some (35, true)), true, []⟩, ⟨(.some 39), (.load .none (.tmp 38)), (.some (35, true)), true, []⟩, ⟨(.some 40), (.mv (.tmp 1)), (.some (35, true)), true, []⟩, ⟨(.some 41), (.mv (.tmp 6)), (.some (35, true)), true, []⟩, ⟨(.some 42), (.bin .sub (.tmp 41) (.const (.int .i64 1))), (.some (35, true)), true, []⟩, ⟨(.some 43), (.idxAddr 1 (.tmp 40) (.tmp 42)), (.some (35, true)), true, []⟩, ⟨(.some 44), (.load .none (.tmp 43)), (.some (35, true)), true, []⟩, ⟨(.some 45), (.bin .leq (.tmp 39) (.tmp 44)), (.some (35, true)), false, []⟩, ⟨(.some 46), (.pick (.tmp 35) (.tmp 45) (.const (.bool false))), (.some (32, false)), false, []⟩, ⟨(.some 47), (.pick (.tmp 32) (.const (.bool true)) (.tmp 46)), (.some (26, true)), false, []⟩, ⟨(.some 48), (.pick (.tmp 26) (.tmp 47) (.const (.bool false))), (.some (23, false)), false, []⟩, rO 49 (.pick (.tmp 23) (.const (.bool true)) (.tmp 48))]) (.cond (.tmp 49) (.seq (.ops [rO 4 (.mv (.const (.bool false)))]) .ret) .skip))) (.ops [rO 15 (.mv (.tmp 6)), rO 16 (.bin .add (.tmp 15) (.const (.int .i64 1))), rO 6 (.mv (.tmp 16))])))))) (.seq (.ops [rO 50 (.mv (.tmp 1)), rO 51 (.len 1 (.tmp 50)), rO 52 (.mv (.tmp 5)), rO 53 (.bin .leq (.tmp 51) (.tmp 52)), rO 4 (.mv (.tmp 53))]) .ret))))⟩
def rf_StateMay (g0 : Nat) : RFunc :=
 ⟨25, [(.tmp 4)], (.seq (.ops [rO 3 (.box (.tmp 1)), rO 4 (.mv (.const (.bool false)))]) (.seq (.seq (.ops [rO 5 (.mv (.const (.int .i64 0)))]) (.block 0 (.loop (.seq (.seq (.ops [rO 6 (.mv (.tmp 5)), rO 7 (.bin .lss (.tmp 6) (.const (.int .i64 4)))]) (.cond (.tmp 7) .skip (.exit 0))) (.seq (.block 1 (.seq (.ops [rO 10 (.mv (.tmp 0)), rO 11 (.bin .lss (.tmp 10) (.const (.int .i64 0))), rO 12 (.mv (.tmp 11)), ⟨(.some 13), (.mv (.tmp 0)), (.some (12, false)), false, []⟩, ⟨(.some 14), (.bin .gtr (.tmp 13) (.const (.int .i64 2))), (.some (12, false)), false, []⟩, rO 15 (.pick (.tmp 12) (.const (.bool true)) (.tmp 14)), rO 16 (.mv (.tmp 15)), ⟨(.some 17), (.mv (.tmp 0)), (.some (16, false)), false, []⟩, ⟨(.some 18), (.mv (.tmp 5)), (.some (16, false)), false, []⟩, ⟨(.some 19), (.fieldAddr 0 (.tmp 3)), (.some (16, false)), false, []⟩, ⟨(.some 20), (.idxAddrArr 4 1 (.tmp 19) (.tmp 18)), (.some (16, false)), false, []⟩, ⟨(.some 21), (.load .none (.tmp 20)), (.some (16, false)), false, []⟩, ⟨(.some 22), (.call (.func g0) [(.tmp 17), (.tmp 21)]), (.some (16, false)), false, []⟩, ⟨(.some 23), (.un .not (.tmp 22)), (.some (16, false)), false, []⟩, rO 24 (.pick (.tmp 16) (.const (.bool true)) (.tmp 23))]) (.cond (.tmp 24) (.seq (.ops [rO 4 (.mv (.const (.bool false)))]) .ret) .skip))) (.ops [rO 8 (.mv (.tmp 5)), rO 9 (.bin .add (.tmp 8) (.const (.int .i64 1))), rO 5 (.mv (.tmp 9))])))))) (.seq (.ops [rO 4 (.mv (.const (.bool true)))]) .ret)))⟩
section
variable (X : Ext) (F : FuncId → Option RFunc) (g : FuncId)
abbrev S_first : Prop := ∀ (lim : Nat) (h : AH) {a : Option Addr} {n : Nat} {xs : List Int}, Sl 1 h a n n (ints xs) → Ret X F lim g [.slice a n n] h fun v h' => Pfx h h' ∧ v = .int .i64 (firstL xs)
abbrev S_rowMay : Prop := ∀ (lim : Nat) (h : AH) {ob m : Int} {r : Row}, (ob = 0 ∧ m = 1 ∨ ob = 2 ∧ m = 4) → RowOk h r → Ret X F lim g [.int .i64 ob, r.v] h fun v h' => Pfx h h' ∧ v = .bool (decide ((r.xs.length : Int) ≤ m ∧ ArgsOk r.xs))
abbrev S_StateMay : Prop := ∀ (lim : Nat) (h : AH) {ob m : Int} {r0 r1 r2 r3 : Row}, (ob = 0 ∧ m = 1 ∨ ob = 2 ∧ m = 4) → St h r0 r1 r2 r3 → Ret X F lim g [.int .i64 ob, stV r0 r1 r2 r3] h fun v h' => Pfx h h' ∧ v = .bool (decide (RowsOk m ⟨r0.xs, r1.xs, r2.xs, r3.xs⟩))
end
section
variable {X : Ext} {F : FuncId → Option RFunc} {f : FuncId}
theorem s_first (hX : X f = none) (hF : F f = some rf_first) : S_first X F f := by
 intro lim h a n xs ha
 have hL := Loc.start h
 have hxn := ha.ilen
 refine Ret.body hX hF rfl ?_
 simp only [argL, rf_first]
 by_cases h0 : n = 0
 ·rw [firstL_nil (by omega)]
  (refine Cs (Co (Wm rfl (Wt ?_))); refine Cs (Cs (Co (Wm rfl (Wc (OP.lenS rfl (Wc (OP.eqlT rfl rfl (by omega) ?_))))))); refine Wt ?_; refine WC.condT rfl (Cs (Co (Wm rfl (Wt ?_)))); refine WC.ret ?_; dsimp only [zn, zr, zx, yn, yr]; exact Fin.ret rfl ⟨hL.pfx, rfl⟩)
 ·rw [← firstL_get (show 0 < xs.length by omega)]
  (refine Cs (Co (Wm rfl (Wt ?_))); refine Cs (Cs (Co (Wm rfl (Wc (OP.lenS rfl (Wc (OP.eqlF rfl rfl (by omega) ?_))))))); refine Wt ?_; refine WC.condF rfl (Ks ?_); refine Cs (Co (Wm rfl (Wc (OP.idxZ (by assumption) rfl rfl (by omega) ?_)))); refine Wc (OP.ldI (by assumption) rfl (by omega) ?_); refine Wm rfl (Wt ?_); refine WC.ret ?_; exact Fin.ret rfl ⟨hL.pfx, rfl⟩)
theorem s_rowMay {g0 : Nat} (hX : X f = none) (hF : F f = some (rf_rowMay g0)) (c0 : S_upTo X F g0) : S_rowMay X F f := by
 intro lim h ob m r hob hr
 have hL := Loc.start h
 have hr1 := hr.1
 have hr2 := hr.2
 have hxn := hr.1.ilen
 refine Ret.body hX hF rfl ?_
 simp only [argL, rf_rowMay]
 rcases hob with ⟨rfl, rfl⟩ | ⟨rfl, rfl⟩
 ·(refine Cs (Co (Wm rfl (Wt ?_))); refine Cs (Co (Wc ?_)); refine OL.buildSlice hL rfl (by simp [over, Value.cells]; rfl) rfl (fun b h' hL => ?_); refine Wm rfl (Wc (OP.idxZ (Loc.bxAt (k := 0) hL rfl rfl) rfl rfl (by omega) ?_)); refine Wc (OL.load1 (k := 0) hL rfl rfl rfl (Wm rfl (Wt ?_))); refine Cs (Cs (Co (Wm rfl (Wt ?_)))); refine WC.block ?_)
  refine WC.loop (fun q : Nat × AH => q.1 ≤ r.n ∧ Loc h q.2 [] ∧ ∀ x ∈ r.xs.take q.1, 0 ≤ x ∧ x ≤ 255) (fun q => [(6, .int .i64 (q.1 : Int)), (5, .int .i64 1), (1, r.v), (0, .int .i64 0)]) (fun q => q.2) (fun q => r.n - q.1) ?_ (0, h') ⟨Nat.zero_le _, hL.tail, by simp⟩ (by (refine Sub.cons rfl (Sub.cons rfl (Sub.cons rfl (Sub.cons rfl ?_))); exact Sub.nil _)) rfl
  intro ⟨i, h1⟩ ⟨hi, hL, hall⟩
  simp only at hi hL hall ⊢
  by_cases hlt : (i : Int) < r.n
  ·have hil : i < r.xs.length := by omega
   have hmem := List.getElem_mem hil
   (refine Cs (Cs (Co (Wm rfl (Wm rfl (Wc (OP.lenS rfl (Wc (OP.lssT rfl rfl (by omega) ?_)))))))); refine Wn ?_; dsimp only [zn, zr, zx, yn, yr]; refine WC.condT rfl (WC.skip ?_); dsimp only [zn, zr, zx, yn, yr]; refine Cs (WC.block (Cs (Co (Wm rfl (Wm rfl (Wc (OP.idxS (Sl.pfx (by assumption) (Loc.pfx hL)) rfl rfl (by omega) ?_))))))); refine Wc (OP.ldI (Sl.pfx (by assumption) (Loc.pfx hL)) rfl (by omega) ?_); refine Wc ?_; refine OL.callB hL rfl rfl (c0 _ _) (fun h' hp hL hc => ?_) (fun h' hp hL hc => ?_); refine Wc (OP.not rfl (Wm rfl (WO.yes rfl (Wm rfl (WO.yes rfl (Wc (OP.eqlF rfl rfl (by omega) ?_))))))); refine WO.yes rfl (Wm rfl (WO.no rfl (WO.no rfl (WO.no rfl (WO.no rfl (WO.no rfl (WO.no rfl (WO.noU rfl (WO.noU rfl (WO.noU rfl (WO.noU rfl (WO.noU rfl (WO.noU rfl (WO.noU rfl (WO.noU rfl (WO.noU rfl (WO.noU rfl (WO.noU rfl (WO.noU rfl (WO.noU rfl (WO.noU rfl (WO.no rfl (WO.yes rfl (Wc (OP.pickF rfl rfl (Wc (OP.pickF rfl rfl (Wn ?_)))))))))))))))))))))))))))); dsimp only [zn, zr, zx, yn, yr]; refine WC.condF rfl (WC.skip ?_); dsimp only [zn, zr, zx, yn, yr]; refine Co (Wm rfl (Wc (OP.add rfl rfl (by omega) ?_))); refine Wm rfl (Wn ?_); dsimp only [zn, zr, zx, yn, yr])
   refine ⟨(i + 1, h'), ⟨by simp only; omega, hL, ?_⟩, by (refine Sub.cons rfl (Sub.cons rfl (Sub.cons rfl (Sub.cons rfl ?_))); exact Sub.nil _), rfl, by simp only; omega⟩
   simp only
   rw [List.take_succ_eq_append_getElem hil]
   intro s hs
   rcases List.mem_append.1 hs with hs | hs
   ·exact hall s hs
   ·simp at hs; rw [hs]; omega
   (refine Wc (OP.not rfl (Wm rfl (WO.no rfl (WO.no rfl (WO.no rfl (WO.noU rfl (WO.noU rfl (WO.noU rfl (WO.noU rfl (WO.noU rfl (WO.noU rfl (WO.noU rfl (WO.noU rfl (WO.noU rfl (WO.noU rfl (WO.noU rfl (WO.noU rfl (WO.noU rfl (WO.noU rfl (WO.noU rfl (WO.noU rfl (WO.noU rfl (WO.noU rfl (WO.noU rfl (WO.noU rfl (WO.noU rfl (WO.no rfl (Wc (OP.pickT rfl rfl (Wt ?_)))))))))))))))))))))))))))))); refine WC.condT rfl (Cs (Co (Wm rfl (Wt ?_)))); refine WC.ret ?_; dsimp only [zn, zr, zx, yn, yr])
   exact Fin.ret rfl ⟨hL.pfx, boolF (fun hh => hc (hh.2 _ hmem))⟩
  ·rw [List.take_of_length_le (by omega)] at hall
   have hall : ArgsOk r.xs := hall
   (refine Cs (Cs (Co (Wm rfl (Wm rfl (Wc (OP.lenS rfl (Wc (OP.lssF rfl rfl (by omega) ?_)))))))); refine Wt ?_; refine WC.condF rfl (WC.exit ?_); dsimp only [zn, zr, zx, yn, yr]; rw [yx, if_pos rfl]; dsimp only [zn, zr, zx, yn, yr]; refine Cs (Co (Wm rfl (Wc (OP.lenS rfl (Wm rfl (Wc ?_)))))); refine OP.leqC rfl rfl (fun hc => ?_) (fun hc => ?_); refine Wm rfl (Wt ?_); refine WC.ret ?_; exact Fin.ret rfl ⟨hL.pfx, boolT (by grind)⟩; refine Wm rfl (Wt ?_); refine WC.ret ?_; exact Fin.ret rfl ⟨hL.pfx, boolF (by omega)⟩)
 ·(refine Cs (Co (Wm rfl (Wt ?_))); refine Cs (Co (Wc ?_)); refine OL.buildSlice hL rfl (by simp [over, Value.cells]; rfl) rfl (fun b h' hL => ?_); refine Wm rfl (Wc (OP.idxZ (Loc.bxAt (k := 0) hL rfl rfl) rfl rfl (by omega) ?_)); refine Wc (OL.load1 (k := 0) hL rfl rfl rfl (Wm rfl (Wt ?_))); refine Cs (Cs (Co (Wm rfl (Wt ?_)))); refine WC.block ?_)
  refine WC.loop (fun q : Nat × AH => q.1 ≤ r.n ∧ Loc h q.2 [] ∧ ∀ x ∈ r.xs.take q.1, 0 ≤ x ∧ x ≤ 255) (fun q => [(6, .int .i64 (q.1 : Int)), (5, .int .i64 4), (1, r.v), (0, .int .i64 2)]) (fun q => q.2) (fun q => r.n - q.1) ?_ (0, h') ⟨Nat.zero_le _, hL.tail, by simp⟩ (by (refine Sub.cons rfl (Sub.cons rfl (Sub.cons rfl (Sub.cons rfl ?_))); exact Sub.nil _)) rfl
  intro ⟨i, h1⟩ ⟨hi, hL, hall⟩
  simp only at hi hL hall ⊢
  by_cases hlt : (i : Int) < r.n
  ·have hil : i < r.xs.length := by omega
   have hmem := List.getElem_mem hil
   (refine Cs (Cs (Co (Wm rfl (Wm rfl (Wc (OP.lenS rfl (Wc (OP.lssT rfl rfl (by omega) ?_)))))))); refine Wn ?_; dsimp only [zn, zr, zx, yn, yr]; refine WC.condT rfl (WC.skip ?_); dsimp only [zn, zr, zx, yn, yr]; refine Cs (WC.block (Cs (Co (Wm rfl (Wm rfl (Wc (OP.idxS (Sl.pfx (by assumption) (Loc.pfx hL)) rfl rfl (by omega) ?_))))))); refine Wc (OP.ldI (Sl.pfx (by assumption) (Loc.pfx hL)) rfl (by omega) ?_); refine Wc ?_; refine OL.callB hL rfl rfl (c0 _ _) (fun h' hp hL hc => ?_) (fun h' hp hL hc => ?_); refine Wc (OP.not rfl (Wm rfl (WO.yes rfl (Wm rfl (WO.yes rfl (Wc (OP.eqlF rfl rfl (by omega) ?_))))))); refine WO.yes rfl (Wm rfl (WO.no rfl (WO.no rfl (WO.no rfl (WO.no rfl (WO.no rfl (WO.no rfl (WO.noU rfl (WO.noU rfl (WO.noU rfl (WO.noU rfl (WO.noU rfl (WO.noU rfl (WO.noU rfl (WO.noU rfl (WO.noU rfl (WO.noU rfl (WO.noU rfl (WO.noU rfl (WO.noU rfl (WO.noU rfl (WO.no rfl (WO.yes rfl (Wc (OP.pickF rfl rfl (Wc (OP.pickF rfl rfl (Wn ?_)))))))))))))))))))))))))))); dsimp only [zn, zr, zx, yn, yr]; refine WC.condF rfl (WC.skip ?_); dsimp only [zn, zr, zx, yn, yr]; refine Co (Wm rfl (Wc (OP.add rfl rfl (by omega) ?_))); refine Wm rfl (Wn ?_); dsimp only [zn, zr, zx, yn, yr])
   refine ⟨(i + 1, h'), ⟨by simp only; omega, hL, ?_⟩, by (refine Sub.cons rfl (Sub.cons rfl (Sub.cons rfl (Sub.cons rfl ?_))); exact Sub.nil _), rfl, by simp only; omega⟩
   simp only
   rw [List.take_succ_eq_append_getElem hil]
   intro s hs
   rcases List.mem_append.1 hs with hs | hs
   ·exact hall s hs
   ·simp at hs; rw [hs]; omega
   (refine Wc (OP.not rfl (Wm rfl (WO.no rfl (WO.no rfl (WO.no rfl (WO.noU rfl (WO.noU rfl (WO.noU rfl (WO.noU rfl (WO.noU rfl (WO.noU rfl (WO.noU rfl (WO.noU rfl (WO.noU rfl (WO.noU rfl (WO.noU rfl (WO.noU rfl (WO.noU rfl (WO.noU rfl (WO.noU rfl (WO.noU rfl (WO.noU rfl (WO.noU rfl (WO.noU rfl (WO.noU rfl (WO.noU rfl (WO.no rfl (Wc (OP.pickT rfl rfl (Wt ?_)))))))))))))))))))))))))))))); refine WC.condT rfl (Cs (Co (Wm rfl (Wt ?_)))); refine WC.ret ?_; dsimp only [zn, zr, zx, yn, yr])
   exact Fin.ret rfl ⟨hL.pfx, boolF (fun hh => hc (hh.2 _ hmem))⟩
  ·rw [List.take_of_length_le (by omega)] at hall
   have hall : ArgsOk r.xs := hall
   (refine Cs (Cs (Co (Wm rfl (Wm rfl (Wc (OP.lenS rfl (Wc (OP.lssF rfl rfl (by omega) ?_)))))))); refine Wt ?_; refine WC.condF rfl (WC.exit ?_); dsimp only [zn, zr, zx, yn, yr]; rw [yx, if_pos rfl]; dsimp only [zn, zr, zx, yn, yr]; refine Cs (Co (Wm rfl (Wc (OP.lenS rfl (Wm rfl (Wc ?_)))))); refine OP.leqC rfl rfl (fun hc => ?_) (fun hc => ?_); refine Wm rfl (Wt ?_); refine WC.ret ?_; exact Fin.ret rfl ⟨hL.pfx, boolT (by grind)⟩; refine Wm rfl (Wt ?_); refine WC.ret ?_; exact Fin.ret rfl ⟨hL.pfx, boolF (by omega)⟩)
theorem s_StateMay {g0 : Nat} (hX : X f = none) (hF : F f = some (rf_StateMay g0)) (c0' : S_rowMay X F g0) : S_StateMay X F f := by
 intro lim h ob m r0 r1 r2 r3 hob hst
 have hL := Loc.start h
 have cc : ∀ {r : Row}, RowOk h r → ∀ lim h', Pfx h h' → Ret X F lim g0 [.int .i64 ob, r.v] h' fun v h'' => Pfx h' h'' ∧ v = .bool (decide ((r.xs.length : Int) ≤ m ∧ ArgsOk r.xs)) := fun hr lim h' hp => c0' lim h' hob (hr.pfx hp)
 have c0 := cc hst.1
 have c1 := cc hst.2.1
 have c2 := cc hst.2.2.1
 have c3 := cc hst.2.2.2
 refine Ret.body hX hF rfl ?_
 simp only [argL, rf_StateMay]
 (refine Cs (Co (Wc ?_)); refine OL.boxA hL rfl rfl (fun b h' hL => (Wm rfl (Wt ?_))); refine Cs (Cs (Co (Wm rfl (Wt ?_)))); refine WC.block ?_)
 refine WC.unroll ?_
 (refine Cs (Cs (Co (Wm rfl (Wc (OP.lssT rfl rfl (by omega) ?_))))); refine Wn ?_; dsimp only [zn, zr, zx, yn, yr]; refine WC.condT rfl (WC.skip ?_); dsimp only [zn, zr, zx, yn, yr]; refine Cs (WC.block (Cs (Co (Wm rfl (Wc (OP.lssF rfl rfl (by omega) ?_)))))); refine Wm rfl (WO.yes rfl (Wm rfl (WO.yes rfl (Wc (OP.gtrF rfl rfl (by omega) ?_))))); refine Wc (OP.pickF rfl rfl (Wm rfl (WO.yes rfl (Wm rfl (WO.yes rfl (Wm rfl (WO.yes rfl (Wc (OP.fieldAddr0 rfl (WO.yes rfl (Wc (OP.idxArrZ rfl rfl (by decide) (by simp only [Int.reduceToNat, Nat.mul_one, Nat.zero_add, Nat.reduceMul, Nat.reduceAdd]; rfl) ?_)))))))))))); refine WO.yes rfl (Wc (OL.load1 (k := 0) hL rfl rfl rfl (WO.yes rfl (Wc ?_)))); refine OL.callB hL rfl rfl (c0 _ _ hL.pfx) (fun h' hp hL hc => ?_) (fun h' hp hL hc => ?_); refine WO.yes rfl (Wc (OP.not rfl (Wc (OP.pickF rfl rfl (Wn ?_))))); dsimp only [zn, zr, zx, yn, yr]; refine WC.condF rfl (WC.skip ?_); dsimp only [zn, zr, zx, yn, yr]; refine Co (Wm rfl (Wc (OP.addL rfl rfl (by simp only [Int.reduceAdd]; rfl) (by decide) ?_))); refine Wm rfl (Wn ?_); dsimp only [zn, zr, zx, yn, yr])
 refine WC.unroll ?_
 (refine Cs (Cs (Co (Wm rfl (Wc (OP.lssT rfl rfl (by omega) ?_))))); refine Wn ?_; dsimp only [zn, zr, zx, yn, yr]; refine WC.condT rfl (WC.skip ?_); dsimp only [zn, zr, zx, yn, yr]; refine Cs (WC.block (Cs (Co (Wm rfl (Wc (OP.lssF rfl rfl (by omega) ?_)))))); refine Wm rfl (WO.yes rfl (Wm rfl (WO.yes rfl (Wc (OP.gtrF rfl rfl (by omega) ?_))))); refine Wc (OP.pickF rfl rfl (Wm rfl (WO.yes rfl (Wm rfl (WO.yes rfl (Wm rfl (WO.yes rfl (Wc (OP.fieldAddr0 rfl (WO.yes rfl (Wc (OP.idxArrZ rfl rfl (by decide) (by simp only [Int.reduceToNat, Nat.mul_one, Nat.zero_add, Nat.reduceMul, Nat.reduceAdd]; rfl) ?_)))))))))))); refine WO.yes rfl (Wc (OL.load1 (k := 0) hL rfl rfl rfl (WO.yes rfl (Wc ?_)))); refine OL.callB hL rfl rfl (c1 _ _ hL.pfx) (fun h' hp hL hc => ?_) (fun h' hp hL hc => ?_); refine WO.yes rfl (Wc (OP.not rfl (Wc (OP.pickF rfl rfl (Wn ?_))))); dsimp only [zn, zr, zx, yn, yr]; refine WC.condF rfl (WC.skip ?_); dsimp only [zn, zr, zx, yn, yr]; refine Co (Wm rfl (Wc (OP.addL rfl rfl (by simp only [Int.reduceAdd]; rfl) (by decide) ?_))); refine Wm rfl (Wn ?_); dsimp only [zn, zr, zx, yn, yr])
 refine WC.unroll ?_
 (refine Cs (Cs (Co (Wm rfl (Wc (OP.lssT rfl rfl (by omega) ?_))))); refine Wn ?_; dsimp only [zn, zr, zx, yn, yr]; refine WC.condT rfl (WC.skip ?_); dsimp only [zn, zr, zx, yn, yr]; refine Cs (WC.block (Cs (Co (Wm rfl (Wc (OP.lssF rfl rfl (by omega) ?_)))))); refine Wm rfl (WO.yes rfl (Wm rfl (WO.yes rfl (Wc (OP.gtrF rfl rfl (by omega) ?_))))); refine Wc (OP.pickF rfl rfl (Wm rfl (WO.yes rfl (Wm rfl (WO.yes rfl (Wm rfl (WO.yes rfl (Wc (OP.fieldAddr0 rfl (WO.yes rfl (Wc (OP.idxArrZ rfl rfl (by decide) (by simp only [Int.reduceToNat, Nat.mul_one, Nat.zero_add, Nat.reduceMul, Nat.reduceAdd]; rfl) ?_)))))))))))); refine WO.yes rfl (Wc (OL.load1 (k := 0) hL rfl rfl rfl (WO.yes rfl (Wc ?_)))); refine OL.callB hL rfl rfl (c2 _ _ hL.pfx) (fun h' hp hL hc => ?_) (fun h' hp hL hc => ?_); refine WO.yes rfl (Wc (OP.not rfl (Wc (OP.pickF rfl rfl (Wn ?_))))); dsimp only [zn, zr, zx, yn, yr]; refine WC.condF rfl (WC.skip ?_); dsimp only [zn, zr, zx, yn, yr]; refine Co (Wm rfl (Wc (OP.addL rfl rfl (by simp only [Int.reduceAdd]; rfl) (by decide) ?_))); refine Wm rfl (Wn ?_); dsimp only [zn, zr, zx, yn, yr])
 refine WC.unroll ?_
 (refine Cs (Cs (Co (Wm rfl (Wc (OP.lssT rfl rfl (by omega) ?_))))); refine Wn ?_; dsimp only [zn, zr, zx, yn, yr]; refine WC.condT rfl (WC.skip ?_); dsimp only [zn, zr, zx, yn, yr]; refine Cs (WC.block (Cs (Co (Wm rfl (Wc (OP.lssF rfl rfl (by omega) ?_)))))); refine Wm rfl (WO.yes rfl (Wm rfl (WO.yes rfl (Wc (OP.gtrF rfl rfl (by omega) ?_))))); refine Wc (OP.pickF rfl rfl (Wm rfl (WO.yes rfl (Wm rfl (WO.yes rfl (Wm rfl (WO.yes rfl (Wc (OP.fieldAddr0 rfl (WO.yes rfl (Wc (OP.idxArrZ rfl rfl (by decide) (by simp only [Int.reduceToNat, Nat.mul_one, Nat.zero_add, Nat.reduceMul, Nat.reduceAdd]; rfl) ?_)))))))))))); refine WO.yes rfl (Wc (OL.load1 (k := 0) hL rfl rfl rfl (WO.yes rfl (Wc ?_)))); refine OL.callB hL rfl rfl (c3 _ _ hL.pfx) (fun h' hp hL hc => ?_) (fun h' hp hL hc => ?_); refine WO.yes rfl (Wc (OP.not rfl (Wc (OP.pickF rfl rfl (Wn ?_))))); dsimp only [zn, zr, zx, yn, yr]; refine WC.condF rfl (WC.skip ?_); dsimp only [zn, zr, zx, yn, yr]; refine Co (Wm rfl (Wc (OP.addL rfl rfl (by simp only [Int.reduceAdd]; rfl) (by decide) ?_))); refine Wm rfl (Wn ?_); dsimp only [zn, zr, zx, yn, yr])
 refine WC.unroll ?_
 (refine Cs (Cs (Co (Wm rfl (Wc (OP.lssF rfl rfl (by omega) ?_))))); refine Wt ?_; refine WC.condF rfl (WC.exit ?_); dsimp only [zn, zr, zx, yn, yr]; rw [yx, if_pos rfl]; dsimp only [zn, zr, zx, yn, yr]; refine Cs (Co (Wm rfl (Wt ?_))); refine WC.ret ?_; exact Fin.ret rfl ⟨hL.pfx, boolT (by grind)⟩; refine WO.yes rfl (Wc (OP.not rfl (Wc (OP.pickF rfl rfl (Wt ?_))))); refine WC.condT rfl (Cs (Co (Wm rfl (Wt ?_)))); refine WC.ret ?_; dsimp only [zn, zr, zx, yn, yr]; exact Fin.ret rfl ⟨hL.pfx, boolF (by grind)⟩; refine WO.yes rfl (Wc (OP.not rfl (Wc (OP.pickF rfl rfl (Wt ?_))))); refine WC.condT rfl (Cs (Co (Wm rfl (Wt ?_)))); refine WC.ret ?_; dsimp only [zn, zr, zx, yn, yr]; exact Fin.ret rfl ⟨hL.pfx, boolF (by grind)⟩; refine WO.yes rfl (Wc (OP.not rfl (Wc (OP.pickF rfl rfl (Wt ?_))))); refine WC.condT rfl (Cs (Co (Wm rfl (Wt ?_)))); refine WC.ret ?_; dsimp only [zn, zr, zx, yn, yr]; exact Fin.ret rfl ⟨hL.pfx, boolF (by grind)⟩; refine WO.yes rfl (Wc (OP.not rfl (Wc (OP.pickF rfl rfl (Wt ?_))))); refine WC.condT rfl (Cs (Co (Wm rfl (Wt ?_)))); refine WC.ret ?_; dsimp only [zn, zr, zx, yn, yr]; exact Fin.ret rfl ⟨hL.pfx, boolF (by grind)⟩)
end
end
end Go.Proofs.YtalknjppnkpmmaaDoorW.Ai
