/-
 Operations (chapters 2, 6), as the small machine runs them.
-/
import Derived.Test.YtalknjppnkpmmaaDoorFn2
import Derived.Test.YtalknjppnkpmmaaDoorMe
set_option linter.unusedVariables false
set_option linter.unusedSimpArgs false
set_option maxHeartbeats 4000000
namespace Go.Proofs.YtalknjppnkpmmaaDoorW.Ai
-- chorus/oper.May; g0 = chorus/oper.Arg
def rf_oMay (g0 : Nat) : RFunc :=
 ⟨37, [(.tmp 2)], (.seq (.ops [rO 1 (.box (.tmp 0)), rO 2 (.mv (.const (.bool false)))]) (.seq (.seq (.ops [rO 3 (.fieldAddr 1 (.tmp 1)), rO 4 (.load .none (.tmp 3)), rO 5 (.bin .lss (.tmp 4) (.const (.int .i64 0))), rO 6 (.mv (.tmp 5)), ⟨(.some 7), (.fieldAddr 1 (.tmp 1)), (.some (6, false)), false, []⟩, ⟨(.some 8), (.load .none (.tmp 7)), (.some (6, false)), false, []⟩, ⟨(.some 9), (.bin .geq (.tmp 8) (.const (.int .i64 4))), (.some (6, false)), false, []⟩, rO 10 (.pick (.tmp 6) (.const (.bool true)) (.tmp 9)), rO 11 (.mv (.tmp 10)), ⟨(.some 12), (.fieldAddr 2 (.tmp 1)), (.some (11, false)), false, []⟩, ⟨(.some 13), (.load .none (.tmp 12)), (.some (11, false)), false, []⟩, ⟨(.some 14), (.call (.func g0) [(.tmp 13)]), (.some (11, false)), false, []⟩, ⟨(.some 15), (.un .not (.tmp 14)), (.some (11, false)), false, []⟩, rO 16 (.pick (.tmp 11) (.const (.bool true)) (.tmp 15))]) (.cond (.tmp 16) (.seq (.ops [rO 2 (.mv (.const (.bool false)))]) .ret) .skip)) (.seq (.seq (.ops [rO 17 (.fieldAddr 0 (.tmp 1)), rO 18 (.load .none (.tmp 17))]) (.block 0 (.seq (.seq (.ops [rO 20 (.bin .eql (.tmp 18) (.const (.int .i64 0))), rO 19 (.mv (.tmp 20))]) (.cond (.tmp 19) .skip (.ops [rO 21 (.bin .eql (.tmp 18) (.const (.int .i64 1))), rO 19 (.mv (.tmp 21))]))) (.cond (.tmp 19) (.seq (.ops [rO 2 (.mv (.const (.bool true)))]) .ret) (.seq (.ops [rO 23 (.bin .eql (.tmp 18) (.const (.int .i64 2))), rO 22 (.mv (.tmp 23))]) (.cond (.tmp 22) (.seq (.ops [rO 24 (.fieldAddr 2 (.tmp 1)), rO 25 (.load .none (.tmp 24)), rO 26 (.bin .eql (.tmp 25) (.const (.int .i64 0))), rO 2 (.mv (.tmp 26))]) .ret) (.seq (.ops [rO 28 (.bin .eql (.tmp 18) (.const (.int .i64 3))), rO 27 (.mv (.tmp 28))]) (.cond (.tmp 27) (.seq (.ops [rO 29 (.fieldAddr 2 (.tmp 1)), rO 30 (.load .none (.tmp 29)), rO 31 (.bin .eql (.tmp 30) (.const (.int .i64 0))), rO 32 (.mv (.tmp 31)), ⟨(.some 33), (.fieldAddr 1 (.tmp 1)), (.some (32, true)), false, []⟩, ⟨(.some 34), (.load .none (.tmp 33)), (.some (32, true)), false, []⟩, ⟨(.some 35), (.bin .eql (.tmp 34) (.const (.int .i64 0))), (.some (32, true)), false, []⟩, rO 36 (.pick (.tmp 32) (.tmp 35) (.const (.bool false))), rO 2 (.mv (.tmp 36))]) .ret) .skip)))))))) (.seq (.ops [rO 2 (.mv (.const (.bool false)))]) .ret))))⟩
-- chorus/oper.Arg
def rf_oArg : RFunc :=
 ⟨9, [(.tmp 2)], (.seq (.ops [rO 2 (.mv (.const (.bool false)))]) (.seq (.ops [rO 3 (.mv (.tmp 0)), rO 4 (.bin .geq (.tmp 3) (.const (.int .i64 0))), rO 5 (.mv (.tmp 4)), ⟨(.some 6), (.mv (.tmp 0)), (.some (5, true)), false, []⟩, ⟨(.some 7), (.bin .leq (.tmp 6) (.const (.int .i64 255))), (.some (5, true)), false, []⟩, rO 8 (.pick (.tmp 5) (.tmp 7) (.const (.bool false))), rO 2 (.mv (.tmp 8))]) .ret))⟩
/-! ### what is told of the functions of Fn2 -/
section
variable (X : Ext) (F : FuncId → Option RFunc) (g : FuncId)
abbrev S_Num : Prop := ∀ (lim : Nat) (h : AH) {x : Int}, -9223372036854775808 ≤ x ∧ x ≤ 9223372036854775807 → Ret X F lim g [.int .i64 x] h fun v h' => Pfx h h' ∧ v = .int .i64 x
end
/-- An operation that may be. -/
abbrev OpOk (c r a : Int) : Prop := (0 ≤ c ∧ c ≤ 3) ∧ (0 ≤ r ∧ r ≤ 3) ∧ (0 ≤ a ∧ a ≤ 255) ∧ (c < 2 ∨ a = 0 ∧ (c = 2 ∨ r = 0))
section
variable (X : Ext) (F : FuncId → Option RFunc) (g : FuncId)
abbrev S_oArg : Prop := ∀ (lim : Nat) (h : AH) {x : Int}, Ret X F lim g [.int .i64 x] h fun v h' => Pfx h h' ∧ v = .bool (decide (0 ≤ x ∧ x ≤ 255))
abbrev S_oMay : Prop := ∀ (lim : Nat) (h : AH) {c r a : Int}, Ret X F lim g [.agg #[.int .i64 c, .int .i64 r, .int .i64 a]] h fun v h' => Pfx h h' ∧ v = .bool (decide (OpOk c r a))
end
section
variable {X : Ext} {F : FuncId → Option RFunc} {f : FuncId}
theorem s_Num (hX : X f = none) (hF : F f = some rf_Num) : S_Num X F f := fun lim h x hx => (Num_run hX hF hx).pfx
theorem s_oArg (hX : X f = none) (hF : F f = some rf_oArg) : S_oArg X F f := by
 intro lim h x
 have hL := Loc.start h
 refine Ret.body hX hF rfl ?_
 simp only [argL, rf_oArg]
 (refine Cs (Co (Wm rfl (Wn (Cs (Co (Wm rfl (Wc ?_))))))); refine OP.geqC rfl rfl (fun hc => ?_) (fun hc => ?_); refine Wm rfl (WO.yes rfl (Wm rfl (WO.yes rfl (Wc ?_)))); refine OP.leqC rfl rfl (fun hc => ?_) (fun hc => ?_); refine Wc (OP.pickT rfl rfl (Wm rfl (Wn (WC.ret ?_)))); exact Fin.ret rfl ⟨hL.pfx, boolT (by omega)⟩; refine Wc (OP.pickT rfl rfl (Wm rfl (Wn (WC.ret ?_)))); exact Fin.ret rfl ⟨hL.pfx, boolF (by omega)⟩; refine Wm rfl (WO.no rfl (WO.no rfl (Wc (OP.pickF rfl rfl (Wm rfl (Wn (WC.ret ?_))))))); exact Fin.ret rfl ⟨hL.pfx, boolF (by omega)⟩)
theorem s_oMay {g0 : Nat} (hX : X f = none) (hF : F f = some (rf_oMay g0)) (c0 : S_oArg X F g0) : S_oMay X F f := by
 intro lim h c r a
 have hL := Loc.start h
 refine Ret.body hX hF rfl ?_
 simp only [argL, rf_oMay]
 (refine Cs (Co (Wc ?_)); refine OL.boxA hL rfl rfl (fun b h' hL => (Wm rfl (Wn (Cs (Cs (Co (Wc (OP.fieldAddr rfl (Wc (OL.load1 (k := 0) hL rfl rfl rfl (Wc ?_))))))))))); refine OP.lssC rfl rfl (fun hc => ?_) (fun hc => ?_); refine Wm rfl (WO.no rfl (WO.no rfl (WO.no rfl (Wc (OP.pickT rfl rfl (Wm rfl (WO.no rfl (WO.no rfl (WO.no rfl (WO.no rfl (Wc (OP.pickT rfl rfl (Wn (WC.condT rfl (Cs (Co (Wm rfl (Wn (WC.ret ?_))))))))))))))))))); dsimp only [zn, zr, zx, yn, yr]; exact Fin.ret rfl ⟨hL.pfx, boolF (by omega)⟩; refine Wm rfl (WO.yes rfl (Wc (OP.fieldAddr rfl (WO.yes rfl (Wc (OL.load1 (k := 0) hL rfl rfl rfl (WO.yes rfl (Wc ?_)))))))); refine OP.geqC rfl rfl (fun hc => ?_) (fun hc => ?_); refine Wc (OP.pickF rfl rfl (Wm rfl (WO.no rfl (WO.no rfl (WO.no rfl (WO.no rfl (Wc (OP.pickT rfl rfl (Wn (WC.condT rfl (Cs (Co (Wm rfl (Wn (WC.ret ?_))))))))))))))); dsimp only [zn, zr, zx, yn, yr]; exact Fin.ret rfl ⟨hL.pfx, boolF (by omega)⟩; refine Wc (OP.pickF rfl rfl (Wm rfl (WO.yes rfl (Wc (OP.fieldAddr rfl (WO.yes rfl (Wc (OL.load1 (k := 0) hL rfl rfl rfl (WO.yes rfl (Wc ?_)))))))))); refine OL.callB hL rfl rfl (c0 _ _) (fun h' hp hL hc => ?_) (fun h' hp hL hc => ?_); refine WO.yes rfl (Wc (OP.not rfl (Wc (OP.pickF rfl rfl (Wn (WC.condF rfl (WC.skip (Cs (Cs (Co (Wc (OP.fieldAddr rfl (Wc (OL.load1 (k := 0) hL rfl rfl rfl (Wn (WC.block (Cs (Cs (Co (Wc ?_)))))))))))))))))))); refine OP.eqlC rfl rfl (fun hc => ?_) (fun hc => ?_); refine Wm rfl (Wn (WC.condT rfl (WC.skip (WC.condT rfl (Cs (Co (Wm rfl (Wn (WC.ret ?_))))))))); dsimp only [zn, zr, zx, yn, yr]; exact Fin.ret rfl ⟨hL.pfx, boolT (by omega)⟩; refine Wm rfl (Wn (WC.condF rfl (Co (Wc ?_)))); refine OP.eqlC rfl rfl (fun hc => ?_) (fun hc => ?_); refine Wm rfl (Wn (WC.condT rfl (Cs (Co (Wm rfl (Wn (WC.ret ?_))))))); dsimp only [zn, zr, zx, yn, yr]; exact Fin.ret rfl ⟨hL.pfx, boolT (by omega)⟩; refine Wm rfl (Wn (WC.condF rfl (Cs (Co (Wc ?_))))); refine OP.eqlC rfl rfl (fun hc => ?_) (fun hc => ?_); refine Wm rfl (Wn (WC.condT rfl (Cs (Co (Wc (OP.fieldAddr rfl (Wc (OL.load1 (k := 0) hL rfl rfl rfl (Wc ?_))))))))); refine OP.eqlC rfl rfl (fun hc => ?_) (fun hc => ?_); refine Wm rfl (Wn (WC.ret ?_)); dsimp only [zn, zr, zx, yn, yr]; exact Fin.ret rfl ⟨hL.pfx, boolT (by omega)⟩; refine Wm rfl (Wn (WC.ret ?_)); dsimp only [zn, zr, zx, yn, yr]; exact Fin.ret rfl ⟨hL.pfx, boolF (by omega)⟩; refine Wm rfl (Wn (WC.condF rfl (Cs (Co (Wc ?_))))); refine OP.eqlC rfl rfl (fun hc => ?_) (fun hc => ?_); refine Wm rfl (Wn (WC.condT rfl (Cs (Co (Wc (OP.fieldAddr rfl (Wc (OL.load1 (k := 0) hL rfl rfl rfl (Wc ?_))))))))); refine OP.eqlC rfl rfl (fun hc => ?_) (fun hc => ?_); refine Wm rfl (WO.yes rfl (Wc (OP.fieldAddr rfl (WO.yes rfl (Wc (OL.load1 (k := 0) hL rfl rfl rfl (WO.yes rfl (Wc ?_)))))))); refine OP.eqlC rfl rfl (fun hc => ?_) (fun hc => ?_); refine Wc (OP.pickT rfl rfl (Wm rfl (Wn (WC.ret ?_)))); dsimp only [zn, zr, zx, yn, yr]; exact Fin.ret rfl ⟨hL.pfx, boolT (by omega)⟩; refine Wc (OP.pickT rfl rfl (Wm rfl (Wn (WC.ret ?_)))); dsimp only [zn, zr, zx, yn, yr]; exact Fin.ret rfl ⟨hL.pfx, boolF (by omega)⟩; refine Wm rfl (WO.no rfl (WO.no rfl (WO.no rfl (Wc (OP.pickF rfl rfl (Wm rfl (Wn (WC.ret ?_)))))))); dsimp only [zn, zr, zx, yn, yr]; exact Fin.ret rfl ⟨hL.pfx, boolF (by omega)⟩; refine Wm rfl (Wn (WC.condF rfl (WC.skip (Cs (Co (Wm rfl (Wn (WC.ret ?_)))))))); exact Fin.ret rfl ⟨hL.pfx, boolF (by omega)⟩; refine WO.yes rfl (Wc (OP.not rfl (Wc (OP.pickF rfl rfl (Wn (WC.condT rfl (Cs (Co (Wm rfl (Wn (WC.ret ?_))))))))))); dsimp only [zn, zr, zx, yn, yr]; exact Fin.ret rfl ⟨hL.pfx, boolF (by omega)⟩)
end
end Go.Proofs.YtalknjppnkpmmaaDoorW.Ai
