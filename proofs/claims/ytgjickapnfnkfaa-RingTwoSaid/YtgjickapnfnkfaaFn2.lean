/-
 Cells (chapter 1), as the small machine runs them.
-/
import Derived.Test.YtgjickapnfnkfaaFn1
set_option linter.unusedVariables false
set_option linter.unusedSimpArgs false
namespace Go.Proofs.YtgjickapnfnkfaaW.Ai
-- chorus/cell.Number
def rf_Number : RFunc :=
 ⟨9, [(.tmp 2)], (.seq (.ops [rO 2 (.mv (.const (.bool false)))]) (.seq (.ops [rO 3 (.mv (.tmp 0)), rO 4 (.bin .geq (.tmp 3) (.const (.int .i64 0))), rO 5 (.mv (.tmp 4)), ⟨(.some 6), (.mv (.tmp 0)), (.some (5, true)), false, []⟩, ⟨(.some 7), (.bin .leq (.tmp 6) (.const (.int .i64 1048576))), (.some (5, true)), false, []⟩, rO 8 (.pick (.tmp 5) (.tmp 7) (.const (.bool false))), rO 2 (.mv (.tmp 8))]) .ret))⟩
-- chorus/choruslaw0.Num
def rf_Num : RFunc :=
 ⟨4, [(.tmp 2)], (.seq (.ops [rO 2 (.mv (.const (.int .i64 0)))]) (.seq (.ops [rO 3 (.mv (.tmp 0)), rO 2 (.mv (.tmp 3))]) .ret))⟩
section
variable {X : Ext} {F : FuncId → Option RFunc} {lim : Nat} {f : FuncId} {h : AH}
theorem Num_run (hX : X f = none) (hF : F f = some rf_Num) {x : Int} (hx : -9223372036854775808 ≤ x ∧ x ≤ 9223372036854775807) : Ret X F lim f [.int .i64 x] h fun v h' => v = .int .i64 x ∧ h' = h := by
 refine Ret.body hX hF rfl ?_
 simp only [argL, rf_Num]
 (refine Cs (Co (Wm rfl (Wn (Cs (Co (Wm rfl (Wm rfl (Wn (WC.ret ?_))))))))))
 exact Fin.ret rfl ⟨by simp [resultOf], rfl⟩
theorem Number_run (hX : X f = none) (hF : F f = some rf_Number) {x : Int} : Ret X F lim f [.int .i64 x] h fun v h' => v = .bool (decide (0 ≤ x ∧ x ≤ 1048576)) ∧ h' = h := by
 refine Ret.body hX hF rfl ?_
 simp only [argL, rf_Number]
 by_cases h1 : 0 ≤ x
 ·by_cases h2 : x ≤ 1048576
  ·(refine Cs (Co (Wm rfl (Wn (Cs (Co (Wm rfl (Wc (OP.geqT rfl rfl (by omega) ?_)))))))); refine Wm rfl (WO.yes rfl (Wm rfl (WO.yes rfl (Wc (OP.leqT rfl rfl (by omega) ?_))))); refine Wc (OP.pickT rfl rfl (Wm rfl (Wn (WC.ret ?_)))))
   exact Fin.ret rfl ⟨by simp [resultOf, h1, h2], rfl⟩
  ·(refine Cs (Co (Wm rfl (Wn (Cs (Co (Wm rfl (Wc (OP.geqT rfl rfl (by omega) ?_)))))))); refine Wm rfl (WO.yes rfl (Wm rfl (WO.yes rfl (Wc (OP.leqF rfl rfl (by omega) ?_))))); refine Wc (OP.pickT rfl rfl (Wm rfl (Wn (WC.ret ?_)))))
   exact Fin.ret rfl ⟨by simp [resultOf, h1, h2], rfl⟩
 ·(refine Cs (Co (Wm rfl (Wn (Cs (Co (Wm rfl (Wc (OP.geqF rfl rfl (by omega) ?_)))))))); refine Wm rfl (WO.no rfl (WO.no rfl (Wc (OP.pickF rfl rfl (Wm rfl (Wn (WC.ret ?_))))))))
  exact Fin.ret rfl ⟨by simp [resultOf, h1], rfl⟩
end
end Go.Proofs.YtgjickapnfnkfaaW.Ai
