/-
 Cells (chapter 1), as the small machine runs them.
-/
import Derived.Test.YtkdjbkfcfbignaaFn1
set_option linter.unusedVariables false
set_option linter.unusedSimpArgs false
namespace Go.Proofs.YtkdjbkfcfbignaaW.Ai
-- slices.Clone[[]int,int]
def rf_Clone : RFunc :=
 ⟨8, [(.tmp 2)], (.seq (.ops [rO 2 (.mv (.const (.slice .none 0 0)))]) (.seq (.seq (.ops [rO 3 (.mv (.tmp 0)), rO 4 (.isNil false 0 (.tmp 3))]) (.cond (.tmp 4) (.seq (.ops [rO 2 (.mv (.const (.slice .none 0 0)))]) .ret) .skip)) (.seq (.ops [rO 5 (.buildSlice [] 0 []), rO 6 (.mv (.tmp 0)), rO 7 (.append 1 8 (.tmp 5) (.tmp 6)), rO 2 (.mv (.tmp 7))]) .ret)))⟩
-- chorus/chorusref1.upTo
def rf_upTo : RFunc :=
 ⟨15, [(.tmp 6)], (.seq (.ops [rO 6 (.mv (.const (.bool false)))]) (.seq (.ops [rO 7 (.mv (.tmp 0)), rO 8 (.mv (.tmp 1)), rO 9 (.bin .geq (.tmp 7) (.tmp 8)), rO 10 (.mv (.tmp 9)), ⟨(.some 11), (.mv (.tmp 0)), (.some (10, true)), false, []⟩, ⟨(.some 12), (.mv (.tmp 2)), (.some (10, true)), false, []⟩, ⟨(.some 13), (.bin .leq (.tmp 11) (.tmp 12)), (.some (10, true)), false, []⟩, rO 14 (.pick (.tmp 10) (.tmp 13) (.const (.bool false))), rO 6 (.mv (.tmp 14))]) .ret))⟩
-- chorus/choruslaw0.Num
def rf_Num : RFunc :=
 ⟨4, [(.tmp 2)], (.seq (.ops [rO 2 (.mv (.const (.int .i64 0)))]) (.seq (.ops [rO 3 (.mv (.tmp 0)), rO 2 (.mv (.tmp 3))]) .ret))⟩
section
variable {X : Ext} {F : FuncId → Option RFunc} {lim : Nat} {f : FuncId} {h : AH}
theorem Num_run (hX : X f = none) (hF : F f = some rf_Num) {x : Int} (hx : -9223372036854775808 ≤ x ∧ x ≤ 9223372036854775807) : Ret X F lim f [.int .i64 x] h fun v h' => v = .int .i64 x ∧ h' = h := by
 refine Ret.body hX hF rfl ?_
 simp only [argL, rf_Num]
 (refine Cs (Co (Wm rfl (Wn (Cs (Co (Wm rfl (Wm rfl (Wn (WC.ret ?_))))))))))
 exact Fin.ret rfl ⟨by simp [resultOf], rfl⟩
theorem upTo_run (hX : X f = none) (hF : F f = some rf_upTo) {x y z : Int} : Ret X F lim f [.int .i64 x, .int .i64 y, .int .i64 z] h fun v h' => v = .bool (decide (y ≤ x ∧ x ≤ z)) ∧ h' = h := by
 refine Ret.body hX hF rfl ?_
 simp only [argL, rf_upTo]
 by_cases h1 : y ≤ x
 ·by_cases h2 : x ≤ z
  ·(refine Cs (Co (Wm rfl (Wn (Cs (Co (Wm rfl (Wm rfl (Wc (OP.geqT rfl rfl (by omega) ?_))))))))); refine Wm rfl (WO.yes rfl (Wm rfl (WO.yes rfl (Wm rfl (WO.yes rfl (Wc (OP.leqT rfl rfl (by omega) ?_))))))); refine Wc (OP.pickT rfl rfl (Wm rfl (Wn (WC.ret ?_)))))
   exact Fin.ret rfl ⟨by simp [resultOf, h1, h2], rfl⟩
  ·(refine Cs (Co (Wm rfl (Wn (Cs (Co (Wm rfl (Wm rfl (Wc (OP.geqT rfl rfl (by omega) ?_))))))))); refine Wm rfl (WO.yes rfl (Wm rfl (WO.yes rfl (Wm rfl (WO.yes rfl (Wc (OP.leqF rfl rfl (by omega) ?_))))))); refine Wc (OP.pickT rfl rfl (Wm rfl (Wn (WC.ret ?_)))))
   exact Fin.ret rfl ⟨by simp [resultOf, h1, h2], rfl⟩
 ·(refine Cs (Co (Wm rfl (Wn (Cs (Co (Wm rfl (Wm rfl (Wc (OP.geqF rfl rfl (by omega) ?_))))))))); refine Wm rfl (WO.no rfl (WO.no rfl (WO.no rfl (Wc (OP.pickF rfl rfl (Wm rfl (Wn (WC.ret ?_)))))))))
  exact Fin.ret rfl ⟨by simp [resultOf, h1], rfl⟩
end
end Go.Proofs.YtkdjbkfcfbignaaW.Ai
