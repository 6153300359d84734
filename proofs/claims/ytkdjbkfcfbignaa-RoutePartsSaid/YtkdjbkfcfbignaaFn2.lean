/-
 Cells (chapter 1), as the small machine runs them.
-/
import Derived.Test.YtkdjbkfcfbignaaFn1
set_option linter.unusedVariables false
set_option linter.unusedSimpArgs false
namespace Go.Proofs.YtkdjbkfcfbignaaW.Ai
-- slices.Clone[[]int,int]
def rf_Clone : RFunc :=
 ⟨8, [(.tmp 2)], (.seq (.ops [rO 2 (.mv (.const (.slice .none 0 0)))]) (.seq (.seq (.ops [rO 3 (.mv (.tmp 0)), rO 4 (.isNil false 0 (.tmp 3))]) (.cond (.tmp 4) (.seq (.ops [rO 2 (.mv (.const (.slice .none 0 0)))]) .ret) .skip)) (.seq (.ops [rO 5 (.buildSlice [] 0 []), rO 6 (.mv (.tmp 0)), rO 7 (.append 1 8 (.tmp 5) (.tmp 6)), rO 2 (.mv (.tmp 7))]) .ret)))⟩
-- chorus/choruslaw0.Num
def rf_Num : RFunc :=
 ⟨4, [(.tmp 2)], (.seq (.ops [rO 2 (.mv (.const (.int .i64 0)))]) (.seq (.ops [rO 3 (.mv (.tmp 0)), rO 2 (.mv (.tmp 3))]) .ret))⟩
section
variable {X : Ext} {F : FuncId → Option RFunc} {lim : Nat} {f : FuncId} {h : AH}
theorem Num_run (hX : X f = none) (hF : F f = some rf_Num) {x : Int} (hx : -9223372036854775808 ≤ x ∧ x ≤ 9223372036854775807) : Ret X F lim f [.int .i64 x] h fun v h' => v = .int .i64 x ∧ h' = h := by
 refine Ret.body hX hF rfl ?_
 simp only [argL, rf_Num]
 (refine Cs (Co (Wm rfl (Wn (Cs (Co (Wm rfl (Wm rfl (Wn (WC.ret ?_))))))))))
 exact Fin.ret rfl ⟨by simp [resultOf], rfl⟩
end
end Go.Proofs.YtkdjbkfcfbignaaW.Ai
