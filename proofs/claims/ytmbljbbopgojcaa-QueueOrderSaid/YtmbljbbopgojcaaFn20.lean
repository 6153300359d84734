/-
 States (chapters 3 to 6), as the small machine runs them: copies, whether two are the same.
-/
import Derived.Test.YtmbljbbopgojcaaFn3
import Derived.Test.YtmbljbbopgojcaaFn9
import Derived.Test.YtmbljbbopgojcaaMf
set_option linter.unusedVariables false
set_option linter.unusedSimpArgs false
set_option maxHeartbeats 4000000
set_option maxRecDepth 100000
namespace Go.Proofs.YtmbljbbopgojcaaW.Ai
-- chorus/store.Copy; g0 = slices.Clone[[]int,int]
def rf_sCopy (g0 : Nat) : RFunc :=
 ⟨17, [(.cell 2 (.some 4))], (.seq (.ops [rO 1 (.box (.tmp 0)), rO 2 (.new [(.slice .none 0 0), (.slice .none 0 0), (.slice .none 0 0), (.slice .none 0 0)])]) (.seq (.seq (.ops [rO 4 (.mv (.const (.int .i64 0)))]) (.block 0 (.loop (.seq (.ops [rO 5 (.bin .lss (.tmp 4) (.const (.int .i64 4)))]) (.seq (.cond (.tmp 5) .skip (.exit 0)) (.seq (.block 1 (.seq (.ops [rO 6 (.mv (.tmp 4)), rO 3 (.mv (.tmp 6))]) (.ops [rO 7 (.mv (.tmp 3)), rO 8 (.mv (.tmp 3)), rO 9 (.fieldAddr 0 (.tmp 1)), rO 10 (.idxAddrArr 4 1 (.tmp 9) (.tmp 8)), rO 11 (.load .none (.tmp 10)), rO 12 (.call (.func g0) [(.tmp 11)]), rO 13 (.fieldAddr 0 (.tmp 1)), rO 14 (.idxAddrArr 4 1 (.tmp 13) (.tmp 7)), ⟨.none, (.store 1 (.tmp 14) (.tmp 12)), .none, false, []⟩]))) (.ops [rO 15 (.bin .add (.tmp 4) (.const (.int .i64 1))), rO 4 (.mv (.tmp 15))]))))))) (.seq (.ops [rO 16 (.load (.some 4) (.tmp 1)), ⟨.none, (.store 4 (.tmp 2) (.tmp 16)), .none, false, []⟩]) .ret)))⟩
section
variable (X : Ext) (F : FuncId → Option RFunc) (g : FuncId)
abbrev S_CopyState : Prop := ∀ (lim : Nat) (h : AH) {r0 r1 r2 r3 : Row}, lim ≤ h.length → St h r0 r1 r2 r3 → Ret X F lim g [stV r0 r1 r2 r3] h fun v h' => Pfx h h' ∧ MadeS h h' (fun r0 r1 r2 r3 => stV r0 r1 r2 r3) ⟨r0.xs, r1.xs, r2.xs, r3.xs⟩ v
abbrev S_lCopyState : Prop := S_CopyState X F g
abbrev S_SameState : Prop := ∀ (lim : Nat) (h : AH) {r0 r1 r2 r3 t0 t1 t2 t3 : Row}, St h r0 r1 r2 r3 → St h t0 t1 t2 t3 → Ret X F lim g [stV r0 r1 r2 r3, stV t0 t1 t2 t3] h fun v h' => Pfx h h' ∧ v = .bool (decide (r0.xs = t0.xs ∧ r1.xs = t1.xs ∧ r2.xs = t2.xs ∧ r3.xs = t3.xs))
end
section
variable {X : Ext} {F : FuncId → Option RFunc} {f : FuncId}
end
end Go.Proofs.YtmbljbbopgojcaaW.Ai
