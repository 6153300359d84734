/-
 Queues (chapter 5), as the small machine runs them: what may be, in, out, how many.
-/
import Derived.Test.YtkdjbkfcfbignaaFn25
import Derived.Test.YtkdjbkfcfbignaaMf
set_option linter.unusedVariables false
set_option linter.unusedSimpArgs false
set_option maxHeartbeats 4000000
set_option maxRecDepth 100000
namespace Go.Proofs.YtkdjbkfcfbignaaW.Ai
def QueueOk (s : S4) : Prop := RowsOk 4 s
instance (s : S4) : Decidable (QueueOk s) := inferInstanceAs (Decidable (RowsOk 4 s))
section
variable (X : Ext) (F : FuncId → Option RFunc) (g : FuncId)
abbrev S_CopyP : Prop := ∀ (lim : Nat) (h : AH) {r0 r1 r2 r3 : Row}, lim ≤ h.length → St h r0 r1 r2 r3 → Ret X F lim g [stV r0 r1 r2 r3] h fun v h' => Pfx h h' ∧ MadeP h h' (fun r0 r1 r2 r3 => stV r0 r1 r2 r3) ⟨r0.xs, r1.xs, r2.xs, r3.xs⟩ v
end
theorem ints_snoc (xs : List Int) (x : Int) : ints xs ++ [Value.int .i64 x] = ints (xs ++ [x]) := by simp [ints]
section
variable {X : Ext} {F : FuncId → Option RFunc} {f : FuncId}
end
end Go.Proofs.YtkdjbkfcfbignaaW.Ai
