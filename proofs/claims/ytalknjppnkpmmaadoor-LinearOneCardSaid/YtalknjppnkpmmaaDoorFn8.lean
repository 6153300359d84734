/-
 Rings and cursors (chapters 9 to 11), as the small machine runs them: what may be.
-/
import Derived.Test.YtalknjppnkpmmaaDoorFn7
set_option linter.unusedVariables false
set_option linter.unusedSimpArgs false
set_option maxHeartbeats 4000000
set_option maxRecDepth 100000
namespace Go.Proofs.YtalknjppnkpmmaaDoorW.Ai
section
abbrev SlotOk (s : SlotR) : Prop := OpOk s.c s.r s.a ∧ s.c < 2 ∧ 0 ≤ s.t ∧ s.t ≤ 3 ∧ (s.b = 0 ∨ s.b = 1)
def SlotsOk (ss : List SlotR) : Prop := ∀ s ∈ ss, SlotOk s
instance (ss : List SlotR) : Decidable (SlotsOk ss) := inferInstanceAs (Decidable (∀ s ∈ ss, SlotOk s))
section
variable (X : Ext) (F : FuncId → Option RFunc) (g : FuncId)
end
section
variable {X : Ext} {F : FuncId → Option RFunc} {f : FuncId}
end
end
end Go.Proofs.YtalknjppnkpmmaaDoorW.Ai
