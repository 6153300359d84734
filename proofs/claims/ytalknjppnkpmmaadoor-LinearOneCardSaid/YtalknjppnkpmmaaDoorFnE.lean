/-
 Operations one behind the other (chapter 12), as the small machine runs them.
-/
import Derived.Test.YtalknjppnkpmmaaDoorFnD
import Derived.Test.YtalknjppnkpmmaaDoorFn44
set_option linter.unusedVariables false
set_option linter.unusedSimpArgs false
set_option maxHeartbeats 4000000
set_option maxRecDepth 100000
namespace Go.Proofs.YtalknjppnkpmmaaDoorW.Ai
section
def OpsOk (os : List OpR) : Prop := ∀ o ∈ os, OpOk o.c o.r o.a
instance (os : List OpR) : Decidable (OpsOk os) := inferInstanceAs (Decidable (∀ o ∈ os, OpOk o.c o.r o.a))
theorem ObjM_fine {ob : Int} {s : S4} {c r a : Int} (h : ObMay ob s) (ho : OpOk c r a) : ∃ s' x, (∀ e, ObjM e ob s c r a = (s', x, 0)) ∧ ObMay ob s' := by
 by_cases hc : c = 3
 ·subst hc
  exact ⟨s, _, fun e => ObjM_scan h ho, h⟩
 ·have ha : 0 ≤ a ∧ a ≤ 255 := by unfold OpOk at ho; omega
  exact ⟨_, _, fun e => ObjM_row h ho hc, ObMay_put h (rowM_may (RowMay_get h) ha)⟩
section
variable (X : Ext) (F : FuncId → Option RFunc) (g : FuncId)
end
section
variable {X : Ext} {F : FuncId → Option RFunc} {lim : Nat} {L : Al} {h0 h : AH} {K : Value → AH → Prop} {l : List Item}
end
structure FL where
 i : Nat
 h : AH
 w0 : Row
 w1 : Row
 w2 : Row
 w3 : Row
 a : Option Addr
section
variable {X : Ext} {F : FuncId → Option RFunc} {f : FuncId}
end
end
section
section
variable {X : Ext} {F : FuncId → Option RFunc} {f : FuncId}
end
end
section
section
variable {X : Ext} {F : FuncId → Option RFunc}
end
end
end Go.Proofs.YtalknjppnkpmmaaDoorW.Ai
