/-
 Tables by the document (chapters 4, 6), as the small machine runs them: rows.
-/
import Derived.Test.YtkdjbkfcfbignaaFn43
set_option linter.unusedVariables false
set_option linter.unusedSimpArgs false
set_option maxHeartbeats 4000000
set_option maxRecDepth 100000
namespace Go.Proofs.YtkdjbkfcfbignaaW.Ai
section
variable (X : Ext) (F : FuncId → Option RFunc) (g : FuncId)
end
section
variable {X : Ext} {F : FuncId → Option RFunc} {f : FuncId}
structure KS where
 i : Nat
 h : AH
 b : Option Addr
 n : Nat
end
end Go.Proofs.YtkdjbkfcfbignaaW.Ai
