/-
 Queues (chapter 5), as the small machine runs them: what an operation does.
-/
import Derived.Test.YtkdjbkfcfbignaaFn30
set_option linter.unusedVariables false
set_option linter.unusedSimpArgs false
set_option maxHeartbeats 4000000
set_option maxRecDepth 100000
namespace Go.Proofs.YtkdjbkfcfbignaaW.Ai
def QueueM (e : Int) (s : S4) (c r a : Int) : S4 × Int × Int :=
 if QueueOk s ∧ OpOk c r a then
  if c = 0 then (if (s.get r).length ≥ 4 then (s, 0, 0) else (s.put r (s.get r ++ [a]), 1, 0))
  else if c = 1 then (s.put r (s.get r).tail, firstL (s.get r), 0)
  else if c = 2 then (s, ((s.get r).length : Int), 0) else (s, ((allL s).length : Int), 0)
 else (S4.none, 0, e)
section
variable (X : Ext) (F : FuncId → Option RFunc) (g : FuncId)
end
section
variable {X : Ext} {F : FuncId → Option RFunc} {f : FuncId}
end
end Go.Proofs.YtkdjbkfcfbignaaW.Ai
