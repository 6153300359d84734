/-
 Rows apart, folded apart.
-/
import Derived.Test.YtalknjppnkpmmaaDoorFnE
set_option linter.unusedVariables false
set_option linter.unusedSimpArgs false
set_option maxHeartbeats 4000000
set_option maxRecDepth 100000
namespace Go.Proofs.YtalknjppnkpmmaaDoorW.Ai
section
theorem OpsOk.filter {os : List OpR} (h : OpsOk os) (p : OpR → Bool) : OpsOk (os.filter p) := fun o ho => h o (List.mem_filter.1 ho).1
end
end Go.Proofs.YtalknjppnkpmmaaDoorW.Ai
