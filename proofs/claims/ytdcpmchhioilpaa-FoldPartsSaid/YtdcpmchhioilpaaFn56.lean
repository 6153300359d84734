/-
 Rows apart, folded apart.
-/
import Derived.Test.YtdcpmchhioilpaaFn55
set_option linter.unusedVariables false
set_option linter.unusedSimpArgs false
set_option maxHeartbeats 4000000
set_option maxRecDepth 100000
namespace Go.Proofs.YtdcpmchhioilpaaW.Ai
theorem OpsOk.filter {os : List OpR} (h : OpsOk os) (p : OpR → Bool) : OpsOk (os.filter p) := fun o ho => h o (List.mem_filter.1 ho).1
theorem FoldR_rng (ob : Int) (s : S4) (os : List OpR) : 0 ≤ (FoldR ob s os).2.2 ∧ (FoldR ob s os).2.2 ≤ 1200 := by
 unfold FoldR
 split <;> simp
end Go.Proofs.YtdcpmchhioilpaaW.Ai
