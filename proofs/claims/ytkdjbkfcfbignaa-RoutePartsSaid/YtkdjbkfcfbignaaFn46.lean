/-
 What an operation on a table comes to.
-/
import Derived.Test.YtkdjbkfcfbignaaFn45
import Derived.Test.YtkdjbkfcfbignaaFn26
set_option linter.unusedVariables false
set_option linter.unusedSimpArgs false
set_option maxHeartbeats 4000000
set_option maxRecDepth 100000
namespace Go.Proofs.YtkdjbkfcfbignaaW.Ai
theorem TabRow.nil : TabRow [] := fun i h => absurd h (Nat.not_lt_zero i)
end Go.Proofs.YtkdjbkfcfbignaaW.Ai
