/-
 Histories (chapter 24), plain: which are linear, told by a search.
-/
import Derived.Test.YtalknjppnkpmmaaDoorFn89
set_option linter.unusedVariables false
set_option linter.unusedSimpArgs false
set_option maxHeartbeats 1000000
set_option maxRecDepth 100000
namespace Go.Proofs.YtalknjppnkpmmaaDoorW.Ai
end Go.Proofs.YtalknjppnkpmmaaDoorW.Ai
