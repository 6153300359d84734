-- Told by this session's own turn of the print (wip/tools): not typed by hand
import Derived.Test.YtkdjbkfcfbignaaProg
import Derived.Below
import Derived.Deep.Draws
import Derived.Deep.AppendLies
import Derived.Maps.AppendAt
import Derived.OwnWalk
import Derived.Laws.BytesArg
import Derived.Laws.MakeOwn
import Derived.Laws.OwnMore
import Derived.Deep.OwnRows
import Derived.Tactics
import Derived.Lib.ConvBytes
import Derived.Laws.Slices
import Derived.WalkKit
import Derived.KernelRfl
import Derived.RowKit3
import Derived.Deep.LoopGhost
import Derived.Deep.QuietTactic
import Derived.BigQuiet
import Derived.WideLaws
import Derived.Deep.DeepCutAuto
import Derived.Deep.CutBlock
import Derived.Deep.RegionHeld3
import Derived.Laws.Rows
import Derived.Lib.AppendStr
import Derived.ArgAppend
import Derived.Laws.IdiomCopy
import Derived.OrdersHeld
import Derived.Laws.BitsLemmas
import Derived.RowKit
import Derived.Lib.SliceRun
import Derived.Test.YtkdjbkfcfbignaaWWords
import Derived.Test.YtkdjbkfcfbignaaWLast
import Derived.Test.YtkdjbkfcfbignaaWTab
import Derived.Test.YtkdjbkfcfbignaaWFour
import Derived.Test.YtkdjbkfcfbignaaWQPut
import Derived.Test.YtkdjbkfcfbignaaWApart
import Derived.Test.YtkdjbkfcfbignaaWArr
import Derived.Test.YtkdjbkfcfbignaaWZeros
import Derived.Test.YtkdjbkfcfbignaaWFoot
import Derived.Test.YtkdjbkfcfbignaaWKept
import Derived.Test.YtkdjbkfcfbignaaWShare
import Derived.Test.YtkdjbkfcfbignaaWN
import Derived.Test.YtkdjbkfcfbignaaWFootNe
import Derived.Test.YtkdjbkfcfbignaaWAt
import Derived.Test.YtkdjbkfcfbignaaWEqStruct
import Derived.Test.YtkdjbkfcfbignaaWRepsOne
import Derived.Test.YtkdjbkfcfbignaaWInv
import Derived.Test.YtkdjbkfcfbignaaWInvWords
import Derived.Test.YtkdjbkfcfbignaaWGuard
import Derived.Test.YtkdjbkfcfbignaaWNEv
import Derived.Test.YtkdjbkfcfbignaaWMore
namespace Go.Proofs.Ytkdjbkfcfbignaa.PRoutes
open Go.RowKit Go.Proofs.YtkdjbkfcfbignaaW.PrintWords Go.Proofs.YtkdjbkfcfbignaaW.PrintLast Go.Proofs.YtkdjbkfcfbignaaW.PrintMore
attribute [local go_sem] max2_int min2_int max_two min_two max_three min_three max_four min_four   -- for this text's walks alone
set_option linter.unusedVariables false
set_option linter.unusedSimpArgs false



def errW : Option Int → Value
  | none => .nilIface
  | some c => .iface 0 (.int .i64 c)
theorem errW_none : errW none = .nilIface := rfl
theorem errW_some (c : Int) : errW (some c) = .iface 0 (.int .i64 c) := rfl

theorem info3 : (Try.prog.info? 3).map (fun i => (i.zero, i.size, i.bytes)) = some (some (.int .i64 0), 1, 8) := by kernel_rfl
-- the values' own types

end Go.Proofs.Ytkdjbkfcfbignaa.PRoutes
