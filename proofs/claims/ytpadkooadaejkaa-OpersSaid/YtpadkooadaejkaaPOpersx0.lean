-- Told by this session's own turn of the print (wip/tools): not typed by hand
import Derived.Test.YtpadkooadaejkaaProg
import Derived.Below
import Derived.Deep.Draws
import Derived.Deep.AppendLies
import Derived.Maps.AppendAt
import Derived.OwnWalk
import Derived.Laws.BytesArg
import Derived.Laws.MakeOwn
import Derived.Laws.OwnMore
import Derived.Deep.OwnRows
import Derived.Tactics
import Derived.Lib.ConvBytes
import Derived.Laws.Slices
import Derived.WalkKit
import Derived.KernelRfl
import Derived.RowKit3
import Derived.Deep.LoopGhost
import Derived.Deep.QuietTactic
import Derived.BigQuiet
import Derived.WideLaws
import Derived.Deep.DeepCutAuto
import Derived.Deep.CutBlock
import Derived.Deep.RegionHeld3
import Derived.Laws.Rows
import Derived.Lib.AppendStr
import Derived.ArgAppend
import Derived.Laws.IdiomCopy
import Derived.OrdersHeld
import Derived.Laws.BitsLemmas
import Derived.RowKit
import Derived.Lib.SliceRun
import Derived.Test.YtpadkooadaejkaaWWords
import Derived.Test.YtpadkooadaejkaaWLast
import Derived.Test.YtpadkooadaejkaaWTab
import Derived.Test.YtpadkooadaejkaaWFour
import Derived.Test.YtpadkooadaejkaaWQPut
import Derived.Test.YtpadkooadaejkaaWApart
import Derived.Test.YtpadkooadaejkaaWArr
import Derived.Test.YtpadkooadaejkaaWZeros
import Derived.Test.YtpadkooadaejkaaWFoot
import Derived.Test.YtpadkooadaejkaaWKept
import Derived.Test.YtpadkooadaejkaaWShare
import Derived.Test.YtpadkooadaejkaaWN
import Derived.Test.YtpadkooadaejkaaWFootNe
import Derived.Test.YtpadkooadaejkaaWAt
import Derived.Test.YtpadkooadaejkaaWEqStruct
import Derived.Test.YtpadkooadaejkaaWRepsOne
import Derived.Test.YtpadkooadaejkaaWInv
import Derived.Test.YtpadkooadaejkaaWInvWords
import Derived.Test.YtpadkooadaejkaaWGuard
import Derived.Test.YtpadkooadaejkaaWNEv
import Derived.Test.YtpadkooadaejkaaWMore
namespace Go.Proofs.Ytpadkooadaejkaa.POpers
open Go.RowKit Go.Proofs.YtpadkooadaejkaaW.PrintWords Go.Proofs.YtpadkooadaejkaaW.PrintLast Go.Proofs.YtpadkooadaejkaaW.PrintMore
attribute [local go_sem] max2_int min2_int max_two min_two max_three min_three max_four min_four   -- for this text's walks alone
set_option linter.unusedVariables false
set_option linter.unusedSimpArgs false



def errW : Option Int → Value
  | none => .nilIface
  | some c => .iface 0 (.int .i64 c)
theorem errW_none : errW none = .nilIface := rfl
theorem errW_some (c : Int) : errW (some c) = .iface 0 (.int .i64 c) := rfl

theorem info5 : (Try.prog.info? 5).map (fun i => (i.zero, i.size, i.bytes)) = some (some (.int .u8 0), 1, 1) := by kernel_rfl
-- the values' own types

end Go.Proofs.Ytpadkooadaejkaa.POpers
