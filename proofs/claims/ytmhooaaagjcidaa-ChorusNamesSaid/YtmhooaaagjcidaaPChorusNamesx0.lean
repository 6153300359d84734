-- Told by this session's own turn of the print (wip/tools): not typed by hand
import Derived.Test.YtmhooaaagjcidaaProg
import Derived.Below
import Derived.Deep.Draws
import Derived.Deep.AppendLies
import Derived.Maps.AppendAt
import Derived.OwnWalk
import Derived.Laws.BytesArg
import Derived.Laws.MakeOwn
import Derived.Laws.OwnMore
import Derived.Deep.OwnRows
import Derived.Tactics
import Derived.Lib.ConvBytes
import Derived.Laws.Slices
import Derived.WalkKit
import Derived.KernelRfl
import Derived.RowKit3
import Derived.Deep.LoopGhost
import Derived.Deep.QuietTactic
import Derived.BigQuiet
import Derived.WideLaws
import Derived.Deep.DeepCutAuto
import Derived.Deep.CutBlock
import Derived.Deep.RegionHeld3
import Derived.Laws.Rows
import Derived.Lib.AppendStr
import Derived.ArgAppend
import Derived.Laws.IdiomCopy
import Derived.OrdersHeld
import Derived.Laws.BitsLemmas
import Derived.RowKit
import Derived.Lib.SliceRun
import Derived.Test.YtmhooaaagjcidaaWWords
import Derived.Test.YtmhooaaagjcidaaWLast
import Derived.Test.YtmhooaaagjcidaaWTab
import Derived.Test.YtmhooaaagjcidaaWFour
import Derived.Test.YtmhooaaagjcidaaWQPut
import Derived.Test.YtmhooaaagjcidaaWApart
import Derived.Test.YtmhooaaagjcidaaWArr
import Derived.Test.YtmhooaaagjcidaaWZeros
import Derived.Test.YtmhooaaagjcidaaWFoot
import Derived.Test.YtmhooaaagjcidaaWKept
import Derived.Test.YtmhooaaagjcidaaWShare
import Derived.Test.YtmhooaaagjcidaaWN
import Derived.Test.YtmhooaaagjcidaaWFootNe
import Derived.Test.YtmhooaaagjcidaaWAt
import Derived.Test.YtmhooaaagjcidaaWEqStruct
import Derived.Test.YtmhooaaagjcidaaWRepsOne
import Derived.Test.YtmhooaaagjcidaaWInv
import Derived.Test.YtmhooaaagjcidaaWInvWords
import Derived.Test.YtmhooaaagjcidaaWGuard
import Derived.Test.YtmhooaaagjcidaaWNEv
import Derived.Test.YtmhooaaagjcidaaWMore
namespace Go.Proofs.Ytmhooaaagjcidaa.PChorusNames
open Go.RowKit Go.Proofs.YtmhooaaagjcidaaW.PrintWords Go.Proofs.YtmhooaaagjcidaaW.PrintLast Go.Proofs.YtmhooaaagjcidaaW.PrintMore
attribute [local go_sem] max2_int min2_int max_two min_two max_three min_three max_four min_four   -- for this text's walks alone
set_option linter.unusedVariables false
set_option linter.unusedSimpArgs false



def errW : Option Int → Value
  | none => .nilIface
  | some c => .iface 0 (.int .i64 c)
theorem errW_none : errW none = .nilIface := rfl
theorem errW_some (c : Int) : errW (some c) = .iface 0 (.int .i64 c) := rfl

-- the values' own types

end Go.Proofs.Ytmhooaaagjcidaa.PChorusNames
