-- Told by this session's own turn of the print (wip/tools): not typed by hand
import Derived.Test.YtjnpbeekdljohaaProg
import Derived.Below
import Derived.Deep.Draws
import Derived.Deep.AppendLies
import Derived.Maps.AppendAt
import Derived.OwnWalk
import Derived.Laws.BytesArg
import Derived.Laws.MakeOwn
import Derived.Laws.OwnMore
import Derived.Deep.OwnRows
import Derived.Tactics
import Derived.Lib.ConvBytes
import Derived.Laws.Slices
import Derived.WalkKit
import Derived.KernelRfl
import Derived.RowKit3
import Derived.Deep.LoopGhost
import Derived.Deep.QuietTactic
import Derived.BigQuiet
import Derived.WideLaws
import Derived.Deep.DeepCutAuto
import Derived.Deep.CutBlock
import Derived.Deep.RegionHeld3
import Derived.Laws.Rows
import Derived.Lib.AppendStr
import Derived.ArgAppend
import Derived.Laws.IdiomCopy
import Derived.OrdersHeld
import Derived.Laws.BitsLemmas
import Derived.RowKit
import Derived.Lib.SliceRun
import Derived.Test.YtjnpbeekdljohaaWWords
import Derived.Test.YtjnpbeekdljohaaWLast
import Derived.Test.YtjnpbeekdljohaaWTab
import Derived.Test.YtjnpbeekdljohaaWFour
import Derived.Test.YtjnpbeekdljohaaWQPut
import Derived.Test.YtjnpbeekdljohaaWApart
import Derived.Test.YtjnpbeekdljohaaWArr
import Derived.Test.YtjnpbeekdljohaaWZeros
import Derived.Test.YtjnpbeekdljohaaWFoot
import Derived.Test.YtjnpbeekdljohaaWKept
import Derived.Test.YtjnpbeekdljohaaWShare
import Derived.Test.YtjnpbeekdljohaaWN
import Derived.Test.YtjnpbeekdljohaaWFootNe
import Derived.Test.YtjnpbeekdljohaaWAt
import Derived.Test.YtjnpbeekdljohaaWEqStruct
import Derived.Test.YtjnpbeekdljohaaWRepsOne
import Derived.Test.YtjnpbeekdljohaaWInv
import Derived.Test.YtjnpbeekdljohaaWInvWords
import Derived.Test.YtjnpbeekdljohaaWGuard
import Derived.Test.YtjnpbeekdljohaaWNEv
import Derived.Test.YtjnpbeekdljohaaWMore
namespace Go.Proofs.Ytjnpbeekdljohaa.PConfigSpread
open Go.RowKit Go.Proofs.YtjnpbeekdljohaaW.PrintWords Go.Proofs.YtjnpbeekdljohaaW.PrintLast Go.Proofs.YtjnpbeekdljohaaW.PrintMore
attribute [local go_sem] max2_int min2_int max_two min_two max_three min_three max_four min_four   -- for this text's walks alone
set_option linter.unusedVariables false
set_option linter.unusedSimpArgs false



def errW : Option Int → Value
  | none => .nilIface
  | some c => .iface 0 (.int .i64 c)
theorem errW_none : errW none = .nilIface := rfl
theorem errW_some (c : Int) : errW (some c) = .iface 0 (.int .i64 c) := rfl

-- the values' own types

end Go.Proofs.Ytjnpbeekdljohaa.PConfigSpread
