/- ChorusNames: every error, limit and kind of the program's package api has the document's number: the call returns true; there is no input. -/
import Derived.Test.YtmhooaaagjcidaaPChorusNamesx1
namespace Go.Proofs.Ytmhooaaagjcidaa.Pure
open Go.RowKit Go.Proofs.Ytmhooaaagjcidaa.PChorusNames Go.Proofs.YtmhooaaagjcidaaW.PrintWords Go.Proofs.YtmhooaaagjcidaaW.PrintLast

theorem ChorusNames : choruslaw0_ChorusNames.Pure := by
  unfold choruslaw0_ChorusNames.Pure
  rfl

end Go.Proofs.Ytmhooaaagjcidaa.Pure
