/-
  DERIVED. GIVEN WITH THE SEED: THE CARDS: each row of YtalknjppnkpmmaaDoorRows.lean that lists a variable, with what it lists TIED to the program's text (the seventh form; the later family's looks); each row that meets fmt, with fmt's text TOLD by the authors' own Lean function (tested against real Go, not proved from fmt's source: count such statements apart). THE CARD IS WHAT COUNTS. Prove the row's statement (the work); the ties are given (YtalknjppnkpmmaaDoorTie.lean); close each card by the builder's one call (the guide's Derived/Test/ToyasCard.lean, 'card_holds'). Laid BY PROGRAM, IN A SANDBOX (cutbox-door.mjs). By AI agents, Wed Nov 11 2026. No macro, syntax, notation, axiom, sorry.
-/
import Derived.Test.YtalknjppnkpmmaaDoorRows
import GoSem.ClaimSeven
namespace Go.Proofs.YtalknjppnkpmmaaDoor
namespace Rows

/-- THE TIED CARD OF 'choruslaw24.Linears'. -/
def linearsCard : Claim7 := { stood := { row := linearsRow, standIns := [], harness := (true, "1e1cb0023b28ca99b64d39319f4f92cddf77da824aad8372afdac480ddd0923b"), looks := false }, kinds := [], alts := [], laidByText := true, laidKinds := [.data, .data, .data], laidTests := true, laidLooks := .later }
def LinearsCardSaid : Prop := Claim7.holds Tryd.pinned (.plain (OpenSpec.ofChange linearsSpec)) linearsCard

/-- THE TIED CARD OF 'choruslaw24.LinearOne'. -/
def linearOneCard : Claim7 := { stood := { row := linearOneRow, standIns := [], harness := (true, "1e1cb0023b28ca99b64d39319f4f92cddf77da824aad8372afdac480ddd0923b"), looks := false }, kinds := [], alts := [], laidByText := true, laidKinds := [.data, .data, .data], laidTests := true, laidLooks := .later }
def LinearOneCardSaid : Prop := Claim7.holds Tryd.pinned (.plain (OpenSpec.ofChange linearOneSpec)) linearOneCard

/-- THE TIED CARD OF 'choruslaw24.LinearTable'. -/
def linearTableCard : Claim7 := { stood := { row := linearTableRow, standIns := [], harness := (true, "1e1cb0023b28ca99b64d39319f4f92cddf77da824aad8372afdac480ddd0923b"), looks := false }, kinds := [], alts := [], laidByText := true, laidKinds := [.data, .data, .data], laidTests := true, laidLooks := .later }
def LinearTableCardSaid : Prop := Claim7.holds Tryd.pinned (.plain (OpenSpec.ofChange linearTableSpec)) linearTableCard

/-- THE TIED CARD OF 'choruslaw24.LinearForms'. -/
def linearFormsCard : Claim7 := { stood := { row := linearFormsRow, standIns := [], harness := (true, "1e1cb0023b28ca99b64d39319f4f92cddf77da824aad8372afdac480ddd0923b"), looks := false }, kinds := [], alts := [], laidByText := true, laidKinds := [.data, .data, .data], laidTests := true, laidLooks := .later }
def LinearFormsCardSaid : Prop := Claim7.holds Tryd.pinned (.plain (OpenSpec.ofChange linearFormsSpec)) linearFormsCard

/-- THE TIED CARD OF 'choruslaw24.LinearPrefix'. -/
def linearPrefixCard : Claim7 := { stood := { row := linearPrefixRow, standIns := [], harness := (true, "1e1cb0023b28ca99b64d39319f4f92cddf77da824aad8372afdac480ddd0923b"), looks := false }, kinds := [], alts := [], laidByText := true, laidKinds := [.data, .data, .data], laidTests := true, laidLooks := .later }
def LinearPrefixCardSaid : Prop := Claim7.holds Tryd.pinned (.plain (OpenSpec.ofChange linearPrefixSpec)) linearPrefixCard

/-- THE TIED CARD OF 'choruslaw24.LinearLater'. -/
def linearLaterCard : Claim7 := { stood := { row := linearLaterRow, standIns := [], harness := (true, "1e1cb0023b28ca99b64d39319f4f92cddf77da824aad8372afdac480ddd0923b"), looks := false }, kinds := [], alts := [], laidByText := true, laidKinds := [.data, .data, .data], laidTests := true, laidLooks := .later }
def LinearLaterCardSaid : Prop := Claim7.holds Tryd.pinned (.plain (OpenSpec.ofChange linearLaterSpec)) linearLaterCard

/-- THE TIED CARD OF 'choruslaw24.LinearRows'. -/
def linearRowsCard : Claim7 := { stood := { row := linearRowsRow, standIns := [], harness := (true, "1e1cb0023b28ca99b64d39319f4f92cddf77da824aad8372afdac480ddd0923b"), looks := false }, kinds := [], alts := [], laidByText := true, laidKinds := [.data, .data, .data], laidTests := true, laidLooks := .later }
def LinearRowsCardSaid : Prop := Claim7.holds Tryd.pinned (.plain (OpenSpec.ofChange linearRowsSpec)) linearRowsCard

/-- THE SECOND FORM's CARD OF 'choruslaw24.Linears'. -/
def linearsUptoCard : Claim7 := { stood := { row := linearsUptoRow, standIns := [], harness := (true, "1e1cb0023b28ca99b64d39319f4f92cddf77da824aad8372afdac480ddd0923b"), looks := false }, kinds := [], alts := [], laidByText := true, laidKinds := [.data, .data, .data], laidTests := true, laidLooks := .later }
def LinearsUptoCardSaid : Prop := Claim7.holds Tryd.pinned (.plain (OpenSpec.upto linearsSpec)) linearsUptoCard

/-- THE SECOND FORM's CARD OF 'choruslaw24.LinearOne'. -/
def linearOneUptoCard : Claim7 := { stood := { row := linearOneUptoRow, standIns := [], harness := (true, "1e1cb0023b28ca99b64d39319f4f92cddf77da824aad8372afdac480ddd0923b"), looks := false }, kinds := [], alts := [], laidByText := true, laidKinds := [.data, .data, .data], laidTests := true, laidLooks := .later }
def LinearOneUptoCardSaid : Prop := Claim7.holds Tryd.pinned (.plain (OpenSpec.upto linearOneSpec)) linearOneUptoCard

/-- THE SECOND FORM's CARD OF 'choruslaw24.LinearTable'. -/
def linearTableUptoCard : Claim7 := { stood := { row := linearTableUptoRow, standIns := [], harness := (true, "1e1cb0023b28ca99b64d39319f4f92cddf77da824aad8372afdac480ddd0923b"), looks := false }, kinds := [], alts := [], laidByText := true, laidKinds := [.data, .data, .data], laidTests := true, laidLooks := .later }
def LinearTableUptoCardSaid : Prop := Claim7.holds Tryd.pinned (.plain (OpenSpec.upto linearTableSpec)) linearTableUptoCard

/-- THE SECOND FORM's CARD OF 'choruslaw24.LinearForms'. -/
def linearFormsUptoCard : Claim7 := { stood := { row := linearFormsUptoRow, standIns := [], harness := (true, "1e1cb0023b28ca99b64d39319f4f92cddf77da824aad8372afdac480ddd0923b"), looks := false }, kinds := [], alts := [], laidByText := true, laidKinds := [.data, .data, .data], laidTests := true, laidLooks := .later }
def LinearFormsUptoCardSaid : Prop := Claim7.holds Tryd.pinned (.plain (OpenSpec.upto linearFormsSpec)) linearFormsUptoCard

/-- THE SECOND FORM's CARD OF 'choruslaw24.LinearPrefix'. -/
def linearPrefixUptoCard : Claim7 := { stood := { row := linearPrefixUptoRow, standIns := [], harness := (true, "1e1cb0023b28ca99b64d39319f4f92cddf77da824aad8372afdac480ddd0923b"), looks := false }, kinds := [], alts := [], laidByText := true, laidKinds := [.data, .data, .data], laidTests := true, laidLooks := .later }
def LinearPrefixUptoCardSaid : Prop := Claim7.holds Tryd.pinned (.plain (OpenSpec.upto linearPrefixSpec)) linearPrefixUptoCard

/-- THE SECOND FORM's CARD OF 'choruslaw24.LinearLater'. -/
def linearLaterUptoCard : Claim7 := { stood := { row := linearLaterUptoRow, standIns := [], harness := (true, "1e1cb0023b28ca99b64d39319f4f92cddf77da824aad8372afdac480ddd0923b"), looks := false }, kinds := [], alts := [], laidByText := true, laidKinds := [.data, .data, .data], laidTests := true, laidLooks := .later }
def LinearLaterUptoCardSaid : Prop := Claim7.holds Tryd.pinned (.plain (OpenSpec.upto linearLaterSpec)) linearLaterUptoCard

/-- THE SECOND FORM's CARD OF 'choruslaw24.LinearRows'. -/
def linearRowsUptoCard : Claim7 := { stood := { row := linearRowsUptoRow, standIns := [], harness := (true, "1e1cb0023b28ca99b64d39319f4f92cddf77da824aad8372afdac480ddd0923b"), looks := false }, kinds := [], alts := [], laidByText := true, laidKinds := [.data, .data, .data], laidTests := true, laidLooks := .later }
def LinearRowsUptoCardSaid : Prop := Claim7.holds Tryd.pinned (.plain (OpenSpec.upto linearRowsSpec)) linearRowsUptoCard
end Rows
end Go.Proofs.YtalknjppnkpmmaaDoor
