/-
  No cell of these rows narrows 'for every input' (looked for: loops, veiled, ifaces, maps, wideKeys, modest, calm, conditions, laid).
  DERIVED. THE GIVEN ROWS OF THIS SEAT. 4 by the template 'for every input the law returns true; each argument reads behind the call as it read before'; 0 by the template 'total and deterministic' (their statements: YtkdjbkfcfbignaaTotals.lean).
  GIVEN WITH THE SEED: the statements are not yours to turn. If you find one false, say at which input.
  Laid BY PROGRAM, IN A SANDBOX (cutbox-rows.mjs): the forced cells as the released guide's own fill.sh prints them over the translation e68c0c081639ddf8… (all of the seat's roots in one cut). By AI agents, Wed Nov 11 2026. No macro, syntax, notation, axiom, sorry.
-/
import Derived.Test.YtkdjbkfcfbignaaChecked
import GoSem.Claim
import GoSem.ClaimJoined
import GoSem.ClaimMapViews
import Derived.JoinedTies
import Derived.KernelRfl
namespace Go.Proofs.Ytkdjbkfcfbignaa
/- THE CELL 'sum', in the pinned program and in every row, IS THE sha256 OF THE DUMP (.gsa) THAT YtkdjbkfcfbignaaProg.lean LOADS. Nothing in Lean hashes anything: it is a label: what it is worth is what the hold of that sum in a sandbox is worth. -/
noncomputable def Try.pinned : Pinned := { name := "ytkdjbkfcfbignaa", sum := "e68c0c081639ddf8b806fe1573f76aae222f789f5df2613c1c629cad67009698", checked := Try.checked }
namespace Rows
def none {H : Type} : Left H := { results := [], args := [] }

/-- 'choruslaw7.Routes': WHATEVER THE INPUT: true; the input reads as it did. -/
def routesSpec : ChangeSpec := { name := "routes", fn := fun _ => fun
  | [d1, d2, d3, d4] => { results := [.lit (.bool true)], args := [d1, d2, d3, d4] }
  | _ => none }
def routesRow : OpenClaim := { program := "ytkdjbkfcfbignaa", sum := "e68c0c081639ddf8b806fe1573f76aae222f789f5df2613c1c629cad67009698", func := "chorus/choruslaw7.Routes", spec := "routes", apart := false }
def RoutesSaid : Prop := routesRow.holds Try.pinned (OpenSpec.ofChange routesSpec)

/-- ITS FALSE NEIGHBOUR: 'it returns false'. Refute it at one input. -/
def routesWrong : ChangeSpec := { name := "routes", fn := fun _ => fun
  | [d1, d2, d3, d4] => { results := [.lit (.bool false)], args := [d1, d2, d3, d4] }
  | _ => none }
def RoutesWrongFalsely : Prop := routesRow.holds Try.pinned (OpenSpec.ofChange routesWrong)

/-- 'choruslaw7.RouteForms': WHATEVER THE INPUT: true; the input reads as it did. -/
def routeFormsSpec : ChangeSpec := { name := "routeForms", fn := fun _ => fun
  | [d1, d2] => { results := [.lit (.bool true)], args := [d1, d2] }
  | _ => none }
def routeFormsRow : OpenClaim := { program := "ytkdjbkfcfbignaa", sum := "e68c0c081639ddf8b806fe1573f76aae222f789f5df2613c1c629cad67009698", func := "chorus/choruslaw7.RouteForms", spec := "routeForms", apart := false }
def RouteFormsSaid : Prop := routeFormsRow.holds Try.pinned (OpenSpec.ofChange routeFormsSpec)

/-- ITS FALSE NEIGHBOUR: 'it returns false'. Refute it at one input. -/
def routeFormsWrong : ChangeSpec := { name := "routeForms", fn := fun _ => fun
  | [d1, d2] => { results := [.lit (.bool false)], args := [d1, d2] }
  | _ => none }
def RouteFormsWrongFalsely : Prop := routeFormsRow.holds Try.pinned (OpenSpec.ofChange routeFormsWrong)

/-- 'choruslaw7.RouteParts': WHATEVER THE INPUT: true; the input reads as it did. -/
def routePartsSpec : ChangeSpec := { name := "routeParts", fn := fun _ => fun
  | [d1, d2] => { results := [.lit (.bool true)], args := [d1, d2] }
  | _ => none }
def routePartsRow : OpenClaim := { program := "ytkdjbkfcfbignaa", sum := "e68c0c081639ddf8b806fe1573f76aae222f789f5df2613c1c629cad67009698", func := "chorus/choruslaw7.RouteParts", spec := "routeParts", apart := false }
def RoutePartsSaid : Prop := routePartsRow.holds Try.pinned (OpenSpec.ofChange routePartsSpec)

/-- ITS FALSE NEIGHBOUR: 'it returns false'. Refute it at one input. -/
def routePartsWrong : ChangeSpec := { name := "routeParts", fn := fun _ => fun
  | [d1, d2] => { results := [.lit (.bool false)], args := [d1, d2] }
  | _ => none }
def RoutePartsWrongFalsely : Prop := routePartsRow.holds Try.pinned (OpenSpec.ofChange routePartsWrong)

/-- 'choruslaw7.RouteAlone': WHATEVER THE INPUT: true; the input reads as it did. -/
def routeAloneSpec : ChangeSpec := { name := "routeAlone", fn := fun _ => fun
  | [d1, d2, d3, d4] => { results := [.lit (.bool true)], args := [d1, d2, d3, d4] }
  | _ => none }
def routeAloneRow : OpenClaim := { program := "ytkdjbkfcfbignaa", sum := "e68c0c081639ddf8b806fe1573f76aae222f789f5df2613c1c629cad67009698", func := "chorus/choruslaw7.RouteAlone", spec := "routeAlone", apart := false }
def RouteAloneSaid : Prop := routeAloneRow.holds Try.pinned (OpenSpec.ofChange routeAloneSpec)

/-- ITS FALSE NEIGHBOUR: 'it returns false'. Refute it at one input. -/
def routeAloneWrong : ChangeSpec := { name := "routeAlone", fn := fun _ => fun
  | [d1, d2, d3, d4] => { results := [.lit (.bool false)], args := [d1, d2, d3, d4] }
  | _ => none }
def RouteAloneWrongFalsely : Prop := routeAloneRow.holds Try.pinned (OpenSpec.ofChange routeAloneWrong)

/- THE SECOND FORM. 'bulk': how many values and letters a reading holds, each counted each time it is reached (what is shared counts as often as it is met; a slice's spare places count too). A statement '..UptoSaid' is the law's where the arguments, and the package variables that the reading takes, are together of bulk at most 1048576: NARROWER than '..Said'. Prove '..Said' where nothing that the law and all that it calls make is longer than what came in: it says more and counts as full. Else prove '..UptoSaid'. A law counts once. -/
mutual
def uptoBulk {H : Type} : DataW H → Nat
  | .lit (.string bytes) => bytes.length + 1
  | .lit _ => 1
  | .nil => 1
  | .ptr d => uptoBulk d + 1
  | .slice elems spare => uptoBulkAll elems + uptoBulkAll spare + 1
  | .agg parts => uptoBulkAll parts + 1
  | .iface _ d => uptoBulk d + 1
  | .map entries => uptoBulkEntries entries + 1
  | .held _ => 1
def uptoBulkAll {H : Type} : List (DataW H) → Nat
  | [] => 0
  | d :: r => uptoBulk d + uptoBulkAll r
def uptoBulkEntries {H : Type} : List (Lit × DataW H) → Nat
  | [] => 0
  | x :: r => uptoBulkEntry x + uptoBulkEntries r
def uptoBulkEntry {H : Type} : Lit × DataW H → Nat
  | (.string bytes, d) => bytes.length + uptoBulk d + 1
  | (_, d) => uptoBulk d + 1
 end
def uptoSmall : (H : Type) → List (DataW H) → Bool := fun _ ds => decide (uptoBulkAll ds ≤ 1048576)
def OpenSpec.upto (s : _root_.Go.ChangeSpec) : _root_.Go.OpenSpec := { _root_.Go.OpenSpec.ofChange s with cond := some uptoSmall }

/-- 'choruslaw7.Routes', WHERE WHAT IT READS IS OF BULK AT MOST 1048576: true; the input reads as it did. -/
def routesUptoRow : OpenClaim := { program := "ytkdjbkfcfbignaa", sum := "e68c0c081639ddf8b806fe1573f76aae222f789f5df2613c1c629cad67009698", func := "chorus/choruslaw7.Routes", spec := "routes", apart := false, narrowed := true }
def RoutesUptoSaid : Prop := routesUptoRow.holds Try.pinned (OpenSpec.upto routesSpec)

/-- 'choruslaw7.RouteForms', WHERE WHAT IT READS IS OF BULK AT MOST 1048576: true; the input reads as it did. -/
def routeFormsUptoRow : OpenClaim := { program := "ytkdjbkfcfbignaa", sum := "e68c0c081639ddf8b806fe1573f76aae222f789f5df2613c1c629cad67009698", func := "chorus/choruslaw7.RouteForms", spec := "routeForms", apart := false, narrowed := true }
def RouteFormsUptoSaid : Prop := routeFormsUptoRow.holds Try.pinned (OpenSpec.upto routeFormsSpec)

/-- 'choruslaw7.RouteParts', WHERE WHAT IT READS IS OF BULK AT MOST 1048576: true; the input reads as it did. -/
def routePartsUptoRow : OpenClaim := { program := "ytkdjbkfcfbignaa", sum := "e68c0c081639ddf8b806fe1573f76aae222f789f5df2613c1c629cad67009698", func := "chorus/choruslaw7.RouteParts", spec := "routeParts", apart := false, narrowed := true }
def RoutePartsUptoSaid : Prop := routePartsUptoRow.holds Try.pinned (OpenSpec.upto routePartsSpec)

/-- 'choruslaw7.RouteAlone', WHERE WHAT IT READS IS OF BULK AT MOST 1048576: true; the input reads as it did. -/
def routeAloneUptoRow : OpenClaim := { program := "ytkdjbkfcfbignaa", sum := "e68c0c081639ddf8b806fe1573f76aae222f789f5df2613c1c629cad67009698", func := "chorus/choruslaw7.RouteAlone", spec := "routeAlone", apart := false, narrowed := true }
def RouteAloneUptoSaid : Prop := routeAloneUptoRow.holds Try.pinned (OpenSpec.upto routeAloneSpec)

end Rows
end Go.Proofs.Ytkdjbkfcfbignaa
