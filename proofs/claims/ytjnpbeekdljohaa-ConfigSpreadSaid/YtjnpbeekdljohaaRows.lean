/-
  No cell of these rows narrows 'for every input' (looked for: loops, veiled, ifaces, maps, wideKeys, modest, calm, conditions, laid).
  DERIVED. THE GIVEN ROWS OF THIS SEAT. 4 by the template 'for every input the law returns true; each argument reads behind the call as it read before'; 0 by the template 'total and deterministic' (their statements: YtjnpbeekdljohaaTotals.lean).
  GIVEN WITH THE SEED: the statements are not yours to turn. If you find one false, say at which input.
  Laid BY PROGRAM, IN A SANDBOX (cutbox-rows.mjs): the forced cells as the released guide's own fill.sh prints them over the translation 629ccc8339eca24a… (all of the seat's roots in one cut). By AI agents, Wed Nov 11 2026. No macro, syntax, notation, axiom, sorry.
-/
import Derived.Test.YtjnpbeekdljohaaChecked
import GoSem.Claim
import GoSem.ClaimJoined
import GoSem.ClaimMapViews
import Derived.JoinedTies
import Derived.KernelRfl
namespace Go.Proofs.Ytjnpbeekdljohaa
/- THE CELL 'sum', in the pinned program and in every row, IS THE sha256 OF THE DUMP (.gsa) THAT YtjnpbeekdljohaaProg.lean LOADS. Nothing in Lean hashes anything: it is a label: what it is worth is what the hold of that sum in a sandbox is worth. -/
noncomputable def Try.pinned : Pinned := { name := "ytjnpbeekdljohaa", sum := "629ccc8339eca24a3f7560cf2d3ae8dc115469f35787c0d72f4ddaaab8bdfccc", checked := Try.checked }
namespace Rows
def none {H : Type} : Left H := { results := [], args := [] }

/-- 'choruslaw13.Configs': WHATEVER THE INPUT: true; the input reads as it did. -/
def configsSpec : ChangeSpec := { name := "configs", fn := fun _ => fun
  | [d1, d2] => { results := [.lit (.bool true)], args := [d1, d2] }
  | _ => none }
def configsRow : OpenClaim := { program := "ytjnpbeekdljohaa", sum := "629ccc8339eca24a3f7560cf2d3ae8dc115469f35787c0d72f4ddaaab8bdfccc", func := "chorus/choruslaw13.Configs", spec := "configs", apart := false }
def ConfigsSaid : Prop := configsRow.holds Try.pinned (OpenSpec.ofChange configsSpec)

/-- ITS FALSE NEIGHBOUR: 'it returns false'. Refute it at one input. -/
def configsWrong : ChangeSpec := { name := "configs", fn := fun _ => fun
  | [d1, d2] => { results := [.lit (.bool false)], args := [d1, d2] }
  | _ => none }
def ConfigsWrongFalsely : Prop := configsRow.holds Try.pinned (OpenSpec.ofChange configsWrong)

/-- 'choruslaw13.ConfigForms': WHATEVER THE INPUT: true; the input reads as it did. -/
def configFormsSpec : ChangeSpec := { name := "configForms", fn := fun _ => fun
  | [d1, d2] => { results := [.lit (.bool true)], args := [d1, d2] }
  | _ => none }
def configFormsRow : OpenClaim := { program := "ytjnpbeekdljohaa", sum := "629ccc8339eca24a3f7560cf2d3ae8dc115469f35787c0d72f4ddaaab8bdfccc", func := "chorus/choruslaw13.ConfigForms", spec := "configForms", apart := false }
def ConfigFormsSaid : Prop := configFormsRow.holds Try.pinned (OpenSpec.ofChange configFormsSpec)

/-- ITS FALSE NEIGHBOUR: 'it returns false'. Refute it at one input. -/
def configFormsWrong : ChangeSpec := { name := "configForms", fn := fun _ => fun
  | [d1, d2] => { results := [.lit (.bool false)], args := [d1, d2] }
  | _ => none }
def ConfigFormsWrongFalsely : Prop := configFormsRow.holds Try.pinned (OpenSpec.ofChange configFormsWrong)

/-- 'choruslaw13.ConfigSpread': WHATEVER THE INPUT: true; the input reads as it did. -/
def configSpreadSpec : ChangeSpec := { name := "configSpread", fn := fun _ => fun
  | [d1, d2] => { results := [.lit (.bool true)], args := [d1, d2] }
  | _ => none }
def configSpreadRow : OpenClaim := { program := "ytjnpbeekdljohaa", sum := "629ccc8339eca24a3f7560cf2d3ae8dc115469f35787c0d72f4ddaaab8bdfccc", func := "chorus/choruslaw13.ConfigSpread", spec := "configSpread", apart := false }
def ConfigSpreadSaid : Prop := configSpreadRow.holds Try.pinned (OpenSpec.ofChange configSpreadSpec)

/-- ITS FALSE NEIGHBOUR: 'it returns false'. Refute it at one input. -/
def configSpreadWrong : ChangeSpec := { name := "configSpread", fn := fun _ => fun
  | [d1, d2] => { results := [.lit (.bool false)], args := [d1, d2] }
  | _ => none }
def ConfigSpreadWrongFalsely : Prop := configSpreadRow.holds Try.pinned (OpenSpec.ofChange configSpreadWrong)

/-- 'choruslaw13.ConfigSlots': WHATEVER THE INPUT: true; the input reads as it did. -/
def configSlotsSpec : ChangeSpec := { name := "configSlots", fn := fun _ => fun
  | [d1, d2] => { results := [.lit (.bool true)], args := [d1, d2] }
  | _ => none }
def configSlotsRow : OpenClaim := { program := "ytjnpbeekdljohaa", sum := "629ccc8339eca24a3f7560cf2d3ae8dc115469f35787c0d72f4ddaaab8bdfccc", func := "chorus/choruslaw13.ConfigSlots", spec := "configSlots", apart := false }
def ConfigSlotsSaid : Prop := configSlotsRow.holds Try.pinned (OpenSpec.ofChange configSlotsSpec)

/-- ITS FALSE NEIGHBOUR: 'it returns false'. Refute it at one input. -/
def configSlotsWrong : ChangeSpec := { name := "configSlots", fn := fun _ => fun
  | [d1, d2] => { results := [.lit (.bool false)], args := [d1, d2] }
  | _ => none }
def ConfigSlotsWrongFalsely : Prop := configSlotsRow.holds Try.pinned (OpenSpec.ofChange configSlotsWrong)

/- THE SECOND FORM. 'bulk': how many values and letters a reading holds, each counted each time it is reached (what is shared counts as often as it is met; a slice's spare places count too). A statement '..UptoSaid' is the law's where the arguments, and the package variables that the reading takes, are together of bulk at most 1048576: NARROWER than '..Said'. Prove '..Said' where nothing that the law and all that it calls make is longer than what came in: it says more and counts as full. Else prove '..UptoSaid'. A law counts once. -/
mutual
def uptoBulk {H : Type} : DataW H → Nat
  | .lit (.string bytes) => bytes.length + 1
  | .lit _ => 1
  | .nil => 1
  | .ptr d => uptoBulk d + 1
  | .slice elems spare => uptoBulkAll elems + uptoBulkAll spare + 1
  | .agg parts => uptoBulkAll parts + 1
  | .iface _ d => uptoBulk d + 1
  | .map entries => uptoBulkEntries entries + 1
  | .held _ => 1
def uptoBulkAll {H : Type} : List (DataW H) → Nat
  | [] => 0
  | d :: r => uptoBulk d + uptoBulkAll r
def uptoBulkEntries {H : Type} : List (Lit × DataW H) → Nat
  | [] => 0
  | x :: r => uptoBulkEntry x + uptoBulkEntries r
def uptoBulkEntry {H : Type} : Lit × DataW H → Nat
  | (.string bytes, d) => bytes.length + uptoBulk d + 1
  | (_, d) => uptoBulk d + 1
 end
def uptoSmall : (H : Type) → List (DataW H) → Bool := fun _ ds => decide (uptoBulkAll ds ≤ 1048576)
def OpenSpec.upto (s : _root_.Go.ChangeSpec) : _root_.Go.OpenSpec := { _root_.Go.OpenSpec.ofChange s with cond := some uptoSmall }

/-- 'choruslaw13.Configs', WHERE WHAT IT READS IS OF BULK AT MOST 1048576: true; the input reads as it did. -/
def configsUptoRow : OpenClaim := { program := "ytjnpbeekdljohaa", sum := "629ccc8339eca24a3f7560cf2d3ae8dc115469f35787c0d72f4ddaaab8bdfccc", func := "chorus/choruslaw13.Configs", spec := "configs", apart := false, narrowed := true }
def ConfigsUptoSaid : Prop := configsUptoRow.holds Try.pinned (OpenSpec.upto configsSpec)

/-- 'choruslaw13.ConfigForms', WHERE WHAT IT READS IS OF BULK AT MOST 1048576: true; the input reads as it did. -/
def configFormsUptoRow : OpenClaim := { program := "ytjnpbeekdljohaa", sum := "629ccc8339eca24a3f7560cf2d3ae8dc115469f35787c0d72f4ddaaab8bdfccc", func := "chorus/choruslaw13.ConfigForms", spec := "configForms", apart := false, narrowed := true }
def ConfigFormsUptoSaid : Prop := configFormsUptoRow.holds Try.pinned (OpenSpec.upto configFormsSpec)

/-- 'choruslaw13.ConfigSpread', WHERE WHAT IT READS IS OF BULK AT MOST 1048576: true; the input reads as it did. -/
def configSpreadUptoRow : OpenClaim := { program := "ytjnpbeekdljohaa", sum := "629ccc8339eca24a3f7560cf2d3ae8dc115469f35787c0d72f4ddaaab8bdfccc", func := "chorus/choruslaw13.ConfigSpread", spec := "configSpread", apart := false, narrowed := true }
def ConfigSpreadUptoSaid : Prop := configSpreadUptoRow.holds Try.pinned (OpenSpec.upto configSpreadSpec)

/-- 'choruslaw13.ConfigSlots', WHERE WHAT IT READS IS OF BULK AT MOST 1048576: true; the input reads as it did. -/
def configSlotsUptoRow : OpenClaim := { program := "ytjnpbeekdljohaa", sum := "629ccc8339eca24a3f7560cf2d3ae8dc115469f35787c0d72f4ddaaab8bdfccc", func := "chorus/choruslaw13.ConfigSlots", spec := "configSlots", apart := false, narrowed := true }
def ConfigSlotsUptoSaid : Prop := configSlotsUptoRow.holds Try.pinned (OpenSpec.upto configSlotsSpec)

end Rows
end Go.Proofs.Ytjnpbeekdljohaa
