/-
  No cell of these rows narrows 'for every input' (looked for: loops, veiled, ifaces, maps, wideKeys, modest, calm, conditions, laid).
  DERIVED. THE GIVEN ROWS OF THIS SEAT. 5 by the template 'for every input the law returns true; each argument reads behind the call as it read before'; 0 by the template 'total and deterministic' (their statements: YtmllmmdfcpameaaTotals.lean).
  GIVEN WITH THE SEED: the statements are not yours to turn. If you find one false, say at which input.
  Laid BY PROGRAM, IN A SANDBOX (cutbox-rows.mjs): the forced cells as the released guide's own fill.sh prints them over the translation bd3c6844de14b4a0… (all of the seat's roots in one cut). By AI agents, Wed Nov 11 2026. No macro, syntax, notation, axiom, sorry.
-/
import Derived.Test.YtmllmmdfcpameaaChecked
import GoSem.Claim
import GoSem.ClaimJoined
import GoSem.ClaimMapViews
import Derived.JoinedTies
import Derived.KernelRfl
namespace Go.Proofs.Ytmllmmdfcpameaa
/- THE CELL 'sum', in the pinned program and in every row, IS THE sha256 OF THE DUMP (.gsa) THAT YtmllmmdfcpameaaProg.lean LOADS. Nothing in Lean hashes anything: it is a label: what it is worth is what the hold of that sum in a sandbox is worth. -/
noncomputable def Try.pinned : Pinned := { name := "ytmllmmdfcpameaa", sum := "bd3c6844de14b4a04f083159f4e2134d547c085ef8a45de7ecec6434a6ec1b95", checked := Try.checked }
namespace Rows
def none {H : Type} : Left H := { results := [], args := [] }

/-- 'choruslaw9.Slots': WHATEVER THE INPUT: true; the input reads as it did. -/
def slotsSpec : ChangeSpec := { name := "slots", fn := fun _ => fun
  | [d1, d2, d3] => { results := [.lit (.bool true)], args := [d1, d2, d3] }
  | _ => none }
def slotsRow : OpenClaim := { program := "ytmllmmdfcpameaa", sum := "bd3c6844de14b4a04f083159f4e2134d547c085ef8a45de7ecec6434a6ec1b95", func := "chorus/choruslaw9.Slots", spec := "slots", apart := false }
def SlotsSaid : Prop := slotsRow.holds Try.pinned (OpenSpec.ofChange slotsSpec)

/-- ITS FALSE NEIGHBOUR: 'it returns false'. Refute it at one input. -/
def slotsWrong : ChangeSpec := { name := "slots", fn := fun _ => fun
  | [d1, d2, d3] => { results := [.lit (.bool false)], args := [d1, d2, d3] }
  | _ => none }
def SlotsWrongFalsely : Prop := slotsRow.holds Try.pinned (OpenSpec.ofChange slotsWrong)

/-- 'choruslaw9.SlotLaps': WHATEVER THE INPUT: true; the input reads as it did. -/
def slotLapsSpec : ChangeSpec := { name := "slotLaps", fn := fun _ => fun
  | [d1, d2] => { results := [.lit (.bool true)], args := [d1, d2] }
  | _ => none }
def slotLapsRow : OpenClaim := { program := "ytmllmmdfcpameaa", sum := "bd3c6844de14b4a04f083159f4e2134d547c085ef8a45de7ecec6434a6ec1b95", func := "chorus/choruslaw9.SlotLaps", spec := "slotLaps", apart := false }
def SlotLapsSaid : Prop := slotLapsRow.holds Try.pinned (OpenSpec.ofChange slotLapsSpec)

/-- ITS FALSE NEIGHBOUR: 'it returns false'. Refute it at one input. -/
def slotLapsWrong : ChangeSpec := { name := "slotLaps", fn := fun _ => fun
  | [d1, d2] => { results := [.lit (.bool false)], args := [d1, d2] }
  | _ => none }
def SlotLapsWrongFalsely : Prop := slotLapsRow.holds Try.pinned (OpenSpec.ofChange slotLapsWrong)

/-- 'choruslaw9.SlotForms': WHATEVER THE INPUT: true; the input reads as it did. -/
def slotFormsSpec : ChangeSpec := { name := "slotForms", fn := fun _ => fun
  | [d1, d2] => { results := [.lit (.bool true)], args := [d1, d2] }
  | _ => none }
def slotFormsRow : OpenClaim := { program := "ytmllmmdfcpameaa", sum := "bd3c6844de14b4a04f083159f4e2134d547c085ef8a45de7ecec6434a6ec1b95", func := "chorus/choruslaw9.SlotForms", spec := "slotForms", apart := false }
def SlotFormsSaid : Prop := slotFormsRow.holds Try.pinned (OpenSpec.ofChange slotFormsSpec)

/-- ITS FALSE NEIGHBOUR: 'it returns false'. Refute it at one input. -/
def slotFormsWrong : ChangeSpec := { name := "slotForms", fn := fun _ => fun
  | [d1, d2] => { results := [.lit (.bool false)], args := [d1, d2] }
  | _ => none }
def SlotFormsWrongFalsely : Prop := slotFormsRow.holds Try.pinned (OpenSpec.ofChange slotFormsWrong)

/-- 'choruslaw9.SlotAlive': WHATEVER THE INPUT: true; the input reads as it did. -/
def slotAliveSpec : ChangeSpec := { name := "slotAlive", fn := fun _ => fun
  | [d1, d2, d3] => { results := [.lit (.bool true)], args := [d1, d2, d3] }
  | _ => none }
def slotAliveRow : OpenClaim := { program := "ytmllmmdfcpameaa", sum := "bd3c6844de14b4a04f083159f4e2134d547c085ef8a45de7ecec6434a6ec1b95", func := "chorus/choruslaw9.SlotAlive", spec := "slotAlive", apart := false }
def SlotAliveSaid : Prop := slotAliveRow.holds Try.pinned (OpenSpec.ofChange slotAliveSpec)

/-- ITS FALSE NEIGHBOUR: 'it returns false'. Refute it at one input. -/
def slotAliveWrong : ChangeSpec := { name := "slotAlive", fn := fun _ => fun
  | [d1, d2, d3] => { results := [.lit (.bool false)], args := [d1, d2, d3] }
  | _ => none }
def SlotAliveWrongFalsely : Prop := slotAliveRow.holds Try.pinned (OpenSpec.ofChange slotAliveWrong)

/-- 'choruslaw9.SlotRow': WHATEVER THE INPUT: true; the input reads as it did. -/
def slotRowSpec : ChangeSpec := { name := "slotRow", fn := fun _ => fun
  | [d1, d2] => { results := [.lit (.bool true)], args := [d1, d2] }
  | _ => none }
def slotRowRow : OpenClaim := { program := "ytmllmmdfcpameaa", sum := "bd3c6844de14b4a04f083159f4e2134d547c085ef8a45de7ecec6434a6ec1b95", func := "chorus/choruslaw9.SlotRow", spec := "slotRow", apart := false }
def SlotRowSaid : Prop := slotRowRow.holds Try.pinned (OpenSpec.ofChange slotRowSpec)

/-- ITS FALSE NEIGHBOUR: 'it returns false'. Refute it at one input. -/
def slotRowWrong : ChangeSpec := { name := "slotRow", fn := fun _ => fun
  | [d1, d2] => { results := [.lit (.bool false)], args := [d1, d2] }
  | _ => none }
def SlotRowWrongFalsely : Prop := slotRowRow.holds Try.pinned (OpenSpec.ofChange slotRowWrong)

/- THE SECOND FORM. 'bulk': how many values and letters a reading holds, each counted each time it is reached (what is shared counts as often as it is met; a slice's spare places count too). A statement '..UptoSaid' is the law's where the arguments, and the package variables that the reading takes, are together of bulk at most 1048576: NARROWER than '..Said'. Prove '..Said' where nothing that the law and all that it calls make is longer than what came in: it says more and counts as full. Else prove '..UptoSaid'. A law counts once. -/
mutual
def uptoBulk {H : Type} : DataW H → Nat
  | .lit (.string bytes) => bytes.length + 1
  | .lit _ => 1
  | .nil => 1
  | .ptr d => uptoBulk d + 1
  | .slice elems spare => uptoBulkAll elems + uptoBulkAll spare + 1
  | .agg parts => uptoBulkAll parts + 1
  | .iface _ d => uptoBulk d + 1
  | .map entries => uptoBulkEntries entries + 1
  | .held _ => 1
def uptoBulkAll {H : Type} : List (DataW H) → Nat
  | [] => 0
  | d :: r => uptoBulk d + uptoBulkAll r
def uptoBulkEntries {H : Type} : List (Lit × DataW H) → Nat
  | [] => 0
  | x :: r => uptoBulkEntry x + uptoBulkEntries r
def uptoBulkEntry {H : Type} : Lit × DataW H → Nat
  | (.string bytes, d) => bytes.length + uptoBulk d + 1
  | (_, d) => uptoBulk d + 1
 end
def uptoSmall : (H : Type) → List (DataW H) → Bool := fun _ ds => decide (uptoBulkAll ds ≤ 1048576)
def OpenSpec.upto (s : _root_.Go.ChangeSpec) : _root_.Go.OpenSpec := { _root_.Go.OpenSpec.ofChange s with cond := some uptoSmall }

/-- 'choruslaw9.Slots', WHERE WHAT IT READS IS OF BULK AT MOST 1048576: true; the input reads as it did. -/
def slotsUptoRow : OpenClaim := { program := "ytmllmmdfcpameaa", sum := "bd3c6844de14b4a04f083159f4e2134d547c085ef8a45de7ecec6434a6ec1b95", func := "chorus/choruslaw9.Slots", spec := "slots", apart := false, narrowed := true }
def SlotsUptoSaid : Prop := slotsUptoRow.holds Try.pinned (OpenSpec.upto slotsSpec)

/-- 'choruslaw9.SlotLaps', WHERE WHAT IT READS IS OF BULK AT MOST 1048576: true; the input reads as it did. -/
def slotLapsUptoRow : OpenClaim := { program := "ytmllmmdfcpameaa", sum := "bd3c6844de14b4a04f083159f4e2134d547c085ef8a45de7ecec6434a6ec1b95", func := "chorus/choruslaw9.SlotLaps", spec := "slotLaps", apart := false, narrowed := true }
def SlotLapsUptoSaid : Prop := slotLapsUptoRow.holds Try.pinned (OpenSpec.upto slotLapsSpec)

/-- 'choruslaw9.SlotForms', WHERE WHAT IT READS IS OF BULK AT MOST 1048576: true; the input reads as it did. -/
def slotFormsUptoRow : OpenClaim := { program := "ytmllmmdfcpameaa", sum := "bd3c6844de14b4a04f083159f4e2134d547c085ef8a45de7ecec6434a6ec1b95", func := "chorus/choruslaw9.SlotForms", spec := "slotForms", apart := false, narrowed := true }
def SlotFormsUptoSaid : Prop := slotFormsUptoRow.holds Try.pinned (OpenSpec.upto slotFormsSpec)

/-- 'choruslaw9.SlotAlive', WHERE WHAT IT READS IS OF BULK AT MOST 1048576: true; the input reads as it did. -/
def slotAliveUptoRow : OpenClaim := { program := "ytmllmmdfcpameaa", sum := "bd3c6844de14b4a04f083159f4e2134d547c085ef8a45de7ecec6434a6ec1b95", func := "chorus/choruslaw9.SlotAlive", spec := "slotAlive", apart := false, narrowed := true }
def SlotAliveUptoSaid : Prop := slotAliveUptoRow.holds Try.pinned (OpenSpec.upto slotAliveSpec)

/-- 'choruslaw9.SlotRow', WHERE WHAT IT READS IS OF BULK AT MOST 1048576: true; the input reads as it did. -/
def slotRowUptoRow : OpenClaim := { program := "ytmllmmdfcpameaa", sum := "bd3c6844de14b4a04f083159f4e2134d547c085ef8a45de7ecec6434a6ec1b95", func := "chorus/choruslaw9.SlotRow", spec := "slotRow", apart := false, narrowed := true }
def SlotRowUptoSaid : Prop := slotRowUptoRow.holds Try.pinned (OpenSpec.upto slotRowSpec)

end Rows
end Go.Proofs.Ytmllmmdfcpameaa
