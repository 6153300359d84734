/-
  No cell of these rows narrows 'for every input' (looked for: loops, veiled, ifaces, maps, wideKeys, modest, calm, conditions, laid).
  DERIVED. THE GIVEN ROWS OF THIS SEAT. 4 by the template 'for every input the law returns true; each argument reads behind the call as it read before'; 0 by the template 'total and deterministic' (their statements: YtjgcaojbfcaalaaTotals.lean).
  GIVEN WITH THE SEED: the statements are not yours to turn. If you find one false, say at which input.
  Laid BY PROGRAM, IN A SANDBOX (cutbox-rows.mjs): the forced cells as the released guide's own fill.sh prints them over the translation 26eae337ff98a4d0… (all of the seat's roots in one cut). By AI agents, Wed Nov 11 2026. No macro, syntax, notation, axiom, sorry.
-/
import Derived.Test.YtjgcaojbfcaalaaChecked
import GoSem.Claim
import GoSem.ClaimJoined
import GoSem.ClaimMapViews
import Derived.JoinedTies
import Derived.KernelRfl
namespace Go.Proofs.Ytjgcaojbfcaalaa
/- THE CELL 'sum', in the pinned program and in every row, IS THE sha256 OF THE DUMP (.gsa) THAT YtjgcaojbfcaalaaProg.lean LOADS. Nothing in Lean hashes anything: it is a label: what it is worth is what the hold of that sum in a sandbox is worth. -/
noncomputable def Try.pinned : Pinned := { name := "ytjgcaojbfcaalaa", sum := "26eae337ff98a4d0b89e9338ffeaf9c764fe3fca0a579601eb9e28b111973be1", checked := Try.checked }
namespace Rows
def none {H : Type} : Left H := { results := [], args := [] }

/-- 'choruslaw11.Cursors': WHATEVER THE INPUT: true; the input reads as it did. -/
def cursorsSpec : ChangeSpec := { name := "cursors", fn := fun _ => fun
  | [d1, d2] => { results := [.lit (.bool true)], args := [d1, d2] }
  | _ => none }
def cursorsRow : OpenClaim := { program := "ytjgcaojbfcaalaa", sum := "26eae337ff98a4d0b89e9338ffeaf9c764fe3fca0a579601eb9e28b111973be1", func := "chorus/choruslaw11.Cursors", spec := "cursors", unfollowed := true, recurses := true, apart := false }
def CursorsSaid : Prop := cursorsRow.holds Try.pinned (OpenSpec.ofChange cursorsSpec)

/-- ITS FALSE NEIGHBOUR: 'it returns false'. Refute it at one input. -/
def cursorsWrong : ChangeSpec := { name := "cursors", fn := fun _ => fun
  | [d1, d2] => { results := [.lit (.bool false)], args := [d1, d2] }
  | _ => none }
def CursorsWrongFalsely : Prop := cursorsRow.holds Try.pinned (OpenSpec.ofChange cursorsWrong)

/-- 'choruslaw11.CursorForms': WHATEVER THE INPUT: true; the input reads as it did. -/
def cursorFormsSpec : ChangeSpec := { name := "cursorForms", fn := fun _ => fun
  | [d1, d2] => { results := [.lit (.bool true)], args := [d1, d2] }
  | _ => none }
def cursorFormsRow : OpenClaim := { program := "ytjgcaojbfcaalaa", sum := "26eae337ff98a4d0b89e9338ffeaf9c764fe3fca0a579601eb9e28b111973be1", func := "chorus/choruslaw11.CursorForms", spec := "cursorForms", unfollowed := true, recurses := true, apart := false }
def CursorFormsSaid : Prop := cursorFormsRow.holds Try.pinned (OpenSpec.ofChange cursorFormsSpec)

/-- ITS FALSE NEIGHBOUR: 'it returns false'. Refute it at one input. -/
def cursorFormsWrong : ChangeSpec := { name := "cursorForms", fn := fun _ => fun
  | [d1, d2] => { results := [.lit (.bool false)], args := [d1, d2] }
  | _ => none }
def CursorFormsWrongFalsely : Prop := cursorFormsRow.holds Try.pinned (OpenSpec.ofChange cursorFormsWrong)

/-- 'choruslaw11.CursorLeast': WHATEVER THE INPUT: true; the input reads as it did. -/
def cursorLeastSpec : ChangeSpec := { name := "cursorLeast", fn := fun _ => fun
  | [d1, d2] => { results := [.lit (.bool true)], args := [d1, d2] }
  | _ => none }
def cursorLeastRow : OpenClaim := { program := "ytjgcaojbfcaalaa", sum := "26eae337ff98a4d0b89e9338ffeaf9c764fe3fca0a579601eb9e28b111973be1", func := "chorus/choruslaw11.CursorLeast", spec := "cursorLeast", unfollowed := true, recurses := true, apart := false }
def CursorLeastSaid : Prop := cursorLeastRow.holds Try.pinned (OpenSpec.ofChange cursorLeastSpec)

/-- ITS FALSE NEIGHBOUR: 'it returns false'. Refute it at one input. -/
def cursorLeastWrong : ChangeSpec := { name := "cursorLeast", fn := fun _ => fun
  | [d1, d2] => { results := [.lit (.bool false)], args := [d1, d2] }
  | _ => none }
def CursorLeastWrongFalsely : Prop := cursorLeastRow.holds Try.pinned (OpenSpec.ofChange cursorLeastWrong)

/-- 'choruslaw11.CursorFree': WHATEVER THE INPUT: true; the input reads as it did. -/
def cursorFreeSpec : ChangeSpec := { name := "cursorFree", fn := fun _ => fun
  | [d1, d2, d3] => { results := [.lit (.bool true)], args := [d1, d2, d3] }
  | _ => none }
def cursorFreeRow : OpenClaim := { program := "ytjgcaojbfcaalaa", sum := "26eae337ff98a4d0b89e9338ffeaf9c764fe3fca0a579601eb9e28b111973be1", func := "chorus/choruslaw11.CursorFree", spec := "cursorFree", unfollowed := true, recurses := true, apart := false }
def CursorFreeSaid : Prop := cursorFreeRow.holds Try.pinned (OpenSpec.ofChange cursorFreeSpec)

/-- ITS FALSE NEIGHBOUR: 'it returns false'. Refute it at one input. -/
def cursorFreeWrong : ChangeSpec := { name := "cursorFree", fn := fun _ => fun
  | [d1, d2, d3] => { results := [.lit (.bool false)], args := [d1, d2, d3] }
  | _ => none }
def CursorFreeWrongFalsely : Prop := cursorFreeRow.holds Try.pinned (OpenSpec.ofChange cursorFreeWrong)

/- THE SECOND FORM. 'bulk': how many values and letters a reading holds, each counted each time it is reached (what is shared counts as often as it is met; a slice's spare places count too). A statement '..UptoSaid' is the law's where the arguments, and the package variables that the reading takes, are together of bulk at most 1048576: NARROWER than '..Said'. Prove '..Said' where nothing that the law and all that it calls make is longer than what came in: it says more and counts as full. Else prove '..UptoSaid'. A law counts once. -/
mutual
def uptoBulk {H : Type} : DataW H → Nat
  | .lit (.string bytes) => bytes.length + 1
  | .lit _ => 1
  | .nil => 1
  | .ptr d => uptoBulk d + 1
  | .slice elems spare => uptoBulkAll elems + uptoBulkAll spare + 1
  | .agg parts => uptoBulkAll parts + 1
  | .iface _ d => uptoBulk d + 1
  | .map entries => uptoBulkEntries entries + 1
  | .held _ => 1
def uptoBulkAll {H : Type} : List (DataW H) → Nat
  | [] => 0
  | d :: r => uptoBulk d + uptoBulkAll r
def uptoBulkEntries {H : Type} : List (Lit × DataW H) → Nat
  | [] => 0
  | x :: r => uptoBulkEntry x + uptoBulkEntries r
def uptoBulkEntry {H : Type} : Lit × DataW H → Nat
  | (.string bytes, d) => bytes.length + uptoBulk d + 1
  | (_, d) => uptoBulk d + 1
 end
def uptoSmall : (H : Type) → List (DataW H) → Bool := fun _ ds => decide (uptoBulkAll ds ≤ 1048576)
def OpenSpec.upto (s : _root_.Go.ChangeSpec) : _root_.Go.OpenSpec := { _root_.Go.OpenSpec.ofChange s with cond := some uptoSmall }

/-- 'choruslaw11.Cursors', WHERE WHAT IT READS IS OF BULK AT MOST 1048576: true; the input reads as it did. -/
def cursorsUptoRow : OpenClaim := { program := "ytjgcaojbfcaalaa", sum := "26eae337ff98a4d0b89e9338ffeaf9c764fe3fca0a579601eb9e28b111973be1", func := "chorus/choruslaw11.Cursors", spec := "cursors", unfollowed := true, recurses := true, apart := false, narrowed := true }
def CursorsUptoSaid : Prop := cursorsUptoRow.holds Try.pinned (OpenSpec.upto cursorsSpec)

/-- 'choruslaw11.CursorForms', WHERE WHAT IT READS IS OF BULK AT MOST 1048576: true; the input reads as it did. -/
def cursorFormsUptoRow : OpenClaim := { program := "ytjgcaojbfcaalaa", sum := "26eae337ff98a4d0b89e9338ffeaf9c764fe3fca0a579601eb9e28b111973be1", func := "chorus/choruslaw11.CursorForms", spec := "cursorForms", unfollowed := true, recurses := true, apart := false, narrowed := true }
def CursorFormsUptoSaid : Prop := cursorFormsUptoRow.holds Try.pinned (OpenSpec.upto cursorFormsSpec)

/-- 'choruslaw11.CursorLeast', WHERE WHAT IT READS IS OF BULK AT MOST 1048576: true; the input reads as it did. -/
def cursorLeastUptoRow : OpenClaim := { program := "ytjgcaojbfcaalaa", sum := "26eae337ff98a4d0b89e9338ffeaf9c764fe3fca0a579601eb9e28b111973be1", func := "chorus/choruslaw11.CursorLeast", spec := "cursorLeast", unfollowed := true, recurses := true, apart := false, narrowed := true }
def CursorLeastUptoSaid : Prop := cursorLeastUptoRow.holds Try.pinned (OpenSpec.upto cursorLeastSpec)

/-- 'choruslaw11.CursorFree', WHERE WHAT IT READS IS OF BULK AT MOST 1048576: true; the input reads as it did. -/
def cursorFreeUptoRow : OpenClaim := { program := "ytjgcaojbfcaalaa", sum := "26eae337ff98a4d0b89e9338ffeaf9c764fe3fca0a579601eb9e28b111973be1", func := "chorus/choruslaw11.CursorFree", spec := "cursorFree", unfollowed := true, recurses := true, apart := false, narrowed := true }
def CursorFreeUptoSaid : Prop := cursorFreeUptoRow.holds Try.pinned (OpenSpec.upto cursorFreeSpec)

end Rows
end Go.Proofs.Ytjgcaojbfcaalaa
