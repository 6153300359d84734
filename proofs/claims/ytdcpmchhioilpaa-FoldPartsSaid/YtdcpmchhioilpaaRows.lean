/-
  No cell of these rows narrows 'for every input' (looked for: loops, veiled, ifaces, maps, wideKeys, modest, calm, conditions, laid).
  DERIVED. THE GIVEN ROWS OF THIS SEAT. 6 by the template 'for every input the law returns true; each argument reads behind the call as it read before'; 0 by the template 'total and deterministic' (their statements: YtdcpmchhioilpaaTotals.lean).
  GIVEN WITH THE SEED: the statements are not yours to turn. If you find one false, say at which input.
  Laid BY PROGRAM, IN A SANDBOX (cutbox-rows.mjs): the forced cells as the released guide's own fill.sh prints them over the translation a04ca349dfb63e3b… (all of the seat's roots in one cut). By AI agents, Wed Nov 11 2026. No macro, syntax, notation, axiom, sorry.
-/
import Derived.Test.YtdcpmchhioilpaaChecked
import GoSem.Claim
import GoSem.ClaimJoined
import GoSem.ClaimMapViews
import Derived.JoinedTies
import Derived.KernelRfl
namespace Go.Proofs.Ytdcpmchhioilpaa
/- THE CELL 'sum', in the pinned program and in every row, IS THE sha256 OF THE DUMP (.gsa) THAT YtdcpmchhioilpaaProg.lean LOADS. Nothing in Lean hashes anything: it is a label: what it is worth is what the hold of that sum in a sandbox is worth. -/
noncomputable def Try.pinned : Pinned := { name := "ytdcpmchhioilpaa", sum := "a04ca349dfb63e3ba4cbfb01e1612aa01db49328db248b8562d80a085b46b8d0", checked := Try.checked }
namespace Rows
def none {H : Type} : Left H := { results := [], args := [] }

/-- 'choruslaw12.Folds': WHATEVER THE INPUT: true; the input reads as it did. -/
def foldsSpec : ChangeSpec := { name := "folds", fn := fun _ => fun
  | [d1, d2, d3] => { results := [.lit (.bool true)], args := [d1, d2, d3] }
  | _ => none }
def foldsRow : OpenClaim := { program := "ytdcpmchhioilpaa", sum := "a04ca349dfb63e3ba4cbfb01e1612aa01db49328db248b8562d80a085b46b8d0", func := "chorus/choruslaw12.Folds", spec := "folds", inPlace := ["slices.overlaps[int]"], unfollowed := true, recurses := true, apart := false }
def FoldsSaid : Prop := foldsRow.holds Try.pinned (OpenSpec.ofChange foldsSpec)

/-- ITS FALSE NEIGHBOUR: 'it returns false'. Refute it at one input. -/
def foldsWrong : ChangeSpec := { name := "folds", fn := fun _ => fun
  | [d1, d2, d3] => { results := [.lit (.bool false)], args := [d1, d2, d3] }
  | _ => none }
def FoldsWrongFalsely : Prop := foldsRow.holds Try.pinned (OpenSpec.ofChange foldsWrong)

/-- 'choruslaw12.FoldApart': WHATEVER THE INPUT: true; the input reads as it did. -/
def foldApartSpec : ChangeSpec := { name := "foldApart", fn := fun _ => fun
  | [d1, d2, d3] => { results := [.lit (.bool true)], args := [d1, d2, d3] }
  | _ => none }
def foldApartRow : OpenClaim := { program := "ytdcpmchhioilpaa", sum := "a04ca349dfb63e3ba4cbfb01e1612aa01db49328db248b8562d80a085b46b8d0", func := "chorus/choruslaw12.FoldApart", spec := "foldApart", inPlace := ["slices.overlaps[int]"], unfollowed := true, recurses := true, apart := false }
def FoldApartSaid : Prop := foldApartRow.holds Try.pinned (OpenSpec.ofChange foldApartSpec)

/-- ITS FALSE NEIGHBOUR: 'it returns false'. Refute it at one input. -/
def foldApartWrong : ChangeSpec := { name := "foldApart", fn := fun _ => fun
  | [d1, d2, d3] => { results := [.lit (.bool false)], args := [d1, d2, d3] }
  | _ => none }
def FoldApartWrongFalsely : Prop := foldApartRow.holds Try.pinned (OpenSpec.ofChange foldApartWrong)

/-- 'choruslaw12.FoldParts': WHATEVER THE INPUT: true; the input reads as it did. -/
def foldPartsSpec : ChangeSpec := { name := "foldParts", fn := fun _ => fun
  | [d1, d2, d3, d4] => { results := [.lit (.bool true)], args := [d1, d2, d3, d4] }
  | _ => none }
def foldPartsRow : OpenClaim := { program := "ytdcpmchhioilpaa", sum := "a04ca349dfb63e3ba4cbfb01e1612aa01db49328db248b8562d80a085b46b8d0", func := "chorus/choruslaw12.FoldParts", spec := "foldParts", inPlace := ["slices.overlaps[int]"], unfollowed := true, recurses := true, apart := false }
def FoldPartsSaid : Prop := foldPartsRow.holds Try.pinned (OpenSpec.ofChange foldPartsSpec)

/-- ITS FALSE NEIGHBOUR: 'it returns false'. Refute it at one input. -/
def foldPartsWrong : ChangeSpec := { name := "foldParts", fn := fun _ => fun
  | [d1, d2, d3, d4] => { results := [.lit (.bool false)], args := [d1, d2, d3, d4] }
  | _ => none }
def FoldPartsWrongFalsely : Prop := foldPartsRow.holds Try.pinned (OpenSpec.ofChange foldPartsWrong)

/-- 'choruslaw12.FoldOne': WHATEVER THE INPUT: true; the input reads as it did. -/
def foldOneSpec : ChangeSpec := { name := "foldOne", fn := fun _ => fun
  | [d1, d2, d3] => { results := [.lit (.bool true)], args := [d1, d2, d3] }
  | _ => none }
def foldOneRow : OpenClaim := { program := "ytdcpmchhioilpaa", sum := "a04ca349dfb63e3ba4cbfb01e1612aa01db49328db248b8562d80a085b46b8d0", func := "chorus/choruslaw12.FoldOne", spec := "foldOne", inPlace := ["slices.overlaps[int]"], unfollowed := true, recurses := true, apart := false }
def FoldOneSaid : Prop := foldOneRow.holds Try.pinned (OpenSpec.ofChange foldOneSpec)

/-- ITS FALSE NEIGHBOUR: 'it returns false'. Refute it at one input. -/
def foldOneWrong : ChangeSpec := { name := "foldOne", fn := fun _ => fun
  | [d1, d2, d3] => { results := [.lit (.bool false)], args := [d1, d2, d3] }
  | _ => none }
def FoldOneWrongFalsely : Prop := foldOneRow.holds Try.pinned (OpenSpec.ofChange foldOneWrong)

/-- 'choruslaw12.FoldRow': WHATEVER THE INPUT: true; the input reads as it did. -/
def foldRowSpec : ChangeSpec := { name := "foldRow", fn := fun _ => fun
  | [d1, d2, d3, d4] => { results := [.lit (.bool true)], args := [d1, d2, d3, d4] }
  | _ => none }
def foldRowRow : OpenClaim := { program := "ytdcpmchhioilpaa", sum := "a04ca349dfb63e3ba4cbfb01e1612aa01db49328db248b8562d80a085b46b8d0", func := "chorus/choruslaw12.FoldRow", spec := "foldRow", inPlace := ["slices.overlaps[int]"], unfollowed := true, recurses := true, apart := false }
def FoldRowSaid : Prop := foldRowRow.holds Try.pinned (OpenSpec.ofChange foldRowSpec)

/-- ITS FALSE NEIGHBOUR: 'it returns false'. Refute it at one input. -/
def foldRowWrong : ChangeSpec := { name := "foldRow", fn := fun _ => fun
  | [d1, d2, d3, d4] => { results := [.lit (.bool false)], args := [d1, d2, d3, d4] }
  | _ => none }
def FoldRowWrongFalsely : Prop := foldRowRow.holds Try.pinned (OpenSpec.ofChange foldRowWrong)

/-- 'choruslaw12.FoldUndo': WHATEVER THE INPUT: true; the input reads as it did. -/
def foldUndoSpec : ChangeSpec := { name := "foldUndo", fn := fun _ => fun
  | [d1, d2] => { results := [.lit (.bool true)], args := [d1, d2] }
  | _ => none }
def foldUndoRow : OpenClaim := { program := "ytdcpmchhioilpaa", sum := "a04ca349dfb63e3ba4cbfb01e1612aa01db49328db248b8562d80a085b46b8d0", func := "chorus/choruslaw12.FoldUndo", spec := "foldUndo", inPlace := ["slices.overlaps[int]"], unfollowed := true, recurses := true, apart := false }
def FoldUndoSaid : Prop := foldUndoRow.holds Try.pinned (OpenSpec.ofChange foldUndoSpec)

/-- ITS FALSE NEIGHBOUR: 'it returns false'. Refute it at one input. -/
def foldUndoWrong : ChangeSpec := { name := "foldUndo", fn := fun _ => fun
  | [d1, d2] => { results := [.lit (.bool false)], args := [d1, d2] }
  | _ => none }
def FoldUndoWrongFalsely : Prop := foldUndoRow.holds Try.pinned (OpenSpec.ofChange foldUndoWrong)

/- THE SECOND FORM. 'bulk': how many values and letters a reading holds, each counted each time it is reached (what is shared counts as often as it is met; a slice's spare places count too). A statement '..UptoSaid' is the law's where the arguments, and the package variables that the reading takes, are together of bulk at most 1048576: NARROWER than '..Said'. Prove '..Said' where nothing that the law and all that it calls make is longer than what came in: it says more and counts as full. Else prove '..UptoSaid'. A law counts once. -/
mutual
def uptoBulk {H : Type} : DataW H → Nat
  | .lit (.string bytes) => bytes.length + 1
  | .lit _ => 1
  | .nil => 1
  | .ptr d => uptoBulk d + 1
  | .slice elems spare => uptoBulkAll elems + uptoBulkAll spare + 1
  | .agg parts => uptoBulkAll parts + 1
  | .iface _ d => uptoBulk d + 1
  | .map entries => uptoBulkEntries entries + 1
  | .held _ => 1
def uptoBulkAll {H : Type} : List (DataW H) → Nat
  | [] => 0
  | d :: r => uptoBulk d + uptoBulkAll r
def uptoBulkEntries {H : Type} : List (Lit × DataW H) → Nat
  | [] => 0
  | x :: r => uptoBulkEntry x + uptoBulkEntries r
def uptoBulkEntry {H : Type} : Lit × DataW H → Nat
  | (.string bytes, d) => bytes.length + uptoBulk d + 1
  | (_, d) => uptoBulk d + 1
 end
def uptoSmall : (H : Type) → List (DataW H) → Bool := fun _ ds => decide (uptoBulkAll ds ≤ 1048576)
def OpenSpec.upto (s : _root_.Go.ChangeSpec) : _root_.Go.OpenSpec := { _root_.Go.OpenSpec.ofChange s with cond := some uptoSmall }

/-- 'choruslaw12.Folds', WHERE WHAT IT READS IS OF BULK AT MOST 1048576: true; the input reads as it did. -/
def foldsUptoRow : OpenClaim := { program := "ytdcpmchhioilpaa", sum := "a04ca349dfb63e3ba4cbfb01e1612aa01db49328db248b8562d80a085b46b8d0", func := "chorus/choruslaw12.Folds", spec := "folds", inPlace := ["slices.overlaps[int]"], unfollowed := true, recurses := true, apart := false, narrowed := true }
def FoldsUptoSaid : Prop := foldsUptoRow.holds Try.pinned (OpenSpec.upto foldsSpec)

/-- 'choruslaw12.FoldApart', WHERE WHAT IT READS IS OF BULK AT MOST 1048576: true; the input reads as it did. -/
def foldApartUptoRow : OpenClaim := { program := "ytdcpmchhioilpaa", sum := "a04ca349dfb63e3ba4cbfb01e1612aa01db49328db248b8562d80a085b46b8d0", func := "chorus/choruslaw12.FoldApart", spec := "foldApart", inPlace := ["slices.overlaps[int]"], unfollowed := true, recurses := true, apart := false, narrowed := true }
def FoldApartUptoSaid : Prop := foldApartUptoRow.holds Try.pinned (OpenSpec.upto foldApartSpec)

/-- 'choruslaw12.FoldParts', WHERE WHAT IT READS IS OF BULK AT MOST 1048576: true; the input reads as it did. -/
def foldPartsUptoRow : OpenClaim := { program := "ytdcpmchhioilpaa", sum := "a04ca349dfb63e3ba4cbfb01e1612aa01db49328db248b8562d80a085b46b8d0", func := "chorus/choruslaw12.FoldParts", spec := "foldParts", inPlace := ["slices.overlaps[int]"], unfollowed := true, recurses := true, apart := false, narrowed := true }
def FoldPartsUptoSaid : Prop := foldPartsUptoRow.holds Try.pinned (OpenSpec.upto foldPartsSpec)

/-- 'choruslaw12.FoldOne', WHERE WHAT IT READS IS OF BULK AT MOST 1048576: true; the input reads as it did. -/
def foldOneUptoRow : OpenClaim := { program := "ytdcpmchhioilpaa", sum := "a04ca349dfb63e3ba4cbfb01e1612aa01db49328db248b8562d80a085b46b8d0", func := "chorus/choruslaw12.FoldOne", spec := "foldOne", inPlace := ["slices.overlaps[int]"], unfollowed := true, recurses := true, apart := false, narrowed := true }
def FoldOneUptoSaid : Prop := foldOneUptoRow.holds Try.pinned (OpenSpec.upto foldOneSpec)

/-- 'choruslaw12.FoldRow', WHERE WHAT IT READS IS OF BULK AT MOST 1048576: true; the input reads as it did. -/
def foldRowUptoRow : OpenClaim := { program := "ytdcpmchhioilpaa", sum := "a04ca349dfb63e3ba4cbfb01e1612aa01db49328db248b8562d80a085b46b8d0", func := "chorus/choruslaw12.FoldRow", spec := "foldRow", inPlace := ["slices.overlaps[int]"], unfollowed := true, recurses := true, apart := false, narrowed := true }
def FoldRowUptoSaid : Prop := foldRowUptoRow.holds Try.pinned (OpenSpec.upto foldRowSpec)

/-- 'choruslaw12.FoldUndo', WHERE WHAT IT READS IS OF BULK AT MOST 1048576: true; the input reads as it did. -/
def foldUndoUptoRow : OpenClaim := { program := "ytdcpmchhioilpaa", sum := "a04ca349dfb63e3ba4cbfb01e1612aa01db49328db248b8562d80a085b46b8d0", func := "chorus/choruslaw12.FoldUndo", spec := "foldUndo", inPlace := ["slices.overlaps[int]"], unfollowed := true, recurses := true, apart := false, narrowed := true }
def FoldUndoUptoSaid : Prop := foldUndoUptoRow.holds Try.pinned (OpenSpec.upto foldUndoSpec)

end Rows
end Go.Proofs.Ytdcpmchhioilpaa
