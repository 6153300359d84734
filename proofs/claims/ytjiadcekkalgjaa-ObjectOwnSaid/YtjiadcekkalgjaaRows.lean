/-
  No cell of these rows narrows 'for every input' (looked for: loops, veiled, ifaces, maps, wideKeys, modest, calm, conditions, laid).
  DERIVED. THE GIVEN ROWS OF THIS SEAT. 4 by the template 'for every input the law returns true; each argument reads behind the call as it read before'; 0 by the template 'total and deterministic' (their statements: YtjiadcekkalgjaaTotals.lean).
  GIVEN WITH THE SEED: the statements are not yours to turn. If you find one false, say at which input.
  Laid BY PROGRAM, IN A SANDBOX (cutbox-rows.mjs): the forced cells as the released guide's own fill.sh prints them over the translation e8f7e90066c0a638… (all of the seat's roots in one cut). By AI agents, Wed Nov 11 2026. No macro, syntax, notation, axiom, sorry.
-/
import Derived.Test.YtjiadcekkalgjaaChecked
import GoSem.Claim
import GoSem.ClaimJoined
import GoSem.ClaimMapViews
import Derived.JoinedTies
import Derived.KernelRfl
namespace Go.Proofs.Ytjiadcekkalgjaa
/- THE CELL 'sum', in the pinned program and in every row, IS THE sha256 OF THE DUMP (.gsa) THAT YtjiadcekkalgjaaProg.lean LOADS. Nothing in Lean hashes anything: it is a label: what it is worth is what the hold of that sum in a sandbox is worth. -/
noncomputable def Try.pinned : Pinned := { name := "ytjiadcekkalgjaa", sum := "e8f7e90066c0a6381c60d7dcbf44d936d71b4c8e5f025c7ee50b0cea15a09bac", checked := Try.checked }
namespace Rows
def none {H : Type} : Left H := { results := [], args := [] }

/-- 'choruslaw6.Objects': WHATEVER THE INPUT: true; the input reads as it did. -/
def objectsSpec : ChangeSpec := { name := "objects", fn := fun _ => fun
  | [d1, d2, d3] => { results := [.lit (.bool true)], args := [d1, d2, d3] }
  | _ => none }
def objectsRow : OpenClaim := { program := "ytjiadcekkalgjaa", sum := "e8f7e90066c0a6381c60d7dcbf44d936d71b4c8e5f025c7ee50b0cea15a09bac", func := "chorus/choruslaw6.Objects", spec := "objects", inPlace := ["slices.overlaps[int]"], unfollowed := true, recurses := true, apart := false }
def ObjectsSaid : Prop := objectsRow.holds Try.pinned (OpenSpec.ofChange objectsSpec)

/-- ITS FALSE NEIGHBOUR: 'it returns false'. Refute it at one input. -/
def objectsWrong : ChangeSpec := { name := "objects", fn := fun _ => fun
  | [d1, d2, d3] => { results := [.lit (.bool false)], args := [d1, d2, d3] }
  | _ => none }
def ObjectsWrongFalsely : Prop := objectsRow.holds Try.pinned (OpenSpec.ofChange objectsWrong)

/-- 'choruslaw6.ObjectLooks': WHATEVER THE INPUT: true; the input reads as it did. -/
def objectLooksSpec : ChangeSpec := { name := "objectLooks", fn := fun _ => fun
  | [d1, d2, d3] => { results := [.lit (.bool true)], args := [d1, d2, d3] }
  | _ => none }
def objectLooksRow : OpenClaim := { program := "ytjiadcekkalgjaa", sum := "e8f7e90066c0a6381c60d7dcbf44d936d71b4c8e5f025c7ee50b0cea15a09bac", func := "chorus/choruslaw6.ObjectLooks", spec := "objectLooks", inPlace := ["slices.overlaps[int]"], unfollowed := true, recurses := true, apart := false }
def ObjectLooksSaid : Prop := objectLooksRow.holds Try.pinned (OpenSpec.ofChange objectLooksSpec)

/-- ITS FALSE NEIGHBOUR: 'it returns false'. Refute it at one input. -/
def objectLooksWrong : ChangeSpec := { name := "objectLooks", fn := fun _ => fun
  | [d1, d2, d3] => { results := [.lit (.bool false)], args := [d1, d2, d3] }
  | _ => none }
def ObjectLooksWrongFalsely : Prop := objectLooksRow.holds Try.pinned (OpenSpec.ofChange objectLooksWrong)

/-- 'choruslaw6.ObjectOwn': WHATEVER THE INPUT: true; the input reads as it did. -/
def objectOwnSpec : ChangeSpec := { name := "objectOwn", fn := fun _ => fun
  | [d1, d2, d3] => { results := [.lit (.bool true)], args := [d1, d2, d3] }
  | _ => none }
def objectOwnRow : OpenClaim := { program := "ytjiadcekkalgjaa", sum := "e8f7e90066c0a6381c60d7dcbf44d936d71b4c8e5f025c7ee50b0cea15a09bac", func := "chorus/choruslaw6.ObjectOwn", spec := "objectOwn", inPlace := ["slices.overlaps[int]"], unfollowed := true, recurses := true, apart := false }
def ObjectOwnSaid : Prop := objectOwnRow.holds Try.pinned (OpenSpec.ofChange objectOwnSpec)

/-- ITS FALSE NEIGHBOUR: 'it returns false'. Refute it at one input. -/
def objectOwnWrong : ChangeSpec := { name := "objectOwn", fn := fun _ => fun
  | [d1, d2, d3] => { results := [.lit (.bool false)], args := [d1, d2, d3] }
  | _ => none }
def ObjectOwnWrongFalsely : Prop := objectOwnRow.holds Try.pinned (OpenSpec.ofChange objectOwnWrong)

/-- 'choruslaw6.ObjectBounds': WHATEVER THE INPUT: true; the input reads as it did. -/
def objectBoundsSpec : ChangeSpec := { name := "objectBounds", fn := fun _ => fun
  | [d1, d2, d3] => { results := [.lit (.bool true)], args := [d1, d2, d3] }
  | _ => none }
def objectBoundsRow : OpenClaim := { program := "ytjiadcekkalgjaa", sum := "e8f7e90066c0a6381c60d7dcbf44d936d71b4c8e5f025c7ee50b0cea15a09bac", func := "chorus/choruslaw6.ObjectBounds", spec := "objectBounds", inPlace := ["slices.overlaps[int]"], unfollowed := true, recurses := true, apart := false }
def ObjectBoundsSaid : Prop := objectBoundsRow.holds Try.pinned (OpenSpec.ofChange objectBoundsSpec)

/-- ITS FALSE NEIGHBOUR: 'it returns false'. Refute it at one input. -/
def objectBoundsWrong : ChangeSpec := { name := "objectBounds", fn := fun _ => fun
  | [d1, d2, d3] => { results := [.lit (.bool false)], args := [d1, d2, d3] }
  | _ => none }
def ObjectBoundsWrongFalsely : Prop := objectBoundsRow.holds Try.pinned (OpenSpec.ofChange objectBoundsWrong)

/- THE SECOND FORM. 'bulk': how many values and letters a reading holds, each counted each time it is reached (what is shared counts as often as it is met; a slice's spare places count too). A statement '..UptoSaid' is the law's where the arguments, and the package variables that the reading takes, are together of bulk at most 1048576: NARROWER than '..Said'. Prove '..Said' where nothing that the law and all that it calls make is longer than what came in: it says more and counts as full. Else prove '..UptoSaid'. A law counts once. -/
mutual
def uptoBulk {H : Type} : DataW H → Nat
  | .lit (.string bytes) => bytes.length + 1
  | .lit _ => 1
  | .nil => 1
  | .ptr d => uptoBulk d + 1
  | .slice elems spare => uptoBulkAll elems + uptoBulkAll spare + 1
  | .agg parts => uptoBulkAll parts + 1
  | .iface _ d => uptoBulk d + 1
  | .map entries => uptoBulkEntries entries + 1
  | .held _ => 1
def uptoBulkAll {H : Type} : List (DataW H) → Nat
  | [] => 0
  | d :: r => uptoBulk d + uptoBulkAll r
def uptoBulkEntries {H : Type} : List (Lit × DataW H) → Nat
  | [] => 0
  | x :: r => uptoBulkEntry x + uptoBulkEntries r
def uptoBulkEntry {H : Type} : Lit × DataW H → Nat
  | (.string bytes, d) => bytes.length + uptoBulk d + 1
  | (_, d) => uptoBulk d + 1
 end
def uptoSmall : (H : Type) → List (DataW H) → Bool := fun _ ds => decide (uptoBulkAll ds ≤ 1048576)
def OpenSpec.upto (s : _root_.Go.ChangeSpec) : _root_.Go.OpenSpec := { _root_.Go.OpenSpec.ofChange s with cond := some uptoSmall }

/-- 'choruslaw6.Objects', WHERE WHAT IT READS IS OF BULK AT MOST 1048576: true; the input reads as it did. -/
def objectsUptoRow : OpenClaim := { program := "ytjiadcekkalgjaa", sum := "e8f7e90066c0a6381c60d7dcbf44d936d71b4c8e5f025c7ee50b0cea15a09bac", func := "chorus/choruslaw6.Objects", spec := "objects", inPlace := ["slices.overlaps[int]"], unfollowed := true, recurses := true, apart := false, narrowed := true }
def ObjectsUptoSaid : Prop := objectsUptoRow.holds Try.pinned (OpenSpec.upto objectsSpec)

/-- 'choruslaw6.ObjectLooks', WHERE WHAT IT READS IS OF BULK AT MOST 1048576: true; the input reads as it did. -/
def objectLooksUptoRow : OpenClaim := { program := "ytjiadcekkalgjaa", sum := "e8f7e90066c0a6381c60d7dcbf44d936d71b4c8e5f025c7ee50b0cea15a09bac", func := "chorus/choruslaw6.ObjectLooks", spec := "objectLooks", inPlace := ["slices.overlaps[int]"], unfollowed := true, recurses := true, apart := false, narrowed := true }
def ObjectLooksUptoSaid : Prop := objectLooksUptoRow.holds Try.pinned (OpenSpec.upto objectLooksSpec)

/-- 'choruslaw6.ObjectOwn', WHERE WHAT IT READS IS OF BULK AT MOST 1048576: true; the input reads as it did. -/
def objectOwnUptoRow : OpenClaim := { program := "ytjiadcekkalgjaa", sum := "e8f7e90066c0a6381c60d7dcbf44d936d71b4c8e5f025c7ee50b0cea15a09bac", func := "chorus/choruslaw6.ObjectOwn", spec := "objectOwn", inPlace := ["slices.overlaps[int]"], unfollowed := true, recurses := true, apart := false, narrowed := true }
def ObjectOwnUptoSaid : Prop := objectOwnUptoRow.holds Try.pinned (OpenSpec.upto objectOwnSpec)

/-- 'choruslaw6.ObjectBounds', WHERE WHAT IT READS IS OF BULK AT MOST 1048576: true; the input reads as it did. -/
def objectBoundsUptoRow : OpenClaim := { program := "ytjiadcekkalgjaa", sum := "e8f7e90066c0a6381c60d7dcbf44d936d71b4c8e5f025c7ee50b0cea15a09bac", func := "chorus/choruslaw6.ObjectBounds", spec := "objectBounds", inPlace := ["slices.overlaps[int]"], unfollowed := true, recurses := true, apart := false, narrowed := true }
def ObjectBoundsUptoSaid : Prop := objectBoundsUptoRow.holds Try.pinned (OpenSpec.upto objectBoundsSpec)

end Rows
end Go.Proofs.Ytjiadcekkalgjaa
