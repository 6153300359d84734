/-
  No cell of these rows narrows 'for every input' (looked for: loops, veiled, ifaces, maps, wideKeys, modest, calm, conditions, laid).
  DERIVED. THE GIVEN ROWS OF THIS SEAT. 5 by the template 'for every input the law returns true; each argument reads behind the call as it read before'; 0 by the template 'total and deterministic' (their statements: YtmbljbbopgojcaaTotals.lean).
  GIVEN WITH THE SEED: the statements are not yours to turn. If you find one false, say at which input.
  Laid BY PROGRAM, IN A SANDBOX (cutbox-rows.mjs): the forced cells as the released guide's own fill.sh prints them over the translation 0685f3b3ef7c12c7… (all of the seat's roots in one cut). By AI agents, Wed Nov 11 2026. No macro, syntax, notation, axiom, sorry.
-/
import Derived.Test.YtmbljbbopgojcaaChecked
import GoSem.Claim
import GoSem.ClaimJoined
import GoSem.ClaimMapViews
import Derived.JoinedTies
import Derived.KernelRfl
namespace Go.Proofs.Ytmbljbbopgojcaa
/- THE CELL 'sum', in the pinned program and in every row, IS THE sha256 OF THE DUMP (.gsa) THAT YtmbljbbopgojcaaProg.lean LOADS. Nothing in Lean hashes anything: it is a label: what it is worth is what the hold of that sum in a sandbox is worth. -/
noncomputable def Try.pinned : Pinned := { name := "ytmbljbbopgojcaa", sum := "0685f3b3ef7c12c72b89600786e396101f1bd0a139fbb6d652fef421dab4dfd9", checked := Try.checked }
namespace Rows
def none {H : Type} : Left H := { results := [], args := [] }

/-- 'choruslaw5.Queues': WHATEVER THE INPUT: true; the input reads as it did. -/
def queuesSpec : ChangeSpec := { name := "queues", fn := fun _ => fun
  | [d1, d2] => { results := [.lit (.bool true)], args := [d1, d2] }
  | _ => none }
def queuesRow : OpenClaim := { program := "ytmbljbbopgojcaa", sum := "0685f3b3ef7c12c72b89600786e396101f1bd0a139fbb6d652fef421dab4dfd9", func := "chorus/choruslaw5.Queues", spec := "queues", unfollowed := true, recurses := true, apart := false }
def QueuesSaid : Prop := queuesRow.holds Try.pinned (OpenSpec.ofChange queuesSpec)

/-- ITS FALSE NEIGHBOUR: 'it returns false'. Refute it at one input. -/
def queuesWrong : ChangeSpec := { name := "queues", fn := fun _ => fun
  | [d1, d2] => { results := [.lit (.bool false)], args := [d1, d2] }
  | _ => none }
def QueuesWrongFalsely : Prop := queuesRow.holds Try.pinned (OpenSpec.ofChange queuesWrong)

/-- 'choruslaw5.QueueOrder': WHATEVER THE INPUT: true; the input reads as it did. -/
def queueOrderSpec : ChangeSpec := { name := "queueOrder", fn := fun _ => fun
  | [d1, d2] => { results := [.lit (.bool true)], args := [d1, d2] }
  | _ => none }
def queueOrderRow : OpenClaim := { program := "ytmbljbbopgojcaa", sum := "0685f3b3ef7c12c72b89600786e396101f1bd0a139fbb6d652fef421dab4dfd9", func := "chorus/choruslaw5.QueueOrder", spec := "queueOrder", unfollowed := true, recurses := true, apart := false }
def QueueOrderSaid : Prop := queueOrderRow.holds Try.pinned (OpenSpec.ofChange queueOrderSpec)

/-- ITS FALSE NEIGHBOUR: 'it returns false'. Refute it at one input. -/
def queueOrderWrong : ChangeSpec := { name := "queueOrder", fn := fun _ => fun
  | [d1, d2] => { results := [.lit (.bool false)], args := [d1, d2] }
  | _ => none }
def QueueOrderWrongFalsely : Prop := queueOrderRow.holds Try.pinned (OpenSpec.ofChange queueOrderWrong)

/-- 'choruslaw5.QueueForms': WHATEVER THE INPUT: true; the input reads as it did. -/
def queueFormsSpec : ChangeSpec := { name := "queueForms", fn := fun _ => fun
  | [d1, d2] => { results := [.lit (.bool true)], args := [d1, d2] }
  | _ => none }
def queueFormsRow : OpenClaim := { program := "ytmbljbbopgojcaa", sum := "0685f3b3ef7c12c72b89600786e396101f1bd0a139fbb6d652fef421dab4dfd9", func := "chorus/choruslaw5.QueueForms", spec := "queueForms", unfollowed := true, recurses := true, apart := false }
def QueueFormsSaid : Prop := queueFormsRow.holds Try.pinned (OpenSpec.ofChange queueFormsSpec)

/-- ITS FALSE NEIGHBOUR: 'it returns false'. Refute it at one input. -/
def queueFormsWrong : ChangeSpec := { name := "queueForms", fn := fun _ => fun
  | [d1, d2] => { results := [.lit (.bool false)], args := [d1, d2] }
  | _ => none }
def QueueFormsWrongFalsely : Prop := queueFormsRow.holds Try.pinned (OpenSpec.ofChange queueFormsWrong)

/-- 'choruslaw5.QueueEmpties': WHATEVER THE INPUT: true; the input reads as it did. -/
def queueEmptiesSpec : ChangeSpec := { name := "queueEmpties", fn := fun _ => fun
  | [d1, d2] => { results := [.lit (.bool true)], args := [d1, d2] }
  | _ => none }
def queueEmptiesRow : OpenClaim := { program := "ytmbljbbopgojcaa", sum := "0685f3b3ef7c12c72b89600786e396101f1bd0a139fbb6d652fef421dab4dfd9", func := "chorus/choruslaw5.QueueEmpties", spec := "queueEmpties", unfollowed := true, recurses := true, apart := false }
def QueueEmptiesSaid : Prop := queueEmptiesRow.holds Try.pinned (OpenSpec.ofChange queueEmptiesSpec)

/-- ITS FALSE NEIGHBOUR: 'it returns false'. Refute it at one input. -/
def queueEmptiesWrong : ChangeSpec := { name := "queueEmpties", fn := fun _ => fun
  | [d1, d2] => { results := [.lit (.bool false)], args := [d1, d2] }
  | _ => none }
def QueueEmptiesWrongFalsely : Prop := queueEmptiesRow.holds Try.pinned (OpenSpec.ofChange queueEmptiesWrong)

/-- 'choruslaw5.QueueTurns': WHATEVER THE INPUT: true; the input reads as it did. -/
def queueTurnsSpec : ChangeSpec := { name := "queueTurns", fn := fun _ => fun
  | [d1, d2] => { results := [.lit (.bool true)], args := [d1, d2] }
  | _ => none }
def queueTurnsRow : OpenClaim := { program := "ytmbljbbopgojcaa", sum := "0685f3b3ef7c12c72b89600786e396101f1bd0a139fbb6d652fef421dab4dfd9", func := "chorus/choruslaw5.QueueTurns", spec := "queueTurns", unfollowed := true, recurses := true, apart := false }
def QueueTurnsSaid : Prop := queueTurnsRow.holds Try.pinned (OpenSpec.ofChange queueTurnsSpec)

/-- ITS FALSE NEIGHBOUR: 'it returns false'. Refute it at one input. -/
def queueTurnsWrong : ChangeSpec := { name := "queueTurns", fn := fun _ => fun
  | [d1, d2] => { results := [.lit (.bool false)], args := [d1, d2] }
  | _ => none }
def QueueTurnsWrongFalsely : Prop := queueTurnsRow.holds Try.pinned (OpenSpec.ofChange queueTurnsWrong)

/- THE SECOND FORM. 'bulk': how many values and letters a reading holds, each counted each time it is reached (what is shared counts as often as it is met; a slice's spare places count too). A statement '..UptoSaid' is the law's where the arguments, and the package variables that the reading takes, are together of bulk at most 1048576: NARROWER than '..Said'. Prove '..Said' where nothing that the law and all that it calls make is longer than what came in: it says more and counts as full. Else prove '..UptoSaid'. A law counts once. -/
mutual
def uptoBulk {H : Type} : DataW H → Nat
  | .lit (.string bytes) => bytes.length + 1
  | .lit _ => 1
  | .nil => 1
  | .ptr d => uptoBulk d + 1
  | .slice elems spare => uptoBulkAll elems + uptoBulkAll spare + 1
  | .agg parts => uptoBulkAll parts + 1
  | .iface _ d => uptoBulk d + 1
  | .map entries => uptoBulkEntries entries + 1
  | .held _ => 1
def uptoBulkAll {H : Type} : List (DataW H) → Nat
  | [] => 0
  | d :: r => uptoBulk d + uptoBulkAll r
def uptoBulkEntries {H : Type} : List (Lit × DataW H) → Nat
  | [] => 0
  | x :: r => uptoBulkEntry x + uptoBulkEntries r
def uptoBulkEntry {H : Type} : Lit × DataW H → Nat
  | (.string bytes, d) => bytes.length + uptoBulk d + 1
  | (_, d) => uptoBulk d + 1
 end
def uptoSmall : (H : Type) → List (DataW H) → Bool := fun _ ds => decide (uptoBulkAll ds ≤ 1048576)
def OpenSpec.upto (s : _root_.Go.ChangeSpec) : _root_.Go.OpenSpec := { _root_.Go.OpenSpec.ofChange s with cond := some uptoSmall }

/-- 'choruslaw5.Queues', WHERE WHAT IT READS IS OF BULK AT MOST 1048576: true; the input reads as it did. -/
def queuesUptoRow : OpenClaim := { program := "ytmbljbbopgojcaa", sum := "0685f3b3ef7c12c72b89600786e396101f1bd0a139fbb6d652fef421dab4dfd9", func := "chorus/choruslaw5.Queues", spec := "queues", unfollowed := true, recurses := true, apart := false, narrowed := true }
def QueuesUptoSaid : Prop := queuesUptoRow.holds Try.pinned (OpenSpec.upto queuesSpec)

/-- 'choruslaw5.QueueOrder', WHERE WHAT IT READS IS OF BULK AT MOST 1048576: true; the input reads as it did. -/
def queueOrderUptoRow : OpenClaim := { program := "ytmbljbbopgojcaa", sum := "0685f3b3ef7c12c72b89600786e396101f1bd0a139fbb6d652fef421dab4dfd9", func := "chorus/choruslaw5.QueueOrder", spec := "queueOrder", unfollowed := true, recurses := true, apart := false, narrowed := true }
def QueueOrderUptoSaid : Prop := queueOrderUptoRow.holds Try.pinned (OpenSpec.upto queueOrderSpec)

/-- 'choruslaw5.QueueForms', WHERE WHAT IT READS IS OF BULK AT MOST 1048576: true; the input reads as it did. -/
def queueFormsUptoRow : OpenClaim := { program := "ytmbljbbopgojcaa", sum := "0685f3b3ef7c12c72b89600786e396101f1bd0a139fbb6d652fef421dab4dfd9", func := "chorus/choruslaw5.QueueForms", spec := "queueForms", unfollowed := true, recurses := true, apart := false, narrowed := true }
def QueueFormsUptoSaid : Prop := queueFormsUptoRow.holds Try.pinned (OpenSpec.upto queueFormsSpec)

/-- 'choruslaw5.QueueEmpties', WHERE WHAT IT READS IS OF BULK AT MOST 1048576: true; the input reads as it did. -/
def queueEmptiesUptoRow : OpenClaim := { program := "ytmbljbbopgojcaa", sum := "0685f3b3ef7c12c72b89600786e396101f1bd0a139fbb6d652fef421dab4dfd9", func := "chorus/choruslaw5.QueueEmpties", spec := "queueEmpties", unfollowed := true, recurses := true, apart := false, narrowed := true }
def QueueEmptiesUptoSaid : Prop := queueEmptiesUptoRow.holds Try.pinned (OpenSpec.upto queueEmptiesSpec)

/-- 'choruslaw5.QueueTurns', WHERE WHAT IT READS IS OF BULK AT MOST 1048576: true; the input reads as it did. -/
def queueTurnsUptoRow : OpenClaim := { program := "ytmbljbbopgojcaa", sum := "0685f3b3ef7c12c72b89600786e396101f1bd0a139fbb6d652fef421dab4dfd9", func := "chorus/choruslaw5.QueueTurns", spec := "queueTurns", unfollowed := true, recurses := true, apart := false, narrowed := true }
def QueueTurnsUptoSaid : Prop := queueTurnsUptoRow.holds Try.pinned (OpenSpec.upto queueTurnsSpec)

end Rows
end Go.Proofs.Ytmbljbbopgojcaa
