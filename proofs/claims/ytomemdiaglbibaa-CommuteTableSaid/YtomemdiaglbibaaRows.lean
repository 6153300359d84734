/-
  No cell of these rows narrows 'for every input' (looked for: loops, veiled, ifaces, maps, wideKeys, modest, calm, conditions, laid).
  DERIVED. THE GIVEN ROWS OF THIS SEAT. 5 by the template 'for every input the law returns true; each argument reads behind the call as it read before'; 0 by the template 'total and deterministic' (their statements: YtomemdiaglbibaaTotals.lean).
  GIVEN WITH THE SEED: the statements are not yours to turn. If you find one false, say at which input.
  Laid BY PROGRAM, IN A SANDBOX (cutbox-rows.mjs): the forced cells as the released guide's own fill.sh prints them over the translation 8df590c7fafe9414… (all of the seat's roots in one cut). By AI agents, Wed Nov 11 2026. No macro, syntax, notation, axiom, sorry.
-/
import Derived.Test.YtomemdiaglbibaaChecked
import GoSem.Claim
import GoSem.ClaimJoined
import GoSem.ClaimMapViews
import Derived.JoinedTies
import Derived.KernelRfl
namespace Go.Proofs.Ytomemdiaglbibaa
/- THE CELL 'sum', in the pinned program and in every row, IS THE sha256 OF THE DUMP (.gsa) THAT YtomemdiaglbibaaProg.lean LOADS. Nothing in Lean hashes anything: it is a label: what it is worth is what the hold of that sum in a sandbox is worth. -/
noncomputable def Try.pinned : Pinned := { name := "ytomemdiaglbibaa", sum := "8df590c7fafe94141c2bfdb30b7c30cda76a1c9c2ae928adc67a0f4e06b6c2b8", checked := Try.checked }
namespace Rows
def none {H : Type} : Left H := { results := [], args := [] }

/-- 'choruslaw8.Commutes': WHATEVER THE INPUT: true; the input reads as it did. -/
def commutesSpec : ChangeSpec := { name := "commutes", fn := fun _ => fun
  | [d1, d2, d3, d4] => { results := [.lit (.bool true)], args := [d1, d2, d3, d4] }
  | _ => none }
def commutesRow : OpenClaim := { program := "ytomemdiaglbibaa", sum := "8df590c7fafe94141c2bfdb30b7c30cda76a1c9c2ae928adc67a0f4e06b6c2b8", func := "chorus/choruslaw8.Commutes", spec := "commutes", inPlace := ["slices.overlaps[int]"], unfollowed := true, recurses := true, apart := false }
def CommutesSaid : Prop := commutesRow.holds Try.pinned (OpenSpec.ofChange commutesSpec)

/-- ITS FALSE NEIGHBOUR: 'it returns false'. Refute it at one input. -/
def commutesWrong : ChangeSpec := { name := "commutes", fn := fun _ => fun
  | [d1, d2, d3, d4] => { results := [.lit (.bool false)], args := [d1, d2, d3, d4] }
  | _ => none }
def CommutesWrongFalsely : Prop := commutesRow.holds Try.pinned (OpenSpec.ofChange commutesWrong)

/-- 'choruslaw8.CommuteRows': WHATEVER THE INPUT: true; the input reads as it did. -/
def commuteRowsSpec : ChangeSpec := { name := "commuteRows", fn := fun _ => fun
  | [d1, d2, d3, d4] => { results := [.lit (.bool true)], args := [d1, d2, d3, d4] }
  | _ => none }
def commuteRowsRow : OpenClaim := { program := "ytomemdiaglbibaa", sum := "8df590c7fafe94141c2bfdb30b7c30cda76a1c9c2ae928adc67a0f4e06b6c2b8", func := "chorus/choruslaw8.CommuteRows", spec := "commuteRows", inPlace := ["slices.overlaps[int]"], unfollowed := true, recurses := true, apart := false }
def CommuteRowsSaid : Prop := commuteRowsRow.holds Try.pinned (OpenSpec.ofChange commuteRowsSpec)

/-- ITS FALSE NEIGHBOUR: 'it returns false'. Refute it at one input. -/
def commuteRowsWrong : ChangeSpec := { name := "commuteRows", fn := fun _ => fun
  | [d1, d2, d3, d4] => { results := [.lit (.bool false)], args := [d1, d2, d3, d4] }
  | _ => none }
def CommuteRowsWrongFalsely : Prop := commuteRowsRow.holds Try.pinned (OpenSpec.ofChange commuteRowsWrong)

/-- 'choruslaw8.CommuteTable': WHATEVER THE INPUT: true; the input reads as it did. -/
def commuteTableSpec : ChangeSpec := { name := "commuteTable", fn := fun _ => fun
  | [d] => { results := [.lit (.bool true)], args := [d] }
  | _ => none }
def commuteTableRow : OpenClaim := { program := "ytomemdiaglbibaa", sum := "8df590c7fafe94141c2bfdb30b7c30cda76a1c9c2ae928adc67a0f4e06b6c2b8", func := "chorus/choruslaw8.CommuteTable", spec := "commuteTable", inPlace := ["slices.overlaps[int]"], unfollowed := true, recurses := true, apart := false }
def CommuteTableSaid : Prop := commuteTableRow.holds Try.pinned (OpenSpec.ofChange commuteTableSpec)

/-- ITS FALSE NEIGHBOUR: 'it returns false'. Refute it at one input. -/
def commuteTableWrong : ChangeSpec := { name := "commuteTable", fn := fun _ => fun
  | [d] => { results := [.lit (.bool false)], args := [d] }
  | _ => none }
def CommuteTableWrongFalsely : Prop := commuteTableRow.holds Try.pinned (OpenSpec.ofChange commuteTableWrong)

/-- 'choruslaw8.CommuteForms': WHATEVER THE INPUT: true; the input reads as it did. -/
def commuteFormsSpec : ChangeSpec := { name := "commuteForms", fn := fun _ => fun
  | [d1, d2] => { results := [.lit (.bool true)], args := [d1, d2] }
  | _ => none }
def commuteFormsRow : OpenClaim := { program := "ytomemdiaglbibaa", sum := "8df590c7fafe94141c2bfdb30b7c30cda76a1c9c2ae928adc67a0f4e06b6c2b8", func := "chorus/choruslaw8.CommuteForms", spec := "commuteForms", inPlace := ["slices.overlaps[int]"], unfollowed := true, recurses := true, apart := false }
def CommuteFormsSaid : Prop := commuteFormsRow.holds Try.pinned (OpenSpec.ofChange commuteFormsSpec)

/-- ITS FALSE NEIGHBOUR: 'it returns false'. Refute it at one input. -/
def commuteFormsWrong : ChangeSpec := { name := "commuteForms", fn := fun _ => fun
  | [d1, d2] => { results := [.lit (.bool false)], args := [d1, d2] }
  | _ => none }
def CommuteFormsWrongFalsely : Prop := commuteFormsRow.holds Try.pinned (OpenSpec.ofChange commuteFormsWrong)

/-- 'choruslaw8.CommuteSame': WHATEVER THE INPUT: true; the input reads as it did. -/
def commuteSameSpec : ChangeSpec := { name := "commuteSame", fn := fun _ => fun
  | [d1, d2, d3] => { results := [.lit (.bool true)], args := [d1, d2, d3] }
  | _ => none }
def commuteSameRow : OpenClaim := { program := "ytomemdiaglbibaa", sum := "8df590c7fafe94141c2bfdb30b7c30cda76a1c9c2ae928adc67a0f4e06b6c2b8", func := "chorus/choruslaw8.CommuteSame", spec := "commuteSame", inPlace := ["slices.overlaps[int]"], unfollowed := true, recurses := true, apart := false }
def CommuteSameSaid : Prop := commuteSameRow.holds Try.pinned (OpenSpec.ofChange commuteSameSpec)

/-- ITS FALSE NEIGHBOUR: 'it returns false'. Refute it at one input. -/
def commuteSameWrong : ChangeSpec := { name := "commuteSame", fn := fun _ => fun
  | [d1, d2, d3] => { results := [.lit (.bool false)], args := [d1, d2, d3] }
  | _ => none }
def CommuteSameWrongFalsely : Prop := commuteSameRow.holds Try.pinned (OpenSpec.ofChange commuteSameWrong)

/- THE SECOND FORM. 'bulk': how many values and letters a reading holds, each counted each time it is reached (what is shared counts as often as it is met; a slice's spare places count too). A statement '..UptoSaid' is the law's where the arguments, and the package variables that the reading takes, are together of bulk at most 1048576: NARROWER than '..Said'. Prove '..Said' where nothing that the law and all that it calls make is longer than what came in: it says more and counts as full. Else prove '..UptoSaid'. A law counts once. -/
mutual
def uptoBulk {H : Type} : DataW H → Nat
  | .lit (.string bytes) => bytes.length + 1
  | .lit _ => 1
  | .nil => 1
  | .ptr d => uptoBulk d + 1
  | .slice elems spare => uptoBulkAll elems + uptoBulkAll spare + 1
  | .agg parts => uptoBulkAll parts + 1
  | .iface _ d => uptoBulk d + 1
  | .map entries => uptoBulkEntries entries + 1
  | .held _ => 1
def uptoBulkAll {H : Type} : List (DataW H) → Nat
  | [] => 0
  | d :: r => uptoBulk d + uptoBulkAll r
def uptoBulkEntries {H : Type} : List (Lit × DataW H) → Nat
  | [] => 0
  | x :: r => uptoBulkEntry x + uptoBulkEntries r
def uptoBulkEntry {H : Type} : Lit × DataW H → Nat
  | (.string bytes, d) => bytes.length + uptoBulk d + 1
  | (_, d) => uptoBulk d + 1
 end
def uptoSmall : (H : Type) → List (DataW H) → Bool := fun _ ds => decide (uptoBulkAll ds ≤ 1048576)
def OpenSpec.upto (s : _root_.Go.ChangeSpec) : _root_.Go.OpenSpec := { _root_.Go.OpenSpec.ofChange s with cond := some uptoSmall }

/-- 'choruslaw8.Commutes', WHERE WHAT IT READS IS OF BULK AT MOST 1048576: true; the input reads as it did. -/
def commutesUptoRow : OpenClaim := { program := "ytomemdiaglbibaa", sum := "8df590c7fafe94141c2bfdb30b7c30cda76a1c9c2ae928adc67a0f4e06b6c2b8", func := "chorus/choruslaw8.Commutes", spec := "commutes", inPlace := ["slices.overlaps[int]"], unfollowed := true, recurses := true, apart := false, narrowed := true }
def CommutesUptoSaid : Prop := commutesUptoRow.holds Try.pinned (OpenSpec.upto commutesSpec)

/-- 'choruslaw8.CommuteRows', WHERE WHAT IT READS IS OF BULK AT MOST 1048576: true; the input reads as it did. -/
def commuteRowsUptoRow : OpenClaim := { program := "ytomemdiaglbibaa", sum := "8df590c7fafe94141c2bfdb30b7c30cda76a1c9c2ae928adc67a0f4e06b6c2b8", func := "chorus/choruslaw8.CommuteRows", spec := "commuteRows", inPlace := ["slices.overlaps[int]"], unfollowed := true, recurses := true, apart := false, narrowed := true }
def CommuteRowsUptoSaid : Prop := commuteRowsUptoRow.holds Try.pinned (OpenSpec.upto commuteRowsSpec)

/-- 'choruslaw8.CommuteTable', WHERE WHAT IT READS IS OF BULK AT MOST 1048576: true; the input reads as it did. -/
def commuteTableUptoRow : OpenClaim := { program := "ytomemdiaglbibaa", sum := "8df590c7fafe94141c2bfdb30b7c30cda76a1c9c2ae928adc67a0f4e06b6c2b8", func := "chorus/choruslaw8.CommuteTable", spec := "commuteTable", inPlace := ["slices.overlaps[int]"], unfollowed := true, recurses := true, apart := false, narrowed := true }
def CommuteTableUptoSaid : Prop := commuteTableUptoRow.holds Try.pinned (OpenSpec.upto commuteTableSpec)

/-- 'choruslaw8.CommuteForms', WHERE WHAT IT READS IS OF BULK AT MOST 1048576: true; the input reads as it did. -/
def commuteFormsUptoRow : OpenClaim := { program := "ytomemdiaglbibaa", sum := "8df590c7fafe94141c2bfdb30b7c30cda76a1c9c2ae928adc67a0f4e06b6c2b8", func := "chorus/choruslaw8.CommuteForms", spec := "commuteForms", inPlace := ["slices.overlaps[int]"], unfollowed := true, recurses := true, apart := false, narrowed := true }
def CommuteFormsUptoSaid : Prop := commuteFormsUptoRow.holds Try.pinned (OpenSpec.upto commuteFormsSpec)

/-- 'choruslaw8.CommuteSame', WHERE WHAT IT READS IS OF BULK AT MOST 1048576: true; the input reads as it did. -/
def commuteSameUptoRow : OpenClaim := { program := "ytomemdiaglbibaa", sum := "8df590c7fafe94141c2bfdb30b7c30cda76a1c9c2ae928adc67a0f4e06b6c2b8", func := "chorus/choruslaw8.CommuteSame", spec := "commuteSame", inPlace := ["slices.overlaps[int]"], unfollowed := true, recurses := true, apart := false, narrowed := true }
def CommuteSameUptoSaid : Prop := commuteSameUptoRow.holds Try.pinned (OpenSpec.upto commuteSameSpec)

end Rows
end Go.Proofs.Ytomemdiaglbibaa
