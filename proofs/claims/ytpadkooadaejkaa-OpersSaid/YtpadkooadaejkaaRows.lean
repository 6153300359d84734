/-
  No cell of these rows narrows 'for every input' (looked for: loops, veiled, ifaces, maps, wideKeys, modest, calm, conditions, laid).
  DERIVED. THE GIVEN ROWS OF THIS SEAT. 3 by the template 'for every input the law returns true; each argument reads behind the call as it read before'; 0 by the template 'total and deterministic' (their statements: YtpadkooadaejkaaTotals.lean).
  GIVEN WITH THE SEED: the statements are not yours to turn. If you find one false, say at which input.
  Laid BY PROGRAM, IN A SANDBOX (cutbox-rows.mjs): the forced cells as the released guide's own fill.sh prints them over the translation 0f36b1e1f67c46e6… (all of the seat's roots in one cut). By AI agents, Wed Nov 11 2026. No macro, syntax, notation, axiom, sorry.
-/
import Derived.Test.YtpadkooadaejkaaChecked
import GoSem.Claim
import GoSem.ClaimJoined
import GoSem.ClaimMapViews
import Derived.JoinedTies
import Derived.KernelRfl
namespace Go.Proofs.Ytpadkooadaejkaa
/- THE CELL 'sum', in the pinned program and in every row, IS THE sha256 OF THE DUMP (.gsa) THAT YtpadkooadaejkaaProg.lean LOADS. Nothing in Lean hashes anything: it is a label: what it is worth is what the hold of that sum in a sandbox is worth. -/
noncomputable def Try.pinned : Pinned := { name := "ytpadkooadaejkaa", sum := "0f36b1e1f67c46e67e146ff03f5fc6b35d72947018855ef27c8ba84913d5f5b2", checked := Try.checked }
namespace Rows
def none {H : Type} : Left H := { results := [], args := [] }

/-- 'choruslaw2.Opers': WHATEVER THE INPUT: true; the input reads as it did. -/
def opersSpec : ChangeSpec := { name := "opers", fn := fun _ => fun
  | [d1, d2, d3] => { results := [.lit (.bool true)], args := [d1, d2, d3] }
  | _ => none }
def opersRow : OpenClaim := { program := "ytpadkooadaejkaa", sum := "0f36b1e1f67c46e67e146ff03f5fc6b35d72947018855ef27c8ba84913d5f5b2", func := "chorus/choruslaw2.Opers", spec := "opers", apart := false }
def OpersSaid : Prop := opersRow.holds Try.pinned (OpenSpec.ofChange opersSpec)

/-- ITS FALSE NEIGHBOUR: 'it returns false'. Refute it at one input. -/
def opersWrong : ChangeSpec := { name := "opers", fn := fun _ => fun
  | [d1, d2, d3] => { results := [.lit (.bool false)], args := [d1, d2, d3] }
  | _ => none }
def OpersWrongFalsely : Prop := opersRow.holds Try.pinned (OpenSpec.ofChange opersWrong)

/-- 'choruslaw2.OperForms': WHATEVER THE INPUT: true; the input reads as it did. -/
def operFormsSpec : ChangeSpec := { name := "operForms", fn := fun _ => fun
  | [d1, d2] => { results := [.lit (.bool true)], args := [d1, d2] }
  | _ => none }
def operFormsRow : OpenClaim := { program := "ytpadkooadaejkaa", sum := "0f36b1e1f67c46e67e146ff03f5fc6b35d72947018855ef27c8ba84913d5f5b2", func := "chorus/choruslaw2.OperForms", spec := "operForms", apart := false }
def OperFormsSaid : Prop := operFormsRow.holds Try.pinned (OpenSpec.ofChange operFormsSpec)

/-- ITS FALSE NEIGHBOUR: 'it returns false'. Refute it at one input. -/
def operFormsWrong : ChangeSpec := { name := "operForms", fn := fun _ => fun
  | [d1, d2] => { results := [.lit (.bool false)], args := [d1, d2] }
  | _ => none }
def OperFormsWrongFalsely : Prop := operFormsRow.holds Try.pinned (OpenSpec.ofChange operFormsWrong)

/-- 'choruslaw2.OperBack': WHATEVER THE INPUT: true; the input reads as it did. -/
def operBackSpec : ChangeSpec := { name := "operBack", fn := fun _ => fun
  | [d1, d2, d3] => { results := [.lit (.bool true)], args := [d1, d2, d3] }
  | _ => none }
def operBackRow : OpenClaim := { program := "ytpadkooadaejkaa", sum := "0f36b1e1f67c46e67e146ff03f5fc6b35d72947018855ef27c8ba84913d5f5b2", func := "chorus/choruslaw2.OperBack", spec := "operBack", apart := false }
def OperBackSaid : Prop := operBackRow.holds Try.pinned (OpenSpec.ofChange operBackSpec)

/-- ITS FALSE NEIGHBOUR: 'it returns false'. Refute it at one input. -/
def operBackWrong : ChangeSpec := { name := "operBack", fn := fun _ => fun
  | [d1, d2, d3] => { results := [.lit (.bool false)], args := [d1, d2, d3] }
  | _ => none }
def OperBackWrongFalsely : Prop := operBackRow.holds Try.pinned (OpenSpec.ofChange operBackWrong)

/- THE SECOND FORM. 'bulk': how many values and letters a reading holds, each counted each time it is reached (what is shared counts as often as it is met; a slice's spare places count too). A statement '..UptoSaid' is the law's where the arguments, and the package variables that the reading takes, are together of bulk at most 1048576: NARROWER than '..Said'. Prove '..Said' where nothing that the law and all that it calls make is longer than what came in: it says more and counts as full. Else prove '..UptoSaid'. A law counts once. -/
mutual
def uptoBulk {H : Type} : DataW H → Nat
  | .lit (.string bytes) => bytes.length + 1
  | .lit _ => 1
  | .nil => 1
  | .ptr d => uptoBulk d + 1
  | .slice elems spare => uptoBulkAll elems + uptoBulkAll spare + 1
  | .agg parts => uptoBulkAll parts + 1
  | .iface _ d => uptoBulk d + 1
  | .map entries => uptoBulkEntries entries + 1
  | .held _ => 1
def uptoBulkAll {H : Type} : List (DataW H) → Nat
  | [] => 0
  | d :: r => uptoBulk d + uptoBulkAll r
def uptoBulkEntries {H : Type} : List (Lit × DataW H) → Nat
  | [] => 0
  | x :: r => uptoBulkEntry x + uptoBulkEntries r
def uptoBulkEntry {H : Type} : Lit × DataW H → Nat
  | (.string bytes, d) => bytes.length + uptoBulk d + 1
  | (_, d) => uptoBulk d + 1
 end
def uptoSmall : (H : Type) → List (DataW H) → Bool := fun _ ds => decide (uptoBulkAll ds ≤ 1048576)
def OpenSpec.upto (s : _root_.Go.ChangeSpec) : _root_.Go.OpenSpec := { _root_.Go.OpenSpec.ofChange s with cond := some uptoSmall }

/-- 'choruslaw2.Opers', WHERE WHAT IT READS IS OF BULK AT MOST 1048576: true; the input reads as it did. -/
def opersUptoRow : OpenClaim := { program := "ytpadkooadaejkaa", sum := "0f36b1e1f67c46e67e146ff03f5fc6b35d72947018855ef27c8ba84913d5f5b2", func := "chorus/choruslaw2.Opers", spec := "opers", apart := false, narrowed := true }
def OpersUptoSaid : Prop := opersUptoRow.holds Try.pinned (OpenSpec.upto opersSpec)

/-- 'choruslaw2.OperForms', WHERE WHAT IT READS IS OF BULK AT MOST 1048576: true; the input reads as it did. -/
def operFormsUptoRow : OpenClaim := { program := "ytpadkooadaejkaa", sum := "0f36b1e1f67c46e67e146ff03f5fc6b35d72947018855ef27c8ba84913d5f5b2", func := "chorus/choruslaw2.OperForms", spec := "operForms", apart := false, narrowed := true }
def OperFormsUptoSaid : Prop := operFormsUptoRow.holds Try.pinned (OpenSpec.upto operFormsSpec)

/-- 'choruslaw2.OperBack', WHERE WHAT IT READS IS OF BULK AT MOST 1048576: true; the input reads as it did. -/
def operBackUptoRow : OpenClaim := { program := "ytpadkooadaejkaa", sum := "0f36b1e1f67c46e67e146ff03f5fc6b35d72947018855ef27c8ba84913d5f5b2", func := "chorus/choruslaw2.OperBack", spec := "operBack", apart := false, narrowed := true }
def OperBackUptoSaid : Prop := operBackUptoRow.holds Try.pinned (OpenSpec.upto operBackSpec)

end Rows
end Go.Proofs.Ytpadkooadaejkaa
