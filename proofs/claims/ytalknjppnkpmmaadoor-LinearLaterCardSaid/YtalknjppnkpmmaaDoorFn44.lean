/-
 Tables by the document (chapters 4, 6), as the small machine runs them: rows.
-/
import Derived.Test.YtalknjppnkpmmaaDoorFn43
set_option linter.unusedVariables false
set_option linter.unusedSimpArgs false
set_option maxHeartbeats 4000000
set_option maxRecDepth 100000
namespace Go.Proofs.YtalknjppnkpmmaaDoorW.Ai
section
variable (X : Ext) (F : FuncId → Option RFunc) (g : FuncId)
end
theorem TabRow.rng {xs : List Int} (hT : TabRow xs) {x : Int} (hx : x ∈ xs) : 0 ≤ x ∧ x < 4 := by
 obtain ⟨k, hk, rfl⟩ := List.mem_iff_getElem.1 hx
 exact (hT k hk).1
section
variable {X : Ext} {F : FuncId → Option RFunc} {f : FuncId}
structure KS where
 i : Nat
 h : AH
 b : Option Addr
 n : Nat
end
end Go.Proofs.YtalknjppnkpmmaaDoorW.Ai
