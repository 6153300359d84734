/-
 Queues by the document (chapters 5, 6), as the small machine runs them.
-/
import Derived.Test.YtalknjppnkpmmaaDoorFn31
import Derived.Test.YtalknjppnkpmmaaDoorFn33
import Derived.Test.YtalknjppnkpmmaaDoorFn24
set_option linter.unusedVariables false
set_option linter.unusedSimpArgs false
set_option maxHeartbeats 4000000
set_option maxRecDepth 100000
namespace Go.Proofs.YtalknjppnkpmmaaDoorW.Ai
section
variable (X : Ext) (F : FuncId → Option RFunc) (g : FuncId)
end
theorem Sl.tail {h : AH} {a : Option Addr} {n : Nat} {y : Int} {xs : List Int} (hs : Sl 1 h a n n (ints (y :: xs))) : ∃ b o m, a = some ⟨b, o, m⟩ ∧ Sl 1 h (some ⟨b, o + 1 * 1, m⟩) (n - 1) (n - 1) (ints xs) := by
 have hl := hs.ilen
 simp at hl
 obtain ⟨b, o, m, ds, rfl, h1, h2, h3⟩ := hs.cells (by omega) (by omega)
 refine ⟨b, o, m, rfl, ?_, Nat.le_refl _, by rw [ints_len]; omega, fun h0 => by cases h0⟩
 have e : ints xs = (ds.drop (o + 1 * 1)).take ((n - 1) * 1) := by
  have : (ints (y :: xs)).drop 1 = ints xs := rfl
  rw [← this, h3, List.drop_take, List.drop_drop]
  congr 1 <;> omega
 simp only [aElems]
 rw [if_pos (Nat.le_refl _)]
 by_cases h0 : (n - 1) * 1 = 0
 ·rw [if_pos h0]
  have : xs = [] := List.eq_nil_of_length_eq_zero (by omega)
  rw [this]; rfl
 ·rw [if_neg h0]
  simp only [cellsOf, h1, Option.bind_some]
  rw [if_pos (by omega), e]
section
variable {X : Ext} {F : FuncId → Option RFunc} {f : FuncId}
end
end Go.Proofs.YtalknjppnkpmmaaDoorW.Ai
