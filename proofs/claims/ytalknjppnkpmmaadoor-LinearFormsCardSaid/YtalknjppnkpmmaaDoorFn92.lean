/-
 Big literals, part by part.
-/
import Derived.Test.YtalknjppnkpmmaaDoorFn91
set_option linter.unusedVariables false
set_option linter.unusedSimpArgs false
set_option maxHeartbeats 1000000
set_option maxRecDepth 100000
namespace Go.Proofs.YtalknjppnkpmmaaDoorW.Ai
def fillB (L : Al) (w : Nat) : List Operand → Option (List Value)
 | [] => some []
 | x :: rest => match lev L x with
  | some v => if v.cells.toList.length = w then (fillB L w rest).map (v.cells.toList ++ ·) else none
  | none => none
def blkP (w : Nat) : Nat → List Operand → List (Nat × Nat × Operand)
 | _, [] => []
 | k, x :: rest => (k, w, x) :: blkP w (k + w) rest
theorem fillB_go {L : Al} {w : Nat} : ∀ {os : List Operand} {pre z cs : List Value}, fillB L w os = some cs → z.length = w * os.length → fillL L (pre ++ z) (blkP w pre.length os) = some (pre ++ cs)
 | [], pre, z, cs, h, hz => by
  simp only [fillB, Option.some.injEq] at h
  have : z = [] := List.eq_nil_of_length_eq_zero (by simpa using hz)
  subst h this; rfl
 | x :: os, pre, z, cs, h, hz => by
  simp only [fillB] at h
  simp only [blkP, fillL]
  cases hx : lev L x with
  | none => simp [hx] at h
  | some v =>
   simp only [hx] at h ⊢
   split at h
   ·next hw =>
    simp only [Option.map_eq_some_iff] at h
    obtain ⟨cs', h1, rfl⟩ := h
    have hz' : z.length = w * os.length + w := by simpa [Nat.mul_add] using hz
    have hw' : v.cells.size = w := by simpa using hw
    rw [if_neg (by simp only [List.length_append]; omega)]
    have e1 : over (pre ++ z) pre.length v.cells.toList = (pre ++ v.cells.toList) ++ z.drop w := by
     simp only [over, List.take_left', List.take_append_of_le_length (Nat.le_refl _), List.take_length]
     rw [List.drop_append, List.drop_of_length_le (by omega), hw]
     simp [hw]
    have e2 : pre.length + w = (pre ++ v.cells.toList).length := by simp only [List.length_append, hw]
    rw [e1, e2, fillB_go h1 (by rw [List.length_drop]; omega)]
    simp
   ·cases h
theorem fillB_all {L : Al} {w : Nat} {os : List Operand} {z cs : List Value} {ps : List (Nat × Nat × Operand)} (h : fillB L w os = some cs) (hp : ps = blkP w 0 os) (hz : z.length = w * os.length) : fillL L z ps = some cs := by
 subst hp; exact fillB_go (pre := []) h hz
end Go.Proofs.YtalknjppnkpmmaaDoorW.Ai
