/-
 Entries of a ring, lap by lap (chapter 10): what is there, and what is not.
-/
import Derived.Test.YtgjickapnfnkfaaLRings
set_option linter.unusedVariables false
set_option linter.unusedSimpArgs false
set_option maxHeartbeats 4000000
set_option maxRecDepth 100000
namespace Go.Proofs.YtgjickapnfnkfaaW.Ai
/-- The bit of an entry that is there. -/
def bitN (x k : Nat) : Int := 1 - ((x / k % 2 : Nat) : Int)
theorem BitM_nat {x k : Nat} (hk : SlotsN k) (hx : x ≤ 1048576) : BitM x k = (bitN x k, 0) := by
 unfold BitM
 rw [if_pos ⟨hk, by omega, by omega⟩]
 rfl
theorem SlotsN.cases {k : Nat} (hk : SlotsN k) : k = 2 ∨ k = 4 ∨ k = 8 ∨ k = 16 := by unfold SlotsN at hk; omega
/-- Of a ring of k slots whose head is t the entries from t to j are there, the others not. -/
structure Lap (k t j : Nat) (ss : List SlotR) : Prop where
 n : ss.length = k
 m : SlotsN k
 ok : SlotsOk ss
 dead : ∀ x : Nat, j ≤ x → x < t + k → (ss.getD (x % k) noSlot).b ≠ bitN x k
 live : ∀ x : Nat, t ≤ x → x < j → (ss.getD (x % k) noSlot).b = bitN x k
theorem Lap.new {k : Nat} (hk : SlotsN k) : Lap k 0 0 (List.replicate k noSlot) := by
 refine ⟨List.length_replicate, hk, fun s hs => ?_, fun x h1 h2 => ?_, fun x h1 h2 => by omega⟩
 ·rw [(List.mem_replicate.1 hs).2]
  refine ⟨?_, ?_, ?_, ?_, .inl rfl⟩ <;> decide
 ·have h3 : x % k < k := Nat.mod_lt _ (by rcases hk.cases with h | h | h | h <;> omega)
  rw [List.getD_eq_getElem?_getD, List.getElem?_replicate, if_pos h3]
  unfold bitN
  rw [Nat.div_eq_of_lt (by omega)]
  decide
theorem Lap.place {k t j c x : Nat} {ss : List SlotR} (H : Lap k t j ss) : placeOf ⟨t, (t : Int) + c, 0, ss⟩ x = x % k := by
 show ((x : Int) % (ss.length : Int)).toNat = _
 rw [H.n]; omega
end Go.Proofs.YtgjickapnfnkfaaW.Ai
