/-
 Entries of a ring, lap by lap (chapter 10): what is there, and what is not.
-/
import Derived.Test.YtgjickapnfnkfaaLRings
set_option linter.unusedVariables false
set_option linter.unusedSimpArgs false
set_option maxHeartbeats 4000000
set_option maxRecDepth 100000
namespace Go.Proofs.YtgjickapnfnkfaaW.Ai
/-- The bit of an entry that is there. -/
def bitN (x k : Nat) : Int := 1 - ((x / k % 2 : Nat) : Int)
theorem BitM_nat {x k : Nat} (hk : SlotsN k) (hx : x ≤ 1048576) : BitM x k = (bitN x k, 0) := by
 unfold BitM
 rw [if_pos ⟨hk, by omega, by omega⟩]
 rfl
theorem bitN_rng (x k : Nat) : bitN x k = 0 ∨ bitN x k = 1 := by unfold bitN; omega
theorem SlotsN.cases {k : Nat} (hk : SlotsN k) : k = 2 ∨ k = 4 ∨ k = 8 ∨ k = 16 := by unfold SlotsN at hk; omega
theorem lap_ne {k x y : Nat} (hk : SlotsN k) (h1 : x < y) (h2 : y < x + k) : x % k ≠ y % k := by
 rcases hk.cases with rfl | rfl | rfl | rfl <;> omega
theorem lap_add {k x : Nat} (hk : SlotsN k) : (x + k) % k = x % k ∧ bitN (x + k) k ≠ bitN x k := by
 unfold bitN
 rcases hk.cases with rfl | rfl | rfl | rfl <;> omega
/-- Of a ring of k slots whose head is t the entries from t to j are there, the others not. -/
structure Lap (k t j : Nat) (ss : List SlotR) : Prop where
 n : ss.length = k
 m : SlotsN k
 ok : SlotsOk ss
 dead : ∀ x : Nat, j ≤ x → x < t + k → (ss.getD (x % k) noSlot).b ≠ bitN x k
 live : ∀ x : Nat, t ≤ x → x < j → (ss.getD (x % k) noSlot).b = bitN x k
theorem Lap.new {k : Nat} (hk : SlotsN k) : Lap k 0 0 (List.replicate k noSlot) := by
 refine ⟨List.length_replicate, hk, fun s hs => ?_, fun x h1 h2 => ?_, fun x h1 h2 => by omega⟩
 ·rw [(List.mem_replicate.1 hs).2]
  refine ⟨?_, ?_, ?_, ?_, .inl rfl⟩ <;> decide
 ·have h3 : x % k < k := Nat.mod_lt _ (by rcases hk.cases with h | h | h | h <;> omega)
  rw [List.getD_eq_getElem?_getD, List.getElem?_replicate, if_pos h3]
  unfold bitN
  rw [Nat.div_eq_of_lt (by omega)]
  decide
theorem Lap.place {k t j c x : Nat} {ss : List SlotR} (H : Lap k t j ss) : placeOf ⟨t, (t : Int) + c, 0, ss⟩ x = x % k := by
 show ((x : Int) % (ss.length : Int)).toNat = _
 rw [H.n]; omega
theorem Lap.okR {k t j c : Nat} {ss : List SlotR} (H : Lap k t j ss) (hc : c ≤ k) (ht : t ≤ 1000) : Ok ⟨t, (t : Int) + c, 0, ss⟩ := by
 have := H.m.cases
 have := H.n
 exact ⟨by rw [H.n]; exact H.m, H.ok, ⟨Int.le_refl 0, by show (0 : Int) ≤ 4; decide⟩, by show (0 : Int) ≤ t; omega, by show (t : Int) ≤ t + c; omega, by show (t : Int) + c ≤ 1048576; omega, by show (t : Int) + c - t ≤ ss.length; omega⟩
theorem Lap.okE {k t j : Nat} {ss : List SlotR} (H : Lap k t j ss) (ht : t ≤ 1000) : Ok ⟨t, t, 0, ss⟩ := by
 have := H.okR (c := 0) (by omega) ht
 simpa using this
theorem Lap.entry0 {k t j c : Nat} {ss : List SlotR} (H : Lap k t j ss) (hc : c ≤ k) (ht : t ≤ 1000) (h1 : t ≤ j) (h2 : j < t + c) : EntryM ⟨t, (t : Int) + c, 0, ss⟩ j = (noSlot, 1002) := by
 have := H.m.cases
 have hin : (⟨t, (t : Int) + c, 0, ss⟩ : RingR).p ≤ (j : Int) ∧ (j : Int) < (⟨t, (t : Int) + c, 0, ss⟩ : RingR).q := ⟨by show (t : Int) ≤ j; omega, by show (j : Int) < t + c; omega⟩
 unfold EntryM
 rw [if_neg (fun q => q (H.okR hc ht)), if_neg (fun q => q hin), H.place, if_neg]
 simp only [H.n]
 rw [BitM_nat H.m (by omega)]
 exact H.dead j (Nat.le_refl _) (by omega)
theorem Lap.publish {k t j c : Nat} {ss : List SlotR} {w a th : Int} (H : Lap k t j ss) (hc : c ≤ k) (ht : t ≤ 1000) (h1 : t ≤ j) (h2 : j < t + c) (hw : 0 ≤ w ∧ w ≤ 3) (ha : 0 ≤ a ∧ a ≤ 255) (hth : 0 ≤ th ∧ th ≤ 3) : PublishM ⟨t, (t : Int) + c, 0, ss⟩ j 0 w a th = (⟨t, (t : Int) + c, 0, ss.set (j % k) ⟨0, w, a, th, bitN j k⟩⟩, 0) := by
 have := H.m.cases
 unfold PublishM
 rw [if_pos ⟨H.okR hc ht, ⟨by show (t : Int) ≤ j; omega, by show (j : Int) < t + c; omega⟩, ⟨⟨by decide, hw, ha, .inl (by decide)⟩, by decide⟩, hth.1, by omega⟩, H.place]
 simp only [H.n]
 rw [BitM_nat H.m (by omega)]
theorem Lap.next {k t j : Nat} {ss : List SlotR} {s : SlotR} (H : Lap k t j ss) (h1 : t ≤ j) (h2 : j < t + k) (hs : SlotOk s) (hb : s.b = bitN j k) : Lap k t (j + 1) (ss.set (j % k) s) := by
 have hk := H.m.cases
 have hj : j % k < ss.length := by rw [H.n]; exact Nat.mod_lt _ (by omega)
 refine ⟨by rw [List.length_set]; exact H.n, H.m, fun q hq => ?_, fun x q1 q2 => ?_, fun x q1 q2 => ?_⟩
 ·rcases List.mem_or_eq_of_mem_set hq with hq | rfl
  ·exact H.ok q hq
  ·exact hs
 ·have hne : j % k ≠ x % k := lap_ne H.m (by omega) (by omega)
  rw [List.getD_eq_getElem?_getD, List.getElem?_set_ne hne, ← List.getD_eq_getElem?_getD]
  exact H.dead x (by omega) q2
 ·by_cases hx : x = j
  ·subst hx
   rw [List.getD_eq_getElem?_getD, List.getElem?_set_self hj]
   exact hb
  ·have hne : x % k ≠ j % k := lap_ne H.m (by omega) (by omega)
   rw [List.getD_eq_getElem?_getD, List.getElem?_set_ne (Ne.symm hne), ← List.getD_eq_getElem?_getD]
   exact H.live x q1 (by omega)
theorem Lap.entry1 {k t j c : Nat} {ss : List SlotR} {s : SlotR} (H : Lap k t j ss) (hc : c ≤ k) (ht : t ≤ 1000) (h1 : t ≤ j) (h2 : j < t + c) (hs : SlotOk s) (hb : s.b = bitN j k) : EntryM ⟨t, (t : Int) + c, 0, ss.set (j % k) s⟩ j = (s, 0) := by
 have H1 := H.next h1 (by omega) hs hb
 have hk := H.m.cases
 have hj : j % k < ss.length := by rw [H.n]; exact Nat.mod_lt _ (by omega)
 have hg : (ss.set (j % k) s).getD (j % k) noSlot = s := by rw [List.getD_eq_getElem?_getD, List.getElem?_set_self hj]; rfl
 have hin : (⟨t, (t : Int) + c, 0, ss.set (j % k) s⟩ : RingR).p ≤ (j : Int) ∧ (j : Int) < (⟨t, (t : Int) + c, 0, ss.set (j % k) s⟩ : RingR).q := ⟨by show (t : Int) ≤ j; omega, by show (j : Int) < t + c; omega⟩
 unfold EntryM
 rw [if_neg (fun q => q (H1.okR hc ht)), if_neg (fun q => q hin), H1.place, hg, if_pos]
 simp only [H1.n]
 rw [BitM_nat H.m (by omega)]
 exact hb
theorem Lap.free {k t c : Nat} {ss : List SlotR} (H : Lap k t (t + c) ss) (hc : c ≤ k) (ht : t ≤ 1000) : Lap k (t + c) (t + c) ss ∧ FreeM ⟨t, (t : Int) + c, 0, ss⟩ ((t : Int) + c) = (⟨((t + c : Nat) : Int), ((t + c : Nat) : Int), 0, ss⟩, 0) := by
 have hk := H.m.cases
 refine ⟨⟨H.n, H.m, H.ok, fun x q1 q2 => ?_, fun x q1 q2 => by omega⟩, ?_⟩
 ·by_cases hx : x < t + k
  ·exact H.dead x q1 hx
  ·obtain ⟨y, rfl⟩ : ∃ y, x = y + k := ⟨x - k, by omega⟩
   have e := lap_add (x := y) H.m
   rw [e.1, H.live y (by omega) (by omega)]
   exact Ne.symm e.2
 ·unfold FreeM
  refine (if_pos ⟨H.okR hc ht, by show (t : Int) ≤ t + c; omega, by show (t : Int) + c ≤ t + c; omega⟩).trans ?_
  rfl
theorem Lap.reserve {k t c : Nat} {ss : List SlotR} (H : Lap k t t ss) (h1 : 1 ≤ c) (hc : c ≤ k) (ht : t ≤ 1000) : ReserveM ⟨t, t, 0, ss⟩ c = ((⟨t, (t : Int) + c, 0, ss⟩ : RingR), (t : Int), (0 : Int)) := by
 have hk := H.m.cases
 have hn := H.n
 unfold ReserveM
 rw [if_neg, if_neg]
 ·simp only
  omega
 ·rintro (h | h | h)
  ·exact h (H.okE ht)
  ·omega
  ·simp only at h
   omega
end Go.Proofs.YtgjickapnfnkfaaW.Ai
