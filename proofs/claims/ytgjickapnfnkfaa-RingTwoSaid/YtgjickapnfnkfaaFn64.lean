/-
 Entries of a ring published in any row (chapter 10): what is there, and what is not.
-/
import Derived.Test.YtgjickapnfnkfaaFn63
set_option linter.unusedVariables false
set_option linter.unusedSimpArgs false
set_option maxHeartbeats 4000000
set_option maxRecDepth 100000
namespace Go.Proofs.YtgjickapnfnkfaaW.Ai
/-- The slots of which those that D tells are published. -/
def twoS (D : List Bool) (j : Nat) : SlotR := if D.getD j false = true then ⟨0, 0, (j : Int), ((j % 4 : Nat) : Int), 1⟩ else noSlot
def two (D : List Bool) : List SlotR := (List.range 8).map (twoS D)
theorem two_len (D : List Bool) : (two D).length = 8 := by simp [two]
theorem two_new : two [false, false, false, false, false, false, false, false] = List.replicate 8 noSlot := by decide
theorem two_get (D : List Bool) {j : Nat} (hj : j < 8) : (two D).getD j noSlot = twoS D j := by
 unfold two
 rw [List.getD_eq_getElem?_getD, List.getElem?_map, List.getElem?_range hj]
 rfl
theorem twoS_ok (D : List Bool) {j : Nat} (hj : j < 8) : SlotOk (twoS D j) := by
 unfold twoS
 split
 ·refine ⟨⟨(by decide : (0 : Int) ≤ 0 ∧ (0 : Int) ≤ 3), (by decide : (0 : Int) ≤ 0 ∧ (0 : Int) ≤ 3), ⟨by show (0 : Int) ≤ j; omega, by show (j : Int) ≤ 255; omega⟩, .inl (by decide : (0 : Int) < 2)⟩, (by decide : (0 : Int) < 2), by show (0 : Int) ≤ ((j % 4 : Nat) : Int); omega, by show ((j % 4 : Nat) : Int) ≤ 3; omega, .inr rfl⟩
 ·refine ⟨?_, ?_, ?_, ?_, .inl rfl⟩ <;> decide
theorem two_okS (D : List Bool) : SlotsOk (two D) := fun s hs => by
 obtain ⟨j, hj, rfl⟩ := List.mem_map.1 hs
 exact twoS_ok D (List.mem_range.1 hj)
theorem two_ok (D : List Bool) {w : Nat} (hw : w ≤ 8) : Ok ⟨0, w, 0, two D⟩ := by
 refine ⟨by rw [two_len]; exact .inr (.inr (.inl rfl)), two_okS D, ⟨Int.le_refl 0, by show (0 : Int) ≤ 4; decide⟩, Int.le_refl 0, by show (0 : Int) ≤ w; omega, by show (w : Int) ≤ 1048576; omega, by rw [two_len]; show (w : Int) - 0 ≤ 8; omega⟩
theorem bit8 {x : Nat} (hx : x < 8) : BitM x ((8 : Nat) : Int) = (1, 0) := by
 rw [BitM_nat (.inr (.inr (.inl rfl))) (by omega)]
 unfold bitN
 rw [Nat.div_eq_of_lt hx]
 rfl
theorem two_set {D : List Bool} (hD : D.length = 8) {p : Nat} (hp : p < 8) : (two D).set p ⟨0, 0, (p : Int), ((p % 4 : Nat) : Int), 1⟩ = two (D.set p true) := by
 apply List.ext_getElem?
 intro i
 by_cases hi : i < 8
 ·have e1 : ∀ E : List Bool, (two E)[i]? = some (twoS E i) := fun E => by
   unfold two
   rw [List.getElem?_map, List.getElem?_range hi]; rfl
  by_cases hip : p = i
  ·subst hip
   rw [List.getElem?_set_self (by rw [two_len]; exact hp), e1]
   unfold twoS
   rw [if_pos]
   rw [List.getD_eq_getElem?_getD, List.getElem?_set_self (by omega)]; rfl
  ·rw [List.getElem?_set_ne hip, e1, e1]
   unfold twoS
   rw [List.getD_eq_getElem?_getD, List.getD_eq_getElem?_getD, List.getElem?_set_ne hip]
 ·rw [List.getElem?_eq_none (by rw [List.length_set, two_len]; omega), List.getElem?_eq_none (by rw [two_len]; omega)]
theorem placeTwo {D : List Bool} {w j : Nat} (hj : j < 8) : placeOf ⟨0, w, 0, two D⟩ j = j := by
 show ((j : Int) % ((two D).length : Int)).toNat = j
 rw [two_len]; omega
theorem two_publish {D : List Bool} {w p : Nat} {t : Int} (hD : D.length = 8) (hw : w ≤ 8) (hp : p < w) (ht : t = ((p % 4 : Nat) : Int)) : PublishM ⟨0, w, 0, two D⟩ p 0 0 p t = (⟨0, w, 0, two (D.set p true)⟩, 0) := by
 subst ht
 unfold PublishM
 rw [if_pos ⟨two_ok D hw, ⟨by show (0 : Int) ≤ p; omega, by show (p : Int) < w; omega⟩, ⟨⟨by decide, by decide, ⟨by omega, by omega⟩, .inl (by decide)⟩, by decide⟩, by omega, by omega⟩, placeTwo (by omega)]
 simp only [two_len]
 rw [bit8 (by omega), two_set hD (by omega)]
theorem two_entry {D : List Bool} {w j : Nat} (hw : w ≤ 8) (hj : j < w) : EntryM ⟨0, w, 0, two D⟩ j = (twoS D j, if D.getD j false = true then 0 else 1002) := by
 have hin : (⟨0, w, 0, two D⟩ : RingR).p ≤ (j : Int) ∧ (j : Int) < (⟨0, w, 0, two D⟩ : RingR).q := ⟨by show (0 : Int) ≤ j; omega, by show (j : Int) < w; omega⟩
 unfold EntryM
 rw [if_neg (fun q => q (two_ok D hw)), if_neg (fun q => q hin), placeTwo (by omega)]
 simp only [two_len]
 rw [two_get D (by omega), bit8 (by omega)]
 unfold twoS
 split
 ·rw [if_pos rfl]
 ·rw [if_neg (by decide)]
theorem two_reserve1 {k : Nat} (h1 : 1 ≤ k) (h4 : k ≤ 4) : ReserveM ⟨0, 0, 0, List.replicate 8 noSlot⟩ k = ((⟨0, k, 0, List.replicate 8 noSlot⟩ : RingR), (0 : Int), (0 : Int)) := by
 rw [← two_new]
 have hok := two_ok [false, false, false, false, false, false, false, false] (w := 0) (by decide)
 unfold ReserveM
 rw [if_neg, if_neg]
 ·simp
 ·rw [two_len]; simp; omega
 ·rw [two_len]
  rintro (h | h | h)
  ·exact h hok
  ·omega
  ·omega
theorem two_reserve2 {k m : Nat} (h1 : 1 ≤ k) (h4 : k ≤ 4) (g1 : 1 ≤ m) (g4 : m ≤ 4) : ReserveM ⟨0, k, 0, List.replicate 8 noSlot⟩ m = ((⟨0, ((k + m : Nat) : Int), 0, List.replicate 8 noSlot⟩ : RingR), (k : Int), (0 : Int)) := by
 rw [← two_new]
 have hok := two_ok [false, false, false, false, false, false, false, false] (w := k) (by omega)
 unfold ReserveM
 rw [if_neg, if_neg]
 ·simp
 ·rw [two_len]; simp; omega
 ·rw [two_len]
  rintro (h | h | h)
  ·exact h hok
  ·omega
  ·omega
theorem two_free {D : List Bool} {i w : Nat} (hD : D.length = 8) (hw : w ≤ 8) (hc : D.count true = i) (hi : i < w) : ∃ f, f < w ∧ D.getD f false = false := by
 refine Decidable.byContradiction fun hn => ?_
 have hall : ∀ f, f < w → D.getD f false = true := fun f hf => by
  cases hg : D.getD f false with
  | true => rfl
  | false => exact absurd ⟨f, hf, hg⟩ hn
 have e1 : D.take w = List.replicate w true := by
  apply List.ext_getElem?
  intro j
  by_cases hj : j < w
  ·rw [List.getElem?_take_of_lt hj, List.getElem?_replicate, if_pos hj]
   have := hall j hj
   rw [List.getD_eq_getElem?_getD] at this
   rw [List.getElem?_eq_getElem (by omega)] at this ⊢
   exact congrArg some this
  ·rw [List.getElem?_eq_none (by rw [List.length_take]; omega), List.getElem?_eq_none (by simp; omega)]
 have e2 : (D.take w).count true ≤ D.count true := (List.take_sublist w D).count_le true
 rw [e1, List.count_replicate_self] at e2
 omega
theorem two_count {D : List Bool} {p : Nat} (hp : p < D.length) (hd : D.getD p false = false) : (D.set p true).count true = D.count true + 1 := by
 rw [List.getD_eq_getElem?_getD, List.getElem?_eq_getElem hp] at hd
 have hd' : D[p] = false := hd
 rw [List.count_set hp, hd']
 simp
end Go.Proofs.YtgjickapnfnkfaaW.Ai
