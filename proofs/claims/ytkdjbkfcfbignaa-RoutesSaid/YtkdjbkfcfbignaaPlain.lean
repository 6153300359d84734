/-
  Small plain facts on whole numbers, bits and lists that the pure statements lean on. Written by this session; of no program.
-/
import Derived.Test.YtkdjbkfcfbignaaWWords
import Derived.Test.YtkdjbkfcfbignaaWMore
import Derived.Laws.BitsLemmas
namespace Go.Proofs.YtkdjbkfcfbignaaW.Plain
open Go.RowKit Go.Proofs.YtkdjbkfcfbignaaW.PrintWords Go.Proofs.YtkdjbkfcfbignaaW.PrintMore

theorem and_mask (m : Nat) (hm : m ≤ 62) (n : Int) : Go.bits .and .i64 n (2 ^ m - 1) = n % 2 ^ m := by
  have h1 : (1 : Nat) ≤ 2 ^ m := Nat.one_le_two_pow
  have h2 : (2 : Nat) ^ m ≤ 2 ^ 62 := Nat.pow_le_pow_right (by decide) hm
  have hc : ((2 : Int) ^ m - 1) = ((2 ^ m - 1 : Nat) : Int) := by rw [Int.natCast_sub h1]; simp
  have hb : (BitVec.ofInt 64 ((2 : Int) ^ m - 1)).toNat = 2 ^ m - 1 := by
    rw [hc, BitVec.ofInt_natCast, BitVec.toNat_ofNat, Nat.mod_eq_of_lt (by omega)]
  have key : (BitVec.ofInt 64 n &&& BitVec.ofInt 64 ((2 : Int) ^ m - 1)).toNat = (n % ((2 ^ 64 : Nat) : Int)).toNat % 2 ^ m := by
    rw [BitVec.toNat_and, BitVec.toNat_ofInt, hb, Nat.and_two_pow_sub_one_eq_mod]
  show IntKind.i64.wrap ((BitVec.ofInt 64 n &&& BitVec.ofInt 64 ((2 : Int) ^ m - 1)).toNat : Nat) = n % 2 ^ m
  rw [key, IntKind.wrap_i64]
  have hd : ((2 : Int) ^ m) ∣ ((2 ^ 64 : Nat) : Int) := by
    refine ⟨2 ^ (64 - m), ?_⟩
    rw [← Int.pow_add, show m + (64 - m) = 64 by omega]
    rfl
  have h3 : (((n % ((2 ^ 64 : Nat) : Int)).toNat % 2 ^ m : Nat) : Int) = n % 2 ^ m := by
    rw [Int.natCast_emod, Int.toNat_of_nonneg (Int.emod_nonneg _ (by decide)), Int.natCast_pow]
    exact Int.emod_emod_of_dvd n hd
  have h4 : 0 ≤ n % (2 : Int) ^ m := Int.emod_nonneg _ (by have := Int.pow_pos (n := 2) (m := m) (by decide); omega)
  have h5 : n % (2 : Int) ^ m < 2 ^ m := Int.emod_lt_of_pos _ (Int.pow_pos (by decide))
  have h6 : ((2 : Int) ^ m) ≤ 2 ^ 62 := by exact_mod_cast h2
  rw [h3]
  omega
theorem and1 (n : Int) : Go.bits .and .i64 n 1 = n % 2 := and_mask 1 (by decide) n
theorem and3 (n : Int) : Go.bits .and .i64 n 3 = n % 4 := and_mask 2 (by decide) n
theorem and7 (n : Int) : Go.bits .and .i64 n 7 = n % 8 := and_mask 3 (by decide) n
theorem and15 (n : Int) : Go.bits .and .i64 n 15 = n % 16 := and_mask 4 (by decide) n
theorem and31 (n : Int) : Go.bits .and .i64 n 31 = n % 32 := and_mask 5 (by decide) n
theorem and255 (n : Int) : Go.bits .and .i64 n 255 = n % 256 := and_mask 8 (by decide) n
theorem and1023 (n : Int) : Go.bits .and .i64 n 1023 = n % 1024 := and_mask 10 (by decide) n
theorem and65535 (n : Int) : Go.bits .and .i64 n 65535 = n % 65536 := and_mask 16 (by decide) n
theorem w64 {x : Int} (h : -9223372036854775808 ≤ x ∧ x ≤ 9223372036854775807) : wrap64 x = x := by unfold wrap64; omega
theorem wf_i64 {a : Int} (h : (Lit.int .i64 a).wf = true) : -9223372036854775808 ≤ a ∧ a ≤ 9223372036854775807 := by
  simpa [Lit.wf, IntKind.min, IntKind.max, IntKind.signed, IntKind.bits] using h
theorem u64w (x : Int) : IntKind.u64.wrap x = x % 18446744073709551616 := by simp [IntKind.wrap, IntKind.bits, IntKind.signed]
theorem rd_of (xs : List Int) (i : Int) (n : Nat) (h : i = n) : rd xs i = xs.getD n 0 := by subst h; rfl
theorem tmod_pos {a b : Int} (h : 0 ≤ a) : Int.tmod a b = a % b := Int.tmod_eq_emod_of_nonneg h
theorem tdiv_pos {a b : Int} (h : 0 ≤ a) : Int.tdiv a b = a / b := Int.tdiv_eq_ediv_of_nonneg h
theorem ite_ok {α : Type} {c : Prop} [Decidable c] {a b : Option α} {r : α} (ha : a = some r) (hb : b = some r) : (if c then a else b) = some r := by split <;> assumption
theorem mod4 (n : Int) : n % 4 = 0 ∨ n % 4 = 1 ∨ n % 4 = 2 ∨ n % 4 = 3 := by omega

end Go.Proofs.YtkdjbkfcfbignaaW.Plain
