/-
 Rows apart, folded apart.
-/
import Derived.Test.YtdcpmchhioilpaaFn55
set_option linter.unusedVariables false
set_option linter.unusedSimpArgs false
set_option maxHeartbeats 4000000
set_option maxRecDepth 100000
namespace Go.Proofs.YtdcpmchhioilpaaW.Ai
theorem gpn (s : S4) {r q : Int} (hr : 0 ≤ r ∧ r ≤ 3) (hq : 0 ≤ q ∧ q ≤ 3) (h : r ≠ q) (xs : List Int) : (s.put r xs).get q = s.get q := by
 obtain h1 | h1 | h1 | h1 : r = 0 ∨ r = 1 ∨ r = 2 ∨ r = 3 := by omega
 all_goals
  obtain h2 | h2 | h2 | h2 : q = 0 ∨ q = 1 ∨ q = 2 ∨ q = 3 := by omega
 all_goals
  subst h1 h2
  first | rfl | exact absurd rfl h
theorem gp (s : S4) {r : Int} (hr : 0 ≤ r ∧ r ≤ 3) (xs : List Int) : (s.put r xs).get r = xs := by
 obtain h | h | h | h : r = 0 ∨ r = 1 ∨ r = 2 ∨ r = 3 := by omega
 all_goals subst h; rfl
theorem OpsOk.filter {os : List OpR} (h : OpsOk os) (p : OpR → Bool) : OpsOk (os.filter p) := fun o ho => h o (List.mem_filter.1 ho).1
theorem recs_snoc (os : List OpR) (o : OpR) : recs opC (os ++ [o]) = recs opC os ++ opC o := by simp [recs]
theorem filter_take {os : List OpR} {i : Nat} (hi : i < os.length) (p : OpR → Bool) : (os.take (i + 1)).filter p = (os.take i).filter p ++ (if p os[i] = true then [os[i]] else []) := by
 rw [List.take_succ_eq_append_getElem hi, List.filter_append]
 congr 1
 by_cases h : p os[i] = true
 ·rw [if_pos h]; simp [h]
 ·rw [if_neg h]; simp [h]
theorem Loc.addNil3 {h0 h : AH} {l : List Item} (hL : Loc h0 h l) : Loc h0 h (ap h.length h.length 3 none 0 (recs opC []) :: l) :=
 ⟨Nat.le_refl _, Nat.le_refl _, ⟨rfl, .inl ⟨rfl, fun x hx => by cases hx⟩⟩, hL⟩
end Go.Proofs.YtdcpmchhioilpaaW.Ai
