/-
 Rows apart, folded apart.
-/
import Derived.Test.YtalknjppnkpmmaaDoorFnE
set_option linter.unusedVariables false
set_option linter.unusedSimpArgs false
set_option maxHeartbeats 4000000
set_option maxRecDepth 100000
namespace Go.Proofs.YtalknjppnkpmmaaDoorW.Ai
theorem gpn (s : S4) {r q : Int} (hr : 0 ≤ r ∧ r ≤ 3) (hq : 0 ≤ q ∧ q ≤ 3) (h : r ≠ q) (xs : List Int) : (s.put r xs).get q = s.get q := by
 obtain h1 | h1 | h1 | h1 : r = 0 ∨ r = 1 ∨ r = 2 ∨ r = 3 := by omega
 all_goals
  obtain h2 | h2 | h2 | h2 : q = 0 ∨ q = 1 ∨ q = 2 ∨ q = 3 := by omega
 all_goals
  subst h1 h2
  first | rfl | exact absurd rfl h
theorem gp (s : S4) {r : Int} (hr : 0 ≤ r ∧ r ≤ 3) (xs : List Int) : (s.put r xs).get r = xs := by
 obtain h | h | h | h : r = 0 ∨ r = 1 ∨ r = 2 ∨ r = 3 := by omega
 all_goals subst h; rfl
theorem OpsOk.filter {os : List OpR} (h : OpsOk os) (p : OpR → Bool) : OpsOk (os.filter p) := fun o ho => h o (List.mem_filter.1 ho).1
end Go.Proofs.YtalknjppnkpmmaaDoorW.Ai
