/-
 Rows apart, folded apart.
-/
import Derived.Test.YtdcpmchhioilpaaFn55
set_option linter.unusedVariables false
set_option linter.unusedSimpArgs false
set_option maxHeartbeats 4000000
set_option maxRecDepth 100000
namespace Go.Proofs.YtdcpmchhioilpaaW.Ai
theorem OpsOk.filter {os : List OpR} (h : OpsOk os) (p : OpR → Bool) : OpsOk (os.filter p) := fun o ho => h o (List.mem_filter.1 ho).1
theorem Loc.addNil3 {h0 h : AH} {l : List Item} (hL : Loc h0 h l) : Loc h0 h (ap h.length h.length 3 none 0 (recs opC []) :: l) :=
 ⟨Nat.le_refl _, Nat.le_refl _, ⟨rfl, .inl ⟨rfl, fun x hx => by cases hx⟩⟩, hL⟩
end Go.Proofs.YtdcpmchhioilpaaW.Ai
