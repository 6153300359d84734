/-
 States written over (chapter 3), as the small machine runs them.
-/
import Derived.Test.YtmbljbbopgojcaaFn24
set_option linter.unusedVariables false
set_option linter.unusedSimpArgs false
set_option maxHeartbeats 4000000
set_option maxRecDepth 100000
namespace Go.Proofs.YtmbljbbopgojcaaW.Ai
section
variable (X : Ext) (F : FuncId → Option RFunc) (g : FuncId)
abbrev S_SpoilState : Prop := ∀ (lim : Nat) (h : AH) {r0 r1 r2 r3 : Row} {lo hi : Nat}, hi ≤ h.length → St h r0 r1 r2 r3 → StIn lo hi r0 r1 r2 r3 → lim ≤ lo → Ret X F lim g [stV r0 r1 r2 r3] h fun v h' => h.length ≤ h'.length ∧ ∀ b, (b < lo ∨ hi ≤ b) → b < h.length → h'[b]? = h[b]?
end
section
variable {X : Ext} {F : FuncId → Option RFunc} {f : FuncId}
end
end Go.Proofs.YtmbljbbopgojcaaW.Ai
