/-
 The statement RouteParts, of one log and of two.
-/
import Derived.Test.YtkdjbkfcfbignaaFn72
set_option linter.unusedVariables false
set_option linter.unusedSimpArgs false
set_option maxHeartbeats 4000000
set_option maxRecDepth 100000
namespace Go.Proofs.YtkdjbkfcfbignaaW.Ai
section
variable {X : Ext} {F : FuncId → Option RFunc} {f : FuncId}
theorem s_RouteParts {g0 g1 g2 g3 g4 : Nat} (hX : X f = none) (hF : F f = some (rf_RouteParts g0 g1 g2 g3 g4)) (d0 : S_yes X F g0) (e1 : S_rtPart X F g1) (d2 : S_Num X F g2) (e3 : S_rtLog X F g3) (d4 : S_SameState X F g4)
  (h : AH) {r0 r1 r2 r3 : Row} {two : Bool} (hst : St h r0 r1 r2 r3) : Ret X F h.length f [stV r0 r1 r2 r3, .bool two] h fun v _ => v = .bool true := by
 cases two
 ·exact s_RouteParts1 hX hF d0 e1 d2 e3 d4 h hst
 ·exact s_RouteParts2 hX hF d0 e1 d2 e3 d4 h hst
end
end Go.Proofs.YtkdjbkfcfbignaaW.Ai
