/-
 The statement FoldUndo (chapter 12), as the small machine runs it.
-/
import Derived.Test.YtdcpmchhioilpaaLFoldUndo0
import Derived.Test.YtdcpmchhioilpaaLFoldUndo1
import Derived.Test.YtdcpmchhioilpaaLFoldUndo2
import Derived.Test.YtdcpmchhioilpaaLFoldUndo3
set_option linter.unusedVariables false
set_option linter.unusedSimpArgs false
namespace Go.Proofs.YtdcpmchhioilpaaW.Ai
section
variable {X : Ext} {F : FuncId → Option RFunc} {f : FuncId}
theorem s_FoldUndo {g0 g1 g2 g3 : Nat} (hX : X f = none) (hF : F f = some (rf_FoldUndo g0 g1 g2 g3)) (d0 : S_yes X F g0) (e1 : S_fFold X F g1) (d2 : S_Num X F g2) (d3 : S_SameState X F g3)
  (h : AH) {row many : Int} (hrow : R64 row) (hmany : R64 many) : Ret X F h.length f [.int .i64 row, .int .i64 many] h fun v _ => v = .bool true := by
 have hk := mask_rng many (b := 3) (by decide) (by decide)
 have hk4 : mask many 3 = 0 ∨ mask many 3 = 1 ∨ mask many 3 = 2 ∨ mask many 3 = 3 := by omega
 rcases hk4 with hk | hk | hk | hk
 ·exact foldUndo0 hX hF d0 e1 d2 d3 h hrow hmany hk
 ·exact foldUndo1 hX hF d0 e1 d2 d3 h hrow hmany hk
 ·exact foldUndo2 hX hF d0 e1 d2 d3 h hrow hmany hk
 ·exact foldUndo3 hX hF d0 e1 d2 d3 h hrow hmany hk
end
end Go.Proofs.YtdcpmchhioilpaaW.Ai
