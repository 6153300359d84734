/-
 Cursors (chapter 11), as the small machine runs them: what may be.
-/
import Derived.Test.YtkdjbkfcfbignaaFn8
import Derived.Test.YtkdjbkfcfbignaaFn6
set_option linter.unusedVariables false
set_option linter.unusedSimpArgs false
set_option maxHeartbeats 4000000
set_option maxRecDepth 100000
namespace Go.Proofs.YtkdjbkfcfbignaaW.Ai
section
variable (X : Ext) (F : FuncId → Option RFunc) (g : FuncId)
abbrev S_SameInts : Prop := ∀ (lim : Nat) (h : AH) {a b : Option Addr} {n m c d : Nat} {xs ys : List Int}, Sl 1 h a n c (ints xs) → Sl 1 h b m d (ints ys) → n < 2 ^ 62 → Ret X F lim g [.slice a n c, .slice b m d] h fun v h' => Pfx h h' ∧ v = .bool (decide (xs = ys))
end
section
variable {X : Ext} {F : FuncId → Option RFunc} {f : FuncId}
theorem s_SameInts (hX : X f = none) (hF : F f = some rf_SameInts) : S_SameInts X F f := fun lim h _ _ _ _ _ _ _ _ ha hb hn => (SameInts_run hX hF ha hb hn).pfx
end
end Go.Proofs.YtkdjbkfcfbignaaW.Ai
