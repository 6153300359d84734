/-
 What Fold answers.
-/
import Derived.Test.YtdcpmchhioilpaaFn54
set_option linter.unusedVariables false
set_option linter.unusedSimpArgs false
set_option maxHeartbeats 4000000
set_option maxRecDepth 100000
namespace Go.Proofs.YtdcpmchhioilpaaW.Ai
section
variable {X : Ext} {F : FuncId → Option RFunc}
theorem foldAt {g : FuncId} (e : S_fFold X F g) (ob : Int) (s : S4) (os : List OpR) (N : S4 × List Int × Int) (hN : FoldR ob s os = N) : ∀ (lim : Nat) (h' : AH) {r0 r1 r2 r3 : Row} {a : Option Addr} {n c : Nat}, lim ≤ h'.length → St h' r0 r1 r2 r3 → r0.xs = s.x0 → r1.xs = s.x1 → r2.xs = s.x2 → r3.xs = s.x3 → Sl 3 h' a n c (recs opC os) → n ≤ 2 ^ 43 → Ret X F lim g [.int .i64 ob, stV r0 r1 r2 r3, .slice a n c] h' fun v h'' => Pfx h' h'' ∧ MadeF h' h'' N.1 N.2.1 N.2.2 v := by
 intro lim h' r0 r1 r2 r3 a n c hl hst q0 q1 q2 q3 hs hn
 have := e lim h' (ob := ob) hl hst hs hn
 rw [q0, q1, q2, q3] at this
 subst hN
 exact this
end
end Go.Proofs.YtdcpmchhioilpaaW.Ai
