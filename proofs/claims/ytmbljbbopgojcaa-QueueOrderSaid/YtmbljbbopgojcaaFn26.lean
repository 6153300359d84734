/-
 States (chapters 3 to 6): what is put into a row; an Apply at a state that is told.
-/
import Derived.Test.YtmbljbbopgojcaaFn25
set_option linter.unusedVariables false
set_option linter.unusedSimpArgs false
namespace Go.Proofs.YtmbljbbopgojcaaW.Ai
namespace P
section
variable {X : Ext} {F : FuncId → Option RFunc}
/-- What is told of an Apply at a state and an operation. -/
theorem applyAt {g : FuncId} {M : S4 → Int → Int → Int → S4 × Int × Int} (e1 : S_ApplyOf X F g M) (s : S4) (c r a : Int) (N : S4 × Int × Int) (hN : M s c r a = N) : ∀ (lim : Nat) (h' : AH) {r0 r1 r2 r3 : Row}, lim ≤ h'.length → St h' r0 r1 r2 r3 → r0.xs = s.x0 → r1.xs = s.x1 → r2.xs = s.x2 → r3.xs = s.x3 → Ret X F lim g [stV r0 r1 r2 r3, .agg #[.int .i64 c, .int .i64 r, .int .i64 a]] h' fun v h'' => Pfx h' h'' ∧ MadeS h' h'' (fun s0 s1 s2 s3 => .tuple #[stV s0 s1 s2 s3, .int .i64 N.2.1, .int .i64 N.2.2]) N.1 v := by
 intro lim h' r0 r1 r2 r3 hl hst q0 q1 q2 q3
 have := e1 lim h' (c := c) (r := r) (a := a) hl hst
 rw [q0, q1, q2, q3] at this
 subst hN
 exact this
end
end P
end Go.Proofs.YtmbljbbopgojcaaW.Ai
