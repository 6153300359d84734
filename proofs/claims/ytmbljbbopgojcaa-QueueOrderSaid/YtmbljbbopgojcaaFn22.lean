/-
 Stores (chapter 3), as the small machine runs them: what may be, what an operation does.
-/
import Derived.Test.YtmbljbbopgojcaaFn21
set_option linter.unusedVariables false
set_option linter.unusedSimpArgs false
set_option maxHeartbeats 4000000
set_option maxRecDepth 100000
namespace Go.Proofs.YtmbljbbopgojcaaW.Ai
def S4.get (s : S4) (r : Int) : List Int := if r = 0 then s.x0 else if r = 1 then s.x1 else if r = 2 then s.x2 else s.x3
def S4.put (s : S4) (r : Int) (xs : List Int) : S4 := if r = 0 then ⟨xs, s.x1, s.x2, s.x3⟩ else if r = 1 then ⟨s.x0, xs, s.x2, s.x3⟩ else if r = 2 then ⟨s.x0, s.x1, xs, s.x3⟩ else ⟨s.x0, s.x1, s.x2, xs⟩
def firstL : List Int → Int
 | [] => -1
 | x :: _ => x
abbrev RowsOk (m : Int) (s : S4) : Prop := ((s.x0.length : Int) ≤ m ∧ ArgsOk s.x0) ∧ ((s.x1.length : Int) ≤ m ∧ ArgsOk s.x1) ∧ ((s.x2.length : Int) ≤ m ∧ ArgsOk s.x2) ∧ ((s.x3.length : Int) ≤ m ∧ ArgsOk s.x3)
def StoreOk (s : S4) : Prop := RowsOk 1 s
instance (s : S4) : Decidable (StoreOk s) := inferInstanceAs (Decidable (RowsOk 1 s))
def allL (s : S4) : List Int := s.x0 ++ s.x1 ++ s.x2 ++ s.x3
section
variable (X : Ext) (F : FuncId → Option RFunc) (g : FuncId)
abbrev S_ApplyOf (M : S4 → Int → Int → Int → S4 × Int × Int) : Prop := ∀ (lim : Nat) (h : AH) {r0 r1 r2 r3 : Row} {c r a : Int}, lim ≤ h.length → St h r0 r1 r2 r3 → Ret X F lim g [stV r0 r1 r2 r3, .agg #[.int .i64 c, .int .i64 r, .int .i64 a]] h fun v h' => Pfx h h' ∧ MadeS h h' (fun s0 s1 s2 s3 => .tuple #[stV s0 s1 s2 s3, .int .i64 (M ⟨r0.xs, r1.xs, r2.xs, r3.xs⟩ c r a).2.1, .int .i64 (M ⟨r0.xs, r1.xs, r2.xs, r3.xs⟩ c r a).2.2]) (M ⟨r0.xs, r1.xs, r2.xs, r3.xs⟩ c r a).1 v
end
theorem firstL_nil {xs : List Int} (h : xs.length = 0) : firstL xs = -1 := by
 rw [List.eq_nil_of_length_eq_zero h]; rfl
section
variable {X : Ext} {F : FuncId → Option RFunc} {f : FuncId}
end
end Go.Proofs.YtmbljbbopgojcaaW.Ai
