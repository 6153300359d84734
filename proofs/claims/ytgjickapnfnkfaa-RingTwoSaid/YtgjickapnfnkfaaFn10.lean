/-
 Rings (chapter 10), as the small machine runs them: the document's new ones, copies, freed ones.
-/
import Derived.Test.YtgjickapnfnkfaaFn9
import Derived.Test.YtgjickapnfnkfaaMf
set_option linter.unusedVariables false
set_option linter.unusedSimpArgs false
set_option maxHeartbeats 4000000
set_option maxRecDepth 100000
namespace Go.Proofs.YtgjickapnfnkfaaW.Ai
/-- A ring. -/
structure RingR where
 p : Int
 q : Int
 e : Int
 ss : List SlotR
 deriving DecidableEq
abbrev noRing : RingR := ⟨0, 0, 0, []⟩
abbrev ringC (r : RingR) (a : Option Addr) (n c : Nat) : Value := .agg #[.int .i64 r.p, .int .i64 r.q, .int .i64 r.e, .slice a n c]
abbrev ringV (r : RingR) (a : Option Addr) (n : Nat) : Value := .agg #[.int .i64 r.p, .int .i64 r.q, .int .i64 r.e, .slice a n n]
def NewM (x : Int) : RingR × Int := if SlotsN x then (⟨0, 0, 0, List.replicate x.toNat ⟨0, 0, 0, 0, 0⟩⟩, 0) else (noRing, 1000)
def FreeM (r : RingR) (x : Int) : RingR × Int := if RingOk r.p r.q r.e r.ss ∧ r.p ≤ x ∧ x ≤ r.q then (⟨x, r.q, r.e, r.ss⟩, 0) else (noRing, 1000)
section
variable (X : Ext) (F : FuncId → Option RFunc) (g : FuncId)
abbrev S_NewRing : Prop := ∀ (lim : Nat) (h : AH) {x : Int}, lim ≤ h.length → Ret X F lim g [.int .i64 x] h fun v h' => Pfx h h' ∧ Made 5 h h' (fun a n => .tuple #[ringV (NewM x).1 a n, .int .i64 (NewM x).2]) (recs slotC (NewM x).1.ss) v
abbrev S_FreeTo : Prop := ∀ (lim : Nat) (h : AH) {r : RingR} {a : Option Addr} {n : Nat} {x : Int}, lim ≤ h.length → Sl 5 h a n n (recs slotC r.ss) → n ≤ 2 ^ 42 → Ret X F lim g [ringV r a n, .int .i64 x] h fun v h' => Pfx h h' ∧ Made 5 h h' (fun a n => .tuple #[ringV (FreeM r x).1 a n, .int .i64 (FreeM r x).2]) (recs slotC (FreeM r x).1.ss) v
end
theorem reps_slots (n : Nat) : reps [.int .i64 0, .int .i64 0, .int .i64 0, .int .i64 0, .int .i64 0] n = recs slotC (List.replicate n ⟨0, 0, 0, 0, 0⟩) := by
 induction n with
 | zero => rfl
 | succ n ih => simp only [reps, ih, List.replicate_succ]; rfl
section
variable {X : Ext} {F : FuncId → Option RFunc} {f : FuncId}
end
end Go.Proofs.YtgjickapnfnkfaaW.Ai
