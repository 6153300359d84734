/-
 Cursors (chapter 11), as the small machine runs them: what may be.
-/
import Derived.Test.YtalknjppnkpmmaaDoorFn8
import Derived.Test.YtalknjppnkpmmaaDoorFn6
set_option linter.unusedVariables false
set_option linter.unusedSimpArgs false
set_option maxHeartbeats 4000000
set_option maxRecDepth 100000
namespace Go.Proofs.YtalknjppnkpmmaaDoorW.Ai
section
section
variable (X : Ext) (F : FuncId → Option RFunc) (g : FuncId)
abbrev S_ContainsFunc : Prop := ∀ (lim : Nat) (h : AH) {a : Option Addr} {n c : Nat} {ss : List Int} {k : FuncId} {cap : Array Value} {p : Int → Prop} [DecidablePred p], Sl 1 h a n c (ints ss) → n < 2 ^ 62 → (∀ s ∈ ss, ∀ h1, Pfx h h1 → Ret X F lim k (.int .i64 s :: cap.toList) h1 fun v h' => Pfx h1 h' ∧ v = .bool (decide (p s))) → Ret X F lim g [.slice a n c, .func (.func k) #[] cap] h fun v h' => Pfx h h' ∧ v = .bool (decide (¬ ∀ s ∈ ss, ¬ p s))
end
section
variable {X : Ext} {F : FuncId → Option RFunc} {f : FuncId}
theorem s_ContainsFunc {g0 : Nat} (hX : X f = none) (hF : F f = some (rf_ContainsFunc g0)) (hX0 : X g0 = none) (hF0 : F g0 = some rf_IndexFunc) : S_ContainsFunc X F f := fun lim h a n c ss k cap p _ ha hn hp =>
 (ContainsFunc_run (p := fun x => decide (p x)) hX hF hX0 hF0 ha hn (fun x hx h1 hp1 => (hp x hx h1 hp1).mono fun v h' hh => ⟨hh.2, hh.1⟩)).mono fun v h' ⟨h1, h2⟩ => ⟨h1, by rw [h2]; congr 1; simp [List.any_eq]⟩
end
end
end Go.Proofs.YtalknjppnkpmmaaDoorW.Ai
