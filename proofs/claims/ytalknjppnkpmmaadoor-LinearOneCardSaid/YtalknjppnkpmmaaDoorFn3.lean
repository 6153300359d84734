/-
 Cells (chapter 1), as the small machine runs them: the calls.
-/
import Derived.Test.YtalknjppnkpmmaaDoorFn2
set_option linter.unusedVariables false
set_option linter.unusedSimpArgs false
namespace Go.Proofs.YtalknjppnkpmmaaDoorW.Ai
section
def CellOk (x : Int) : Prop := 0 ≤ x ∧ x ≤ 1048576
instance (x : Int) : Decidable (CellOk x) := inferInstanceAs (Decidable (_ ∧ _))
def There (xs : List Int) (k : Int) : Prop := xs.length ≤ 16 ∧ (∀ x ∈ xs, CellOk x) ∧ 0 ≤ k ∧ k < xs.length
instance (xs : List Int) (k : Int) : Decidable (There xs k) := inferInstanceAs (Decidable (_ ∧ _))
section
variable {X : Ext} {F : FuncId → Option RFunc} {lim : Nat} {f : FuncId} {h : AH}
theorem Clone_run (hX : X f = none) (hF : F f = some rf_Clone) {a : Option Addr} {n c : Nat} {xs : List Int} (ha : Sl 1 h a n c (ints xs)) (hn : n ≤ 2 ^ 44) :
  Ret X F lim f [.slice a n c] h fun v h' => Pfx h h' ∧ ∃ a', v = .slice a' n n ∧ Ap h.length h'.length 1 h' a' n (ints xs) := by
 have hL := Loc.start h
 refine Ret.body hX hF rfl ?_
 simp only [argL, rf_Clone]
 cases a with
 | none =>
  have hc := ha.2.2.2 rfl
  have hn0 : n = 0 := by have := ha.2.1; omega
  subst hn0
  have hxs : xs = [] := List.eq_nil_of_length_eq_zero ha.ilen
  subst hxs
  (refine Cs (Co (Wm rfl (Wn (Cs (Cs (Co (Wm rfl (Wc (OP.isNilT rfl rfl (Wn (WC.condT rfl (Cs (Co (Wm rfl (Wn (WC.ret ?_)))))))))))))))); dsimp only [zn, zr, zx, yn, yr])
  exact Fin.ret rfl ⟨Pfx.refl _, none, rfl, Ap.nil _ _ _ _⟩
 | some a =>
  (refine Cs (Co (Wm rfl (Wn (Cs (Cs (Co (Wm rfl (Wc (OP.isNilF rfl rfl (Wn (WC.condF rfl (WC.skip (Cs (Co ?_)))))))))))))); dsimp only [zn, zr, zx, yn, yr])
  (refine Wc ?_; refine OL.buildSlice hL rfl (by simp [over, Value.cells]; rfl) rfl (fun b h1 hL => ?_))
  (refine Wm rfl ?_)
  (refine Wc ?_)
  refine OL.copy hL rfl (fun x hx => by injection hx with hx; subst hx; rfl) rfl (by (exact (Sl.pfx (by assumption) (Loc.pfx hL)))) (room8 (by omega)) (ints_ok xs) (fun a' h2 hp hL => ?_)
  (refine Wm rfl (Wn (WC.ret ?_)))
  exact Fin.ret rfl ⟨hL.pfx, a', rfl, hL.apOut (k := 0) rfl⟩
end
end
end Go.Proofs.YtalknjppnkpmmaaDoorW.Ai
