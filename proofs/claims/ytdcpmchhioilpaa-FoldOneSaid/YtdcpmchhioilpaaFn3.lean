/-
 Cells (chapter 1), as the small machine runs them: the calls.
-/
import Derived.Test.YtdcpmchhioilpaaFn2
set_option linter.unusedVariables false
set_option linter.unusedSimpArgs false
namespace Go.Proofs.YtdcpmchhioilpaaW.Ai
def CellOk (x : Int) : Prop := 0 ≤ x ∧ x ≤ 1048576
instance (x : Int) : Decidable (CellOk x) := inferInstanceAs (Decidable (_ ∧ _))
def There (xs : List Int) (k : Int) : Prop := xs.length ≤ 16 ∧ (∀ x ∈ xs, CellOk x) ∧ 0 ≤ k ∧ k < xs.length
instance (xs : List Int) (k : Int) : Decidable (There xs k) := inferInstanceAs (Decidable (_ ∧ _))
def tupI (x y : Int) : Value := .tuple #[.int .i64 x, .int .i64 y]
section
variable {X : Ext} {F : FuncId → Option RFunc} {lim : Nat} {f : FuncId} {h : AH}
theorem there_run {g0 g1 g2 g3 : Nat} (hX : X f = none) (hF : F f = some (rf_there g0 g1)) (hX0 : X g0 = none) (hF0 : F g0 = some (rf_there1 g2)) (hX1 : X g1 = none) (hF1 : F g1 = some (rf_ContainsFunc g3)) (hX2 : X g2 = none) (hF2 : F g2 = some rf_Number) (hX3 : X g3 = none) (hF3 : F g3 = some rf_IndexFunc)
  {a : Option Addr} {n c : Nat} {xs : List Int} {k : Int} (ha : Sl 1 h a n c (ints xs)) (hn : n ≤ 2 ^ 44) : Ret X F lim f [.slice a n c, .int .i64 k] h fun v h' => Pfx h h' ∧ v = .bool (decide (There xs k)) := by
 have hxn := ha.ilen
 refine Ret.body hX hF rfl ?_
 simp only [argL, rf_there]
 by_cases h16 : (n : Int) ≤ 16
 ·(refine Cs (Co (Wm rfl (Wn (Cs (Co (Wm rfl (Wn (Cs (Co (Wm rfl (Wc (OP.lenS rfl (Wc (OP.leqT rfl rfl (by omega) ?_)))))))))))))); refine Wm rfl (WO.yes rfl (Wm rfl (WO.yes rfl (Wm rfl (WO.yes rfl ?_))))); dsimp only [zn, zr, zx, yn, yr])
  (refine Wc ?_)
  refine OP.call rfl rfl (Ret.mono (ContainsFunc_run hX1 hF1 hX3 hF3 ha (by omega) (p := fun x => !decide (0 ≤ x ∧ x ≤ 1048576)) (fun x _ h1 _ => Ret.mono (there1_run hX0 hF0 hX2 hF2 (c := undef)) fun v h' hv => ⟨hv.1, hv.2 ▸ Pfx.refl _⟩)) fun v h1 hv => ?_)
  obtain ⟨hp1, rfl⟩ := hv
  (refine WO.yes rfl (Wc ?_))
  refine OP.not rfl ?_
  by_cases hall : ∀ x ∈ xs, CellOk x
  ·have e1 : (!(xs.any fun x => !decide (0 ≤ x ∧ x ≤ 1048576))) = true := by
    rw [Bool.not_eq_true', List.any_eq_false]
    intro x hx
    have h3 : 0 ≤ x ∧ x ≤ 1048576 := hall x hx
    rw [decide_eq_true h3]
    decide
   rw [e1]
   by_cases h0 : 0 ≤ k
   ·by_cases h2 : k < n
    ·(refine Wc (OP.pickT rfl rfl (Wm rfl (WO.yes rfl (Wm rfl (WO.yes rfl (Wc (OP.geqT rfl rfl (by omega) ?_))))))); refine Wc (OP.pickT rfl rfl (Wm rfl (WO.yes rfl (Wm rfl (WO.yes rfl (Wm rfl (WO.yes rfl (Wc (OP.lenS rfl (WO.yes rfl (Wc (OP.lssT rfl rfl (by omega) ?_)))))))))))); refine Wc (OP.pickT rfl rfl (Wm rfl (Wn (WC.ret ?_)))))
     refine Fin.ret rfl ⟨hp1, ?_⟩
     have : There xs k := ⟨by omega, hall, h0, by omega⟩
     simp [resultOf, this]
    ·(refine Wc (OP.pickT rfl rfl (Wm rfl (WO.yes rfl (Wm rfl (WO.yes rfl (Wc (OP.geqT rfl rfl (by omega) ?_))))))); refine Wc (OP.pickT rfl rfl (Wm rfl (WO.yes rfl (Wm rfl (WO.yes rfl (Wm rfl (WO.yes rfl (Wc (OP.lenS rfl (WO.yes rfl (Wc (OP.lssF rfl rfl (by omega) ?_)))))))))))); refine Wc (OP.pickT rfl rfl (Wm rfl (Wn (WC.ret ?_)))))
     refine Fin.ret rfl ⟨hp1, ?_⟩
     have : ¬ There xs k := fun hx => h2 (by have := hx.2.2.2; omega)
     simp [resultOf, this]
   ·(refine Wc (OP.pickT rfl rfl (Wm rfl (WO.yes rfl (Wm rfl (WO.yes rfl (Wc (OP.geqF rfl rfl (by omega) ?_))))))); refine Wc (OP.pickT rfl rfl (Wm rfl (WO.no rfl (WO.no rfl (WO.no rfl (WO.no rfl (Wc (OP.pickF rfl rfl (Wm rfl (Wn (WC.ret ?_))))))))))))
    refine Fin.ret rfl ⟨hp1, ?_⟩
    have : ¬ There xs k := fun hx => h0 hx.2.2.1
    simp [resultOf, this]
  ·have e1 : (!(xs.any fun x => !decide (0 ≤ x ∧ x ≤ 1048576))) = false := by
    simp only [Bool.not_eq_false', List.any_eq_true]
    obtain ⟨x, hx⟩ := Classical.not_forall.1 hall
    obtain ⟨hx1, hx2⟩ := Classical.not_imp.1 hx
    have h3 : ¬ (0 ≤ x ∧ x ≤ 1048576) := hx2
    exact ⟨x, hx1, by rw [decide_eq_false h3]; rfl⟩
   rw [e1]
   (refine Wc (OP.pickT rfl rfl (Wm rfl (WO.no rfl (WO.no rfl (Wc (OP.pickF rfl rfl (Wm rfl (WO.no rfl (WO.no rfl (WO.no rfl (WO.no rfl (Wc (OP.pickF rfl rfl (Wm rfl (Wn (WC.ret ?_)))))))))))))))))
   refine Fin.ret rfl ⟨hp1, ?_⟩
   have : ¬ There xs k := fun hx => hall hx.2.1
   simp [resultOf, this]
 ·(refine Cs (Co (Wm rfl (Wn (Cs (Co (Wm rfl (Wn (Cs (Co (Wm rfl (Wc (OP.lenS rfl (Wc (OP.leqF rfl rfl (by omega) ?_)))))))))))))); refine Wm rfl (WO.no rfl (WO.no rfl (WO.no rfl (WO.no rfl (Wc (OP.pickF rfl rfl (Wm rfl (WO.no rfl (WO.no rfl (Wc (OP.pickF rfl rfl (Wm rfl (WO.no rfl (WO.no rfl (WO.no rfl (WO.no rfl (Wc (OP.pickF rfl rfl (Wm rfl (Wn (WC.ret ?_))))))))))))))))))))))
  refine Fin.ret rfl ⟨Pfx.refl _, ?_⟩
  have : ¬ There xs k := fun hx => h16 (by have := hx.1; omega)
  simp [resultOf, this]
theorem Clone_run (hX : X f = none) (hF : F f = some rf_Clone) {a : Option Addr} {n c : Nat} {xs : List Int} (ha : Sl 1 h a n c (ints xs)) (hn : n ≤ 2 ^ 44) :
  Ret X F lim f [.slice a n c] h fun v h' => Pfx h h' ∧ ∃ a', v = .slice a' n n ∧ Ap h.length h'.length 1 h' a' n (ints xs) := by
 have hL := Loc.start h
 refine Ret.body hX hF rfl ?_
 simp only [argL, rf_Clone]
 cases a with
 | none =>
  have hc := ha.2.2.2 rfl
  have hn0 : n = 0 := by have := ha.2.1; omega
  subst hn0
  have hxs : xs = [] := List.eq_nil_of_length_eq_zero ha.ilen
  subst hxs
  (refine Cs (Co (Wm rfl (Wn (Cs (Cs (Co (Wm rfl (Wc (OP.isNilT rfl rfl (Wn (WC.condT rfl (Cs (Co (Wm rfl (Wn (WC.ret ?_)))))))))))))))); dsimp only [zn, zr, zx, yn, yr])
  exact Fin.ret rfl ⟨Pfx.refl _, none, rfl, Ap.nil _ _ _ _⟩
 | some a =>
  (refine Cs (Co (Wm rfl (Wn (Cs (Cs (Co (Wm rfl (Wc (OP.isNilF rfl rfl (Wn (WC.condF rfl (WC.skip (Cs (Co ?_)))))))))))))); dsimp only [zn, zr, zx, yn, yr])
  (refine Wc ?_; refine OL.buildSlice hL rfl (by simp [over, Value.cells]; rfl) rfl (fun b h1 hL => ?_))
  (refine Wm rfl ?_)
  (refine Wc ?_)
  refine OL.copy hL rfl (fun x hx => by injection hx with hx; subst hx; rfl) rfl (by (exact (Sl.pfx (by assumption) (Loc.pfx hL)))) (room8 (by omega)) (ints_ok xs) (fun a' h2 hp hL => ?_)
  (refine Wm rfl (Wn (WC.ret ?_)))
  exact Fin.ret rfl ⟨hL.pfx, a', rfl, hL.apOut (k := 0) rfl⟩
theorem cLoad_run {g0 : Nat} (hX : X f = none) (hF : F f = some (rf_Load g0)) {a : Option Addr} {n c : Nat} {xs : List Int} {k : Int} (ha : Sl 1 h a n c (ints xs)) (hth : Ret X F lim g0 [.slice a n c, .int .i64 k] h fun v h' => Pfx h h' ∧ v = .bool (decide (There xs k))) :
  Ret X F lim f [.slice a n c, .int .i64 k] h fun v h' => Pfx h h' ∧ v = if There xs k then tupI (xs.getD k.toNat 0) 0 else tupI 0 100 := by
 have hxn := ha.ilen
 refine Ret.body hX hF rfl ?_
 simp only [argL, rf_Load]
 (refine Cs (Co (Wm rfl (Wm rfl (Wn (Cs (Cs (Co (Wm rfl (Wm rfl ?_))))))))); dsimp only [zn, zr, zx, yn, yr])
 (refine Wc ?_)
 refine OP.call rfl rfl (Ret.mono hth fun v h1 hv => ?_)
 obtain ⟨hp1, rfl⟩ := hv
 have ha1 := ha.pfx hp1
 by_cases ht : There xs k
 ·simp only [ht, decide_true]
  have h0 := ht.2.2
  (refine Wc (OP.not rfl (Wn (WC.condF rfl (WC.skip (Cs (Co (Wm rfl (Wm rfl (Wc (OP.idxZ (by assumption) rfl rfl (by omega) ?_)))))))))); refine Wc (OP.ldI (by assumption) rfl (by omega) ?_); refine Wm rfl (Wm rfl (Wn (WC.ret ?_))))
  refine Fin.ret rfl ⟨hp1, ?_⟩
  have : k.toNat < xs.length := by omega
  simp [resultOf, tupI, List.getElem?_eq_getElem this]
 ·simp only [ht, decide_false]
  (refine Wc (OP.not rfl (Wn (WC.condT rfl (Cs (Co (Wm rfl (Wm rfl (Wn (WC.ret ?_))))))))); dsimp only [zn, zr, zx, yn, yr])
  refine Fin.ret rfl ⟨hp1, ?_⟩
  simp [resultOf, tupI]
end
end Go.Proofs.YtdcpmchhioilpaaW.Ai
