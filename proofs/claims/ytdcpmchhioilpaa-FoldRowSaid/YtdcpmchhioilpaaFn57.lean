/-
 The answers of one row.
-/
import Derived.Test.YtdcpmchhioilpaaFn56
set_option linter.unusedVariables false
set_option linter.unusedSimpArgs false
set_option maxHeartbeats 4000000
set_option maxRecDepth 100000
namespace Go.Proofs.YtdcpmchhioilpaaW.Ai
def pickX (p : OpR → Bool) : List OpR → List Int → List Int
 | o :: os, x :: xs => if p o then x :: pickX p os xs else pickX p os xs
 | _, _ => []
theorem pickX_snoc (p : OpR → Bool) (o : OpR) (x : Int) : ∀ (os : List OpR) (xs : List Int), os.length = xs.length → pickX p (os ++ [o]) (xs ++ [x]) = pickX p os xs ++ (if p o then [x] else [])
 | [], [], _ => by simp [pickX]
 | [], x :: xs, h => by simp at h
 | o :: os, [], h => by simp at h
 | q :: os, y :: xs, h => by
  have ih := pickX_snoc p o x os xs (by simpa using h)
  simp only [List.cons_append, pickX]
  by_cases hq : p q = true
  ·simp only [hq, if_true, ih, List.cons_append]
  ·simp only [hq, if_false, ih]; rfl
theorem pickX_take (p : OpR → Bool) {os : List OpR} {xs : List Int} {i : Nat} (h1 : i < os.length) (h2 : i < xs.length) : pickX p (os.take (i + 1)) (xs.take (i + 1)) = pickX p (os.take i) (xs.take i) ++ (if p os[i] then [xs[i]] else []) := by
 rw [List.take_succ_eq_append_getElem h1, List.take_succ_eq_append_getElem h2]
 exact pickX_snoc p _ _ _ _ (by simp only [List.length_take]; omega)
def ownOf (r : Int) (o : OpR) : Bool := decide (o.r = r ∧ o.c ≠ 3)
theorem runX_own {ob r : Int} (hr : 0 ≤ r ∧ r ≤ 3) : ∀ {os : List OpR} {s t : S4}, ObMay ob s → ObMay ob t → s.get r = t.get r → OpsOk os → runX ob t (os.filter (ownOf r)) = pickX (ownOf r) os (runX ob s os)
 | [], s, t, _, _, _, _ => rfl
 | o :: os, s, t, hs, ht, hg, ho => by
  have h1 := ho o (List.mem_cons_self ..)
  have hro : 0 ≤ o.r ∧ o.r ≤ 3 := by unfold OpOk at h1; omega
  have hao : 0 ≤ o.a ∧ o.a ≤ 255 := by unfold OpOk at h1; omega
  have hrest : OpsOk os := fun p hp => ho p (List.mem_cons_of_mem _ hp)
  by_cases hk : ownOf r o = true
  ·have hk' : o.r = r ∧ o.c ≠ 3 := of_decide_eq_true hk
   obtain ⟨he, hc⟩ := hk'
   have ms := ObMay_put (r := o.r) hs (rowM_may (c := o.c) (RowMay_get (r := o.r) hs) hao)
   have mt := ObMay_put (r := o.r) ht (rowM_may (c := o.c) (RowMay_get (r := o.r) ht) hao)
   have ns := ObjM_row (e := 0) hs h1 hc
   have nt := ObjM_row (e := 0) ht h1 hc
   rw [List.filter_cons, if_pos hk]
   simp only [runX, pickX, ns, nt, hk, if_true]
   rw [he] at ms mt ⊢
   rw [hg]
   congr 1
   exact runX_own hr (by rw [← hg]; exact ms) mt (by rw [gp _ hr, gp _ hr]) hrest
  ·rw [List.filter_cons, if_neg hk]
   simp only [runX, pickX, hk, if_false]
   by_cases hc : o.c = 3
   ·have h3 : OpOk 3 o.r o.a := hc ▸ h1
    have ns : ObjM 0 ob s o.c o.r o.a = (s, scanM ob s, 0) := by rw [hc]; exact ObjM_scan hs h3
    rw [ns]
    exact runX_own hr hs ht hg hrest
   ·have hne : o.r ≠ r := fun he => hk (decide_eq_true ⟨he, hc⟩)
    have ms := ObMay_put (r := o.r) hs (rowM_may (c := o.c) (RowMay_get (r := o.r) hs) hao)
    rw [ObjM_row (e := 0) hs h1 hc]
    exact runX_own hr ms ht (by rw [gpn _ hro hr hne]; exact hg) hrest
end Go.Proofs.YtdcpmchhioilpaaW.Ai
