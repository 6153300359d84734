/-
 Rows apart, folded apart.
-/
import Derived.Test.YtdcpmchhioilpaaFn55
set_option linter.unusedVariables false
set_option linter.unusedSimpArgs false
set_option maxHeartbeats 4000000
set_option maxRecDepth 100000
namespace Go.Proofs.YtdcpmchhioilpaaW.Ai
def rowRun (ob : Int) : List Int → List OpR → List Int
 | xs, [] => xs
 | xs, o :: os => rowRun ob (rowM ob xs o.c o.a).1 os
theorem gpn (s : S4) {r q : Int} (hr : 0 ≤ r ∧ r ≤ 3) (hq : 0 ≤ q ∧ q ≤ 3) (h : r ≠ q) (xs : List Int) : (s.put r xs).get q = s.get q := by
 obtain h1 | h1 | h1 | h1 : r = 0 ∨ r = 1 ∨ r = 2 ∨ r = 3 := by omega
 all_goals
  obtain h2 | h2 | h2 | h2 : q = 0 ∨ q = 1 ∨ q = 2 ∨ q = 3 := by omega
 all_goals
  subst h1 h2
  first | rfl | exact absurd rfl h
theorem gp (s : S4) {r : Int} (hr : 0 ≤ r ∧ r ≤ 3) (xs : List Int) : (s.put r xs).get r = xs := by
 obtain h | h | h | h : r = 0 ∨ r = 1 ∨ r = 2 ∨ r = 3 := by omega
 all_goals subst h; rfl
theorem runS_get {ob : Int} : ∀ {os : List OpR} {s : S4}, ObMay ob s → OpsOk os → (∀ o ∈ os, o.c ≠ 3) → ∀ {r : Int}, 0 ≤ r ∧ r ≤ 3 → (runS ob s os).get r = rowRun ob (s.get r) (os.filter (fun o => decide (o.r = r)))
 | [], s, _, _, _, r, _ => rfl
 | o :: os, s, hm, ho, hc, r, hr => by
  have h1 := ho o (List.mem_cons_self ..)
  have h3 := hc o (List.mem_cons_self ..)
  have hro : 0 ≤ o.r ∧ o.r ≤ 3 := by unfold OpOk at h1; omega
  have hao : 0 ≤ o.a ∧ o.a ≤ 255 := by unfold OpOk at h1; omega
  have hN := ObjM_row (e := 0) hm h1 h3
  have hm' := ObMay_put (r := o.r) hm (rowM_may (c := o.c) (RowMay_get (r := o.r) hm) hao)
  have : runS ob s (o :: os) = runS ob (s.put o.r (rowM ob (s.get o.r) o.c o.a).1) os := by rw [runS, hN]
  rw [this, runS_get hm' (fun p hp => ho p (List.mem_cons_of_mem _ hp)) (fun p hp => hc p (List.mem_cons_of_mem _ hp)) hr]
  by_cases h : o.r = r
  ·subst h
   rw [gp _ hr, List.filter_cons, if_pos (by simp)]
   rfl
  ·rw [gpn _ hro hr h, List.filter_cons, if_neg (by simpa using h)]
theorem S4.ext_get {s t : S4} (h : ∀ r : Int, 0 ≤ r ∧ r ≤ 3 → s.get r = t.get r) : s = t := by
 have h0 : s.x0 = t.x0 := h 0 (by decide)
 have h1 : s.x1 = t.x1 := h 1 (by decide)
 have h2 : s.x2 = t.x2 := h 2 (by decide)
 have h3 : s.x3 = t.x3 := h 3 (by decide)
 cases s; cases t
 simp only at h0 h1 h2 h3
 rw [h0, h1, h2, h3]
def isEven (o : OpR) : Bool := decide (mask o.r 1 = 0)
def isOdd (o : OpR) : Bool := !isEven o
theorem OpsOk.filter {os : List OpR} (h : OpsOk os) (p : OpR → Bool) : OpsOk (os.filter p) := fun o ho => h o (List.mem_filter.1 ho).1
theorem runS_apart {ob : Int} {os : List OpR} {s : S4} (hm : ObMay ob s) (ho : OpsOk os) (hc : ∀ o ∈ os, o.c ≠ 3) : runS ob (runS ob s (os.filter isEven)) (os.filter isOdd) = runS ob s os ∧ runS ob (runS ob s (os.filter isOdd)) (os.filter isEven) = runS ob s os := by
 have key : ∀ r : Int, 0 ≤ r ∧ r ≤ 3 → (((os.filter isEven).filter (fun o => decide (o.r = r)) = os.filter (fun o => decide (o.r = r)) ∧ (os.filter isOdd).filter (fun o => decide (o.r = r)) = []) ∨ ((os.filter isEven).filter (fun o => decide (o.r = r)) = [] ∧ (os.filter isOdd).filter (fun o => decide (o.r = r)) = os.filter (fun o => decide (o.r = r)))) := by
  intro r hr
  have hmr : mask r 1 = 0 ∨ ¬ mask r 1 = 0 := Classical.em _
  rcases hmr with h | h
  ·left
   constructor
   ·rw [List.filter_filter]
    congr 1
    funext o
    by_cases q : o.r = r <;> simp [q, isEven, h]
   ·rw [List.filter_filter]
    exact List.filter_eq_nil_iff.2 fun o _ => by
     by_cases q : o.r = r <;> simp [q, isOdd, isEven, h]
  ·right
   constructor
   ·rw [List.filter_filter]
    exact List.filter_eq_nil_iff.2 fun o _ => by
     by_cases q : o.r = r <;> simp [q, isEven, h]
   ·rw [List.filter_filter]
    congr 1
    funext o
    by_cases q : o.r = r <;> simp [q, isOdd, isEven, h]
 have he := ho.filter isEven
 have hd := ho.filter isOdd
 have ce : ∀ o ∈ os.filter isEven, o.c ≠ 3 := fun o h => hc o (List.mem_filter.1 h).1
 have cd : ∀ o ∈ os.filter isOdd, o.c ≠ 3 := fun o h => hc o (List.mem_filter.1 h).1
 constructor
 ·refine S4.ext_get fun r hr => ?_
  rw [runS_get (runS_may hm he) hd cd hr, runS_get hm he ce hr, runS_get hm ho hc hr]
  rcases key r hr with ⟨k1, k2⟩ | ⟨k1, k2⟩ <;> rw [k1, k2] <;> rfl
 ·refine S4.ext_get fun r hr => ?_
  rw [runS_get (runS_may hm hd) he ce hr, runS_get hm hd cd hr, runS_get hm ho hc hr]
  rcases key r hr with ⟨k1, k2⟩ | ⟨k1, k2⟩ <;> rw [k1, k2] <;> rfl
theorem OpsOk_parts {os : List OpR} (h1 : OpsOk (os.filter isEven)) (h2 : OpsOk (os.filter isOdd)) : OpsOk os := fun o ho => by
 by_cases h : isEven o = true
 ·exact h1 o (List.mem_filter.2 ⟨ho, h⟩)
 ·exact h2 o (List.mem_filter.2 ⟨ho, by simpa [isOdd] using h⟩)
theorem FoldR_rng (ob : Int) (s : S4) (os : List OpR) : 0 ≤ (FoldR ob s os).2.2 ∧ (FoldR ob s os).2.2 ≤ 1200 := by
 unfold FoldR
 split <;> simp
theorem recs_snoc (os : List OpR) (o : OpR) : recs opC (os ++ [o]) = recs opC os ++ opC o := by simp [recs]
theorem filter_take {os : List OpR} {i : Nat} (hi : i < os.length) (p : OpR → Bool) : (os.take (i + 1)).filter p = (os.take i).filter p ++ (if p os[i] = true then [os[i]] else []) := by
 rw [List.take_succ_eq_append_getElem hi, List.filter_append]
 congr 1
 by_cases h : p os[i] = true
 ·rw [if_pos h]; simp [h]
 ·rw [if_neg h]; simp [h]
theorem Loc.addNil3 {h0 h : AH} {l : List Item} (hL : Loc h0 h l) : Loc h0 h (ap h.length h.length 3 none 0 (recs opC []) :: l) :=
 ⟨Nat.le_refl _, Nat.le_refl _, ⟨rfl, .inl ⟨rfl, fun x hx => by cases hx⟩⟩, hL⟩
end Go.Proofs.YtdcpmchhioilpaaW.Ai
