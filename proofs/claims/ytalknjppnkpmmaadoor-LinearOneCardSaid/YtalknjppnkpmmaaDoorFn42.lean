/-
 Tables (chapter 4), as the small machine runs them: a number taken.
-/
import Derived.Test.YtalknjppnkpmmaaDoorFn41
set_option linter.unusedVariables false
set_option linter.unusedSimpArgs false
set_option maxHeartbeats 4000000
set_option maxRecDepth 100000
namespace Go.Proofs.YtalknjppnkpmmaaDoorW.Ai
section
section
variable {X : Ext} {F : FuncId → Option RFunc} {f : FuncId}
theorem s_fTakenN {g0 g1 : Nat} (hX : X f = none) (hF : F f = some (rf_fTaken g0 g1)) (c0' : S_BS X F g0) : S_fTakenN X F f := by
 intro lim h a n xs hS hn hT hx
 have m0 : (0 : Int) ∈ xs := Classical.byContradiction fun m => by rw [takeL, if_pos m] at hx; exact absurd (show (0 : Int) = -1 from hx) (by decide)
 have m1 : (1 : Int) ∈ xs := Classical.byContradiction fun m => by rw [takeL, if_neg (fun q => q m0), if_pos m] at hx; exact absurd (show (1 : Int) = -1 from hx) (by decide)
 have m2 : (2 : Int) ∈ xs := Classical.byContradiction fun m => by rw [takeL, if_neg (fun q => q m0), if_neg (fun q => q m1), if_pos m] at hx; exact absurd (show (2 : Int) = -1 from hx) (by decide)
 have m3 : (3 : Int) ∈ xs := Classical.byContradiction fun m => by rw [takeL, if_neg (fun q => q m0), if_neg (fun q => q m1), if_neg (fun q => q m2), if_pos m] at hx; exact absurd (show (3 : Int) = -1 from hx) (by decide)
 clear hx
 have hL := Loc.start h
 refine Ret.body hX hF rfl ?_
 simp only [argL, rf_fTaken]
 (refine Cs (Co (Wm rfl (Wm rfl (Wt ?_)))); refine Cs (Cs (Co (Wm rfl (Wt ?_)))); refine WC.block ?_)
 refine WC.unroll ?_
 (refine Cs (Co (Wc (OP.lssT rfl rfl (by omega) ?_))); refine Wt ?_; refine Cs (WC.condT rfl (Ks ?_)); refine Cs (WC.block (Cs (Co (Wm rfl (Wm rfl (Wt ?_)))))); refine Cs (Co (Wm rfl (Wm rfl ?_))))
 (refine Wc ?_)
 refine OL.call hL rfl rfl (c0' _ _ (hS.pfx hL.pfx) (by omega) hT) (fun v h1 hp hL hv => ?_)
 obtain ⟨i, rfl, hi2, hl1, hl2⟩ := hv
 rw [decide_eq_true m0]
 (refine Wm rfl (Wc (OP.extract rfl rfl (Wc (OP.extract rfl rfl (Wm rfl (Wm rfl (Wn ?_))))))); dsimp only [zn, zr, zx, yn, yr]; refine Cs (Co (Wm rfl (Wc (OP.not rfl (Wn ?_))))); dsimp only [zn, zr, zx, yn, yr]; refine WC.condF rfl (WC.skip ?_); dsimp only [zn, zr, zx, yn, yr]; refine Co (Wc (OP.addL rfl rfl (by simp only [Int.reduceAdd]; rfl) (by decide) ?_)); refine Wm rfl (Wn ?_); dsimp only [zn, zr, zx, yn, yr])
 refine WC.unroll ?_
 (refine Cs (Co (Wc (OP.lssT rfl rfl (by omega) ?_))); refine Wt ?_; refine Cs (WC.condT rfl (Ks ?_)); refine Cs (WC.block (Cs (Co (Wm rfl (Wm rfl (Wt ?_)))))); refine Cs (Co (Wm rfl (Wm rfl ?_))))
 (refine Wc ?_)
 refine OL.call hL rfl rfl (c0' _ _ (hS.pfx hL.pfx) (by omega) hT) (fun v h1 hp hL hv => ?_)
 obtain ⟨i, rfl, hi2, hl1, hl2⟩ := hv
 rw [decide_eq_true m1]
 (refine Wm rfl (Wc (OP.extract rfl rfl (Wc (OP.extract rfl rfl (Wm rfl (Wm rfl (Wn ?_))))))); dsimp only [zn, zr, zx, yn, yr]; refine Cs (Co (Wm rfl (Wc (OP.not rfl (Wn ?_))))); dsimp only [zn, zr, zx, yn, yr]; refine WC.condF rfl (WC.skip ?_); dsimp only [zn, zr, zx, yn, yr]; refine Co (Wc (OP.addL rfl rfl (by simp only [Int.reduceAdd]; rfl) (by decide) ?_)); refine Wm rfl (Wn ?_); dsimp only [zn, zr, zx, yn, yr])
 refine WC.unroll ?_
 (refine Cs (Co (Wc (OP.lssT rfl rfl (by omega) ?_))); refine Wt ?_; refine Cs (WC.condT rfl (Ks ?_)); refine Cs (WC.block (Cs (Co (Wm rfl (Wm rfl (Wt ?_)))))); refine Cs (Co (Wm rfl (Wm rfl ?_))))
 (refine Wc ?_)
 refine OL.call hL rfl rfl (c0' _ _ (hS.pfx hL.pfx) (by omega) hT) (fun v h1 hp hL hv => ?_)
 obtain ⟨i, rfl, hi2, hl1, hl2⟩ := hv
 rw [decide_eq_true m2]
 (refine Wm rfl (Wc (OP.extract rfl rfl (Wc (OP.extract rfl rfl (Wm rfl (Wm rfl (Wn ?_))))))); dsimp only [zn, zr, zx, yn, yr]; refine Cs (Co (Wm rfl (Wc (OP.not rfl (Wn ?_))))); dsimp only [zn, zr, zx, yn, yr]; refine WC.condF rfl (WC.skip ?_); dsimp only [zn, zr, zx, yn, yr]; refine Co (Wc (OP.addL rfl rfl (by simp only [Int.reduceAdd]; rfl) (by decide) ?_)); refine Wm rfl (Wn ?_); dsimp only [zn, zr, zx, yn, yr])
 refine WC.unroll ?_
 (refine Cs (Co (Wc (OP.lssT rfl rfl (by omega) ?_))); refine Wt ?_; refine Cs (WC.condT rfl (Ks ?_)); refine Cs (WC.block (Cs (Co (Wm rfl (Wm rfl (Wt ?_)))))); refine Cs (Co (Wm rfl (Wm rfl ?_))))
 (refine Wc ?_)
 refine OL.call hL rfl rfl (c0' _ _ (hS.pfx hL.pfx) (by omega) hT) (fun v h1 hp hL hv => ?_)
 obtain ⟨i, rfl, hi2, hl1, hl2⟩ := hv
 rw [decide_eq_true m3]
 (refine Wm rfl (Wc (OP.extract rfl rfl (Wc (OP.extract rfl rfl (Wm rfl (Wm rfl (Wn ?_))))))); dsimp only [zn, zr, zx, yn, yr]; refine Cs (Co (Wm rfl (Wc (OP.not rfl (Wn ?_))))); dsimp only [zn, zr, zx, yn, yr]; refine WC.condF rfl (WC.skip ?_); dsimp only [zn, zr, zx, yn, yr]; refine Co (Wc (OP.addL rfl rfl (by simp only [Int.reduceAdd]; rfl) (by decide) ?_)); refine Wm rfl (Wn ?_); dsimp only [zn, zr, zx, yn, yr])
 refine WC.unroll ?_
 (refine Cs (Co (Wc (OP.lssF rfl rfl (by omega) ?_))); refine Wt ?_; refine Cs (WC.condF rfl (WC.exit ?_)); dsimp only [zn, zr, zx, yn, yr]; rw [yx, if_pos rfl]; dsimp only [zn, zr, zx, yn, yr]; refine Cs (Co (Wm rfl (Wm rfl (Wm rfl (Wt ?_))))); refine WC.ret ?_; exact Fin.ret rfl ⟨hL.pfx, rfl⟩)
theorem s_fTaken {g0 g1 : Nat} (hX : X f = none) (hF : F f = some (rf_fTaken g0 g1)) (c0' : S_BS X F g0) (hX1 : X g1 = some insA) : S_fTaken X F f := by
 intro lim h a n lo hi xs hlo hhi hle hn hT hx hA
 have hlen := hA.1
 rw [ints_len] at hlen
 have hL := Loc.frame hA hle hhi
 have htl : (h.take lo).length = lo := by rw [List.length_take]; omega
 have hlim : lim ≤ (h.take lo).length := by omega
 have out : ∀ {h' : AH} {lo2 hi2 : Nat} {a' : Option Addr} {m : Nat} {ys : List Int} {b1 b2 : Item}, Loc (h.take lo) h' [ap lo2 hi2 1 a' m (ints ys), b1, fz hi h.length h, b2] → (h.length ≤ h'.length ∧ (∀ b, (b < lo ∨ hi ≤ b) → b < h.length → h'[b]? = h[b]?) ∧ Ap h.length h'.length 1 h' a' m (ints ys)) := by
  intro h' lo2 hi2 a' m ys b1 b2 hL
  refine ⟨?_, fun b hb hbl => ?_, ?_⟩
  ·exact hL.toEnd (k := 2) rfl
  ·rcases hb with hb | hb
   ·have := hL.pfx.2 b (by omega)
    rw [this, List.getElem?_take_of_lt hb]
   ·exact hL.get (k := 2) rfl b hb hbl
  ·have h3 := hL.below (i := 0) (j := 2) rfl rfl (by decide)
   exact Ap.widen (hL.get (k := 0) rfl) h3 (hL.toEnd (k := 0) rfl)
 refine Ret.body hX hF rfl ?_
 simp only [argL, rf_fTaken]
 (refine Cs (Co (Wm rfl (Wm rfl (Wt ?_)))); refine Cs (Cs (Co (Wm rfl (Wt ?_)))); refine WC.block ?_)
 by_cases m0 : (0 : Int) ∉ xs
 ·have hx : takeL xs = (insL xs 0, 0) := (by rw [takeL, if_pos m0])
  rw [hx]
  refine WC.unroll ?_
  (refine Cs (Co (Wc (OP.lssT rfl rfl (by omega) ?_))); refine Wt ?_; refine Cs (WC.condT rfl (Ks ?_)); refine Cs (WC.block (Cs (Co (Wm rfl (Wm rfl (Wt ?_)))))); refine Cs (Co (Wm rfl (Wm rfl ?_))))
  (refine Wc ?_)
  refine OL.call hL rfl rfl (c0' _ _ (hL.get (k := 1) rfl).sl.1 (by omega) hT) (fun v h1 hp hL hv => ?_)
  obtain ⟨i, rfl, hi2, hl1, hl2⟩ := hv
  rw [decide_eq_false m0]
  (refine Wm rfl (Wc (OP.extract rfl rfl (Wc (OP.extract rfl rfl (Wm rfl (Wm rfl (Wt ?_))))))); refine Cs (Co (Wm rfl (Wc (OP.not rfl (Wt ?_))))); refine WC.condT rfl (Cs (Co (Wm rfl (Wm rfl (Wm rfl (Wc ?_)))))); refine OL.buildSlice hL rfl (by simp [over, Value.cells]; rfl) rfl (fun b h' hL => ?_))
  (refine Wc ?_)
  have hvb := hL.below (i := 0) (j := 1) rfl rfl (by decide)
  have hvc := hL.lo (k := 0) rfl
  refine OL.callGrow (k := 2) hL rfl rfl rfl (insert_run hX1 (lo := lo) (hi := hi) hlo hle (hL.toEnd (k := 2) rfl) (by omega) (hL.get (k := 2) rfl) hi2 (Nat.le_trans hlim hvc) (.inr (Nat.le_trans hhi hvb)) (hL.cell (k := 0) rfl)) (fun a' h' hL => ?_)
  rw [insL_at hl1 hl2 m0] at hL
  dsimp only [List.set] at hL
  (refine Wm rfl (Wm rfl (Wm rfl (Wt ?_))); refine WC.ret ?_; dsimp only [zn, zr, zx, yn, yr])
  exact Fin.ret rfl ⟨(out hL).1, (out hL).2.1, a', rfl, (out hL).2.2⟩
 have m0 : (0 : Int) ∈ xs := Classical.not_not.1 m0
 refine WC.unroll ?_
 (refine Cs (Co (Wc (OP.lssT rfl rfl (by omega) ?_))); refine Wt ?_; refine Cs (WC.condT rfl (Ks ?_)); refine Cs (WC.block (Cs (Co (Wm rfl (Wm rfl (Wt ?_)))))); refine Cs (Co (Wm rfl (Wm rfl ?_))))
 (refine Wc ?_)
 refine OL.call hL rfl rfl (c0' _ _ (hL.get (k := 1) rfl).sl.1 (by omega) hT) (fun v h1 hp hL hv => ?_)
 obtain ⟨i, rfl, hi2, hl1, hl2⟩ := hv
 rw [decide_eq_true m0]
 (refine Wm rfl (Wc (OP.extract rfl rfl (Wc (OP.extract rfl rfl (Wm rfl (Wm rfl (Wn ?_))))))); dsimp only [zn, zr, zx, yn, yr]; refine Cs (Co (Wm rfl (Wc (OP.not rfl (Wn ?_))))); dsimp only [zn, zr, zx, yn, yr]; refine WC.condF rfl (WC.skip ?_); dsimp only [zn, zr, zx, yn, yr]; refine Co (Wc (OP.addL rfl rfl (by simp only [Int.reduceAdd]; rfl) (by decide) ?_)); refine Wm rfl (Wn ?_); dsimp only [zn, zr, zx, yn, yr])
 by_cases m1 : (1 : Int) ∉ xs
 ·have hx : takeL xs = (insL xs 1, 1) := (by rw [takeL, if_neg (fun q => q m0), if_pos m1])
  rw [hx]
  refine WC.unroll ?_
  (refine Cs (Co (Wc (OP.lssT rfl rfl (by omega) ?_))); refine Wt ?_; refine Cs (WC.condT rfl (Ks ?_)); refine Cs (WC.block (Cs (Co (Wm rfl (Wm rfl (Wt ?_)))))); refine Cs (Co (Wm rfl (Wm rfl ?_))))
  (refine Wc ?_)
  refine OL.call hL rfl rfl (c0' _ _ (hL.get (k := 1) rfl).sl.1 (by omega) hT) (fun v h1 hp hL hv => ?_)
  obtain ⟨i, rfl, hi2, hl1, hl2⟩ := hv
  rw [decide_eq_false m1]
  (refine Wm rfl (Wc (OP.extract rfl rfl (Wc (OP.extract rfl rfl (Wm rfl (Wm rfl (Wt ?_))))))); refine Cs (Co (Wm rfl (Wc (OP.not rfl (Wt ?_))))); refine WC.condT rfl (Cs (Co (Wm rfl (Wm rfl (Wm rfl (Wc ?_)))))); refine OL.buildSlice hL rfl (by simp [over, Value.cells]; rfl) rfl (fun b h' hL => ?_))
  (refine Wc ?_)
  have hvb := hL.below (i := 0) (j := 1) rfl rfl (by decide)
  have hvc := hL.lo (k := 0) rfl
  refine OL.callGrow (k := 2) hL rfl rfl rfl (insert_run hX1 (lo := lo) (hi := hi) hlo hle (hL.toEnd (k := 2) rfl) (by omega) (hL.get (k := 2) rfl) hi2 (Nat.le_trans hlim hvc) (.inr (Nat.le_trans hhi hvb)) (hL.cell (k := 0) rfl)) (fun a' h' hL => ?_)
  rw [insL_at hl1 hl2 m1] at hL
  dsimp only [List.set] at hL
  (refine Wm rfl (Wm rfl (Wm rfl (Wt ?_))); refine WC.ret ?_; dsimp only [zn, zr, zx, yn, yr])
  exact Fin.ret rfl ⟨(out hL).1, (out hL).2.1, a', rfl, (out hL).2.2⟩
 have m1 : (1 : Int) ∈ xs := Classical.not_not.1 m1
 refine WC.unroll ?_
 (refine Cs (Co (Wc (OP.lssT rfl rfl (by omega) ?_))); refine Wt ?_; refine Cs (WC.condT rfl (Ks ?_)); refine Cs (WC.block (Cs (Co (Wm rfl (Wm rfl (Wt ?_)))))); refine Cs (Co (Wm rfl (Wm rfl ?_))))
 (refine Wc ?_)
 refine OL.call hL rfl rfl (c0' _ _ (hL.get (k := 1) rfl).sl.1 (by omega) hT) (fun v h1 hp hL hv => ?_)
 obtain ⟨i, rfl, hi2, hl1, hl2⟩ := hv
 rw [decide_eq_true m1]
 (refine Wm rfl (Wc (OP.extract rfl rfl (Wc (OP.extract rfl rfl (Wm rfl (Wm rfl (Wn ?_))))))); dsimp only [zn, zr, zx, yn, yr]; refine Cs (Co (Wm rfl (Wc (OP.not rfl (Wn ?_))))); dsimp only [zn, zr, zx, yn, yr]; refine WC.condF rfl (WC.skip ?_); dsimp only [zn, zr, zx, yn, yr]; refine Co (Wc (OP.addL rfl rfl (by simp only [Int.reduceAdd]; rfl) (by decide) ?_)); refine Wm rfl (Wn ?_); dsimp only [zn, zr, zx, yn, yr])
 by_cases m2 : (2 : Int) ∉ xs
 ·have hx : takeL xs = (insL xs 2, 2) := (by rw [takeL, if_neg (fun q => q m0), if_neg (fun q => q m1), if_pos m2])
  rw [hx]
  refine WC.unroll ?_
  (refine Cs (Co (Wc (OP.lssT rfl rfl (by omega) ?_))); refine Wt ?_; refine Cs (WC.condT rfl (Ks ?_)); refine Cs (WC.block (Cs (Co (Wm rfl (Wm rfl (Wt ?_)))))); refine Cs (Co (Wm rfl (Wm rfl ?_))))
  (refine Wc ?_)
  refine OL.call hL rfl rfl (c0' _ _ (hL.get (k := 1) rfl).sl.1 (by omega) hT) (fun v h1 hp hL hv => ?_)
  obtain ⟨i, rfl, hi2, hl1, hl2⟩ := hv
  rw [decide_eq_false m2]
  (refine Wm rfl (Wc (OP.extract rfl rfl (Wc (OP.extract rfl rfl (Wm rfl (Wm rfl (Wt ?_))))))); refine Cs (Co (Wm rfl (Wc (OP.not rfl (Wt ?_))))); refine WC.condT rfl (Cs (Co (Wm rfl (Wm rfl (Wm rfl (Wc ?_)))))); refine OL.buildSlice hL rfl (by simp [over, Value.cells]; rfl) rfl (fun b h' hL => ?_))
  (refine Wc ?_)
  have hvb := hL.below (i := 0) (j := 1) rfl rfl (by decide)
  have hvc := hL.lo (k := 0) rfl
  refine OL.callGrow (k := 2) hL rfl rfl rfl (insert_run hX1 (lo := lo) (hi := hi) hlo hle (hL.toEnd (k := 2) rfl) (by omega) (hL.get (k := 2) rfl) hi2 (Nat.le_trans hlim hvc) (.inr (Nat.le_trans hhi hvb)) (hL.cell (k := 0) rfl)) (fun a' h' hL => ?_)
  rw [insL_at hl1 hl2 m2] at hL
  dsimp only [List.set] at hL
  (refine Wm rfl (Wm rfl (Wm rfl (Wt ?_))); refine WC.ret ?_; dsimp only [zn, zr, zx, yn, yr])
  exact Fin.ret rfl ⟨(out hL).1, (out hL).2.1, a', rfl, (out hL).2.2⟩
 have m2 : (2 : Int) ∈ xs := Classical.not_not.1 m2
 refine WC.unroll ?_
 (refine Cs (Co (Wc (OP.lssT rfl rfl (by omega) ?_))); refine Wt ?_; refine Cs (WC.condT rfl (Ks ?_)); refine Cs (WC.block (Cs (Co (Wm rfl (Wm rfl (Wt ?_)))))); refine Cs (Co (Wm rfl (Wm rfl ?_))))
 (refine Wc ?_)
 refine OL.call hL rfl rfl (c0' _ _ (hL.get (k := 1) rfl).sl.1 (by omega) hT) (fun v h1 hp hL hv => ?_)
 obtain ⟨i, rfl, hi2, hl1, hl2⟩ := hv
 rw [decide_eq_true m2]
 (refine Wm rfl (Wc (OP.extract rfl rfl (Wc (OP.extract rfl rfl (Wm rfl (Wm rfl (Wn ?_))))))); dsimp only [zn, zr, zx, yn, yr]; refine Cs (Co (Wm rfl (Wc (OP.not rfl (Wn ?_))))); dsimp only [zn, zr, zx, yn, yr]; refine WC.condF rfl (WC.skip ?_); dsimp only [zn, zr, zx, yn, yr]; refine Co (Wc (OP.addL rfl rfl (by simp only [Int.reduceAdd]; rfl) (by decide) ?_)); refine Wm rfl (Wn ?_); dsimp only [zn, zr, zx, yn, yr])
 by_cases m3 : (3 : Int) ∉ xs
 ·have hx : takeL xs = (insL xs 3, 3) := (by rw [takeL, if_neg (fun q => q m0), if_neg (fun q => q m1), if_neg (fun q => q m2), if_pos m3])
  rw [hx]
  refine WC.unroll ?_
  (refine Cs (Co (Wc (OP.lssT rfl rfl (by omega) ?_))); refine Wt ?_; refine Cs (WC.condT rfl (Ks ?_)); refine Cs (WC.block (Cs (Co (Wm rfl (Wm rfl (Wt ?_)))))); refine Cs (Co (Wm rfl (Wm rfl ?_))))
  (refine Wc ?_)
  refine OL.call hL rfl rfl (c0' _ _ (hL.get (k := 1) rfl).sl.1 (by omega) hT) (fun v h1 hp hL hv => ?_)
  obtain ⟨i, rfl, hi2, hl1, hl2⟩ := hv
  rw [decide_eq_false m3]
  (refine Wm rfl (Wc (OP.extract rfl rfl (Wc (OP.extract rfl rfl (Wm rfl (Wm rfl (Wt ?_))))))); refine Cs (Co (Wm rfl (Wc (OP.not rfl (Wt ?_))))); refine WC.condT rfl (Cs (Co (Wm rfl (Wm rfl (Wm rfl (Wc ?_)))))); refine OL.buildSlice hL rfl (by simp [over, Value.cells]; rfl) rfl (fun b h' hL => ?_))
  (refine Wc ?_)
  have hvb := hL.below (i := 0) (j := 1) rfl rfl (by decide)
  have hvc := hL.lo (k := 0) rfl
  refine OL.callGrow (k := 2) hL rfl rfl rfl (insert_run hX1 (lo := lo) (hi := hi) hlo hle (hL.toEnd (k := 2) rfl) (by omega) (hL.get (k := 2) rfl) hi2 (Nat.le_trans hlim hvc) (.inr (Nat.le_trans hhi hvb)) (hL.cell (k := 0) rfl)) (fun a' h' hL => ?_)
  rw [insL_at hl1 hl2 m3] at hL
  dsimp only [List.set] at hL
  (refine Wm rfl (Wm rfl (Wm rfl (Wt ?_))); refine WC.ret ?_; dsimp only [zn, zr, zx, yn, yr])
  exact Fin.ret rfl ⟨(out hL).1, (out hL).2.1, a', rfl, (out hL).2.2⟩
 have m3 : (3 : Int) ∈ xs := Classical.not_not.1 m3
 refine WC.unroll ?_
 (refine Cs (Co (Wc (OP.lssT rfl rfl (by omega) ?_))); refine Wt ?_; refine Cs (WC.condT rfl (Ks ?_)); refine Cs (WC.block (Cs (Co (Wm rfl (Wm rfl (Wt ?_)))))); refine Cs (Co (Wm rfl (Wm rfl ?_))))
 (refine Wc ?_)
 refine OL.call hL rfl rfl (c0' _ _ (hL.get (k := 1) rfl).sl.1 (by omega) hT) (fun v h1 hp hL hv => ?_)
 obtain ⟨i, rfl, hi2, hl1, hl2⟩ := hv
 rw [decide_eq_true m3]
 (refine Wm rfl (Wc (OP.extract rfl rfl (Wc (OP.extract rfl rfl (Wm rfl (Wm rfl (Wn ?_))))))); dsimp only [zn, zr, zx, yn, yr]; refine Cs (Co (Wm rfl (Wc (OP.not rfl (Wn ?_))))); dsimp only [zn, zr, zx, yn, yr]; refine WC.condF rfl (WC.skip ?_); dsimp only [zn, zr, zx, yn, yr]; refine Co (Wc (OP.addL rfl rfl (by simp only [Int.reduceAdd]; rfl) (by decide) ?_)); refine Wm rfl (Wn ?_); dsimp only [zn, zr, zx, yn, yr])
 exact absurd (by rw [takeL, if_neg (fun q => q m0), if_neg (fun q => q m1), if_neg (fun q => q m2), if_neg (fun q => q m3)]) hx
theorem s_fTaken2 {g0 g1 : Nat} (hX : X f = none) (hF : F f = some (rf_fTaken g0 g1)) (c0 : S_BS X F g0) (hX1 : X g1 = some insA) : S_fTaken2 X F f := ⟨s_fTaken hX hF c0 hX1, s_fTakenN hX hF c0⟩
end
end
end Go.Proofs.YtalknjppnkpmmaaDoorW.Ai
