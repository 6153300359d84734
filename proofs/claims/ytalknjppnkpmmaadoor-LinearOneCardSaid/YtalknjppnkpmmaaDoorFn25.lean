/-
 States written over (chapter 3), as the small machine runs them.
-/
import Derived.Test.YtalknjppnkpmmaaDoorFn24
set_option linter.unusedVariables false
set_option linter.unusedSimpArgs false
set_option maxHeartbeats 4000000
set_option maxRecDepth 100000
namespace Go.Proofs.YtalknjppnkpmmaaDoorW.Ai
section
theorem Sl.keep {h : AH} {b p : Nat} {ds : List Value} {v : Int} (hc : h[b]? = some (.cells ds)) {a : Option Addr} {n c : Nat} {xs : List Int} (hs : Sl 1 h a n c (ints xs)) : ∃ ys, Sl 1 (h.set b (.cells (ds.set p (.int .i64 v)))) a n c (ints ys) := by
 rcases Nat.eq_zero_or_pos n with h0 | h0
 ·exact ⟨xs, hs.same fun x hx hn => by omega⟩
 ·obtain ⟨b', o, m, es, rfl, h1, h2, h3⟩ := hs.cells (by omega) h0
  have hbl := (List.getElem?_eq_some_iff.1 hc).1
  by_cases hb : b' = b
  ·subst hb
   rw [hc] at h1
   simp only [Option.some.injEq, Blk.cells.injEq] at h1
   subst h1
   have key : ∃ ys : List Int, ((ds.set p (.int .i64 v)).drop o).take (n * 1) = ints ys ∧ ys.length = xs.length := by
    rw [List.drop_set]
    split
    ·exact ⟨xs, h3.symm, rfl⟩
    ·rw [List.take_set, ← h3, ints_set]
     exact ⟨_, rfl, by simp⟩
   obtain ⟨ys, k1, k2⟩ := key
   refine ⟨ys, ?_, hs.2.1, ?_, fun h0 => by cases h0⟩
   ·simp only [aElems]
    rw [if_pos hs.2.1, if_neg (by omega)]
    simp only [cellsOf, List.getElem?_set_self hbl, Option.bind_some, List.length_set]
    rw [if_pos h2, k1]
   ·have := hs.2.2.1; rw [ints_len] at this ⊢; omega
  ·exact ⟨xs, hs.same fun x hx hn hxl => by cases hx; exact List.getElem?_set_ne (Ne.symm hb)⟩
section
variable (X : Ext) (F : FuncId → Option RFunc) (g : FuncId)
end
section
variable {X : Ext} {F : FuncId → Option RFunc} {f : FuncId}
end
end
end Go.Proofs.YtalknjppnkpmmaaDoorW.Ai
