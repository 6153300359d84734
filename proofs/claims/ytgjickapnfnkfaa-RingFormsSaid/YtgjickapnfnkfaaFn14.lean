/-
  Rings whose slots are written to field by field (for RingForms), as the small machine runs them.
-/
import Derived.Test.YtgjickapnfnkfaaFn13
set_option linter.unusedVariables false
set_option linter.unusedSimpArgs false
set_option maxHeartbeats 4000000
set_option maxRecDepth 100000
namespace Go.Proofs.YtgjickapnfnkfaaW.Ai
def setF (s : SlotR) (f : Nat) (v : Int) : SlotR :=
  match f with
  | 0 => { s with c := v }
  | 1 => { s with r := v }
  | 2 => { s with a := v }
  | 3 => { s with t := v }
  | _ => { s with b := v }
theorem over_slotF {ss : List SlotR} {j f : Nat} (hj : j < ss.length) (hf : f < 5) (t : Int) : over (recs slotC ss) (j * 5 + f) [.int .i64 t] = recs slotC (ss.set j (setF ss[j] f t)) := by
  rw [← over_recs slotC_len ss j _ hj]
  have hl := recs_len slotC_len ss
  apply List.ext_getElem?
  intro i
  rw [overC_get (by simp; omega), overC_get (by rw [slotC_len]; omega), slotC_len]
  have key : ∀ g, g < 5 → (recs slotC ss)[j * 5 + g]? = (slotC ss[j])[g]? := fun g hg => recs_get slotC_len hj hg
  simp only [List.length_cons, List.length_nil]
  by_cases h1 : i < j * 5
  · rw [if_pos (by omega), if_pos h1]
  · rw [if_neg h1]
    by_cases h2 : i < j * 5 + 5
    · rw [if_pos h2]
      obtain ⟨g, rfl⟩ : ∃ g, i = j * 5 + g := ⟨i - j * 5, by omega⟩
      have hg : g < 5 := by omega
      have e := key g hg
      rw [show j * 5 + g - j * 5 = g by omega]
      have main : (if g < f then (slotC ss[j])[g]? else if g < f + 1 then ([Value.int .i64 t] : List Value)[g - f]? else (slotC ss[j])[g]?) = (slotC (setF ss[j] f t))[g]? := by
        match f, hf, g, hg with
        | 0, _, 0, _ => rfl
        | 0, _, 1, _ => rfl
        | 0, _, 2, _ => rfl
        | 0, _, 3, _ => rfl
        | 0, _, 4, _ => rfl
        | 1, _, 0, _ => rfl
        | 1, _, 1, _ => rfl
        | 1, _, 2, _ => rfl
        | 1, _, 3, _ => rfl
        | 1, _, 4, _ => rfl
        | 2, _, 0, _ => rfl
        | 2, _, 1, _ => rfl
        | 2, _, 2, _ => rfl
        | 2, _, 3, _ => rfl
        | 2, _, 4, _ => rfl
        | 3, _, 0, _ => rfl
        | 3, _, 1, _ => rfl
        | 3, _, 2, _ => rfl
        | 3, _, 3, _ => rfl
        | 3, _, 4, _ => rfl
        | 4, _, 0, _ => rfl
        | 4, _, 1, _ => rfl
        | 4, _, 2, _ => rfl
        | 4, _, 3, _ => rfl
        | 4, _, 4, _ => rfl
      rw [← main, e]
      by_cases h3 : g < f
      · rw [if_pos (by omega), if_pos h3]
      · rw [if_neg (by omega), if_neg h3]
        by_cases h4 : g < f + 1
        · rw [if_pos (by omega), if_pos h4]; congr 1; omega
        · rw [if_neg (by omega), if_neg h4]
    · rw [if_neg h2, if_neg (by omega), if_neg (by omega)]
section
variable {X : Ext} {F : FuncId → Option RFunc} {lim : Nat} {L : Al} {h0 h : AH} {K : Value → AH → Prop} {l : List Item}
/-- A field of one's own slots written. -/
theorem OL.storeFl {x y : Operand} {a : Option Addr} {n c j f lo hi k : Nat} {ss : List SlotR} {t : Int} (hf : f < 5) (hL : Loc h0 h l) (hlim : lim ≤ h0.length) (hk0 : l[k]? = some (sl lo hi 5 a n c (recs slotC ss))) (hx : lev L x = some (fptr 5 a j f)) (hy : lev L y = some (.int .i64 t)) (hj : j < ss.length)
    (hk : ∀ h', Loc h0 h' (l.set k (sl lo hi 5 a n c (recs slotC (ss.set j (setF ss[j] f t))))) → K undef h') : OP X F lim (.store 1 x y) L h K := by
  have hs := hL.get hk0
  have hl := hs.1.rlen slotC_len (by decide)
  refine .storeF (by decide) hs.1 hs.2 (Nat.le_trans hlim (hL.lo hk0)) hx hy (by omega) hf rfl (fun h' h1 h2 h3 => ?_)
  rw [over_slotF hj hf] at h1
  exact hk h' (hL.put (by omega) hk0 (sl lo hi 5 a n c _) rfl rfl ⟨h1, hs.2⟩ fun b hb _ => h3 b hb)
end
theorem Sl.first {sz n c k : Nat} {h : AH} {a : Option Addr} {cs : List Value} (hs : Sl sz h a n c cs) (hz : 0 < sz) (hk : k ≤ n) (h0 : 0 < n) : Sl sz h a k c (cs.take (k * sz)) := by
  obtain ⟨b, o, m, ds, rfl, h1, h2, rfl⟩ := hs.cells hz h0
  have hkn : k * sz ≤ n * sz := Nat.mul_le_mul_right _ hk
  refine ⟨?_, by have := hs.2.1; omega, ?_, fun h => by cases h⟩
  · simp only [aElems]
    rw [if_pos (by have := hs.2.1; omega)]
    by_cases hz2 : k * sz = 0
    · rw [if_pos hz2, hz2, List.take_zero]
    · rw [if_neg hz2]
      simp only [cellsOf, h1, Option.bind_some]
      rw [if_pos (by omega), List.take_take, Nat.min_eq_left hkn]
  · rw [List.length_take, List.length_take, List.length_drop]; omega
section
variable (X : Ext) (F : FuncId → Option RFunc) (g : FuncId)
/-- A new ring's slots lie in a block whose room may be asked. -/
abbrev S_NewRingB : Prop := ∀ (lim : Nat) (h : AH) {n : Nat}, lim ≤ h.length → SlotsN (n : Int) → Ret X F lim g [.int .i64 (n : Int)] h fun v h' => Pfx h h' ∧ ∃ b, v = .tuple #[.agg #[.int .i64 0, .int .i64 0, .int .i64 0, .slice (some ⟨b, 0, none⟩) n n], .int .i64 0] ∧ Sl 5 h' (some ⟨b, 0, none⟩) n n (recs slotC (List.replicate n ⟨0, 0, 0, 0, 0⟩)) ∧ Within h.length h'.length 5 (some ⟨b, 0, none⟩) n
end
section
variable {X : Ext} {F : FuncId → Option RFunc} {f : FuncId}
theorem s_NewRingB {g0 : Nat} (hX : X f = none) (hF : F f = some (rf_NewRing g0)) (c0 : S_SlotsMay X F g0) : S_NewRingB X F f := by
  intro lim h n hlim hn
  have hL := Loc.start h
  refine Ret.body hX hF rfl ?_
  simp only [argL, rf_NewRing]
  (refine WC.seq (WC.ops (WO.cons ?_)); refine OL.new hL (fun b h' hL => (WO.cons (OP.mv rfl (WO.nil ?_)))); dsimp only [thn_normal, thn_ret, thn_exit, blk_normal, blk_ret]; refine WC.seq (WC.seq (WC.ops (WO.cons (OP.mv rfl (WO.cons ?_))))); refine OL.callB hL rfl rfl (c0 _ _) (fun h' hp hL hc => ?_) (fun h' hp hL hc => ?_); refine WO.cons (OP.not rfl (WO.nil ?_)); dsimp only [thn_normal, thn_ret, thn_exit, blk_normal, blk_ret]; refine WC.condF rfl (WC.skip ?_); dsimp only [thn_normal, thn_ret, thn_exit, blk_normal, blk_ret]; refine WC.seq (WC.ops (WO.cons (OP.mv rfl (WO.cons ?_)))); refine OL.mkSlice hL rfl rfl (by omega) (fun b h' hL => ?_); refine WO.cons (OP.buildN rfl (by simp [over, Value.cells]; rfl) ?_); refine WO.cons0 ?_; refine OL.storeAll (k := 1) hL hlim rfl rfl rfl rfl rfl rfl (by decide) rfl (fun h' hL => ?_); dsimp only [List.set, Nat.zero_add, Nat.reduceAdd, Nat.reduceMul] at hL; refine WO.cons (OP.mv rfl (WO.nil ?_)); dsimp only [thn_normal, thn_ret, thn_exit, blk_normal, blk_ret]; refine WC.ret ?_)
  rw [reps_slots] at hL
  have hb := hL.bxOut (n := n) (sz := 5) (k := 0) rfl (by rw [recs_len slotC_len]; simp)
  exact Fin.ret (resL_cell rfl (hL.cell (k := 1) rfl) rfl rfl) ⟨hL.pfx, _, rfl, hb.1, hb.2⟩
  (refine WO.cons (OP.not rfl (WO.nil ?_)); dsimp only [thn_normal, thn_ret, thn_exit, blk_normal, blk_ret]; refine WC.condT rfl (WC.seq (WC.ops (WO.cons (OP.buildN rfl rfl (WO.cons0 ?_))))); refine OL.storeAll (k := 0) hL hlim rfl rfl rfl rfl rfl rfl (by decide) rfl (fun h' hL => ?_); dsimp only [List.set, Nat.zero_add, Nat.reduceAdd, Nat.reduceMul] at hL; refine WO.cons (OP.mv rfl (WO.nil ?_)); dsimp only [thn_normal, thn_ret, thn_exit, blk_normal, blk_ret]; refine WC.ret ?_; dsimp only [thn_normal, thn_ret, thn_exit, blk_normal, blk_ret]; exact False.elim (by contradiction))
end
end Go.Proofs.YtgjickapnfnkfaaW.Ai
