/-
 Histories (chapter 24): how one lies in the heap while it grows.
-/
import Derived.Test.YtalknjppnkpmmaaDoorFnB
set_option linter.unusedVariables false
set_option linter.unusedSimpArgs false
set_option maxHeartbeats 4000000
set_option maxRecDepth 100000
namespace Go.Proofs.YtalknjppnkpmmaaDoorW.Ai
section
def RowW (h : AH) (lo hi hb : Nat) (a : Option Addr) (l : List CallR) : Prop := (l = [] ∧ a = none) ∨ ∃ b, a = some ⟨b, 0, some 6⟩ ∧ l ≠ [] ∧ h[b]? = some (.cells (recs caC l)) ∧ lo ≤ b ∧ b < hi ∧ b ≠ hb
def slV (A : Nat → Option Addr) (C : H4) (t : Nat) : Value := .slice (A t) (C.get (t : Nat)).length (C.get (t : Nat)).length
def hCells (mb : Nat) (ob : Int) (A : Nat → Option Addr) (C : H4) : List Value := [slV A C 0, slV A C 1, slV A C 2, slV A C 3, .int .i64 ob, .map (some mb)]
structure HistF (h : AH) (lo hi hb mb : Nat) (ob : Int) (A : Nat → Option Addr) (C : H4) : Prop where
 cell : h[hb]? = some (.cells (hCells mb ob A C))
 hl : lo ≤ hb
 hu : hb < hi
 row : ∀ t, t < 4 → RowW h lo hi hb (A t) (C.get (t : Nat))
 dj : ∀ t u x y, t < 4 → u < 4 → t ≠ u → A t = some x → A u = some y → x.block ≠ y.block
theorem RowW.sl {h : AH} {lo hi hb : Nat} {a : Option Addr} {l : List CallR} (w : RowW h lo hi hb a l) : Sl 6 h a l.length l.length (recs caC l) := by
 rcases w with ⟨rfl, rfl⟩ | ⟨b, rfl, _, h1, _⟩
 ·exact ⟨rfl, Nat.le_refl _, rfl, fun _ => rfl⟩
 ·exact Sl.front (m := some 6) (ds := []) (by rw [h1]; simp) (recs_len caC_len l) (Nat.le_refl _)
theorem HistF.r {h : AH} {lo hi hb mb : Nat} {ob : Int} {A : Nat → Option Addr} {C : H4} (H : HistF h lo hi hb mb ob A C) : HistR h hb mb ob (A 0) (A 1) (A 2) (A 3) C :=
 ⟨H.cell, (H.row 0 (by decide)).sl, (H.row 1 (by decide)).sl, (H.row 2 (by decide)).sl, (H.row 3 (by decide)).sl⟩
theorem HistF.same {h h' : AH} {lo hi hb mb : Nat} {ob : Int} {A : Nat → Option Addr} {C : H4} (H : HistF h lo hi hb mb ob A C) (hk : ∀ b, lo ≤ b → b < hi → h'[b]? = h[b]?) : HistF h' lo hi hb mb ob A C :=
 ⟨(hk _ H.hl H.hu).trans H.cell, H.hl, H.hu, fun t ht => (H.row t ht).imp id fun ⟨b, h1, h2, h3, h4, h5, h6⟩ => ⟨b, h1, h2, (hk b h4 h5).trans h3, h4, h5, h6⟩, H.dj⟩
theorem HistF.widen {h : AH} {lo hi hi' hb mb : Nat} {ob : Int} {A : Nat → Option Addr} {C : H4} (H : HistF h lo hi hb mb ob A C) (hh : hi ≤ hi') : HistF h lo hi' hb mb ob A C :=
 ⟨H.cell, H.hl, by have := H.hu; omega, fun t ht => (H.row t ht).imp id fun ⟨b, h1, h2, h3, h4, h5, h6⟩ => ⟨b, h1, h2, h3, h4, by omega, h6⟩, H.dj⟩
def setA (A : Nat → Option Addr) (t B : Nat) : Nat → Option Addr := fun u => if u = t then some ⟨B, 0, some 6⟩ else A u
theorem put_nat (C : H4) {t u : Nat} (l : List CallR) (ht : t < 4) (hu : u < 4) : (C.put (t : Int) l).get (u : Int) = if u = t then l else C.get (u : Int) := by
 rw [H4.put_get C (by omega) u (by omega)]
 by_cases e : u = t
 ·rw [if_pos e, if_pos (by omega)]
 ·rw [if_neg e, if_neg (by omega)]
theorem hCells_set {mb : Nat} {ob : Int} {A : Nat → Option Addr} {C : H4} {t B : Nat} {l : List CallR} (ht : t < 4) : hCells mb ob (setA A t B) (C.put (t : Int) l) = (hCells mb ob A C).set t (.slice (some ⟨B, 0, some 6⟩) l.length l.length) := by
 obtain rfl | rfl | rfl | rfl : t = 0 ∨ t = 1 ∨ t = 2 ∨ t = 3 := by omega
 all_goals rfl
theorem HistF.put {h h' : AH} {lo hi hi' hb mb : Nat} {ob : Int} {A : Nat → Option Addr} {C : H4} (H : HistF h lo hi hb mb ob A C) {t B : Nat} {l : List CallR} (ht : t < 4) (hB : h'[B]? = some (.cells (recs caC l))) (hl : l ≠ []) (hB1 : lo ≤ B) (hB2 : B < hi') (hB3 : B ≠ hb) (hB4 : ∀ u x, u < 4 → u ≠ t → A u = some x → x.block ≠ B) (hh : hi ≤ hi')
  (hc : h'[hb]? = some (.cells ((hCells mb ob A C).set t (.slice (some ⟨B, 0, some 6⟩) l.length l.length)))) (hk : ∀ b, lo ≤ b → b < hi → b ≠ hb → (∀ x, A t = some x → x.block ≠ b) → h'[b]? = h[b]?) : HistF h' lo hi' hb mb ob (setA A t B) (C.put (t : Int) l) := by
 refine ⟨by rw [hc, hCells_set ht], H.hl, by have := H.hu; omega, fun u hu => ?_, fun u v x y hu hv hne hx hy => ?_⟩
 ·rw [put_nat C l ht hu]
  unfold setA
  by_cases e : u = t
  ·rw [if_pos e, if_pos e]
   exact .inr ⟨B, rfl, hl, hB, hB1, hB2, hB3⟩
  ·rw [if_neg e, if_neg e]
   refine (H.row u hu).imp id fun ⟨b, h1, h2, h3, h4, h5, h6⟩ => ⟨b, h1, h2, (hk b h4 h5 h6 fun x hx => ?_).trans h3, h4, by omega, h6⟩
   exact H.dj t u _ _ ht hu (Ne.symm e) hx h1
 ·unfold setA at hx hy
  by_cases e1 : u = t
  ·rw [if_pos e1] at hx
   rw [if_neg (by omega)] at hy
   injection hx with hx
   subst hx
   exact Ne.symm (hB4 v y hv (by omega) hy)
  ·rw [if_neg e1] at hx
   by_cases e2 : v = t
   ·rw [if_pos e2] at hy
    injection hy with hy
    subst hy
    exact hB4 u x hu e1 hx
   ·rw [if_neg e2] at hy
    exact H.dj u v x y hu hv hne hx hy
theorem hist_append {lim : Nat} {h : AH} {lo hi hb : Nat} {a : Option Addr} {l : List CallR} {c : CallR} (w : RowW h lo hi hb a l) (hlim : lim ≤ lo) (hn : l.length ≤ 64) :
  ∃ h2, aAppend lim 6 48 h (.slice a l.length l.length) 1 (caC c) = some (.slice (some ⟨h.length, 0, some 6⟩) (l.length + 1) (l.length + 1), h2 ++ [.cells (recs caC (l ++ [c]))]) ∧ h2.length = h.length ∧ ∀ b, (∀ x, a = some x → x.block ≠ b) → h2[b]? = h[b]? := by
 have hr : recs caC l ++ caC c = recs caC (l ++ [c]) := by simp [recs]
 have room : Room (l.length + 1) 48 := ⟨by omega, by omega, by omega⟩
 rcases w with ⟨rfl, rfl⟩ | ⟨b, rfl, h0, h1, h2, h3, h4⟩
 ·have hA : Ap 0 0 6 h none 0 [] := ⟨rfl, .inl ⟨rfl, fun x hx => by cases hx⟩⟩
  obtain ⟨g, g1, g2, g3, g4⟩ := append_some (lim := lim) (bytes := 48) (m := 1) (news := caC c) hA (by decide) room rfl (.inr rfl)
  refine ⟨g, ?_, g2, fun b _ => by rw [g4 rfl]⟩
  rw [← hr]
  exact g1
 ·have hA : Ap b (b + 1) 6 h (some ⟨b, 0, some 6⟩) l.length (recs caC l) := ⟨recs_len caC_len l, .inr ⟨by cases l with | nil => exact absurd rfl h0 | cons x xs => simp, b, rfl, h1, Nat.le_refl _, Nat.lt_succ_self _⟩⟩
  obtain ⟨g, g1, g2, g3, g4⟩ := append_some (lim := lim) (bytes := 48) (m := 1) (news := caC c) hA (by decide) room rfl (.inl (by omega))
  refine ⟨g, ?_, g2, fun d hd => g3 d (by have : b ≠ d := hd _ rfl; omega)⟩
  rw [← hr]
  exact g1
theorem over_callT {l : List CallR} {j : Nat} (hj : j < l.length) (v : Int) : over (recs caC l) (j * 6 + 4) [.int .i64 v] = recs caC (l.set j { l[j] with t := v }) := by
 rw [← over_recs caC_len l j _ hj]
 have hl := recs_len caC_len l
 apply List.ext_getElem?
 intro i
 rw [overC_get (by simp; omega), overC_get (by rw [caC_len]; omega), caC_len]
 have key : ∀ f, f < 6 → (recs caC l)[j * 6 + f]? = (caC l[j])[f]? := fun f hf => recs_get caC_len hj hf
 simp only [List.length_cons, List.length_nil]
 by_cases h1 : i < j * 6
 ·rw [if_pos (by omega), if_pos h1]
 ·rw [if_neg h1]
  by_cases h2 : i < j * 6 + 6
  ·rw [if_pos h2]
   obtain ⟨f, rfl⟩ : ∃ f, i = j * 6 + f := ⟨i - j * 6, by omega⟩
   have hf : f < 6 := by omega
   have e := key f hf
   rw [show j * 6 + f - j * 6 = f by omega, show j * 6 + f - (j * 6 + 4) = f - 4 by omega]
   match f, hf with
   | 0, _ => simpa [caC] using e
   | 1, _ => simp [e, caC]
   | 2, _ => simp [e, caC]
   | 3, _ => simp [e, caC]
   | 4, _ => simp [caC]
   | 5, _ => simp [e, caC]
  ·rw [if_neg h2, if_neg (by omega), if_neg (by omega)]
theorem over_callX {l : List CallR} {j : Nat} (hj : j < l.length) (v : Int) : over (recs caC l) (j * 6 + 5) [.int .i64 v] = recs caC (l.set j { l[j] with x := v }) := by
 rw [← over_recs caC_len l j _ hj]
 have hl := recs_len caC_len l
 apply List.ext_getElem?
 intro i
 rw [overC_get (by simp; omega), overC_get (by rw [caC_len]; omega), caC_len]
 have key : ∀ f, f < 6 → (recs caC l)[j * 6 + f]? = (caC l[j])[f]? := fun f hf => recs_get caC_len hj hf
 simp only [List.length_cons, List.length_nil]
 by_cases h1 : i < j * 6
 ·rw [if_pos (by omega), if_pos h1]
 ·rw [if_neg h1]
  by_cases h2 : i < j * 6 + 6
  ·rw [if_pos h2]
   obtain ⟨f, rfl⟩ : ∃ f, i = j * 6 + f := ⟨i - j * 6, by omega⟩
   have hf : f < 6 := by omega
   have e := key f hf
   rw [show j * 6 + f - j * 6 = f by omega, show j * 6 + f - (j * 6 + 5) = f - 5 by omega]
   match f, hf with
   | 0, _ => simpa [caC] using e
   | 1, _ => simp [e, caC]
   | 2, _ => simp [e, caC]
   | 3, _ => simp [e, caC]
   | 4, _ => simp [e, caC]
   | 5, _ => simp [caC]
  ·rw [if_neg h2, if_neg (by omega), if_neg (by omega)]
theorem over_call {l : List CallR} {j : Nat} (hj : j < l.length) (k x : Int) : over (over (recs caC l) (j * 6 + 4) [.int .i64 k]) (j * 6 + 5) [.int .i64 x] = recs caC (l.set j { l[j] with t := k, x := x }) := by
 rw [over_callT hj, over_callX (by rw [List.length_set]; exact hj)]
 simp
section
variable {X : Ext} {F : FuncId → Option RFunc} {lim : Nat} {L : Al} {h h' : AH} {Q : Al → AH → Prop}
theorem WO.apH {r : List RO} {d bx n : Nat} {s x : Operand} {av : List Operand} {a : Option Addr} {c : CallR} {v : Value} (hs : lev L s = some (.slice a n n)) (ha : a = none → n = 0) (hx : lev L x = some (.slice (some ⟨bx, 0, none⟩) 1 1)) (hav : ∀ y ∈ av, ∃ c p m, lev L y = some (.pointer (some ⟨c, p, m⟩)) ∧ ∀ z, a = some z → z.block ≠ c) (hc : h[bx]? = some (.cells (caC c)))
  (hA : aAppend lim 6 48 h (.slice a n n) 1 (caC c) = some (v, h')) (W : WO X F lim r ((d, v) :: L) h' Q) : WO X F lim (⟨some d, .append 6 48 s x, none, false, av⟩ :: r) L h Q := fun e he => by
 have hS : Sl 6 h (some ⟨bx, 0, none⟩) 1 1 (caC c) := Sl.of_block hc (caC_len c)
 refine wo_run (v := v) (k := 0) ?_ rfl (by simp only [aop, he.ev hx, he.ev hs, aLen_slice, Option.bind_some, hS.1]; exact hA) (he.upd d v) W
 rw [List.all_eq_true]
 intro y hy
 obtain ⟨q, p, m, g1, g2⟩ := hav y hy
 cases a with
 | none => simp only [apart, he.ev g1, he.ev hs, ha rfl]
 | some z =>
  simp only [apart, he.ev g1, he.ev hs]
  simpa using g2 z rfl
end
theorem take_put {h h' h4 : AH} {lo hi hb mb t : Nat} {ob : Int} {A : Nat → Option Addr} {C : H4} {c : CallR} {l : List CallR} (hl : C.get (t : Nat) = l) (hpx : Pfx h h') (H : HistF h lo hi hb mb ob A C) (ht : t < 4) (hhi : hi ≤ h.length) (h2 : h4.length = h'.length) (h3 : ∀ b, (∀ x, A t = some x → x.block ≠ b) → h4[b]? = h'[b]?)
  {g : AH} (hg : g = (h4 ++ [Blk.cells (recs caC (l ++ [c]))]).set hb (.cells (over (hCells mb ob A C) (0 + t * 1) [.slice (some ⟨h'.length, 0, some 6⟩) (l.length + 1) (l.length + 1)]))) :
  HistF g lo g.length hb mb ob (setA A t h'.length) (C.put (t : Int) (l ++ [c])) ∧ (∀ b, (b < lo ∨ hi ≤ b) → b < h.length → g[b]? = h[b]?) ∧ h.length ≤ g.length ∧ ∀ b cs, h.length ≤ b → h'[b]? = some (.cells cs) → g[b]? = some (.cells cs) := by
 have hu := H.hu
 have hlo := H.hl
 have hpl := hpx.1
 have hgl : g.length = h'.length + 1 := by rw [hg]; simp [h2]
 have old : ∀ b, b ≠ hb → b < h'.length → g[b]? = h4[b]? := fun b hb1 hb2 => by
  rw [hg, List.getElem?_set_ne (Ne.symm hb1), List.getElem?_append_left (by omega)]
 have rb : ∀ x, A t = some x → lo ≤ x.block ∧ x.block < hi := fun x hx => by
  rcases H.row t ht with ⟨_, q⟩ | ⟨b, q, _, _, q4, q5, _⟩
  ·rw [q] at hx; cases hx
  ·rw [q] at hx; injection hx with hx; subst hx; exact ⟨q4, q5⟩
 refine ⟨H.put ht (B := h'.length) (l := l ++ [c]) ?_ (by simp) (by omega) (by omega) (by omega) (fun u x hu' hne hx => ?_) (by omega) ?_ fun b q1 q2 q3 q4 => ?_, fun b q1 q2 => ?_, by omega, fun b cs q1 q2 => ?_⟩
 ·rw [hg, List.getElem?_set_ne (by omega), List.getElem?_append_right (by omega)]
  simp [h2]
 ·rcases H.row u hu' with ⟨_, q⟩ | ⟨b, q, _, _, q4, q5, _⟩
  ·rw [q] at hx; cases hx
  ·rw [q] at hx; injection hx with hx; subst hx; show b ≠ h'.length; omega
 ·rw [hg, List.getElem?_set_self (by rw [List.length_append]; simp [h2]; omega), Nat.zero_add, Nat.mul_one, over_one _ (by show t < 6; omega)]
  simp
 ·rw [old b q3 (by omega), h3 b q4]
  exact hpx.2 b (by omega)
 ·rw [old b (by omega) (by omega), h3 b fun x hx => by have := rb x hx; omega]
  exact hpx.2 b q2
 ·have hb1 := (List.getElem?_eq_some_iff.1 q2).1
  rw [old b (by omega) hb1, h3 b fun x hx => by have := rb x hx; omega]
  exact q2
theorem take_ans {h h' : AH} {lo hi hb mb t B : Nat} {ob : Int} {A : Nat → Option Addr} {C : H4} {l l' : List CallR} {x1 : Blk} (hl : C.get (t : Nat) = l) (hpx : Pfx h h') (H : HistF h lo hi hb mb ob A C) (ht : t < 4) (hhi : hi ≤ h.length) (hA : A t = some ⟨B, 0, some 6⟩) (hB1 : lo ≤ B) (hB2 : B < hi) (hB3 : B ≠ hb) (hn : l'.length = l.length) (hne : l' ≠ [])
  {g : AH} (hg : g = (h'.set B x1).set B (.cells (recs caC l'))) :
  HistF g lo g.length hb mb ob (setA A t B) (C.put (t : Int) l') ∧ (∀ b, (b < lo ∨ hi ≤ b) → b < h.length → g[b]? = h[b]?) ∧ h.length ≤ g.length := by
 have hu := H.hu
 have hlo := H.hl
 have hpl := hpx.1
 have hgl : g.length = h'.length := by rw [hg]; simp
 have old : ∀ b, b ≠ B → b < h.length → g[b]? = h[b]? := fun b hb1 hb2 => by
  rw [hg, List.getElem?_set_ne (Ne.symm hb1), List.getElem?_set_ne (Ne.symm hb1)]
  exact hpx.2 b hb2
 refine ⟨H.put ht (B := B) (l := l') ?_ hne hB1 (by omega) hB3 (fun u x hu' hne' hx => H.dj u t x _ hu' ht hne' hx hA) (by omega) ?_ fun b q1 q2 q3 q4 => old b (fun e => q4 _ hA e.symm) (by omega), fun b q1 q2 => old b (by omega) q2, by omega⟩
 ·rw [hg, List.getElem?_set_self (by rw [List.length_set]; omega)]
 ·rw [old hb (Ne.symm hB3) (by omega), H.cell]
  have hs : (hCells mb ob A C).set t (.slice (some ⟨B, 0, some 6⟩) l'.length l'.length) = hCells mb ob A C := by
   rw [hn, ← hl, ← hA]
   obtain rfl | rfl | rfl | rfl : t = 0 ∨ t = 1 ∨ t = 2 ∨ t = 3 := by omega
   all_goals rfl
  rw [hs]
theorem Lf_recs {l : List CallR} {j : Nat} (hj : j < l.length) : Lf (recs caC l) (0 + j * 6) l[j] := fun f v hv => by
 rw [Nat.zero_add, recs_get caC_len hj (List.getElem?_eq_some_iff.1 hv).1]
 exact hv
end
section
def rf_lTake (g0 g1 : Nat) : RFunc :=
 ⟨74, [(.tmp 6)], (.seq (.ops [rO 4 (.box (.tmp 1)), rO 6 (.mv (.const (.bool false)))]) (.seq (.seq (.ops [rO 8 (.fieldAddr 0 (.tmp 4)), rO 9 (.load .none (.tmp 8)), rO 10 (.bin .lss (.tmp 9) (.const (.int .i64 0))), rO 11 (.mv (.tmp 10)), ⟨(.some 12), (.fieldAddr 0 (.tmp 4)), (.some (11, false)), false, []⟩, ⟨(.some 13), (.load .none (.tmp 12)), (.some (11, false)), false, []⟩, ⟨(.some 14), (.bin .geq (.tmp 13) (.const (.int .i64 4))), (.some (11, false)), false, []⟩, rO 15 (.pick (.tmp 11) (.const (.bool true)) (.tmp 14)), rO 16 (.mv (.tmp 15)), ⟨(.some 17), (.fieldAddr 2 (.tmp 4)), (.some (16, false)), false, []⟩, ⟨(.some 18), (.load (.some 3) (.tmp 17)), (.some (16, false)), false, []⟩, ⟨(.some 19), (.call (.func g0) [(.tmp 18)]), (.some (16, false)), false, []⟩, ⟨(.some 20), (.un .not (.tmp 19)), (.some (16, false)), false, []⟩, rO 21 (.pick (.tmp 16) (.const (.bool true)) (.tmp 20))]) (.cond (.tmp 21) (.seq (.ops [rO 6 (.mv (.const (.bool false)))]) .ret) .skip)) (.seq (.ops [rO 22 (.mv (.tmp 0)), rO 23 (.fieldAddr 0 (.tmp 4)), rO 24 (.load .none (.tmp 23)), rO 25 (.call (.func g1) [(.tmp 22), (.tmp 24)]), rO 7 (.mv (.tmp 25))]) (.seq (.seq (.ops [rO 26 (.fieldAddr 1 (.tmp 4)), rO 27 (.load .none (.tmp 26))]) (.cond (.tmp 27) (.seq (.ops [⟨(.some 28), (.mv (.tmp 0)), .none, true, []⟩, ⟨(.some 29), (.fieldAddr 0 (.tmp 4)), .none, true, []⟩, ⟨(.some 30), (.load .none (.tmp 29)), .none, true, []⟩, ⟨(.some 31), (.mv (.tmp 0)), .none, true, []⟩, ⟨(.some 32), (.fieldAddr 0 (.tmp 4)), .none, true, []⟩, ⟨(.some 33), (.load .none (.tmp 32)), .none, true, []⟩, ⟨(.some 34), (.nilCheck (.tmp 31)), .none, true, []⟩, ⟨(.some 35), (.fieldAddr 0 (.tmp 34)), .none, true, []⟩, ⟨(.some 36), (.idxAddrArr 4 1 (.tmp 35) (.tmp 33)), .none, true, []⟩, ⟨(.some 37), (.load .none (.tmp 36)), .none, true, []⟩, ⟨(.some 38), (.fieldAddr 2 (.tmp 4)), .none, true, []⟩, ⟨(.some 39), (.load (.some 3) (.tmp 38)), .none, true, []⟩, ⟨(.some 40), (.mv (.tmp 2)), .none, true, []⟩, ⟨(.some 41), (.build [(.int .i64 0), (.int .i64 0), (.int .i64 0), (.int .i64 0), (.int .i64 0), (.int .i64 0)] [(0, (3, (.tmp 39))), (3, (1, (.tmp 40)))]), .none, true, []⟩, ⟨(.some 42), (.buildSlice [(.int .i64 0), (.int .i64 0), (.int .i64 0), (.int .i64 0), (.int .i64 0), (.int .i64 0)] 1 [(0, (6, (.tmp 41)))]), .none, true, []⟩, ⟨(.some 43), (.append 6 48 (.tmp 37) (.tmp 42)), .none, false, [(.tmp 29)]⟩, ⟨(.some 44), (.nilCheck (.tmp 28)), .none, true, []⟩, ⟨(.some 45), (.fieldAddr 0 (.tmp 44)), .none, true, []⟩, rO 46 (.idxAddrArr 4 1 (.tmp 45) (.tmp 30)), ⟨.none, (.store 1 (.tmp 46) (.tmp 43)), .none, false, []⟩]) (.seq (.ops [rO 47 (.mv (.tmp 7)), rO 48 (.isNil false 1 (.tmp 47)), rO 49 (.mv (.tmp 48)), ⟨(.some 50), (.fieldAddr 5 (.tmp 4)), (.some (49, true)), false, []⟩, ⟨(.some 51), (.load .none (.tmp 50)), (.some (49, true)), false, []⟩, ⟨(.some 52), (.bin .eql (.tmp 51) (.const (.int .i64 0))), (.some (49, true)), false, []⟩, rO 53 (.pick (.tmp 49) (.tmp 52) (.const (.bool false))), rO 6 (.mv (.tmp 53))]) .ret)) .skip)) (.seq (.seq (.ops [rO 54 (.mv (.tmp 7)), rO 55 (.isNil false 1 (.tmp 54)), rO 56 (.mv (.tmp 55)), ⟨(.some 57), (.mv (.tmp 7)), (.some (56, false)), true, []⟩, ⟨(.some 58), (.nilCheck (.tmp 57)), (.some (56, false)), true, []⟩, ⟨(.some 59), (.fieldAddr 0 (.tmp 58)), (.some (56, false)), true, []⟩, ⟨(.some 60), (.load (.some 3) (.tmp 59)), (.some (56, false)), true, []⟩, ⟨(.some 61), (.fieldAddr 2 (.tmp 4)), (.some (56, false)), true, []⟩, ⟨(.some 62), (.load (.some 3) (.tmp 61)), (.some (56, false)), true, []⟩, ⟨(.some 63), (.eq true (.some [1, 1, 1]) (.tmp 60) (.tmp 62)), (.some (56, false)), false, []⟩, rO 64 (.pick (.tmp 56) (.const (.bool true)) (.tmp 63))]) (.cond (.tmp 64) (.seq (.ops [rO 6 (.mv (.const (.bool false)))]) .ret) .skip)) (.seq (.ops [rO 65 (.mv (.tmp 7)), ⟨(.some 66), (.mv (.tmp 7)), .none, true, []⟩, rO 67 (.mv (.tmp 2)), ⟨(.some 68), (.fieldAddr 5 (.tmp 4)), .none, true, []⟩, ⟨(.some 69), (.load .none (.tmp 68)), .none, true, []⟩, rO 70 (.nilCheck (.tmp 65)), rO 71 (.fieldAddr 4 (.tmp 70)), ⟨.none, (.store 1 (.tmp 71) (.tmp 67)), .none, false, [(.tmp 68)]⟩, rO 72 (.nilCheck (.tmp 66)), rO 73 (.fieldAddr 5 (.tmp 72)), ⟨.none, (.store 1 (.tmp 73) (.tmp 69)), .none, false, []⟩]) (.seq (.ops [rO 6 (.mv (.const (.bool true)))]) .ret)))))))⟩
def Hid (p : Prop) : Prop := p
theorem Hid.out {p : Prop} (h : Hid p) : p := h
def TakeP (h : AH) (lo hi hb mb : Nat) (ob k : Int) (C : H4) (e : EvR) (v : Value) (h' : AH) : Prop := h.length ≤ h'.length ∧ (∀ b, (b < lo ∨ hi ≤ b) → b < h.length → h'[b]? = h[b]?) ∧ ((takeH C e k = none ∧ v = .bool false) ∨ ∃ D A', takeH C e k = some D ∧ v = .bool true ∧ HistF h' lo h'.length hb mb ob A' D)
section
variable (X : Ext) (F : FuncId → Option RFunc) (g : FuncId)
abbrev S_lTake : Prop := ∀ (lim : Nat) (h : AH) {lo hi hb mb : Nat} {ob k : Int} {A : Nat → Option Addr} {C : H4} {e : EvR}, lim ≤ lo → hi ≤ h.length → HistF h lo hi hb mb ob A C → (∀ t, t < 4 → (C.get (t : Nat)).length ≤ 64) →
 Ret X F lim g [.pointer (some ⟨hb, 0, none⟩), .agg #[.int .i64 e.t, .bool e.call, .int .i64 e.c, .int .i64 e.r, .int .i64 e.a, .int .i64 e.x], .int .i64 k] h (TakeP h lo hi hb mb ob k C e)
end
theorem aG_eq (A : Nat → Option Addr) {t : Nat} (ht : t < 4) : aG (A 0) (A 1) (A 2) (A 3) t = A t := by
 obtain rfl | rfl | rfl | rfl : t = 0 ∨ t = 1 ∨ t = 2 ∨ t = 3 := by omega
 all_goals rfl
theorem hCells_get {mb : Nat} {ob : Int} {A : Nat → Option Addr} {C : H4} {t : Nat} (ht : t < 4) : loadAt none (hCells mb ob A C) (0 + t * 1) = some (.slice (A t) (C.get (t : Nat)).length (C.get (t : Nat)).length) := by
 obtain rfl | rfl | rfl | rfl : t = 0 ∨ t = 1 ∨ t = 2 ∨ t = 3 := by omega
 all_goals rfl
section
variable {X : Ext} {F : FuncId → Option RFunc} {f : FuncId}
theorem s_lTake {g0 g1 : Nat} (hX : X f = none) (hF : F f = some (rf_lTake g0 g1)) (c0 : S_oMay X F g0) (e1 : S_lPending X F g1) : S_lTake X F f := by
 intro lim h lo hi hb mb ob k A C e hlo hhi H hlen
 obtain ⟨et, call, c, r, a, x⟩ := e
 simp only
 have hL := Loc.start h
 suffices key : ∀ Q : Value → AH → Prop, (∀ v h', TakeP h lo hi hb mb ob k C ⟨et, call, c, r, a, x⟩ v h' → Q v h') → Ret X F lim f [.pointer (some ⟨hb, 0, none⟩), .agg #[.int .i64 et, .bool call, .int .i64 c, .int .i64 r, .int .i64 a, .int .i64 x], .int .i64 k] h Q from key _ (fun _ _ hq => hq)
 intro Q hQ'
 have HQ : Hid (∀ v h', TakeP h lo hi hb mb ob k C ⟨et, call, c, r, a, x⟩ v h' → Q v h') := hQ'
 have HH : Hid (HistF h lo hi hb mb ob A C) := H
 have HL : Hid (∀ t, t < 4 → (C.get (t : Nat)).length ≤ 64) := hlen
 clear hQ' H hlen
 refine Ret.body hX hF rfl ?_
 simp only [argL, rf_lTake]
 generalize hb43 : (ROp.append 6 48 (.tmp 37) (.tmp 42)) = op43
 generalize hb63 : (ROp.eq true (.some [1, 1, 1]) (.tmp 60) (.tmp 62)) = op63
 (refine Cs (Co ?_); dsimp only [zn, zr, zx, yn, yr])
 (refine Wc ?_; refine OL.boxA hL rfl rfl (fun B4 h1 hL => ?_))
 have FF : Hid (takeH C ⟨et, call, c, r, a, x⟩ k = none) → ∀ h', Loc h h' [bx B4 [.int .i64 et, .bool call, .int .i64 c, .int .i64 r, .int .i64 a, .int .i64 x]] → Q (.bool false) h' := fun hno h' hL => HQ.out _ _ ⟨hL.len, fun b _ hb' => hL.pfx.2 b hb', .inl ⟨hno, rfl⟩⟩
 by_cases ht1 : et < 0
 ·have hno : Hid (takeH C ⟨et, call, c, r, a, x⟩ k = none) := if_neg (fun q => by have := q.1.1; simp only at this; omega)
  (refine Wm rfl (Wn (Cs (Cs (Co (Wc (OP.fieldAddr0 rfl (Wc (OL.load1 (k := 0) hL rfl rfl rfl (Wc (OP.lssT rfl rfl (by omega) ?_)))))))))); refine Wm rfl (WO.no rfl (WO.no rfl (WO.no rfl (Wc (OP.pickT rfl rfl (Wm rfl (WO.no rfl (WO.no rfl (WO.no rfl (WO.no rfl (Wc (OP.pickT rfl rfl (Wt ?_))))))))))))); refine WC.condT rfl (Cs (Co (Wm rfl (Wt ?_)))); refine WC.ret ?_; dsimp only [zn, zr, zx, yn, yr])
  exact Fin.ret rfl (FF hno _ hL)
 by_cases ht2 : et ≥ 4
 ·have hno : Hid (takeH C ⟨et, call, c, r, a, x⟩ k = none) := if_neg (fun q => by have := q.1.2; simp only at this; omega)
  (refine Wm rfl (Wn (Cs (Cs (Co (Wc (OP.fieldAddr0 rfl (Wc (OL.load1 (k := 0) hL rfl rfl rfl (Wc (OP.lssF rfl rfl (by omega) ?_)))))))))); refine Wm rfl (WO.yes rfl (Wc (OP.fieldAddr0 rfl (WO.yes rfl (Wc (OL.load1 (k := 0) hL rfl rfl rfl (WO.yes rfl (Wc (OP.geqT rfl rfl (by omega) ?_))))))))); refine Wc (OP.pickF rfl rfl (Wm rfl (WO.no rfl (WO.no rfl (WO.no rfl (WO.no rfl (Wc (OP.pickT rfl rfl (Wt ?_))))))))); refine WC.condT rfl (Cs (Co (Wm rfl (Wt ?_)))); refine WC.ret ?_; dsimp only [zn, zr, zx, yn, yr])
  exact Fin.ret rfl (FF hno _ hL)
 by_cases hop : OpOk c r a
 ·have c0 : ∀ lim h', Ret X F lim g0 [.agg #[.int .i64 c, .int .i64 r, .int .i64 a]] h' fun v h'' => Pfx h' h'' ∧ v = .bool true := fun lim h' => by
   have := c0 lim h' (c := c) (r := r) (a := a)
   rw [decide_eq_true hop] at this
   exact this
  obtain ⟨t, rfl⟩ : ∃ t : Nat, et = t := ⟨et.toNat, by omega⟩
  have ht4 : t < 4 := by omega
  have hcell : Hid (h[hb]? = some (.cells (hCells mb ob A C))) := HH.out.cell
  have hrow : Hid (RowW h lo hi hb (A t) (C.get (t : Nat))) := HH.out.row t ht4
  have hln : (C.get (t : Nat)).length ≤ 64 := HL.out t ht4
  have ePd := e1
  clear e1
  cases call with
  | true =>
   obtain ⟨q, hq1, hq2⟩ : ∃ q : Option Addr, pdV (aG (A 0) (A 1) (A 2) (A 3) t) (C.get (t : Nat)) = .pointer q ∧ Hid (q = none ↔ pendL (C.get (t : Nat)) = none) := by
    unfold pdV
    cases hpd : pendL (C.get (t : Nat)) with
    | none => exact ⟨none, rfl, ⟨fun _ => rfl, fun _ => rfl⟩⟩
    | some pc =>
     have hne : (C.get (t : Nat)).length ≠ 0 := fun e => by
      unfold pendL at hpd
      rw [List.getElem?_eq_none (by omega)] at hpd
      cases hpd
     obtain ⟨b, o, cs, h1, h2, h3⟩ := slot_call (HH.out.r.row ht4) (show (C.get (t : Nat)).length - 1 < (C.get (t : Nat)).length by omega)
     exact ⟨some ⟨b, o, none⟩, h1, ⟨fun h => (by cases h), fun h => (by cases h)⟩⟩
   have eP : ∀ lim h', Pfx h h' → Ret X F lim g1 [.pointer (some ⟨hb, 0, none⟩), .int .i64 (t : Int)] h' fun v h'' => Pfx h' h'' ∧ v = .pointer q := fun lim h' hp => (ePd lim h' (HH.out.r.pfx hp) ht4 hln).mono fun v h'' ⟨p, q⟩ => ⟨p, q.trans hq1⟩
   clear hq1 ePd
   (refine Wm rfl (Wn (Cs (Cs (Co (Wc (OP.fieldAddr0 rfl (Wc (OL.load1 (k := 0) hL rfl rfl rfl (Wc (OP.lssF rfl rfl (by omega) ?_)))))))))); refine Wm rfl (WO.yes rfl (Wc (OP.fieldAddr0 rfl (WO.yes rfl (Wc (OL.load1 (k := 0) hL rfl rfl rfl (WO.yes rfl (Wc (OP.geqF rfl rfl (by omega) ?_))))))))); refine Wc (OP.pickF rfl rfl (Wm rfl (WO.yes rfl (Wc (OP.fieldAddr0 rfl (WO.yes rfl (Wc (OL.load (k := 0) hL rfl rfl rfl (WO.yes rfl (Wc ?_)))))))))); refine OL.callV hL rfl rfl (c0 _ _) (fun h' hp hL => (WO.yes rfl (Wc (OP.not rfl (Wc (OP.pickF rfl rfl (Wt ?_))))))); refine WC.condF rfl (Ks ?_); refine Cs (Co (Wm rfl (Wc (OP.fieldAddr0 rfl (Wc (OL.load1 (k := 0) hL rfl rfl rfl ?_)))))))
   (refine Wc ?_)
   refine OL.callV hL rfl rfl (eP _ _ hL.pfx) (fun h' hp hL => ?_)
   clear eP
   (refine Wm rfl (Wt ?_); refine Cs (Cs (Co (Wc (OP.fieldAddr0 rfl (Wc (OL.load1 (k := 0) hL rfl rfl rfl (Wt ?_))))))); refine WC.condT rfl (Cs (Co (WO.consQ (OP.mv rfl (WO.consQ (OP.fieldAddr0 rfl (WO.consQ (OL.load1 (k := 0) hL rfl rfl rfl (WO.consQ (OP.mv rfl (WO.consQ (OP.fieldAddr0 rfl (WO.consQ (OL.load1 (k := 0) hL rfl rfl rfl (WO.consQ (OP.nilP rfl (WO.consQ (OP.fieldAddr0 rfl (WO.consQ (OP.idxArrAddr rfl rfl (by omega) ?_)))))))))))))))))))))
   (refine WO.consQ ?_)
   refine OP.load rfl ((hL.pfx.2 _ (List.getElem?_eq_some_iff.1 hcell.out).1).trans hcell.out) (hCells_get ht4) ?_
   (refine WO.consQ (OP.fieldAddr0 rfl (WO.consQ (OL.load (k := 0) hL rfl rfl rfl (WO.consQ (OP.mv rfl (WO.consQ (OP.buildN rfl (by simp [over, Value.cells]; rfl) ?_))))))); refine WO.consQ ?_; refine OL.buildSlice hL rfl (by simp [over, Value.cells]; rfl) rfl (fun b h' hL => ?_))
   subst hb43
   have hpx := hL.pfx
   have hc4 := hL.cell (k := 1) rfl
   have hb4 : h.length ≤ B4 := hL.lo (k := 1) rfl
   obtain ⟨h4, hA1, hA2, hA3⟩ := hist_append (lim := lim) (c := ⟨c, r, a, k, 0, 0⟩) (show RowW _ lo hi hb (A t) (C.get (t : Nat)) from hrow.out.imp id fun ⟨b, q1, q2, q3, q4, q5, q6⟩ => ⟨b, q1, q2, (hL.pfx.2 b (by omega)).trans q3, q4, q5, q6⟩) hlo hln
   refine WO.apH rfl (fun ha => by rcases hrow.out with ⟨q1, _⟩ | ⟨b, q1, _⟩; exact (by rw [q1]; rfl); rw [ha] at q1; cases q1) rfl (fun y hy => by
    rw [List.mem_singleton.1 hy]
    refine ⟨B4, 0, none, rfl, fun z hz => ?_⟩
    have hB4 : h.length ≤ B4 := hL.lo (k := 1) rfl
    rcases hrow.out with ⟨_, q1⟩ | ⟨b, q1, _, _, _, q5, _⟩
    ·rw [q1] at hz; cases hz
    ·rw [q1] at hz; injection hz with hz; subst hz; show b ≠ B4; omega) (hL.cell (k := 0) rfl) hA1 ?_
   clear hL
   have hcN : (h4 ++ [Blk.cells (recs caC (C.get (t : Nat) ++ [⟨c, r, a, k, 0, 0⟩]))])[hb]? = some (.cells (hCells mb ob A C)) := by
    have hu := HH.out.hu
    rw [List.getElem?_append_left (by rw [hA2]; have := hpx.1; omega), hA3 hb (fun z hz => by
     rcases hrow.out with ⟨_, q1⟩ | ⟨b, q1, _, _, _, _, q6⟩
     ·rw [q1] at hz; cases hz
     ·rw [q1] at hz; injection hz with hz; subst hz; exact q6)]
    exact (hpx.2 _ (by omega)).trans hcell.out
   (refine WO.consQ (OP.nilP rfl (WO.consQ (OP.fieldAddr0 rfl (Wc (OP.idxArrAddr rfl rfl (by omega) ?_))))))
   (refine WO.cons0 ?_)
   refine OP.store (vs := [.slice (some ⟨h'.length, 0, some 6⟩) ((C.get (t : Nat)).length + 1) ((C.get (t : Nat)).length + 1)]) rfl rfl rfl rfl hcN (Nat.le_trans hlo HH.out.hl) rfl (by show 0 + t * 1 + 1 ≤ 6; omega) (by decide) ?_
   obtain ⟨g, hg⟩ : ∃ g, g = (h4 ++ [Blk.cells (recs caC (C.get (t : Nat) ++ [⟨c, r, a, k, 0, 0⟩]))]).set hb (.cells (over (hCells mb ob A C) (0 + t * 1) [.slice (some ⟨h'.length, 0, some 6⟩) ((C.get (t : Nat)).length + 1) ((C.get (t : Nat)).length + 1)])) := ⟨_, rfl⟩
   rw [← hg]
   obtain ⟨gH, gK, gL, gC⟩ := take_put rfl hpx HH.out ht4 hhi hA2 hA3 hg
   have GH : Hid (HistF g lo g.length hb mb ob (setA A t h'.length) (C.put (t : Int) (C.get (t : Nat) ++ [⟨c, r, a, k, 0, 0⟩]))) := gH
   have GK : Hid (∀ b, (b < lo ∨ hi ≤ b) → b < h.length → g[b]? = h[b]?) := gK
   have g4 := gC B4 _ hb4 hc4
   clear hg gH gK gC hA1 hA2 hA3 hcN
   have hL := Loc.start g
   have hTk : takeH C ⟨(t : Int), true, c, r, a, x⟩ k = if pendL (C.get (t : Nat)) = none ∧ x = 0 then some (C.put (t : Int) (C.get (t : Nat) ++ [⟨c, r, a, k, 0, 0⟩])) else none := by
    unfold takeH
    rw [if_pos ⟨⟨by simp only; omega, by simp only; omega⟩, hop⟩]
    rfl
   have HT : Hid (takeH C ⟨(t : Int), true, c, r, a, x⟩ k = if pendL (C.get (t : Nat)) = none ∧ x = 0 then some (C.put (t : Int) (C.get (t : Nat) ++ [⟨c, r, a, k, 0, 0⟩])) else none) := hTk
   clear hTk
   cases q with
   | none =>
    have hpn : Hid (pendL (C.get (t : Nat)) = none) := hq2.out.1 rfl
    by_cases hx0 : x = 0
    ·(refine Wt ?_; refine Cs (Co (Wm rfl (Wc (OP.isNilT rfl rfl (Wm rfl (WO.yes rfl (Wc (OP.fieldAddr0 rfl (WO.yes rfl (Wc (OP.load rfl (by assumption) rfl ?_))))))))))); refine WO.yes rfl (Wc (OP.eqlT rfl rfl (by omega) ?_)); refine Wc (OP.pickT rfl rfl (Wm rfl (Wt ?_))); refine WC.ret ?_; dsimp only [zn, zr, zx, yn, yr])
     exact Fin.ret rfl (HQ.out _ _ ⟨gL, GK, .inr ⟨_, _, HT.out.trans (if_pos ⟨hpn, hx0⟩), rfl, GH⟩⟩)
    ·(refine Wt ?_; refine Cs (Co (Wm rfl (Wc (OP.isNilT rfl rfl (Wm rfl (WO.yes rfl (Wc (OP.fieldAddr0 rfl (WO.yes rfl (Wc (OP.load rfl (by assumption) rfl ?_))))))))))); refine WO.yes rfl (Wc (OP.eqlF rfl rfl (by omega) ?_)); refine Wc (OP.pickT rfl rfl (Wm rfl (Wt ?_))); refine WC.ret ?_; dsimp only [zn, zr, zx, yn, yr])
     exact Fin.ret rfl (HQ.out _ _ ⟨gL, GK, .inl ⟨HT.out.trans (if_neg (fun z => hx0 z.2)), rfl⟩⟩)
   | some q =>
    have hpn : Hid (pendL (C.get (t : Nat)) ≠ none) := fun z => by have := hq2.out.2 z; cases this
    (refine Wt ?_; refine Cs (Co (Wm rfl (Wc (OP.isNilF rfl rfl (Wm rfl (WO.no rfl (WO.no rfl (WO.no rfl (Wc (OP.pickF rfl rfl (Wm rfl (Wt ?_)))))))))))); refine WC.ret ?_; dsimp only [zn, zr, zx, yn, yr])
    exact Fin.ret rfl (HQ.out _ _ ⟨gL, GK, .inl ⟨HT.out.trans (if_neg (fun z => hpn z.1)), rfl⟩⟩)
  | false =>
   have hT0 : takeH C ⟨(t : Int), false, c, r, a, x⟩ k = (match pendL (C.get (t : Nat)) with | none => none | some p => if p.c = c ∧ p.r = r ∧ p.a = a then some (C.put (t : Int) (ansL k x (C.get (t : Nat)))) else none) := by
    unfold takeH
    rw [if_pos ⟨⟨by simp only; omega, by simp only; omega⟩, hop⟩]
    rfl
   cases hpd : pendL (C.get (t : Nat)) with
   | none =>
    have hno : Hid (takeH C ⟨(t : Int), false, c, r, a, x⟩ k = none) := by rw [hpd] at hT0; exact hT0
    have eP : ∀ lim h', Pfx h h' → Ret X F lim g1 [.pointer (some ⟨hb, 0, none⟩), .int .i64 (t : Int)] h' fun v h'' => Pfx h' h'' ∧ v = .pointer none := fun lim h' hp => (ePd lim h' (HH.out.r.pfx hp) ht4 hln).mono fun v h'' ⟨p, q⟩ => ⟨p, q.trans (by unfold pdV; rw [hpd]; rfl)⟩
    clear hpd ePd hT0
    (refine Wm rfl (Wn (Cs (Cs (Co (Wc (OP.fieldAddr0 rfl (Wc (OL.load1 (k := 0) hL rfl rfl rfl (Wc (OP.lssF rfl rfl (by omega) ?_)))))))))); refine Wm rfl (WO.yes rfl (Wc (OP.fieldAddr0 rfl (WO.yes rfl (Wc (OL.load1 (k := 0) hL rfl rfl rfl (WO.yes rfl (Wc (OP.geqF rfl rfl (by omega) ?_))))))))); refine Wc (OP.pickF rfl rfl (Wm rfl (WO.yes rfl (Wc (OP.fieldAddr0 rfl (WO.yes rfl (Wc (OL.load (k := 0) hL rfl rfl rfl (WO.yes rfl (Wc ?_)))))))))); refine OL.callV hL rfl rfl (c0 _ _) (fun h' hp hL => (WO.yes rfl (Wc (OP.not rfl (Wc (OP.pickF rfl rfl (Wt ?_))))))); refine WC.condF rfl (Ks ?_); refine Cs (Co (Wm rfl (Wc (OP.fieldAddr0 rfl (Wc (OL.load1 (k := 0) hL rfl rfl rfl ?_)))))))
    (refine Wc ?_)
    refine OL.callV hL rfl rfl (eP _ _ hL.pfx) (fun h' hp hL => ?_)
    (refine Wm rfl (Wt ?_); refine Cs (Cs (Co (Wc (OP.fieldAddr0 rfl (Wc (OL.load1 (k := 0) hL rfl rfl rfl (Wt ?_))))))); refine WC.condF rfl (Ks ?_); refine Cs (Cs (Co (Wm rfl (Wc (OP.isNilT rfl rfl (Wm rfl (WO.no rfl (WO.no rfl (WO.no rfl (WO.no rfl (WO.no rfl (WO.no rfl (WO.no rfl (Wc (OP.pickT rfl rfl (Wt ?_)))))))))))))))); refine WC.condT rfl (Cs (Co (Wm rfl (Wt ?_)))); refine WC.ret ?_; dsimp only [zn, zr, zx, yn, yr])
    exact Fin.ret rfl (FF hno _ hL)
   | some pc =>
    obtain ⟨hj, hpc⟩ : ∃ hj : (C.get (t : Nat)).length - 1 < (C.get (t : Nat)).length, pc = (C.get (t : Nat))[(C.get (t : Nat)).length - 1] := by
     unfold pendL at hpd
     cases hg : (C.get (t : Nat))[(C.get (t : Nat)).length - 1]? with
     | none => rw [hg] at hpd; cases hpd
     | some p' =>
      rw [hg] at hpd
      simp only at hpd
      obtain ⟨h1, h2⟩ := List.getElem?_eq_some_iff.1 hg
      split at hpd
      ·injection hpd with hpd; exact ⟨h1, by rw [← hpd, h2]⟩
      ·cases hpd
    obtain ⟨B, hA, hne, hBc', hB1, hB2, hB3⟩ : ∃ B, A t = some ⟨B, 0, some 6⟩ ∧ (C.get (t : Nat)) ≠ [] ∧ h[B]? = some (.cells (recs caC (C.get (t : Nat)))) ∧ lo ≤ B ∧ B < hi ∧ B ≠ hb := by
     rcases hrow.out with ⟨q, _⟩ | ⟨b, q⟩
     ·rw [q] at hj; simp at hj
     ·exact ⟨b, q⟩
    have hBc : Hid (h[B]? = some (.cells (recs caC (C.get (t : Nat))))) := hBc'
    have eP : ∀ lim h', Pfx h h' → Ret X F lim g1 [.pointer (some ⟨hb, 0, none⟩), .int .i64 (t : Int)] h' fun v h'' => Pfx h' h'' ∧ v = .pointer (some ⟨B, 0 + ((C.get (t : Nat)).length - 1) * 6, none⟩) := fun lim h' hp => (ePd lim h' (HH.out.r.pfx hp) ht4 hln).mono fun v h'' ⟨p, q⟩ => ⟨p, q.trans (by unfold pdV; rw [hpd, aG_eq A ht4, hA]; rfl)⟩
    have hlf : Hid (Lf (recs caC (C.get (t : Nat))) (0 + ((C.get (t : Nat)).length - 1) * 6) pc) := by rw [hpc]; exact Lf_recs hj
    have HT : Hid (takeH C ⟨(t : Int), false, c, r, a, x⟩ k = if pc.c = c ∧ pc.r = r ∧ pc.a = a then some (C.put (t : Int) (ansL k x (C.get (t : Nat)))) else none) := by rw [hpd] at hT0; exact hT0
    have hrl := recs_len caC_len (C.get (t : Nat))
    clear hpd ePd hT0 hBc'
    (refine Wm rfl (Wn (Cs (Cs (Co (Wc (OP.fieldAddr0 rfl (Wc (OL.load1 (k := 0) hL rfl rfl rfl (Wc (OP.lssF rfl rfl (by omega) ?_)))))))))); refine Wm rfl (WO.yes rfl (Wc (OP.fieldAddr0 rfl (WO.yes rfl (Wc (OL.load1 (k := 0) hL rfl rfl rfl (WO.yes rfl (Wc (OP.geqF rfl rfl (by omega) ?_))))))))); refine Wc (OP.pickF rfl rfl (Wm rfl (WO.yes rfl (Wc (OP.fieldAddr0 rfl (WO.yes rfl (Wc (OL.load (k := 0) hL rfl rfl rfl (WO.yes rfl (Wc ?_)))))))))); refine OL.callV hL rfl rfl (c0 _ _) (fun h' hp hL => (WO.yes rfl (Wc (OP.not rfl (Wc (OP.pickF rfl rfl (Wt ?_))))))); refine WC.condF rfl (Ks ?_); refine Cs (Co (Wm rfl (Wc (OP.fieldAddr0 rfl (Wc (OL.load1 (k := 0) hL rfl rfl rfl ?_)))))))
    (refine Wc ?_)
    refine OL.callV hL rfl rfl (eP _ _ hL.pfx) (fun h' hp hL => ?_)
    clear eP
    (refine Wm rfl (Wt ?_); refine Cs (Cs (Co (Wc (OP.fieldAddr0 rfl (Wc (OL.load1 (k := 0) hL rfl rfl rfl (Wt ?_))))))); refine WC.condF rfl (Ks ?_); refine Cs (Cs (Co (Wm rfl (Wc (OP.isNilF rfl rfl (Wm rfl (WO.yes rfl (WO.consQ (OP.mv rfl (WO.yes rfl (WO.consQ (OP.nilP rfl (WO.yes rfl (WO.consQ (OP.fieldAddr rfl (WO.yes rfl ?_)))))))))))))))))
    (refine WO.consQ ?_)
    refine OP.load rfl ((hL.pfx.2 _ (List.getElem?_eq_some_iff.1 hBc.out).1).trans hBc.out) hlf.out.op ?_
    (refine WO.yes rfl (WO.consQ (OP.fieldAddr0 rfl (WO.yes rfl (WO.consQ (OL.load (k := 0) hL rfl rfl rfl (WO.yes rfl ?_)))))))
    (refine Wc ?_)
    subst hb63
    refine OP.eqOp (s := ⟨pc.c, pc.r, pc.a⟩) (t := ⟨c, r, a⟩) rfl rfl (fun he => ?_) (fun he => ?_)
    ·injection he with he1 he2 he3
     have HY : Hid (takeH C ⟨(t : Int), false, c, r, a, x⟩ k = some (C.put (t : Int) (ansL k x (C.get (t : Nat))))) := HT.out.trans (if_pos ⟨he1, he2, he3⟩)
     (refine Wc (OP.pickF rfl rfl (Wt ?_)); refine WC.condF rfl (Ks ?_); refine Cs (Co (Wm rfl (WO.consQ (OP.mv rfl (Wm rfl (WO.consQ (OP.fieldAddr0 rfl (WO.consQ (OL.load1 (k := 0) hL rfl rfl rfl (Wc (OP.nilP rfl (Wc (OP.fieldAddr rfl ?_))))))))))))))
     have hpx := hL.pfx
     have hb4 : h.length ≤ B4 := hL.lo (k := 0) rfl
     have hB4' := ((hL.pfx.2 _ (List.getElem?_eq_some_iff.1 hBc.out).1).trans hBc.out)
     refine WO.cons0A rfl (fun y hy => by rw [List.mem_singleton.1 hy]; exact ⟨B4, 5, none, rfl, by omega⟩) ?_
     refine OP.store (vs := [.int .i64 k]) rfl rfl rfl rfl hB4' (Nat.le_trans hlo hB1) rfl (by omega) (by decide) ?_
     clear hL
     (refine Wc (OP.nilP rfl (Wc (OP.fieldAddr rfl ?_))))
     (refine WO.cons0 ?_)
     refine OP.store (vs := [.int .i64 x]) rfl rfl rfl rfl (List.getElem?_set_self (List.getElem?_eq_some_iff.1 hB4').1) (Nat.le_trans hlo hB1) rfl (by rw [over_length _ _ _ (by simp; omega)]; omega) (by decide) ?_
     have hans : ansL k x (C.get (t : Nat)) = (C.get (t : Nat)).set ((C.get (t : Nat)).length - 1) { (C.get (t : Nat))[(C.get (t : Nat)).length - 1] with t := k, x := x } := by unfold ansL; rw [List.getElem?_eq_getElem hj]
     have hov := over_call hj k x
     rw [← hans] at hov
     obtain ⟨g, hg⟩ : ∃ g, g = (h'.set B (.cells (over (recs caC (C.get (t : Nat))) (0 + ((C.get (t : Nat)).length - 1) * 6 + 4) [.int .i64 k]))).set B (.cells (over (over (recs caC (C.get (t : Nat))) (0 + ((C.get (t : Nat)).length - 1) * 6 + 4) [.int .i64 k]) (0 + ((C.get (t : Nat)).length - 1) * 6 + 5) [.int .i64 x])) := ⟨_, rfl⟩
     rw [← hg]
     have hg' := hg
     rw [Nat.zero_add, hov] at hg'
     obtain ⟨gH, gK, gL⟩ := take_ans rfl hpx HH.out ht4 hhi hA hB1 hB2 hB3 (by rw [hans, List.length_set]) (by rw [hans]; intro e; have := congrArg List.length e; rw [List.length_set] at this; exact hne (List.eq_nil_of_length_eq_zero this)) hg'
     have GH : Hid (HistF g lo g.length hb mb ob (setA A t B) (C.put (t : Int) (ansL k x (C.get (t : Nat))))) := gH
     have GK : Hid (∀ b, (b < lo ∨ hi ≤ b) → b < h.length → g[b]? = h[b]?) := gK
     clear hg hg' gH gK hov hans hB4'
     have hL := Loc.start g
     (refine Wt ?_; refine Cs (Co (Wm rfl (Wt ?_))); refine WC.ret ?_)
     exact Fin.ret rfl (HQ.out _ _ ⟨gL, GK, .inr ⟨_, _, HY, rfl, GH⟩⟩)
    ·have hno : Hid (takeH C ⟨(t : Int), false, c, r, a, x⟩ k = none) := HT.out.trans (if_neg fun q => he (by rw [q.1, q.2.1, q.2.2]))
     (refine Wc (OP.pickF rfl rfl (Wt ?_)); refine WC.condT rfl (Cs (Co (Wm rfl (Wt ?_)))); refine WC.ret ?_; dsimp only [zn, zr, zx, yn, yr])
     exact Fin.ret rfl (FF hno _ hL)
 ·have hno : Hid (takeH C ⟨et, call, c, r, a, x⟩ k = none) := if_neg (fun q => hop q.2)
  have c0 : ∀ lim h', Ret X F lim g0 [.agg #[.int .i64 c, .int .i64 r, .int .i64 a]] h' fun v h'' => Pfx h' h'' ∧ v = .bool false := fun lim h' => by
   have := c0 lim h' (c := c) (r := r) (a := a)
   rw [decide_eq_false hop] at this
   exact this
  (refine Wm rfl (Wn (Cs (Cs (Co (Wc (OP.fieldAddr0 rfl (Wc (OL.load1 (k := 0) hL rfl rfl rfl (Wc (OP.lssF rfl rfl (by omega) ?_)))))))))); refine Wm rfl (WO.yes rfl (Wc (OP.fieldAddr0 rfl (WO.yes rfl (Wc (OL.load1 (k := 0) hL rfl rfl rfl (WO.yes rfl (Wc (OP.geqF rfl rfl (by omega) ?_))))))))); refine Wc (OP.pickF rfl rfl (Wm rfl (WO.yes rfl (Wc (OP.fieldAddr0 rfl (WO.yes rfl (Wc (OL.load (k := 0) hL rfl rfl rfl (WO.yes rfl (Wc ?_)))))))))); refine OL.callV hL rfl rfl (c0 _ _) (fun h' hp hL => (WO.yes rfl (Wc (OP.not rfl (Wc (OP.pickF rfl rfl (Wt ?_))))))); refine WC.condT rfl (Cs (Co (Wm rfl (Wt ?_)))); refine WC.ret ?_; dsimp only [zn, zr, zx, yn, yr])
  exact Fin.ret rfl (FF hno _ hL)
end
end
end Go.Proofs.YtalknjppnkpmmaaDoorW.Ai
