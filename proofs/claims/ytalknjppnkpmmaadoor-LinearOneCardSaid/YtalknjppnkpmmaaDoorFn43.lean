/-
 Tables (chapter 4), as the small machine runs them: what an operation does.
-/
import Derived.Test.YtalknjppnkpmmaaDoorFn42
set_option linter.unusedVariables false
set_option linter.unusedSimpArgs false
set_option maxHeartbeats 4000000
set_option maxRecDepth 100000
namespace Go.Proofs.YtalknjppnkpmmaaDoorW.Ai
section
def rf_fdsApply (g0 g1 g2 g3 g4 g5 : Nat) : RFunc :=
 ⟨60, [(.cell 4 (.some 4)), (.tmp 5), (.tmp 6)], (.seq (.ops [rO 2 (.box (.tmp 0)), rO 3 (.box (.tmp 1)), rO 4 (.new [(.slice .none 0 0), (.slice .none 0 0), (.slice .none 0 0), (.slice .none 0 0)]), rO 5 (.mv (.const (.int .i64 0))), rO 6 (.mv (.const (.int .i64 0)))]) (.seq (.seq (.ops [rO 10 (.load (.some 4) (.tmp 2)), rO 11 (.call (.func g0) [(.tmp 10)]), rO 12 (.un .not (.tmp 11)), rO 13 (.mv (.tmp 12)), ⟨(.some 14), (.load (.some 3) (.tmp 3)), (.some (13, false)), false, []⟩, ⟨(.some 15), (.call (.func g1) [(.tmp 14)]), (.some (13, false)), false, []⟩, ⟨(.some 16), (.un .not (.tmp 15)), (.some (13, false)), false, []⟩, rO 17 (.pick (.tmp 13) (.const (.bool true)) (.tmp 16))]) (.cond (.tmp 17) (.seq (.ops [rO 18 (.build [(.slice .none 0 0), (.slice .none 0 0), (.slice .none 0 0), (.slice .none 0 0)] []), ⟨.none, (.store 4 (.tmp 4) (.tmp 18)), .none, false, []⟩, rO 5 (.mv (.const (.int .i64 0))), rO 6 (.mv (.const (.int .i64 400)))]) .ret) .skip)) (.seq (.ops [rO 19 (.load (.some 4) (.tmp 2)), rO 20 (.call (.func g2) [(.tmp 19)]), rO 7 (.new [(.slice .none 0 0), (.slice .none 0 0), (.slice .none 0 0), (.slice .none 0 0)]), ⟨.none, (.store 4 (.tmp 7) (.tmp 20)), .none, false, []⟩, rO 8 (.mv (.const (.int .i64 0)))]) (.seq (.ops [rO 21 (.fieldAddr 1 (.tmp 3)), rO 22 (.load .none (.tmp 21)), rO 23 (.fieldAddr 0 (.tmp 7)), rO 24 (.idxAddrArr 4 1 (.tmp 23) (.tmp 22)), rO 9 (.mv (.tmp 24))]) (.seq (.seq (.ops [rO 25 (.fieldAddr 0 (.tmp 3)), rO 26 (.load .none (.tmp 25))]) (.block 0 (.seq (.ops [rO 29 (.bin .eql (.tmp 26) (.const (.int .i64 0))), rO 28 (.mv (.tmp 29))]) (.cond (.tmp 28) (.ops [rO 31 (.mv (.tmp 9)), rO 32 (.mv (.tmp 9)), rO 33 (.nilCheck (.tmp 32)), rO 34 (.load .none (.tmp 33)), rO 35 (.call (.func g3) [(.tmp 34)]), rO 30 (.mv (.tmp 35)), rO 36 (.extract (.tmp 30) 0), rO 37 (.extract (.tmp 30) 1), rO 38 (.nilCheck (.tmp 31)), ⟨.none, (.store 1 (.tmp 38) (.tmp 36)), .none, false, []⟩, rO 8 (.mv (.tmp 37))]) (.seq (.ops [rO 40 (.bin .eql (.tmp 26) (.const (.int .i64 1))), rO 39 (.mv (.tmp 40))]) (.cond (.tmp 39) (.ops [⟨(.some 42), (.mv (.tmp 9)), .none, true, []⟩, ⟨(.some 43), (.mv (.tmp 9)), .none, true, []⟩, ⟨(.some 44), (.nilCheck (.tmp 43)), .none, true, []⟩, ⟨(.some 45), (.load .none (.tmp 44)), .none, true, []⟩, ⟨(.some 46), (.fieldAddr 2 (.tmp 3)), .none, true, []⟩, ⟨(.some 47), (.load .none (.tmp 46)), .none, true, []⟩, rO 48 (.call (.func g4) [(.tmp 45), (.tmp 47)]), rO 41 (.mv (.tmp 48)), rO 49 (.extract (.tmp 41) 0), ⟨(.some 50), (.extract (.tmp 41) 1), .none, true, []⟩, rO 51 (.nilCheck (.tmp 42)), ⟨.none, (.store 1 (.tmp 51) (.tmp 49)), .none, false, []⟩, rO 8 (.mv (.tmp 50))]) (.seq (.ops [rO 53 (.bin .eql (.tmp 26) (.const (.int .i64 2))), rO 52 (.mv (.tmp 53))]) (.cond (.tmp 52) (.ops [rO 54 (.mv (.tmp 9)), rO 55 (.nilCheck (.tmp 54)), rO 56 (.load .none (.tmp 55)), rO 57 (.len 1 (.tmp 56)), rO 8 (.mv (.tmp 57))]) (.ops [rO 27 (.call (.func g5) [(.tmp 7)]), rO 8 (.mv (.tmp 27))]))))))))) (.seq (.ops [rO 58 (.load (.some 4) (.tmp 7)), rO 59 (.mv (.tmp 8)), ⟨.none, (.store 4 (.tmp 4) (.tmp 58)), .none, false, []⟩, rO 5 (.mv (.tmp 59)), rO 6 (.mv (.const (.int .i64 0)))]) .ret))))))⟩
def subs : List (List Int) := [[], [0], [1], [2], [3], [0, 1], [0, 2], [0, 3], [1, 2], [1, 3], [2, 3], [0, 1, 2], [0, 1, 3], [0, 2, 3], [1, 2, 3], [0, 1, 2, 3]]
theorem TabRow.mem {xs : List Int} (h : TabRow xs) : xs ∈ subs := by
 match xs, h with
 | [], _ => decide
 | [a], h =>
  have h0 := h 0 (by simp)
  simp at h0
  have : a = 0 ∨ a = 1 ∨ a = 2 ∨ a = 3 := by omega
  rcases this with rfl | rfl | rfl | rfl <;> decide
 | [a, b], h =>
  have h0 := h 0 (by simp)
  have h1 := h 1 (by simp)
  simp at h0 h1
  have : (a = 0 ∧ b = 1) ∨ (a = 0 ∧ b = 2) ∨ (a = 0 ∧ b = 3) ∨ (a = 1 ∧ b = 2) ∨ (a = 1 ∧ b = 3) ∨ (a = 2 ∧ b = 3) := by omega
  rcases this with ⟨rfl, rfl⟩ | ⟨rfl, rfl⟩ | ⟨rfl, rfl⟩ | ⟨rfl, rfl⟩ | ⟨rfl, rfl⟩ | ⟨rfl, rfl⟩ <;> decide
 | [a, b, c], h =>
  have h0 := h 0 (by simp)
  have h1 := h 1 (by simp)
  have h2 := h 2 (by simp)
  simp at h0 h1 h2
  have : (a = 0 ∧ b = 1 ∧ c = 2) ∨ (a = 0 ∧ b = 1 ∧ c = 3) ∨ (a = 0 ∧ b = 2 ∧ c = 3) ∨ (a = 1 ∧ b = 2 ∧ c = 3) := by omega
  rcases this with ⟨rfl, rfl, rfl⟩ | ⟨rfl, rfl, rfl⟩ | ⟨rfl, rfl, rfl⟩ | ⟨rfl, rfl, rfl⟩ <;> decide
 | [a, b, c, d], h =>
  have h0 := h 0 (by simp)
  have h1 := h 1 (by simp)
  have h2 := h 2 (by simp)
  have h3 := h 3 (by simp)
  simp at h0 h1 h2 h3
  have : a = 0 ∧ b = 1 ∧ c = 2 ∧ d = 3 := by omega
  obtain ⟨rfl, rfl, rfl, rfl⟩ := this
  decide
 | a :: b :: c :: d :: e :: t, h =>
  exfalso
  have h0 := h 0 (by simp)
  have h1 := h 1 (by simp)
  have h2 := h 2 (by simp)
  have h3 := h 3 (by simp)
  have h4 := h 4 (by simp)
  simp at h0 h1 h2 h3 h4
  omega
theorem TabRow.len {xs : List Int} (h : TabRow xs) : xs.length ≤ 4 := by
 have : ∀ ys ∈ subs, ys.length ≤ 4 := by decide
 exact this xs h.mem
theorem takeL_full {xs : List Int} (h : (takeL xs).2 = -1) : takeL xs = (xs, -1) := by
 unfold takeL at h ⊢
 split at h
 ·exact absurd (show (0 : Int) = -1 from h) (by decide)
 split at h
 ·exact absurd (show (1 : Int) = -1 from h) (by decide)
 split at h
 ·exact absurd (show (2 : Int) = -1 from h) (by decide)
 split at h
 ·exact absurd (show (3 : Int) = -1 from h) (by decide)
 simp_all
def FdsM (e : Int) (s : S4) (c r a : Int) : S4 × Int × Int :=
 if TabOk s ∧ OpOk c r a then
  if c = 0 then (s.put r (takeL (s.get r)).1, (takeL (s.get r)).2, 0)
  else if c = 1 then (s.put r (freeL (s.get r) a).1, (freeL (s.get r) a).2, 0)
  else if c = 2 then (s, ((s.get r).length : Int), 0) else (s, ((allL s).length : Int), 0)
 else (S4.none, 0, e)
section
variable (X : Ext) (F : FuncId → Option RFunc) (g : FuncId)
abbrev S_fdsApply : Prop := S_ApplyOf X F g (FdsM 400)
end
section
variable {X : Ext} {F : FuncId → Option RFunc} {f : FuncId}
theorem s_fdsApply {g0 g1 g2 g3 g4 g5 k0 : Nat} (hX : X f = none) (hF : F f = some (rf_fdsApply g0 g1 g2 g3 g4 g5)) (c0 : S_fMay X F g0) (c1 : S_oMay X F g1) (hX2 : X g2 = none) (hF2 : F g2 = some (rf_sCopy k0)) (hX3 : X k0 = none) (hF3 : F k0 = some rf_Clone) (c3' : S_fTaken2 X F g3) (c4' : S_fFreed2 X F g4) (c5 : S_fMany X F g5) : S_fdsApply X F f := by
 intro lim h r0 r1 r2 r3 c r a hlim hst
 have hL := Loc.start h
 have c2 : S_CopyP X F g2 := copyP hX2 hF2 hX3 hF3
 have z1 : ¬ (TabOk ⟨r0.xs, r1.xs, r2.xs, r3.xs⟩ ∧ OpOk c r a) → FdsM 400 ⟨r0.xs, r1.xs, r2.xs, r3.xs⟩ c r a = (S4.none, 0, 400) := fun hh => if_neg hh
 refine Ret.body hX hF rfl ?_
 simp only [argL, rf_fdsApply]
 (refine Cs (Co (Wc ?_)); refine OL.boxA hL rfl rfl (fun b h' hL => (Wc ?_)); refine OL.boxA hL rfl rfl (fun b h' hL => (Wc ?_)); refine OL.new hL (fun b h' hL => (Wm rfl (Wm rfl (Wt ?_)))); refine Cs (Cs (Co (Wc (OL.loadAll (k := 2) hL rfl rfl rfl (Wc ?_))))); refine OL.callB hL rfl rfl (c0 _ _ (by first | omega | assumption | exact St.pfx (by assumption) hL.pfx | exact hL.stM (by repeat (first | exact mh | apply mt)) | exact RowOk.pfx (by assumption) hL.pfx | exact (hL.stM (by repeat (first | exact mh | apply mt))).1 | exact (hL.stM (by repeat (first | exact mh | apply mt))).2.1 | exact (hL.stM (by repeat (first | exact mh | apply mt))).2.2.1 | exact (hL.stM (by repeat (first | exact mh | apply mt))).2.2.2)) (fun h' hp hL hc => ?_) (fun h' hp hL hc => ?_); refine Wc (OP.not rfl (Wm rfl (WO.yes rfl (Wc (OL.loadAll (k := 1) hL rfl rfl rfl (WO.yes rfl (Wc ?_))))))); refine OL.callB hL rfl rfl (c1 _ _) (fun h' hp hL hc => ?_) (fun h' hp hL hc => ?_); refine WO.yes rfl (Wc (OP.not rfl (Wc (OP.pickF rfl rfl (Wt ?_))))); refine WC.condF rfl (Ks ?_); refine Cs (Co (Wc (OL.loadAll (k := 2) hL rfl rfl rfl ?_))))
 have hc1 : TabOk ⟨r0.xs, r1.xs, r2.xs, r3.xs⟩ := by assumption
 have hT0 : TabRow r0.xs := hc1.1
 have hT1 : TabRow r1.xs := hc1.2.1
 have hT2 : TabRow r2.xs := hc1.2.2.1
 have hT3 : TabRow r3.xs := hc1.2.2.2
 have hln : r0.xs.length ≤ 4 ∧ r1.xs.length ≤ 4 ∧ r2.xs.length ≤ 4 ∧ r3.xs.length ≤ 4 := ⟨hT0.len, hT1.len, hT2.len, hT3.len⟩
 have zc0 : c = 0 → FdsM 400 ⟨r0.xs, r1.xs, r2.xs, r3.xs⟩ c r a = (S4.put ⟨r0.xs, r1.xs, r2.xs, r3.xs⟩ r (takeL (S4.get ⟨r0.xs, r1.xs, r2.xs, r3.xs⟩ r)).1, (takeL (S4.get ⟨r0.xs, r1.xs, r2.xs, r3.xs⟩ r)).2, 0) := fun h => (if_pos ⟨hc1, by assumption⟩).trans (if_pos h)
 have zc1 : c = 1 → FdsM 400 ⟨r0.xs, r1.xs, r2.xs, r3.xs⟩ c r a = (S4.put ⟨r0.xs, r1.xs, r2.xs, r3.xs⟩ r (freeL (S4.get ⟨r0.xs, r1.xs, r2.xs, r3.xs⟩ r) a).1, (freeL (S4.get ⟨r0.xs, r1.xs, r2.xs, r3.xs⟩ r) a).2, 0) := fun h => (if_pos ⟨hc1, by assumption⟩).trans ((if_neg (by omega)).trans (if_pos h))
 have zc2 : c = 2 → FdsM 400 ⟨r0.xs, r1.xs, r2.xs, r3.xs⟩ c r a = (⟨r0.xs, r1.xs, r2.xs, r3.xs⟩, ((S4.get ⟨r0.xs, r1.xs, r2.xs, r3.xs⟩ r).length : Int), 0) := fun h => (if_pos ⟨hc1, by assumption⟩).trans ((if_neg (by omega)).trans ((if_neg (by omega)).trans (if_pos h)))
 have zc3 : c = 3 → FdsM 400 ⟨r0.xs, r1.xs, r2.xs, r3.xs⟩ c r a = (⟨r0.xs, r1.xs, r2.xs, r3.xs⟩, ((allL ⟨r0.xs, r1.xs, r2.xs, r3.xs⟩).length : Int), 0) := fun h => (if_pos ⟨hc1, by assumption⟩).trans ((if_neg (by omega)).trans ((if_neg (by omega)).trans (if_neg (by omega))))
 clear z1
 (refine Wc ?_)
 refine OL.callS4 hL rfl rfl (c2 _ _ (hL.lm hlim) (hst.pfx hL.pfx)) (fun a0 n0 a1 n1 a2 n2 a3 n3 l1 l2 l3 h' hy hp hL => ?_)
 dsimp only at hL hy ⊢
 (refine Wc ?_; refine OL.new hL (fun b h' hL => (WO.cons0 ?_)); refine OL.storeAll (k := 0) hL hlim rfl rfl rfl rfl rfl rfl (by decide) rfl (fun h' hL => ?_); dsimp only [List.set, Nat.zero_add, Nat.reduceAdd, Nat.reduceMul] at hL; refine Wm rfl (Wt ?_); refine Cs (Co (Wc (OP.fieldAddr0 rfl (Wc (OL.load1 (k := 6) hL rfl rfl rfl (Wc (OP.fieldAddr0 rfl ?_))))))))
 dsimp only [Row.v] at hL ⊢
 have hr : r = 0 ∨ r = 1 ∨ r = 2 ∨ r = 3 := by omega
 have hcc : c = 0 ∨ c = 1 ∨ c = 2 ∨ c = 3 := by omega
 rcases hr with rfl | rfl | rfl | rfl
 ·rcases hcc with rfl | rfl | rfl | rfl
  ·rw [zc0 rfl, show S4.get ⟨r0.xs, r1.xs, r2.xs, r3.xs⟩ 0 = r0.xs from rfl]
   clear zc0 zc1 zc2 zc3
   by_cases hfull : (takeL r0.xs).2 = -1
   ·(refine Wc (OP.idxArrZ rfl rfl (by decide) (by simp only [Int.reduceToNat, Nat.mul_one, Nat.zero_add, Nat.reduceMul, Nat.reduceAdd]; rfl) ?_); refine Wm rfl (Wt ?_); refine Cs (Cs (Co (Wc (OP.fieldAddr0 rfl (Wc (OL.load1 (k := 6) hL rfl rfl rfl (Wt ?_))))))); refine WC.block (Cs (Co (Wc (OP.eqlT rfl rfl (by omega) ?_)))); refine Wm rfl (Wt ?_); refine WC.condT rfl (Co (Wm rfl (Wm rfl (Wc (OP.nilP rfl (Wc (OL.load1 (k := 0) hL rfl rfl rfl ?_))))))))
    (refine Wc ?_)
    refine OL.callV hL rfl rfl (c3'.2 _ _ (hL.apAt (k := 4) rfl) (by omega) hT0 hfull) (fun h' hp hL => ?_)
    (refine Wm rfl (Wc (OP.extract rfl rfl (Wc (OP.extract rfl rfl (Wc (OP.nilP rfl (WO.cons0 ?_))))))); refine OL.store1 (k := 0) hL hlim rfl rfl rfl rfl rfl rfl rfl (fun h' hL => ?_); dsimp only [List.set, Nat.zero_add, Nat.reduceAdd, Nat.reduceMul] at hL; refine Wm rfl (Wt ?_); refine Cs (Co (Wc (OL.loadAll (k := 0) hL rfl rfl rfl (Wm rfl (WO.cons0 ?_))))); refine OL.storeAll (k := 5) hL hlim rfl rfl rfl rfl rfl rfl (by decide) rfl (fun h' hL => ?_); dsimp only [List.set, Nat.zero_add, Nat.reduceAdd, Nat.reduceMul] at hL; refine Wm rfl (Wm rfl (Wt ?_)); refine WC.ret ?_)
    rw [takeL_full hfull]
    have A0 := hL.rA (n := n0) (xs := r0.xs)
    have A1 := hL.rA (n := n1) (xs := r1.xs)
    have A2 := hL.rA (n := n2) (xs := r2.xs)
    have A3 := hL.rA (n := n3) (xs := r3.xs)
    exact Fin.ret (resL_cell rfl (hL.cell (k := 5) rfl) rfl rfl) ⟨hL.pfx, ⟨a0, n0, r0.xs⟩, ⟨a1, n1, r1.xs⟩, ⟨a2, n2, r2.xs⟩, ⟨a3, n3, r3.xs⟩, rfl, ⟨rfl, rfl, rfl, rfl⟩, ⟨A0.1, A1.1, A2.1, A3.1⟩, A0.2, A1.2, A2.2, A3.2⟩
   ·(refine Wc (OP.idxArrZ rfl rfl (by decide) (by simp only [Int.reduceToNat, Nat.mul_one, Nat.zero_add, Nat.reduceMul, Nat.reduceAdd]; rfl) ?_); refine Wm rfl (Wt ?_); refine Cs (Cs (Co (Wc (OP.fieldAddr0 rfl (Wc (OL.load1 (k := 6) hL rfl rfl rfl (Wt ?_))))))); refine WC.block (Cs (Co (Wc (OP.eqlT rfl rfl (by omega) ?_)))); refine Wm rfl (Wt ?_); refine WC.condT rfl (Co (Wm rfl (Wm rfl (Wc (OP.nilP rfl (Wc (OL.load1 (k := 0) hL rfl rfl rfl ?_))))))))
    (refine Wc ?_)
    refine OL.callGrow (k := 4) hL rfl rfl rfl (c3'.1 _ _ (Nat.le_trans hlim (hL.lo (k := 4) rfl)) (hL.toEnd (k := 4) rfl) (hL.mid (i := 4) rfl) (by omega) hT0 hfull (hL.get (k := 4) rfl)) (fun a' h' hL => ?_)
    dsimp only [List.set] at hL
    (refine Wm rfl (Wc (OP.extract rfl rfl (Wc (OP.extract rfl rfl (Wc (OP.nilP rfl (WO.cons0 ?_))))))); refine OL.store1 (k := 1) hL hlim rfl rfl rfl rfl rfl rfl rfl (fun h' hL => ?_); dsimp only [List.set, Nat.zero_add, Nat.reduceAdd, Nat.reduceMul] at hL; refine Wm rfl (Wt ?_); refine Cs (Co (Wc (OL.loadAll (k := 1) hL rfl rfl rfl (Wm rfl (WO.cons0 ?_))))); refine OL.storeAll (k := 6) hL hlim rfl rfl rfl rfl rfl rfl (by decide) rfl (fun h' hL => ?_); dsimp only [List.set, Nat.zero_add, Nat.reduceAdd, Nat.reduceMul] at hL; refine Wm rfl (Wm rfl (Wt ?_)); refine WC.ret ?_)
    have hw := hL.rA (n := n0 + 1) (xs := (takeL r0.xs).1)
    have A1 := hL.rA (n := n1) (xs := r1.xs)
    have A2 := hL.rA (n := n2) (xs := r2.xs)
    have A3 := hL.rA (n := n3) (xs := r3.xs)
    exact Fin.ret (resL_cell rfl (hL.cell (k := 6) rfl) rfl rfl) ⟨hL.pfx, ⟨a', n0 + 1, (takeL r0.xs).1⟩, ⟨a1, n1, r1.xs⟩, ⟨a2, n2, r2.xs⟩, ⟨a3, n3, r3.xs⟩, rfl, ⟨rfl, rfl, rfl, rfl⟩, ⟨hw.1, A1.1, A2.1, A3.1⟩, hw.2, A1.2, A2.2, A3.2⟩
  ·rw [zc1 rfl, show S4.get ⟨r0.xs, r1.xs, r2.xs, r3.xs⟩ 0 = r0.xs from rfl]
   clear zc0 zc1 zc2 zc3
   by_cases hin : a ∈ r0.xs
   ·rw [show freeL r0.xs a = (outL r0.xs a, 1) from if_pos hin]
    (refine Wc (OP.idxArrZ rfl rfl (by decide) (by simp only [Int.reduceToNat, Nat.mul_one, Nat.zero_add, Nat.reduceMul, Nat.reduceAdd]; rfl) ?_); refine Wm rfl (Wt ?_); refine Cs (Cs (Co (Wc (OP.fieldAddr0 rfl (Wc (OL.load1 (k := 6) hL rfl rfl rfl (Wt ?_))))))); refine WC.block (Cs (Co (Wc (OP.eqlF rfl rfl (by omega) ?_)))); refine Wm rfl (Wt ?_); refine WC.condF rfl (Cs (Co (Wc (OP.eqlT rfl rfl (by omega) ?_)))); refine Wm rfl (Wt ?_); refine WC.condT rfl (Co (WO.consQ (OP.mv rfl (WO.consQ (OP.mv rfl (WO.consQ (OP.nilP rfl (WO.consQ (OL.load1 (k := 0) hL rfl rfl rfl (WO.consQ (OP.fieldAddr0 rfl (WO.consQ (OL.load1 (k := 6) hL rfl rfl rfl ?_))))))))))))))
    (refine Wc ?_)
    refine OL.callPut (k := 4) hL rfl rfl rfl (c4'.1 _ _ (Nat.le_trans hlim (hL.lo (k := 4) rfl)) (hL.toEnd (k := 4) rfl) (hL.mid (i := 4) rfl) (by omega) hT0 hin (hL.get (k := 4) rfl)) (fun a' h' hL => ?_)
    dsimp only [List.set] at hL
    (refine Wm rfl (Wc (OP.extract rfl rfl (WO.consQ (OP.extract rfl rfl (Wc (OP.nilP rfl (WO.cons0 ?_))))))); refine OL.store1 (k := 0) hL hlim rfl rfl rfl rfl rfl rfl rfl (fun h' hL => ?_); dsimp only [List.set, Nat.zero_add, Nat.reduceAdd, Nat.reduceMul] at hL; refine Wm rfl (Wt ?_); refine Cs (Co (Wc (OL.loadAll (k := 0) hL rfl rfl rfl (Wm rfl (WO.cons0 ?_))))); refine OL.storeAll (k := 5) hL hlim rfl rfl rfl rfl rfl rfl (by decide) rfl (fun h' hL => ?_); dsimp only [List.set, Nat.zero_add, Nat.reduceAdd, Nat.reduceMul] at hL; refine Wm rfl (Wm rfl (Wt ?_)); refine WC.ret ?_)
    have hw := hL.rowSl (xs := outL r0.xs a) (by repeat (first | exact mh | apply mt)) (Nat.le_trans (List.length_filter_le _ _) (by omega))
    have A1 := hL.rA (n := n1) (xs := r1.xs)
    have A2 := hL.rA (n := n2) (xs := r2.xs)
    have A3 := hL.rA (n := n3) (xs := r3.xs)
    exact Fin.ret (resL_cell rfl (hL.cell (k := 5) rfl) rfl rfl) ⟨hL.pfx, ⟨a', n0 - 1, outL r0.xs a⟩, ⟨a1, n1, r1.xs⟩, ⟨a2, n2, r2.xs⟩, ⟨a3, n3, r3.xs⟩, rfl, ⟨rfl, rfl, rfl, rfl⟩, ⟨hw.1, A1.1, A2.1, A3.1⟩, hw.2, A1.2, A2.2, A3.2⟩
   ·rw [show freeL r0.xs a = (r0.xs, 0) from if_neg hin]
    (refine Wc (OP.idxArrZ rfl rfl (by decide) (by simp only [Int.reduceToNat, Nat.mul_one, Nat.zero_add, Nat.reduceMul, Nat.reduceAdd]; rfl) ?_); refine Wm rfl (Wt ?_); refine Cs (Cs (Co (Wc (OP.fieldAddr0 rfl (Wc (OL.load1 (k := 6) hL rfl rfl rfl (Wt ?_))))))); refine WC.block (Cs (Co (Wc (OP.eqlF rfl rfl (by omega) ?_)))); refine Wm rfl (Wt ?_); refine WC.condF rfl (Cs (Co (Wc (OP.eqlT rfl rfl (by omega) ?_)))); refine Wm rfl (Wt ?_); refine WC.condT rfl (Co (WO.consQ (OP.mv rfl (WO.consQ (OP.mv rfl (WO.consQ (OP.nilP rfl (WO.consQ (OL.load1 (k := 0) hL rfl rfl rfl (WO.consQ (OP.fieldAddr0 rfl (WO.consQ (OL.load1 (k := 6) hL rfl rfl rfl ?_))))))))))))))
    (refine Wc ?_)
    refine OL.callV hL rfl rfl (c4'.2 _ _ (hL.apAt (k := 4) rfl) (by omega) hT0 hin) (fun h' hp hL => ?_)
    (refine Wm rfl (Wc (OP.extract rfl rfl (WO.consQ (OP.extract rfl rfl (Wc (OP.nilP rfl (WO.cons0 ?_))))))); refine OL.store1 (k := 0) hL hlim rfl rfl rfl rfl rfl rfl rfl (fun h' hL => ?_); dsimp only [List.set, Nat.zero_add, Nat.reduceAdd, Nat.reduceMul] at hL; refine Wm rfl (Wt ?_); refine Cs (Co (Wc (OL.loadAll (k := 0) hL rfl rfl rfl (Wm rfl (WO.cons0 ?_))))); refine OL.storeAll (k := 5) hL hlim rfl rfl rfl rfl rfl rfl (by decide) rfl (fun h' hL => ?_); dsimp only [List.set, Nat.zero_add, Nat.reduceAdd, Nat.reduceMul] at hL; refine Wm rfl (Wm rfl (Wt ?_)); refine WC.ret ?_)
    have A0 := hL.rA (n := n0) (xs := r0.xs)
    have A1 := hL.rA (n := n1) (xs := r1.xs)
    have A2 := hL.rA (n := n2) (xs := r2.xs)
    have A3 := hL.rA (n := n3) (xs := r3.xs)
    exact Fin.ret (resL_cell rfl (hL.cell (k := 5) rfl) rfl rfl) ⟨hL.pfx, ⟨a0, n0, r0.xs⟩, ⟨a1, n1, r1.xs⟩, ⟨a2, n2, r2.xs⟩, ⟨a3, n3, r3.xs⟩, rfl, ⟨rfl, rfl, rfl, rfl⟩, ⟨A0.1, A1.1, A2.1, A3.1⟩, A0.2, A1.2, A2.2, A3.2⟩
  ·rw [zc2 rfl, show S4.get ⟨r0.xs, r1.xs, r2.xs, r3.xs⟩ 0 = r0.xs from rfl, show r0.xs.length = n0 by omega]
   clear zc0 zc1 zc2 zc3
   (refine Wc (OP.idxArrZ rfl rfl (by decide) (by simp only [Int.reduceToNat, Nat.mul_one, Nat.zero_add, Nat.reduceMul, Nat.reduceAdd]; rfl) ?_); refine Wm rfl (Wt ?_); refine Cs (Cs (Co (Wc (OP.fieldAddr0 rfl (Wc (OL.load1 (k := 6) hL rfl rfl rfl (Wt ?_))))))); refine WC.block (Cs (Co (Wc (OP.eqlF rfl rfl (by omega) ?_)))); refine Wm rfl (Wt ?_); refine WC.condF rfl (Cs (Co (Wc (OP.eqlF rfl rfl (by omega) ?_)))); refine Wm rfl (Wt ?_); refine WC.condF rfl (Cs (Co (Wc (OP.eqlT rfl rfl (by omega) ?_)))); refine Wm rfl (Wt ?_); refine WC.condT rfl (Co (Wm rfl (Wc (OP.nilP rfl (Wc (OL.load1 (k := 0) hL rfl rfl rfl (Wc (OP.lenS rfl (Wm rfl (Wt ?_)))))))))); refine Cs (Co (Wc (OL.loadAll (k := 0) hL rfl rfl rfl (Wm rfl (WO.cons0 ?_))))); refine OL.storeAll (k := 5) hL hlim rfl rfl rfl rfl rfl rfl (by decide) rfl (fun h' hL => ?_); dsimp only [List.set, Nat.zero_add, Nat.reduceAdd, Nat.reduceMul] at hL; refine Wm rfl (Wm rfl (Wt ?_)); refine WC.ret ?_)
   have A0 := hL.rA (n := n0) (xs := r0.xs)
   have A1 := hL.rA (n := n1) (xs := r1.xs)
   have A2 := hL.rA (n := n2) (xs := r2.xs)
   have A3 := hL.rA (n := n3) (xs := r3.xs)
   exact Fin.ret (resL_cell rfl (hL.cell (k := 5) rfl) rfl rfl) ⟨hL.pfx, ⟨a0, n0, r0.xs⟩, ⟨a1, n1, r1.xs⟩, ⟨a2, n2, r2.xs⟩, ⟨a3, n3, r3.xs⟩, rfl, ⟨rfl, rfl, rfl, rfl⟩, ⟨A0.1, A1.1, A2.1, A3.1⟩, A0.2, A1.2, A2.2, A3.2⟩
  ·rw [zc3 rfl, show (allL ⟨r0.xs, r1.xs, r2.xs, r3.xs⟩).length = n0 + n1 + n2 + n3 by simp [allL]; omega]
   clear zc0 zc1 zc2 zc3
   (refine Wc (OP.idxArrZ rfl rfl (by decide) (by simp only [Int.reduceToNat, Nat.mul_one, Nat.zero_add, Nat.reduceMul, Nat.reduceAdd]; rfl) ?_); refine Wm rfl (Wt ?_); refine Cs (Cs (Co (Wc (OP.fieldAddr0 rfl (Wc (OL.load1 (k := 6) hL rfl rfl rfl (Wt ?_))))))); refine WC.block (Cs (Co (Wc (OP.eqlF rfl rfl (by omega) ?_)))); refine Wm rfl (Wt ?_); refine WC.condF rfl (Cs (Co (Wc (OP.eqlF rfl rfl (by omega) ?_)))); refine Wm rfl (Wt ?_); refine WC.condF rfl (Cs (Co (Wc (OP.eqlF rfl rfl (by omega) ?_)))); refine Wm rfl (Wt ?_); refine WC.condF rfl (Co ?_))
   (refine Wc ?_)
   have A0 := hL.rA (n := n0) (xs := r0.xs)
   have A1 := hL.rA (n := n1) (xs := r1.xs)
   have A2 := hL.rA (n := n2) (xs := r2.xs)
   have A3 := hL.rA (n := n3) (xs := r3.xs)
   refine OL.callV hL rfl rfl (c5 _ _ (hL.lm hlim) (r0 := ⟨a0, n0, r0.xs⟩) (r1 := ⟨a1, n1, r1.xs⟩) (r2 := ⟨a2, n2, r2.xs⟩) (r3 := ⟨a3, n3, r3.xs⟩) (hL.cell (k := 0) rfl) ⟨A0.1, A1.1, A2.1, A3.1⟩ ⟨by show n0 ≤ 2 ^ 40; omega, by show n1 ≤ 2 ^ 40; omega, by show n2 ≤ 2 ^ 40; omega, by show n3 ≤ 2 ^ 40; omega⟩) (fun h' hp hL => ?_)
   clear A0 A1 A2 A3
   (refine Wm rfl (Wt ?_); refine Cs (Co (Wc (OL.loadAll (k := 0) hL rfl rfl rfl (Wm rfl (WO.cons0 ?_))))); refine OL.storeAll (k := 5) hL hlim rfl rfl rfl rfl rfl rfl (by decide) rfl (fun h' hL => ?_); dsimp only [List.set, Nat.zero_add, Nat.reduceAdd, Nat.reduceMul] at hL; refine Wm rfl (Wm rfl (Wt ?_)); refine WC.ret ?_)
   have A0 := hL.rA (n := n0) (xs := r0.xs)
   have A1 := hL.rA (n := n1) (xs := r1.xs)
   have A2 := hL.rA (n := n2) (xs := r2.xs)
   have A3 := hL.rA (n := n3) (xs := r3.xs)
   exact Fin.ret (resL_cell rfl (hL.cell (k := 5) rfl) rfl rfl) ⟨hL.pfx, ⟨a0, n0, r0.xs⟩, ⟨a1, n1, r1.xs⟩, ⟨a2, n2, r2.xs⟩, ⟨a3, n3, r3.xs⟩, rfl, ⟨rfl, rfl, rfl, rfl⟩, ⟨A0.1, A1.1, A2.1, A3.1⟩, A0.2, A1.2, A2.2, A3.2⟩
 ·rcases hcc with rfl | rfl | rfl | rfl
  ·rw [zc0 rfl, show S4.get ⟨r0.xs, r1.xs, r2.xs, r3.xs⟩ 1 = r1.xs from rfl]
   clear zc0 zc1 zc2 zc3
   by_cases hfull : (takeL r1.xs).2 = -1
   ·(refine Wc (OP.idxArrZ rfl rfl (by decide) (by simp only [Int.reduceToNat, Nat.mul_one, Nat.zero_add, Nat.reduceMul, Nat.reduceAdd]; rfl) ?_); refine Wm rfl (Wt ?_); refine Cs (Cs (Co (Wc (OP.fieldAddr0 rfl (Wc (OL.load1 (k := 6) hL rfl rfl rfl (Wt ?_))))))); refine WC.block (Cs (Co (Wc (OP.eqlT rfl rfl (by omega) ?_)))); refine Wm rfl (Wt ?_); refine WC.condT rfl (Co (Wm rfl (Wm rfl (Wc (OP.nilP rfl (Wc (OL.load1 (k := 0) hL rfl rfl rfl ?_))))))))
    (refine Wc ?_)
    refine OL.callV hL rfl rfl (c3'.2 _ _ (hL.apAt (k := 3) rfl) (by omega) hT1 hfull) (fun h' hp hL => ?_)
    (refine Wm rfl (Wc (OP.extract rfl rfl (Wc (OP.extract rfl rfl (Wc (OP.nilP rfl (WO.cons0 ?_))))))); refine OL.store1 (k := 0) hL hlim rfl rfl rfl rfl rfl rfl rfl (fun h' hL => ?_); dsimp only [List.set, Nat.zero_add, Nat.reduceAdd, Nat.reduceMul] at hL; refine Wm rfl (Wt ?_); refine Cs (Co (Wc (OL.loadAll (k := 0) hL rfl rfl rfl (Wm rfl (WO.cons0 ?_))))); refine OL.storeAll (k := 5) hL hlim rfl rfl rfl rfl rfl rfl (by decide) rfl (fun h' hL => ?_); dsimp only [List.set, Nat.zero_add, Nat.reduceAdd, Nat.reduceMul] at hL; refine Wm rfl (Wm rfl (Wt ?_)); refine WC.ret ?_)
    rw [takeL_full hfull]
    have A0 := hL.rA (n := n0) (xs := r0.xs)
    have A1 := hL.rA (n := n1) (xs := r1.xs)
    have A2 := hL.rA (n := n2) (xs := r2.xs)
    have A3 := hL.rA (n := n3) (xs := r3.xs)
    exact Fin.ret (resL_cell rfl (hL.cell (k := 5) rfl) rfl rfl) ⟨hL.pfx, ⟨a0, n0, r0.xs⟩, ⟨a1, n1, r1.xs⟩, ⟨a2, n2, r2.xs⟩, ⟨a3, n3, r3.xs⟩, rfl, ⟨rfl, rfl, rfl, rfl⟩, ⟨A0.1, A1.1, A2.1, A3.1⟩, A0.2, A1.2, A2.2, A3.2⟩
   ·(refine Wc (OP.idxArrZ rfl rfl (by decide) (by simp only [Int.reduceToNat, Nat.mul_one, Nat.zero_add, Nat.reduceMul, Nat.reduceAdd]; rfl) ?_); refine Wm rfl (Wt ?_); refine Cs (Cs (Co (Wc (OP.fieldAddr0 rfl (Wc (OL.load1 (k := 6) hL rfl rfl rfl (Wt ?_))))))); refine WC.block (Cs (Co (Wc (OP.eqlT rfl rfl (by omega) ?_)))); refine Wm rfl (Wt ?_); refine WC.condT rfl (Co (Wm rfl (Wm rfl (Wc (OP.nilP rfl (Wc (OL.load1 (k := 0) hL rfl rfl rfl ?_))))))))
    (refine Wc ?_)
    refine OL.callGrow (k := 3) hL rfl rfl rfl (c3'.1 _ _ (Nat.le_trans hlim (hL.lo (k := 3) rfl)) (hL.toEnd (k := 3) rfl) (hL.mid (i := 3) rfl) (by omega) hT1 hfull (hL.get (k := 3) rfl)) (fun a' h' hL => ?_)
    dsimp only [List.set] at hL
    (refine Wm rfl (Wc (OP.extract rfl rfl (Wc (OP.extract rfl rfl (Wc (OP.nilP rfl (WO.cons0 ?_))))))); refine OL.store1 (k := 1) hL hlim rfl rfl rfl rfl rfl rfl rfl (fun h' hL => ?_); dsimp only [List.set, Nat.zero_add, Nat.reduceAdd, Nat.reduceMul] at hL; refine Wm rfl (Wt ?_); refine Cs (Co (Wc (OL.loadAll (k := 1) hL rfl rfl rfl (Wm rfl (WO.cons0 ?_))))); refine OL.storeAll (k := 6) hL hlim rfl rfl rfl rfl rfl rfl (by decide) rfl (fun h' hL => ?_); dsimp only [List.set, Nat.zero_add, Nat.reduceAdd, Nat.reduceMul] at hL; refine Wm rfl (Wm rfl (Wt ?_)); refine WC.ret ?_)
    have hw := hL.rA (n := n1 + 1) (xs := (takeL r1.xs).1)
    have A0 := hL.rA (n := n0) (xs := r0.xs)
    have A2 := hL.rA (n := n2) (xs := r2.xs)
    have A3 := hL.rA (n := n3) (xs := r3.xs)
    exact Fin.ret (resL_cell rfl (hL.cell (k := 6) rfl) rfl rfl) ⟨hL.pfx, ⟨a0, n0, r0.xs⟩, ⟨a', n1 + 1, (takeL r1.xs).1⟩, ⟨a2, n2, r2.xs⟩, ⟨a3, n3, r3.xs⟩, rfl, ⟨rfl, rfl, rfl, rfl⟩, ⟨A0.1, hw.1, A2.1, A3.1⟩, A0.2, hw.2, A2.2, A3.2⟩
  ·rw [zc1 rfl, show S4.get ⟨r0.xs, r1.xs, r2.xs, r3.xs⟩ 1 = r1.xs from rfl]
   clear zc0 zc1 zc2 zc3
   by_cases hin : a ∈ r1.xs
   ·rw [show freeL r1.xs a = (outL r1.xs a, 1) from if_pos hin]
    (refine Wc (OP.idxArrZ rfl rfl (by decide) (by simp only [Int.reduceToNat, Nat.mul_one, Nat.zero_add, Nat.reduceMul, Nat.reduceAdd]; rfl) ?_); refine Wm rfl (Wt ?_); refine Cs (Cs (Co (Wc (OP.fieldAddr0 rfl (Wc (OL.load1 (k := 6) hL rfl rfl rfl (Wt ?_))))))); refine WC.block (Cs (Co (Wc (OP.eqlF rfl rfl (by omega) ?_)))); refine Wm rfl (Wt ?_); refine WC.condF rfl (Cs (Co (Wc (OP.eqlT rfl rfl (by omega) ?_)))); refine Wm rfl (Wt ?_); refine WC.condT rfl (Co (WO.consQ (OP.mv rfl (WO.consQ (OP.mv rfl (WO.consQ (OP.nilP rfl (WO.consQ (OL.load1 (k := 0) hL rfl rfl rfl (WO.consQ (OP.fieldAddr0 rfl (WO.consQ (OL.load1 (k := 6) hL rfl rfl rfl ?_))))))))))))))
    (refine Wc ?_)
    refine OL.callPut (k := 3) hL rfl rfl rfl (c4'.1 _ _ (Nat.le_trans hlim (hL.lo (k := 3) rfl)) (hL.toEnd (k := 3) rfl) (hL.mid (i := 3) rfl) (by omega) hT1 hin (hL.get (k := 3) rfl)) (fun a' h' hL => ?_)
    dsimp only [List.set] at hL
    (refine Wm rfl (Wc (OP.extract rfl rfl (WO.consQ (OP.extract rfl rfl (Wc (OP.nilP rfl (WO.cons0 ?_))))))); refine OL.store1 (k := 0) hL hlim rfl rfl rfl rfl rfl rfl rfl (fun h' hL => ?_); dsimp only [List.set, Nat.zero_add, Nat.reduceAdd, Nat.reduceMul] at hL; refine Wm rfl (Wt ?_); refine Cs (Co (Wc (OL.loadAll (k := 0) hL rfl rfl rfl (Wm rfl (WO.cons0 ?_))))); refine OL.storeAll (k := 5) hL hlim rfl rfl rfl rfl rfl rfl (by decide) rfl (fun h' hL => ?_); dsimp only [List.set, Nat.zero_add, Nat.reduceAdd, Nat.reduceMul] at hL; refine Wm rfl (Wm rfl (Wt ?_)); refine WC.ret ?_)
    have hw := hL.rowSl (xs := outL r1.xs a) (by repeat (first | exact mh | apply mt)) (Nat.le_trans (List.length_filter_le _ _) (by omega))
    have A0 := hL.rA (n := n0) (xs := r0.xs)
    have A2 := hL.rA (n := n2) (xs := r2.xs)
    have A3 := hL.rA (n := n3) (xs := r3.xs)
    exact Fin.ret (resL_cell rfl (hL.cell (k := 5) rfl) rfl rfl) ⟨hL.pfx, ⟨a0, n0, r0.xs⟩, ⟨a', n1 - 1, outL r1.xs a⟩, ⟨a2, n2, r2.xs⟩, ⟨a3, n3, r3.xs⟩, rfl, ⟨rfl, rfl, rfl, rfl⟩, ⟨A0.1, hw.1, A2.1, A3.1⟩, A0.2, hw.2, A2.2, A3.2⟩
   ·rw [show freeL r1.xs a = (r1.xs, 0) from if_neg hin]
    (refine Wc (OP.idxArrZ rfl rfl (by decide) (by simp only [Int.reduceToNat, Nat.mul_one, Nat.zero_add, Nat.reduceMul, Nat.reduceAdd]; rfl) ?_); refine Wm rfl (Wt ?_); refine Cs (Cs (Co (Wc (OP.fieldAddr0 rfl (Wc (OL.load1 (k := 6) hL rfl rfl rfl (Wt ?_))))))); refine WC.block (Cs (Co (Wc (OP.eqlF rfl rfl (by omega) ?_)))); refine Wm rfl (Wt ?_); refine WC.condF rfl (Cs (Co (Wc (OP.eqlT rfl rfl (by omega) ?_)))); refine Wm rfl (Wt ?_); refine WC.condT rfl (Co (WO.consQ (OP.mv rfl (WO.consQ (OP.mv rfl (WO.consQ (OP.nilP rfl (WO.consQ (OL.load1 (k := 0) hL rfl rfl rfl (WO.consQ (OP.fieldAddr0 rfl (WO.consQ (OL.load1 (k := 6) hL rfl rfl rfl ?_))))))))))))))
    (refine Wc ?_)
    refine OL.callV hL rfl rfl (c4'.2 _ _ (hL.apAt (k := 3) rfl) (by omega) hT1 hin) (fun h' hp hL => ?_)
    (refine Wm rfl (Wc (OP.extract rfl rfl (WO.consQ (OP.extract rfl rfl (Wc (OP.nilP rfl (WO.cons0 ?_))))))); refine OL.store1 (k := 0) hL hlim rfl rfl rfl rfl rfl rfl rfl (fun h' hL => ?_); dsimp only [List.set, Nat.zero_add, Nat.reduceAdd, Nat.reduceMul] at hL; refine Wm rfl (Wt ?_); refine Cs (Co (Wc (OL.loadAll (k := 0) hL rfl rfl rfl (Wm rfl (WO.cons0 ?_))))); refine OL.storeAll (k := 5) hL hlim rfl rfl rfl rfl rfl rfl (by decide) rfl (fun h' hL => ?_); dsimp only [List.set, Nat.zero_add, Nat.reduceAdd, Nat.reduceMul] at hL; refine Wm rfl (Wm rfl (Wt ?_)); refine WC.ret ?_)
    have A0 := hL.rA (n := n0) (xs := r0.xs)
    have A1 := hL.rA (n := n1) (xs := r1.xs)
    have A2 := hL.rA (n := n2) (xs := r2.xs)
    have A3 := hL.rA (n := n3) (xs := r3.xs)
    exact Fin.ret (resL_cell rfl (hL.cell (k := 5) rfl) rfl rfl) ⟨hL.pfx, ⟨a0, n0, r0.xs⟩, ⟨a1, n1, r1.xs⟩, ⟨a2, n2, r2.xs⟩, ⟨a3, n3, r3.xs⟩, rfl, ⟨rfl, rfl, rfl, rfl⟩, ⟨A0.1, A1.1, A2.1, A3.1⟩, A0.2, A1.2, A2.2, A3.2⟩
  ·rw [zc2 rfl, show S4.get ⟨r0.xs, r1.xs, r2.xs, r3.xs⟩ 1 = r1.xs from rfl, show r1.xs.length = n1 by omega]
   clear zc0 zc1 zc2 zc3
   (refine Wc (OP.idxArrZ rfl rfl (by decide) (by simp only [Int.reduceToNat, Nat.mul_one, Nat.zero_add, Nat.reduceMul, Nat.reduceAdd]; rfl) ?_); refine Wm rfl (Wt ?_); refine Cs (Cs (Co (Wc (OP.fieldAddr0 rfl (Wc (OL.load1 (k := 6) hL rfl rfl rfl (Wt ?_))))))); refine WC.block (Cs (Co (Wc (OP.eqlF rfl rfl (by omega) ?_)))); refine Wm rfl (Wt ?_); refine WC.condF rfl (Cs (Co (Wc (OP.eqlF rfl rfl (by omega) ?_)))); refine Wm rfl (Wt ?_); refine WC.condF rfl (Cs (Co (Wc (OP.eqlT rfl rfl (by omega) ?_)))); refine Wm rfl (Wt ?_); refine WC.condT rfl (Co (Wm rfl (Wc (OP.nilP rfl (Wc (OL.load1 (k := 0) hL rfl rfl rfl (Wc (OP.lenS rfl (Wm rfl (Wt ?_)))))))))); refine Cs (Co (Wc (OL.loadAll (k := 0) hL rfl rfl rfl (Wm rfl (WO.cons0 ?_))))); refine OL.storeAll (k := 5) hL hlim rfl rfl rfl rfl rfl rfl (by decide) rfl (fun h' hL => ?_); dsimp only [List.set, Nat.zero_add, Nat.reduceAdd, Nat.reduceMul] at hL; refine Wm rfl (Wm rfl (Wt ?_)); refine WC.ret ?_)
   have A0 := hL.rA (n := n0) (xs := r0.xs)
   have A1 := hL.rA (n := n1) (xs := r1.xs)
   have A2 := hL.rA (n := n2) (xs := r2.xs)
   have A3 := hL.rA (n := n3) (xs := r3.xs)
   exact Fin.ret (resL_cell rfl (hL.cell (k := 5) rfl) rfl rfl) ⟨hL.pfx, ⟨a0, n0, r0.xs⟩, ⟨a1, n1, r1.xs⟩, ⟨a2, n2, r2.xs⟩, ⟨a3, n3, r3.xs⟩, rfl, ⟨rfl, rfl, rfl, rfl⟩, ⟨A0.1, A1.1, A2.1, A3.1⟩, A0.2, A1.2, A2.2, A3.2⟩
  ·omega
 ·rcases hcc with rfl | rfl | rfl | rfl
  ·rw [zc0 rfl, show S4.get ⟨r0.xs, r1.xs, r2.xs, r3.xs⟩ 2 = r2.xs from rfl]
   clear zc0 zc1 zc2 zc3
   by_cases hfull : (takeL r2.xs).2 = -1
   ·(refine Wc (OP.idxArrZ rfl rfl (by decide) (by simp only [Int.reduceToNat, Nat.mul_one, Nat.zero_add, Nat.reduceMul, Nat.reduceAdd]; rfl) ?_); refine Wm rfl (Wt ?_); refine Cs (Cs (Co (Wc (OP.fieldAddr0 rfl (Wc (OL.load1 (k := 6) hL rfl rfl rfl (Wt ?_))))))); refine WC.block (Cs (Co (Wc (OP.eqlT rfl rfl (by omega) ?_)))); refine Wm rfl (Wt ?_); refine WC.condT rfl (Co (Wm rfl (Wm rfl (Wc (OP.nilP rfl (Wc (OL.load1 (k := 0) hL rfl rfl rfl ?_))))))))
    (refine Wc ?_)
    refine OL.callV hL rfl rfl (c3'.2 _ _ (hL.apAt (k := 2) rfl) (by omega) hT2 hfull) (fun h' hp hL => ?_)
    (refine Wm rfl (Wc (OP.extract rfl rfl (Wc (OP.extract rfl rfl (Wc (OP.nilP rfl (WO.cons0 ?_))))))); refine OL.store1 (k := 0) hL hlim rfl rfl rfl rfl rfl rfl rfl (fun h' hL => ?_); dsimp only [List.set, Nat.zero_add, Nat.reduceAdd, Nat.reduceMul] at hL; refine Wm rfl (Wt ?_); refine Cs (Co (Wc (OL.loadAll (k := 0) hL rfl rfl rfl (Wm rfl (WO.cons0 ?_))))); refine OL.storeAll (k := 5) hL hlim rfl rfl rfl rfl rfl rfl (by decide) rfl (fun h' hL => ?_); dsimp only [List.set, Nat.zero_add, Nat.reduceAdd, Nat.reduceMul] at hL; refine Wm rfl (Wm rfl (Wt ?_)); refine WC.ret ?_)
    rw [takeL_full hfull]
    have A0 := hL.rA (n := n0) (xs := r0.xs)
    have A1 := hL.rA (n := n1) (xs := r1.xs)
    have A2 := hL.rA (n := n2) (xs := r2.xs)
    have A3 := hL.rA (n := n3) (xs := r3.xs)
    exact Fin.ret (resL_cell rfl (hL.cell (k := 5) rfl) rfl rfl) ⟨hL.pfx, ⟨a0, n0, r0.xs⟩, ⟨a1, n1, r1.xs⟩, ⟨a2, n2, r2.xs⟩, ⟨a3, n3, r3.xs⟩, rfl, ⟨rfl, rfl, rfl, rfl⟩, ⟨A0.1, A1.1, A2.1, A3.1⟩, A0.2, A1.2, A2.2, A3.2⟩
   ·(refine Wc (OP.idxArrZ rfl rfl (by decide) (by simp only [Int.reduceToNat, Nat.mul_one, Nat.zero_add, Nat.reduceMul, Nat.reduceAdd]; rfl) ?_); refine Wm rfl (Wt ?_); refine Cs (Cs (Co (Wc (OP.fieldAddr0 rfl (Wc (OL.load1 (k := 6) hL rfl rfl rfl (Wt ?_))))))); refine WC.block (Cs (Co (Wc (OP.eqlT rfl rfl (by omega) ?_)))); refine Wm rfl (Wt ?_); refine WC.condT rfl (Co (Wm rfl (Wm rfl (Wc (OP.nilP rfl (Wc (OL.load1 (k := 0) hL rfl rfl rfl ?_))))))))
    (refine Wc ?_)
    refine OL.callGrow (k := 2) hL rfl rfl rfl (c3'.1 _ _ (Nat.le_trans hlim (hL.lo (k := 2) rfl)) (hL.toEnd (k := 2) rfl) (hL.mid (i := 2) rfl) (by omega) hT2 hfull (hL.get (k := 2) rfl)) (fun a' h' hL => ?_)
    dsimp only [List.set] at hL
    (refine Wm rfl (Wc (OP.extract rfl rfl (Wc (OP.extract rfl rfl (Wc (OP.nilP rfl (WO.cons0 ?_))))))); refine OL.store1 (k := 1) hL hlim rfl rfl rfl rfl rfl rfl rfl (fun h' hL => ?_); dsimp only [List.set, Nat.zero_add, Nat.reduceAdd, Nat.reduceMul] at hL; refine Wm rfl (Wt ?_); refine Cs (Co (Wc (OL.loadAll (k := 1) hL rfl rfl rfl (Wm rfl (WO.cons0 ?_))))); refine OL.storeAll (k := 6) hL hlim rfl rfl rfl rfl rfl rfl (by decide) rfl (fun h' hL => ?_); dsimp only [List.set, Nat.zero_add, Nat.reduceAdd, Nat.reduceMul] at hL; refine Wm rfl (Wm rfl (Wt ?_)); refine WC.ret ?_)
    have hw := hL.rA (n := n2 + 1) (xs := (takeL r2.xs).1)
    have A0 := hL.rA (n := n0) (xs := r0.xs)
    have A1 := hL.rA (n := n1) (xs := r1.xs)
    have A3 := hL.rA (n := n3) (xs := r3.xs)
    exact Fin.ret (resL_cell rfl (hL.cell (k := 6) rfl) rfl rfl) ⟨hL.pfx, ⟨a0, n0, r0.xs⟩, ⟨a1, n1, r1.xs⟩, ⟨a', n2 + 1, (takeL r2.xs).1⟩, ⟨a3, n3, r3.xs⟩, rfl, ⟨rfl, rfl, rfl, rfl⟩, ⟨A0.1, A1.1, hw.1, A3.1⟩, A0.2, A1.2, hw.2, A3.2⟩
  ·rw [zc1 rfl, show S4.get ⟨r0.xs, r1.xs, r2.xs, r3.xs⟩ 2 = r2.xs from rfl]
   clear zc0 zc1 zc2 zc3
   by_cases hin : a ∈ r2.xs
   ·rw [show freeL r2.xs a = (outL r2.xs a, 1) from if_pos hin]
    (refine Wc (OP.idxArrZ rfl rfl (by decide) (by simp only [Int.reduceToNat, Nat.mul_one, Nat.zero_add, Nat.reduceMul, Nat.reduceAdd]; rfl) ?_); refine Wm rfl (Wt ?_); refine Cs (Cs (Co (Wc (OP.fieldAddr0 rfl (Wc (OL.load1 (k := 6) hL rfl rfl rfl (Wt ?_))))))); refine WC.block (Cs (Co (Wc (OP.eqlF rfl rfl (by omega) ?_)))); refine Wm rfl (Wt ?_); refine WC.condF rfl (Cs (Co (Wc (OP.eqlT rfl rfl (by omega) ?_)))); refine Wm rfl (Wt ?_); refine WC.condT rfl (Co (WO.consQ (OP.mv rfl (WO.consQ (OP.mv rfl (WO.consQ (OP.nilP rfl (WO.consQ (OL.load1 (k := 0) hL rfl rfl rfl (WO.consQ (OP.fieldAddr0 rfl (WO.consQ (OL.load1 (k := 6) hL rfl rfl rfl ?_))))))))))))))
    (refine Wc ?_)
    refine OL.callPut (k := 2) hL rfl rfl rfl (c4'.1 _ _ (Nat.le_trans hlim (hL.lo (k := 2) rfl)) (hL.toEnd (k := 2) rfl) (hL.mid (i := 2) rfl) (by omega) hT2 hin (hL.get (k := 2) rfl)) (fun a' h' hL => ?_)
    dsimp only [List.set] at hL
    (refine Wm rfl (Wc (OP.extract rfl rfl (WO.consQ (OP.extract rfl rfl (Wc (OP.nilP rfl (WO.cons0 ?_))))))); refine OL.store1 (k := 0) hL hlim rfl rfl rfl rfl rfl rfl rfl (fun h' hL => ?_); dsimp only [List.set, Nat.zero_add, Nat.reduceAdd, Nat.reduceMul] at hL; refine Wm rfl (Wt ?_); refine Cs (Co (Wc (OL.loadAll (k := 0) hL rfl rfl rfl (Wm rfl (WO.cons0 ?_))))); refine OL.storeAll (k := 5) hL hlim rfl rfl rfl rfl rfl rfl (by decide) rfl (fun h' hL => ?_); dsimp only [List.set, Nat.zero_add, Nat.reduceAdd, Nat.reduceMul] at hL; refine Wm rfl (Wm rfl (Wt ?_)); refine WC.ret ?_)
    have hw := hL.rowSl (xs := outL r2.xs a) (by repeat (first | exact mh | apply mt)) (Nat.le_trans (List.length_filter_le _ _) (by omega))
    have A0 := hL.rA (n := n0) (xs := r0.xs)
    have A1 := hL.rA (n := n1) (xs := r1.xs)
    have A3 := hL.rA (n := n3) (xs := r3.xs)
    exact Fin.ret (resL_cell rfl (hL.cell (k := 5) rfl) rfl rfl) ⟨hL.pfx, ⟨a0, n0, r0.xs⟩, ⟨a1, n1, r1.xs⟩, ⟨a', n2 - 1, outL r2.xs a⟩, ⟨a3, n3, r3.xs⟩, rfl, ⟨rfl, rfl, rfl, rfl⟩, ⟨A0.1, A1.1, hw.1, A3.1⟩, A0.2, A1.2, hw.2, A3.2⟩
   ·rw [show freeL r2.xs a = (r2.xs, 0) from if_neg hin]
    (refine Wc (OP.idxArrZ rfl rfl (by decide) (by simp only [Int.reduceToNat, Nat.mul_one, Nat.zero_add, Nat.reduceMul, Nat.reduceAdd]; rfl) ?_); refine Wm rfl (Wt ?_); refine Cs (Cs (Co (Wc (OP.fieldAddr0 rfl (Wc (OL.load1 (k := 6) hL rfl rfl rfl (Wt ?_))))))); refine WC.block (Cs (Co (Wc (OP.eqlF rfl rfl (by omega) ?_)))); refine Wm rfl (Wt ?_); refine WC.condF rfl (Cs (Co (Wc (OP.eqlT rfl rfl (by omega) ?_)))); refine Wm rfl (Wt ?_); refine WC.condT rfl (Co (WO.consQ (OP.mv rfl (WO.consQ (OP.mv rfl (WO.consQ (OP.nilP rfl (WO.consQ (OL.load1 (k := 0) hL rfl rfl rfl (WO.consQ (OP.fieldAddr0 rfl (WO.consQ (OL.load1 (k := 6) hL rfl rfl rfl ?_))))))))))))))
    (refine Wc ?_)
    refine OL.callV hL rfl rfl (c4'.2 _ _ (hL.apAt (k := 2) rfl) (by omega) hT2 hin) (fun h' hp hL => ?_)
    (refine Wm rfl (Wc (OP.extract rfl rfl (WO.consQ (OP.extract rfl rfl (Wc (OP.nilP rfl (WO.cons0 ?_))))))); refine OL.store1 (k := 0) hL hlim rfl rfl rfl rfl rfl rfl rfl (fun h' hL => ?_); dsimp only [List.set, Nat.zero_add, Nat.reduceAdd, Nat.reduceMul] at hL; refine Wm rfl (Wt ?_); refine Cs (Co (Wc (OL.loadAll (k := 0) hL rfl rfl rfl (Wm rfl (WO.cons0 ?_))))); refine OL.storeAll (k := 5) hL hlim rfl rfl rfl rfl rfl rfl (by decide) rfl (fun h' hL => ?_); dsimp only [List.set, Nat.zero_add, Nat.reduceAdd, Nat.reduceMul] at hL; refine Wm rfl (Wm rfl (Wt ?_)); refine WC.ret ?_)
    have A0 := hL.rA (n := n0) (xs := r0.xs)
    have A1 := hL.rA (n := n1) (xs := r1.xs)
    have A2 := hL.rA (n := n2) (xs := r2.xs)
    have A3 := hL.rA (n := n3) (xs := r3.xs)
    exact Fin.ret (resL_cell rfl (hL.cell (k := 5) rfl) rfl rfl) ⟨hL.pfx, ⟨a0, n0, r0.xs⟩, ⟨a1, n1, r1.xs⟩, ⟨a2, n2, r2.xs⟩, ⟨a3, n3, r3.xs⟩, rfl, ⟨rfl, rfl, rfl, rfl⟩, ⟨A0.1, A1.1, A2.1, A3.1⟩, A0.2, A1.2, A2.2, A3.2⟩
  ·rw [zc2 rfl, show S4.get ⟨r0.xs, r1.xs, r2.xs, r3.xs⟩ 2 = r2.xs from rfl, show r2.xs.length = n2 by omega]
   clear zc0 zc1 zc2 zc3
   (refine Wc (OP.idxArrZ rfl rfl (by decide) (by simp only [Int.reduceToNat, Nat.mul_one, Nat.zero_add, Nat.reduceMul, Nat.reduceAdd]; rfl) ?_); refine Wm rfl (Wt ?_); refine Cs (Cs (Co (Wc (OP.fieldAddr0 rfl (Wc (OL.load1 (k := 6) hL rfl rfl rfl (Wt ?_))))))); refine WC.block (Cs (Co (Wc (OP.eqlF rfl rfl (by omega) ?_)))); refine Wm rfl (Wt ?_); refine WC.condF rfl (Cs (Co (Wc (OP.eqlF rfl rfl (by omega) ?_)))); refine Wm rfl (Wt ?_); refine WC.condF rfl (Cs (Co (Wc (OP.eqlT rfl rfl (by omega) ?_)))); refine Wm rfl (Wt ?_); refine WC.condT rfl (Co (Wm rfl (Wc (OP.nilP rfl (Wc (OL.load1 (k := 0) hL rfl rfl rfl (Wc (OP.lenS rfl (Wm rfl (Wt ?_)))))))))); refine Cs (Co (Wc (OL.loadAll (k := 0) hL rfl rfl rfl (Wm rfl (WO.cons0 ?_))))); refine OL.storeAll (k := 5) hL hlim rfl rfl rfl rfl rfl rfl (by decide) rfl (fun h' hL => ?_); dsimp only [List.set, Nat.zero_add, Nat.reduceAdd, Nat.reduceMul] at hL; refine Wm rfl (Wm rfl (Wt ?_)); refine WC.ret ?_)
   have A0 := hL.rA (n := n0) (xs := r0.xs)
   have A1 := hL.rA (n := n1) (xs := r1.xs)
   have A2 := hL.rA (n := n2) (xs := r2.xs)
   have A3 := hL.rA (n := n3) (xs := r3.xs)
   exact Fin.ret (resL_cell rfl (hL.cell (k := 5) rfl) rfl rfl) ⟨hL.pfx, ⟨a0, n0, r0.xs⟩, ⟨a1, n1, r1.xs⟩, ⟨a2, n2, r2.xs⟩, ⟨a3, n3, r3.xs⟩, rfl, ⟨rfl, rfl, rfl, rfl⟩, ⟨A0.1, A1.1, A2.1, A3.1⟩, A0.2, A1.2, A2.2, A3.2⟩
  ·omega
 ·rcases hcc with rfl | rfl | rfl | rfl
  ·rw [zc0 rfl, show S4.get ⟨r0.xs, r1.xs, r2.xs, r3.xs⟩ 3 = r3.xs from rfl]
   clear zc0 zc1 zc2 zc3
   by_cases hfull : (takeL r3.xs).2 = -1
   ·(refine Wc (OP.idxArrZ rfl rfl (by decide) (by simp only [Int.reduceToNat, Nat.mul_one, Nat.zero_add, Nat.reduceMul, Nat.reduceAdd]; rfl) ?_); refine Wm rfl (Wt ?_); refine Cs (Cs (Co (Wc (OP.fieldAddr0 rfl (Wc (OL.load1 (k := 6) hL rfl rfl rfl (Wt ?_))))))); refine WC.block (Cs (Co (Wc (OP.eqlT rfl rfl (by omega) ?_)))); refine Wm rfl (Wt ?_); refine WC.condT rfl (Co (Wm rfl (Wm rfl (Wc (OP.nilP rfl (Wc (OL.load1 (k := 0) hL rfl rfl rfl ?_))))))))
    (refine Wc ?_)
    refine OL.callV hL rfl rfl (c3'.2 _ _ (hL.apAt (k := 1) rfl) (by omega) hT3 hfull) (fun h' hp hL => ?_)
    (refine Wm rfl (Wc (OP.extract rfl rfl (Wc (OP.extract rfl rfl (Wc (OP.nilP rfl (WO.cons0 ?_))))))); refine OL.store1 (k := 0) hL hlim rfl rfl rfl rfl rfl rfl rfl (fun h' hL => ?_); dsimp only [List.set, Nat.zero_add, Nat.reduceAdd, Nat.reduceMul] at hL; refine Wm rfl (Wt ?_); refine Cs (Co (Wc (OL.loadAll (k := 0) hL rfl rfl rfl (Wm rfl (WO.cons0 ?_))))); refine OL.storeAll (k := 5) hL hlim rfl rfl rfl rfl rfl rfl (by decide) rfl (fun h' hL => ?_); dsimp only [List.set, Nat.zero_add, Nat.reduceAdd, Nat.reduceMul] at hL; refine Wm rfl (Wm rfl (Wt ?_)); refine WC.ret ?_)
    rw [takeL_full hfull]
    have A0 := hL.rA (n := n0) (xs := r0.xs)
    have A1 := hL.rA (n := n1) (xs := r1.xs)
    have A2 := hL.rA (n := n2) (xs := r2.xs)
    have A3 := hL.rA (n := n3) (xs := r3.xs)
    exact Fin.ret (resL_cell rfl (hL.cell (k := 5) rfl) rfl rfl) ⟨hL.pfx, ⟨a0, n0, r0.xs⟩, ⟨a1, n1, r1.xs⟩, ⟨a2, n2, r2.xs⟩, ⟨a3, n3, r3.xs⟩, rfl, ⟨rfl, rfl, rfl, rfl⟩, ⟨A0.1, A1.1, A2.1, A3.1⟩, A0.2, A1.2, A2.2, A3.2⟩
   ·(refine Wc (OP.idxArrZ rfl rfl (by decide) (by simp only [Int.reduceToNat, Nat.mul_one, Nat.zero_add, Nat.reduceMul, Nat.reduceAdd]; rfl) ?_); refine Wm rfl (Wt ?_); refine Cs (Cs (Co (Wc (OP.fieldAddr0 rfl (Wc (OL.load1 (k := 6) hL rfl rfl rfl (Wt ?_))))))); refine WC.block (Cs (Co (Wc (OP.eqlT rfl rfl (by omega) ?_)))); refine Wm rfl (Wt ?_); refine WC.condT rfl (Co (Wm rfl (Wm rfl (Wc (OP.nilP rfl (Wc (OL.load1 (k := 0) hL rfl rfl rfl ?_))))))))
    (refine Wc ?_)
    refine OL.callGrow (k := 1) hL rfl rfl rfl (c3'.1 _ _ (Nat.le_trans hlim (hL.lo (k := 1) rfl)) (hL.toEnd (k := 1) rfl) (hL.mid (i := 1) rfl) (by omega) hT3 hfull (hL.get (k := 1) rfl)) (fun a' h' hL => ?_)
    dsimp only [List.set] at hL
    (refine Wm rfl (Wc (OP.extract rfl rfl (Wc (OP.extract rfl rfl (Wc (OP.nilP rfl (WO.cons0 ?_))))))); refine OL.store1 (k := 1) hL hlim rfl rfl rfl rfl rfl rfl rfl (fun h' hL => ?_); dsimp only [List.set, Nat.zero_add, Nat.reduceAdd, Nat.reduceMul] at hL; refine Wm rfl (Wt ?_); refine Cs (Co (Wc (OL.loadAll (k := 1) hL rfl rfl rfl (Wm rfl (WO.cons0 ?_))))); refine OL.storeAll (k := 6) hL hlim rfl rfl rfl rfl rfl rfl (by decide) rfl (fun h' hL => ?_); dsimp only [List.set, Nat.zero_add, Nat.reduceAdd, Nat.reduceMul] at hL; refine Wm rfl (Wm rfl (Wt ?_)); refine WC.ret ?_)
    have hw := hL.rA (n := n3 + 1) (xs := (takeL r3.xs).1)
    have A0 := hL.rA (n := n0) (xs := r0.xs)
    have A1 := hL.rA (n := n1) (xs := r1.xs)
    have A2 := hL.rA (n := n2) (xs := r2.xs)
    exact Fin.ret (resL_cell rfl (hL.cell (k := 6) rfl) rfl rfl) ⟨hL.pfx, ⟨a0, n0, r0.xs⟩, ⟨a1, n1, r1.xs⟩, ⟨a2, n2, r2.xs⟩, ⟨a', n3 + 1, (takeL r3.xs).1⟩, rfl, ⟨rfl, rfl, rfl, rfl⟩, ⟨A0.1, A1.1, A2.1, hw.1⟩, A0.2, A1.2, A2.2, hw.2⟩
  ·rw [zc1 rfl, show S4.get ⟨r0.xs, r1.xs, r2.xs, r3.xs⟩ 3 = r3.xs from rfl]
   clear zc0 zc1 zc2 zc3
   by_cases hin : a ∈ r3.xs
   ·rw [show freeL r3.xs a = (outL r3.xs a, 1) from if_pos hin]
    (refine Wc (OP.idxArrZ rfl rfl (by decide) (by simp only [Int.reduceToNat, Nat.mul_one, Nat.zero_add, Nat.reduceMul, Nat.reduceAdd]; rfl) ?_); refine Wm rfl (Wt ?_); refine Cs (Cs (Co (Wc (OP.fieldAddr0 rfl (Wc (OL.load1 (k := 6) hL rfl rfl rfl (Wt ?_))))))); refine WC.block (Cs (Co (Wc (OP.eqlF rfl rfl (by omega) ?_)))); refine Wm rfl (Wt ?_); refine WC.condF rfl (Cs (Co (Wc (OP.eqlT rfl rfl (by omega) ?_)))); refine Wm rfl (Wt ?_); refine WC.condT rfl (Co (WO.consQ (OP.mv rfl (WO.consQ (OP.mv rfl (WO.consQ (OP.nilP rfl (WO.consQ (OL.load1 (k := 0) hL rfl rfl rfl (WO.consQ (OP.fieldAddr0 rfl (WO.consQ (OL.load1 (k := 6) hL rfl rfl rfl ?_))))))))))))))
    (refine Wc ?_)
    refine OL.callPut (k := 1) hL rfl rfl rfl (c4'.1 _ _ (Nat.le_trans hlim (hL.lo (k := 1) rfl)) (hL.toEnd (k := 1) rfl) (hL.mid (i := 1) rfl) (by omega) hT3 hin (hL.get (k := 1) rfl)) (fun a' h' hL => ?_)
    dsimp only [List.set] at hL
    (refine Wm rfl (Wc (OP.extract rfl rfl (WO.consQ (OP.extract rfl rfl (Wc (OP.nilP rfl (WO.cons0 ?_))))))); refine OL.store1 (k := 0) hL hlim rfl rfl rfl rfl rfl rfl rfl (fun h' hL => ?_); dsimp only [List.set, Nat.zero_add, Nat.reduceAdd, Nat.reduceMul] at hL; refine Wm rfl (Wt ?_); refine Cs (Co (Wc (OL.loadAll (k := 0) hL rfl rfl rfl (Wm rfl (WO.cons0 ?_))))); refine OL.storeAll (k := 5) hL hlim rfl rfl rfl rfl rfl rfl (by decide) rfl (fun h' hL => ?_); dsimp only [List.set, Nat.zero_add, Nat.reduceAdd, Nat.reduceMul] at hL; refine Wm rfl (Wm rfl (Wt ?_)); refine WC.ret ?_)
    have hw := hL.rowSl (xs := outL r3.xs a) (by repeat (first | exact mh | apply mt)) (Nat.le_trans (List.length_filter_le _ _) (by omega))
    have A0 := hL.rA (n := n0) (xs := r0.xs)
    have A1 := hL.rA (n := n1) (xs := r1.xs)
    have A2 := hL.rA (n := n2) (xs := r2.xs)
    exact Fin.ret (resL_cell rfl (hL.cell (k := 5) rfl) rfl rfl) ⟨hL.pfx, ⟨a0, n0, r0.xs⟩, ⟨a1, n1, r1.xs⟩, ⟨a2, n2, r2.xs⟩, ⟨a', n3 - 1, outL r3.xs a⟩, rfl, ⟨rfl, rfl, rfl, rfl⟩, ⟨A0.1, A1.1, A2.1, hw.1⟩, A0.2, A1.2, A2.2, hw.2⟩
   ·rw [show freeL r3.xs a = (r3.xs, 0) from if_neg hin]
    (refine Wc (OP.idxArrZ rfl rfl (by decide) (by simp only [Int.reduceToNat, Nat.mul_one, Nat.zero_add, Nat.reduceMul, Nat.reduceAdd]; rfl) ?_); refine Wm rfl (Wt ?_); refine Cs (Cs (Co (Wc (OP.fieldAddr0 rfl (Wc (OL.load1 (k := 6) hL rfl rfl rfl (Wt ?_))))))); refine WC.block (Cs (Co (Wc (OP.eqlF rfl rfl (by omega) ?_)))); refine Wm rfl (Wt ?_); refine WC.condF rfl (Cs (Co (Wc (OP.eqlT rfl rfl (by omega) ?_)))); refine Wm rfl (Wt ?_); refine WC.condT rfl (Co (WO.consQ (OP.mv rfl (WO.consQ (OP.mv rfl (WO.consQ (OP.nilP rfl (WO.consQ (OL.load1 (k := 0) hL rfl rfl rfl (WO.consQ (OP.fieldAddr0 rfl (WO.consQ (OL.load1 (k := 6) hL rfl rfl rfl ?_))))))))))))))
    (refine Wc ?_)
    refine OL.callV hL rfl rfl (c4'.2 _ _ (hL.apAt (k := 1) rfl) (by omega) hT3 hin) (fun h' hp hL => ?_)
    (refine Wm rfl (Wc (OP.extract rfl rfl (WO.consQ (OP.extract rfl rfl (Wc (OP.nilP rfl (WO.cons0 ?_))))))); refine OL.store1 (k := 0) hL hlim rfl rfl rfl rfl rfl rfl rfl (fun h' hL => ?_); dsimp only [List.set, Nat.zero_add, Nat.reduceAdd, Nat.reduceMul] at hL; refine Wm rfl (Wt ?_); refine Cs (Co (Wc (OL.loadAll (k := 0) hL rfl rfl rfl (Wm rfl (WO.cons0 ?_))))); refine OL.storeAll (k := 5) hL hlim rfl rfl rfl rfl rfl rfl (by decide) rfl (fun h' hL => ?_); dsimp only [List.set, Nat.zero_add, Nat.reduceAdd, Nat.reduceMul] at hL; refine Wm rfl (Wm rfl (Wt ?_)); refine WC.ret ?_)
    have A0 := hL.rA (n := n0) (xs := r0.xs)
    have A1 := hL.rA (n := n1) (xs := r1.xs)
    have A2 := hL.rA (n := n2) (xs := r2.xs)
    have A3 := hL.rA (n := n3) (xs := r3.xs)
    exact Fin.ret (resL_cell rfl (hL.cell (k := 5) rfl) rfl rfl) ⟨hL.pfx, ⟨a0, n0, r0.xs⟩, ⟨a1, n1, r1.xs⟩, ⟨a2, n2, r2.xs⟩, ⟨a3, n3, r3.xs⟩, rfl, ⟨rfl, rfl, rfl, rfl⟩, ⟨A0.1, A1.1, A2.1, A3.1⟩, A0.2, A1.2, A2.2, A3.2⟩
  ·rw [zc2 rfl, show S4.get ⟨r0.xs, r1.xs, r2.xs, r3.xs⟩ 3 = r3.xs from rfl, show r3.xs.length = n3 by omega]
   clear zc0 zc1 zc2 zc3
   (refine Wc (OP.idxArrZ rfl rfl (by decide) (by simp only [Int.reduceToNat, Nat.mul_one, Nat.zero_add, Nat.reduceMul, Nat.reduceAdd]; rfl) ?_); refine Wm rfl (Wt ?_); refine Cs (Cs (Co (Wc (OP.fieldAddr0 rfl (Wc (OL.load1 (k := 6) hL rfl rfl rfl (Wt ?_))))))); refine WC.block (Cs (Co (Wc (OP.eqlF rfl rfl (by omega) ?_)))); refine Wm rfl (Wt ?_); refine WC.condF rfl (Cs (Co (Wc (OP.eqlF rfl rfl (by omega) ?_)))); refine Wm rfl (Wt ?_); refine WC.condF rfl (Cs (Co (Wc (OP.eqlT rfl rfl (by omega) ?_)))); refine Wm rfl (Wt ?_); refine WC.condT rfl (Co (Wm rfl (Wc (OP.nilP rfl (Wc (OL.load1 (k := 0) hL rfl rfl rfl (Wc (OP.lenS rfl (Wm rfl (Wt ?_)))))))))); refine Cs (Co (Wc (OL.loadAll (k := 0) hL rfl rfl rfl (Wm rfl (WO.cons0 ?_))))); refine OL.storeAll (k := 5) hL hlim rfl rfl rfl rfl rfl rfl (by decide) rfl (fun h' hL => ?_); dsimp only [List.set, Nat.zero_add, Nat.reduceAdd, Nat.reduceMul] at hL; refine Wm rfl (Wm rfl (Wt ?_)); refine WC.ret ?_)
   have A0 := hL.rA (n := n0) (xs := r0.xs)
   have A1 := hL.rA (n := n1) (xs := r1.xs)
   have A2 := hL.rA (n := n2) (xs := r2.xs)
   have A3 := hL.rA (n := n3) (xs := r3.xs)
   exact Fin.ret (resL_cell rfl (hL.cell (k := 5) rfl) rfl rfl) ⟨hL.pfx, ⟨a0, n0, r0.xs⟩, ⟨a1, n1, r1.xs⟩, ⟨a2, n2, r2.xs⟩, ⟨a3, n3, r3.xs⟩, rfl, ⟨rfl, rfl, rfl, rfl⟩, ⟨A0.1, A1.1, A2.1, A3.1⟩, A0.2, A1.2, A2.2, A3.2⟩
  ·omega
 (refine WO.yes rfl (Wc (OP.not rfl (Wc (OP.pickF rfl rfl (Wt ?_))))); refine WC.condT rfl (Cs (Co (Wc (OP.buildN rfl rfl (WO.cons0 ?_))))); refine OL.storeAll (k := 0) hL hlim rfl rfl rfl rfl rfl rfl (by decide) rfl (fun h' hL => ?_); dsimp only [List.set, Nat.zero_add, Nat.reduceAdd, Nat.reduceMul] at hL; refine Wm rfl (Wm rfl (Wt ?_)); refine WC.ret ?_; dsimp only [zn, zr, zx, yn, yr]; rw [z1 (by grind)]; exact Fin.ret (resL_cell rfl (hL.cell (k := 0) rfl) rfl rfl) ⟨hL.pfx, nilRow, nilRow, nilRow, nilRow, rfl, ⟨rfl, rfl, rfl, rfl⟩, nilSt _, nilIn _ _⟩; refine Wc (OP.not rfl (Wm rfl (WO.no rfl (WO.no rfl (WO.no rfl (Wc (OP.pickT rfl rfl (Wt ?_)))))))); refine WC.condT rfl (Cs (Co (Wc (OP.buildN rfl rfl (WO.cons0 ?_))))); refine OL.storeAll (k := 0) hL hlim rfl rfl rfl rfl rfl rfl (by decide) rfl (fun h' hL => ?_); dsimp only [List.set, Nat.zero_add, Nat.reduceAdd, Nat.reduceMul] at hL; refine Wm rfl (Wm rfl (Wt ?_)); refine WC.ret ?_; dsimp only [zn, zr, zx, yn, yr]; rw [z1 (by grind)]; exact Fin.ret (resL_cell rfl (hL.cell (k := 0) rfl) rfl rfl) ⟨hL.pfx, nilRow, nilRow, nilRow, nilRow, rfl, ⟨rfl, rfl, rfl, rfl⟩, nilSt _, nilIn _ _⟩)
end
end
end Go.Proofs.YtalknjppnkpmmaaDoorW.Ai
