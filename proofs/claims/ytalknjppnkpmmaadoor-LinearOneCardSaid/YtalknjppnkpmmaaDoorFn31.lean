/-
 Queues (chapter 5), as the small machine runs them: what an operation does.
-/
import Derived.Test.YtalknjppnkpmmaaDoorFn30
set_option linter.unusedVariables false
set_option linter.unusedSimpArgs false
set_option maxHeartbeats 4000000
set_option maxRecDepth 100000
namespace Go.Proofs.YtalknjppnkpmmaaDoorW.Ai
section
def rf_qApply (g0 g1 g2 g3 g4 g5 : Nat) : RFunc :=
 ⟨60, [(.cell 4 (.some 4)), (.tmp 5), (.tmp 6)], (.seq (.ops [rO 2 (.box (.tmp 0)), rO 3 (.box (.tmp 1)), rO 4 (.new [(.slice .none 0 0), (.slice .none 0 0), (.slice .none 0 0), (.slice .none 0 0)]), rO 5 (.mv (.const (.int .i64 0))), rO 6 (.mv (.const (.int .i64 0)))]) (.seq (.seq (.ops [rO 10 (.load (.some 4) (.tmp 2)), rO 11 (.call (.func g0) [(.tmp 10)]), rO 12 (.un .not (.tmp 11)), rO 13 (.mv (.tmp 12)), ⟨(.some 14), (.load (.some 3) (.tmp 3)), (.some (13, false)), false, []⟩, ⟨(.some 15), (.call (.func g1) [(.tmp 14)]), (.some (13, false)), false, []⟩, ⟨(.some 16), (.un .not (.tmp 15)), (.some (13, false)), false, []⟩, rO 17 (.pick (.tmp 13) (.const (.bool true)) (.tmp 16))]) (.cond (.tmp 17) (.seq (.ops [rO 18 (.build [(.slice .none 0 0), (.slice .none 0 0), (.slice .none 0 0), (.slice .none 0 0)] []), ⟨.none, (.store 4 (.tmp 4) (.tmp 18)), .none, false, []⟩, rO 5 (.mv (.const (.int .i64 0))), rO 6 (.mv (.const (.int .i64 500)))]) .ret) .skip)) (.seq (.ops [rO 19 (.load (.some 4) (.tmp 2)), rO 20 (.call (.func g2) [(.tmp 19)]), rO 7 (.new [(.slice .none 0 0), (.slice .none 0 0), (.slice .none 0 0), (.slice .none 0 0)]), ⟨.none, (.store 4 (.tmp 7) (.tmp 20)), .none, false, []⟩, rO 8 (.mv (.const (.int .i64 0)))]) (.seq (.ops [rO 21 (.fieldAddr 1 (.tmp 3)), rO 22 (.load .none (.tmp 21)), rO 23 (.fieldAddr 0 (.tmp 7)), rO 24 (.idxAddrArr 4 1 (.tmp 23) (.tmp 22)), rO 9 (.mv (.tmp 24))]) (.seq (.seq (.ops [rO 25 (.fieldAddr 0 (.tmp 3)), rO 26 (.load .none (.tmp 25))]) (.block 0 (.seq (.ops [rO 29 (.bin .eql (.tmp 26) (.const (.int .i64 0))), rO 28 (.mv (.tmp 29))]) (.cond (.tmp 28) (.ops [⟨(.some 31), (.mv (.tmp 9)), .none, true, []⟩, ⟨(.some 32), (.mv (.tmp 9)), .none, true, []⟩, ⟨(.some 33), (.nilCheck (.tmp 32)), .none, true, []⟩, ⟨(.some 34), (.load .none (.tmp 33)), .none, true, []⟩, ⟨(.some 35), (.fieldAddr 2 (.tmp 3)), .none, true, []⟩, ⟨(.some 36), (.load .none (.tmp 35)), .none, true, []⟩, rO 37 (.call (.func g3) [(.tmp 34), (.tmp 36)]), rO 30 (.mv (.tmp 37)), rO 38 (.extract (.tmp 30) 0), ⟨(.some 39), (.extract (.tmp 30) 1), .none, true, []⟩, rO 40 (.nilCheck (.tmp 31)), ⟨.none, (.store 1 (.tmp 40) (.tmp 38)), .none, false, []⟩, rO 8 (.mv (.tmp 39))]) (.seq (.ops [rO 42 (.bin .eql (.tmp 26) (.const (.int .i64 1))), rO 41 (.mv (.tmp 42))]) (.cond (.tmp 41) (.ops [rO 44 (.mv (.tmp 9)), rO 45 (.mv (.tmp 9)), rO 46 (.nilCheck (.tmp 45)), rO 47 (.load .none (.tmp 46)), rO 48 (.call (.func g4) [(.tmp 47)]), rO 43 (.mv (.tmp 48)), rO 49 (.extract (.tmp 43) 0), rO 50 (.extract (.tmp 43) 1), rO 51 (.nilCheck (.tmp 44)), ⟨.none, (.store 1 (.tmp 51) (.tmp 49)), .none, false, []⟩, rO 8 (.mv (.tmp 50))]) (.seq (.ops [rO 53 (.bin .eql (.tmp 26) (.const (.int .i64 2))), rO 52 (.mv (.tmp 53))]) (.cond (.tmp 52) (.ops [rO 54 (.mv (.tmp 9)), rO 55 (.nilCheck (.tmp 54)), rO 56 (.load .none (.tmp 55)), rO 57 (.len 1 (.tmp 56)), rO 8 (.mv (.tmp 57))]) (.ops [rO 27 (.call (.func g5) [(.tmp 7)]), rO 8 (.mv (.tmp 27))]))))))))) (.seq (.ops [rO 58 (.load (.some 4) (.tmp 7)), rO 59 (.mv (.tmp 8)), ⟨.none, (.store 4 (.tmp 4) (.tmp 58)), .none, false, []⟩, rO 5 (.mv (.tmp 59)), rO 6 (.mv (.const (.int .i64 0)))]) .ret))))))⟩
def QueueM (e : Int) (s : S4) (c r a : Int) : S4 × Int × Int :=
 if QueueOk s ∧ OpOk c r a then
  if c = 0 then (if (s.get r).length ≥ 4 then (s, 0, 0) else (s.put r (s.get r ++ [a]), 1, 0))
  else if c = 1 then (s.put r (s.get r).tail, firstL (s.get r), 0)
  else if c = 2 then (s, ((s.get r).length : Int), 0) else (s, ((allL s).length : Int), 0)
 else (S4.none, 0, e)
theorem Sl.rest {h : AH} {b n : Nat} {x : Int} {xs : List Int} (hb : h[b]? = some (.cells (ints (x :: xs)))) (hn : xs.length + 1 = n) : Sl 1 h (some ⟨b, 1, some 1⟩) (n - 1) (n - 1) (ints xs) := by
 refine ⟨?_, Nat.le_refl _, by rw [ints_len]; omega, fun h0 => by cases h0⟩
 simp only [aElems]
 rw [if_pos (Nat.le_refl _)]
 by_cases h0 : (n - 1) * 1 = 0
 ·rw [if_pos h0]
  have : xs = [] := List.eq_nil_of_length_eq_zero (by omega)
  rw [this]; rfl
 ·rw [if_neg h0]
  simp only [cellsOf, hb, Option.bind_some]
  rw [if_pos (by rw [ints_len]; simp; omega)]
  simp only [ints, List.map_cons, List.drop_succ_cons, List.drop_zero]
  rw [List.take_of_length_le (by simp; omega)]
section
variable (X : Ext) (F : FuncId → Option RFunc) (g : FuncId)
abbrev S_qApply : Prop := S_ApplyOf X F g (QueueM 500)
end
section
variable {X : Ext} {F : FuncId → Option RFunc} {f : FuncId}
theorem s_qApply {g0 g1 g2 g3 g4 g5 k0 : Nat} (hX : X f = none) (hF : F f = some (rf_qApply g0 g1 g2 g3 g4 g5)) (c0 : S_qMay X F g0) (c1 : S_oMay X F g1) (hX2 : X g2 = none) (hF2 : F g2 = some (rf_sCopy k0)) (hX3 : X k0 = none) (hF3 : F k0 = some rf_Clone) (c3' : S_in2 X F g3) (c4' : S_out2 X F g4) (c5 : S_fMany X F g5) : S_qApply X F f := by
 intro lim h r0 r1 r2 r3 c r a hlim hst
 have hL := Loc.start h
 have c2 : S_CopyP X F g2 := copyP hX2 hF2 hX3 hF3
 have z1 : ¬ (QueueOk ⟨r0.xs, r1.xs, r2.xs, r3.xs⟩ ∧ OpOk c r a) → QueueM 500 ⟨r0.xs, r1.xs, r2.xs, r3.xs⟩ c r a = (S4.none, 0, 500) := fun hh => if_neg hh
 refine Ret.body hX hF rfl ?_
 simp only [argL, rf_qApply]
 (refine Cs (Co (Wc ?_)); refine OL.boxA hL rfl rfl (fun b h' hL => (Wc ?_)); refine OL.boxA hL rfl rfl (fun b h' hL => (Wc ?_)); refine OL.new hL (fun b h' hL => (Wm rfl (Wm rfl (Wt ?_)))); refine Cs (Cs (Co (Wc (OL.loadAll (k := 2) hL rfl rfl rfl (Wc ?_))))); refine OL.callB hL rfl rfl (c0 _ _ (by first | omega | assumption | exact St.pfx (by assumption) hL.pfx | exact hL.stM (by repeat (first | exact mh | apply mt)) | exact RowOk.pfx (by assumption) hL.pfx | exact (hL.stM (by repeat (first | exact mh | apply mt))).1 | exact (hL.stM (by repeat (first | exact mh | apply mt))).2.1 | exact (hL.stM (by repeat (first | exact mh | apply mt))).2.2.1 | exact (hL.stM (by repeat (first | exact mh | apply mt))).2.2.2)) (fun h' hp hL hc => ?_) (fun h' hp hL hc => ?_); refine Wc (OP.not rfl (Wm rfl (WO.yes rfl (Wc (OL.loadAll (k := 1) hL rfl rfl rfl (WO.yes rfl (Wc ?_))))))); refine OL.callB hL rfl rfl (c1 _ _) (fun h' hp hL hc => ?_) (fun h' hp hL hc => ?_); refine WO.yes rfl (Wc (OP.not rfl (Wc (OP.pickF rfl rfl (Wt ?_))))); refine WC.condF rfl (Ks ?_); refine Cs (Co (Wc (OL.loadAll (k := 2) hL rfl rfl rfl ?_))))
 have hc1 : QueueOk ⟨r0.xs, r1.xs, r2.xs, r3.xs⟩ := by assumption
 have hlen : ((r0.xs.length : Int) ≤ 4 ∧ ArgsOk r0.xs) ∧ ((r1.xs.length : Int) ≤ 4 ∧ ArgsOk r1.xs) ∧ ((r2.xs.length : Int) ≤ 4 ∧ ArgsOk r2.xs) ∧ ((r3.xs.length : Int) ≤ 4 ∧ ArgsOk r3.xs) := hc1
 have hln : r0.xs.length ≤ 4 ∧ r1.xs.length ≤ 4 ∧ r2.xs.length ≤ 4 ∧ r3.xs.length ≤ 4 := ⟨by have := hlen.1.1; omega, by have := hlen.2.1.1; omega, by have := hlen.2.2.1.1; omega, by have := hlen.2.2.2.1; omega⟩
 have zc0 : c = 0 → ¬ (S4.get ⟨r0.xs, r1.xs, r2.xs, r3.xs⟩ r).length ≥ 4 → QueueM 500 ⟨r0.xs, r1.xs, r2.xs, r3.xs⟩ c r a = (S4.put ⟨r0.xs, r1.xs, r2.xs, r3.xs⟩ r (S4.get ⟨r0.xs, r1.xs, r2.xs, r3.xs⟩ r ++ [a]), 1, 0) := fun h h2 => (if_pos ⟨hc1, by assumption⟩).trans ((if_pos h).trans (if_neg h2))
 have zc0f : c = 0 → (S4.get ⟨r0.xs, r1.xs, r2.xs, r3.xs⟩ r).length ≥ 4 → QueueM 500 ⟨r0.xs, r1.xs, r2.xs, r3.xs⟩ c r a = (⟨r0.xs, r1.xs, r2.xs, r3.xs⟩, 0, 0) := fun h h2 => (if_pos ⟨hc1, by assumption⟩).trans ((if_pos h).trans (if_pos h2))
 have zc1 : c = 1 → QueueM 500 ⟨r0.xs, r1.xs, r2.xs, r3.xs⟩ c r a = (S4.put ⟨r0.xs, r1.xs, r2.xs, r3.xs⟩ r (S4.get ⟨r0.xs, r1.xs, r2.xs, r3.xs⟩ r).tail, firstL (S4.get ⟨r0.xs, r1.xs, r2.xs, r3.xs⟩ r), 0) := fun h => (if_pos ⟨hc1, by assumption⟩).trans ((if_neg (by omega)).trans (if_pos h))
 have zc2 : c = 2 → QueueM 500 ⟨r0.xs, r1.xs, r2.xs, r3.xs⟩ c r a = (⟨r0.xs, r1.xs, r2.xs, r3.xs⟩, ((S4.get ⟨r0.xs, r1.xs, r2.xs, r3.xs⟩ r).length : Int), 0) := fun h => (if_pos ⟨hc1, by assumption⟩).trans ((if_neg (by omega)).trans ((if_neg (by omega)).trans (if_pos h)))
 have zc3 : c = 3 → QueueM 500 ⟨r0.xs, r1.xs, r2.xs, r3.xs⟩ c r a = (⟨r0.xs, r1.xs, r2.xs, r3.xs⟩, ((allL ⟨r0.xs, r1.xs, r2.xs, r3.xs⟩).length : Int), 0) := fun h => (if_pos ⟨hc1, by assumption⟩).trans ((if_neg (by omega)).trans ((if_neg (by omega)).trans (if_neg (by omega))))
 clear z1
 (refine Wc ?_)
 refine OL.callS4 hL rfl rfl (c2 _ _ (hL.lm hlim) (hst.pfx hL.pfx)) (fun a0 n0 a1 n1 a2 n2 a3 n3 l1 l2 l3 h' hy hp hL => ?_)
 dsimp only at hL hy ⊢
 (refine Wc ?_; refine OL.new hL (fun b h' hL => (WO.cons0 ?_)); refine OL.storeAll (k := 0) hL hlim rfl rfl rfl rfl rfl rfl (by decide) rfl (fun h' hL => ?_); dsimp only [List.set, Nat.zero_add, Nat.reduceAdd, Nat.reduceMul] at hL; refine Wm rfl (Wt ?_); refine Cs (Co (Wc (OP.fieldAddr0 rfl (Wc (OL.load1 (k := 6) hL rfl rfl rfl (Wc (OP.fieldAddr0 rfl ?_))))))))
 dsimp only [Row.v] at hL ⊢
 have hr : r = 0 ∨ r = 1 ∨ r = 2 ∨ r = 3 := by omega
 have hcc : c = 0 ∨ c = 1 ∨ c = 2 ∨ c = 3 := by omega
 rcases hr with rfl | rfl | rfl | rfl
 ·rcases hcc with rfl | rfl | rfl | rfl
  ·by_cases hfull : n0 = 4
   ·subst hfull
    have c6 := c3'.2
    (refine Wc (OP.idxArrZ rfl rfl (by decide) (by simp only [Int.reduceToNat, Nat.mul_one, Nat.zero_add, Nat.reduceMul, Nat.reduceAdd]; rfl) ?_); refine Wm rfl (Wt ?_); refine Cs (Cs (Co (Wc (OP.fieldAddr0 rfl (Wc (OL.load1 (k := 6) hL rfl rfl rfl (Wt ?_))))))); refine WC.block (Cs (Co (Wc (OP.eqlT rfl rfl (by omega) ?_)))); refine Wm rfl (Wt ?_); refine WC.condT rfl (Co (WO.consQ (OP.mv rfl (WO.consQ (OP.mv rfl (WO.consQ (OP.nilP rfl (WO.consQ (OL.load1 (k := 0) hL rfl rfl rfl (WO.consQ (OP.fieldAddr0 rfl (WO.consQ (OL.load1 (k := 6) hL rfl rfl rfl (Wc ?_)))))))))))))); refine OL.callV hL rfl rfl (c6 _ _) (fun h' hp hL => (Wm rfl (Wc (OP.extract rfl rfl (WO.consQ (OP.extract rfl rfl (Wc (OP.nilP rfl (WO.cons0 ?_))))))))); refine OL.store1 (k := 0) hL hlim rfl rfl rfl rfl rfl rfl rfl (fun h' hL => ?_); dsimp only [List.set, Nat.zero_add, Nat.reduceAdd, Nat.reduceMul] at hL; refine Wm rfl (Wt ?_); refine Cs (Co (Wc (OL.loadAll (k := 0) hL rfl rfl rfl (Wm rfl (WO.cons0 ?_))))); refine OL.storeAll (k := 5) hL hlim rfl rfl rfl rfl rfl rfl (by decide) rfl (fun h' hL => ?_); dsimp only [List.set, Nat.zero_add, Nat.reduceAdd, Nat.reduceMul] at hL; refine Wm rfl (Wm rfl (Wt ?_)); refine WC.ret ?_)
    rw [zc0f rfl (by show r0.xs.length ≥ 4; omega)]
    have A0 := hL.rA (n := 4) (xs := r0.xs)
    have A1 := hL.rA (n := n1) (xs := r1.xs)
    have A2 := hL.rA (n := n2) (xs := r2.xs)
    have A3 := hL.rA (n := n3) (xs := r3.xs)
    exact Fin.ret (resL_cell rfl (hL.cell (k := 5) rfl) rfl rfl) ⟨hL.pfx, ⟨a0, 4, r0.xs⟩, ⟨a1, n1, r1.xs⟩, ⟨a2, n2, r2.xs⟩, ⟨a3, n3, r3.xs⟩, rfl, ⟨rfl, rfl, rfl, rfl⟩, ⟨A0.1, A1.1, A2.1, A3.1⟩, A0.2, A1.2, A2.2, A3.2⟩
   ·(refine Wc (OP.idxArrZ rfl rfl (by decide) (by simp only [Int.reduceToNat, Nat.mul_one, Nat.zero_add, Nat.reduceMul, Nat.reduceAdd]; rfl) ?_); refine Wm rfl (Wt ?_); refine Cs (Cs (Co (Wc (OP.fieldAddr0 rfl (Wc (OL.load1 (k := 6) hL rfl rfl rfl (Wt ?_))))))); refine WC.block (Cs (Co (Wc (OP.eqlT rfl rfl (by omega) ?_)))); refine Wm rfl (Wt ?_); refine WC.condT rfl (Co (WO.consQ (OP.mv rfl (WO.consQ (OP.mv rfl (WO.consQ (OP.nilP rfl (WO.consQ (OL.load1 (k := 0) hL rfl rfl rfl (WO.consQ (OP.fieldAddr0 rfl (WO.consQ (OL.load1 (k := 6) hL rfl rfl rfl ?_))))))))))))))
    (refine Wc ?_)
    refine OL.callGrow (k := 4) hL rfl rfl rfl (c3'.1 _ _ (Nat.le_trans hlim (hL.lo (k := 4) rfl)) (hL.toEnd (k := 4) rfl) (hL.mid (i := 4) rfl) (by omega) (hL.get (k := 4) rfl)) (fun a' h' hL => ?_)
    dsimp only [List.set] at hL
    (refine Wm rfl (Wc (OP.extract rfl rfl (WO.consQ (OP.extract rfl rfl (Wc (OP.nilP rfl (WO.cons0 ?_))))))); refine OL.store1 (k := 1) hL hlim rfl rfl rfl rfl rfl rfl rfl (fun h' hL => ?_); dsimp only [List.set, Nat.zero_add, Nat.reduceAdd, Nat.reduceMul] at hL; refine Wm rfl (Wt ?_); refine Cs (Co (Wc (OL.loadAll (k := 1) hL rfl rfl rfl (Wm rfl (WO.cons0 ?_))))); refine OL.storeAll (k := 6) hL hlim rfl rfl rfl rfl rfl rfl (by decide) rfl (fun h' hL => ?_); dsimp only [List.set, Nat.zero_add, Nat.reduceAdd, Nat.reduceMul] at hL; refine Wm rfl (Wm rfl (Wt ?_)); refine WC.ret ?_)
    rw [zc0 rfl (by show ¬ r0.xs.length ≥ 4; omega), show S4.get ⟨r0.xs, r1.xs, r2.xs, r3.xs⟩ 0 = r0.xs from rfl]
    have hw := hL.rA (n := n0 + 1) (xs := r0.xs ++ [a])
    have A1 := hL.rA (n := n1) (xs := r1.xs)
    have A2 := hL.rA (n := n2) (xs := r2.xs)
    have A3 := hL.rA (n := n3) (xs := r3.xs)
    exact Fin.ret (resL_cell rfl (hL.cell (k := 6) rfl) rfl rfl) ⟨hL.pfx, ⟨a', n0 + 1, r0.xs ++ [a]⟩, ⟨a1, n1, r1.xs⟩, ⟨a2, n2, r2.xs⟩, ⟨a3, n3, r3.xs⟩, rfl, ⟨rfl, rfl, rfl, rfl⟩, ⟨hw.1, A1.1, A2.1, A3.1⟩, hw.2, A1.2, A2.2, A3.2⟩
  ·by_cases h0 : n0 = 0
   ·subst h0
    have c6 := c4'.2
    (refine Wc (OP.idxArrZ rfl rfl (by decide) (by simp only [Int.reduceToNat, Nat.mul_one, Nat.zero_add, Nat.reduceMul, Nat.reduceAdd]; rfl) ?_); refine Wm rfl (Wt ?_); refine Cs (Cs (Co (Wc (OP.fieldAddr0 rfl (Wc (OL.load1 (k := 6) hL rfl rfl rfl (Wt ?_))))))); refine WC.block (Cs (Co (Wc (OP.eqlF rfl rfl (by omega) ?_)))); refine Wm rfl (Wt ?_); refine WC.condF rfl (Cs (Co (Wc (OP.eqlT rfl rfl (by omega) ?_)))); refine Wm rfl (Wt ?_); refine WC.condT rfl (Co (Wm rfl (Wm rfl (Wc (OP.nilP rfl (Wc (OL.load1 (k := 0) hL rfl rfl rfl (Wc ?_)))))))); refine OL.callV hL rfl rfl (c6 _ _) (fun h' hp hL => (Wm rfl (Wc (OP.extract rfl rfl (Wc (OP.extract rfl rfl (Wc (OP.nilP rfl (WO.cons0 ?_))))))))); refine OL.store1 (k := 0) hL hlim rfl rfl rfl rfl rfl rfl rfl (fun h' hL => ?_); dsimp only [List.set, Nat.zero_add, Nat.reduceAdd, Nat.reduceMul] at hL; refine Wm rfl (Wt ?_); refine Cs (Co (Wc (OL.loadAll (k := 0) hL rfl rfl rfl (Wm rfl (WO.cons0 ?_))))); refine OL.storeAll (k := 5) hL hlim rfl rfl rfl rfl rfl rfl (by decide) rfl (fun h' hL => ?_); dsimp only [List.set, Nat.zero_add, Nat.reduceAdd, Nat.reduceMul] at hL; refine Wm rfl (Wm rfl (Wt ?_)); refine WC.ret ?_)
    have e0 : r0.xs = [] := List.eq_nil_of_length_eq_zero (by omega)
    have hw := hL.rA (n := 0) (xs := r0.xs)
    rw [zc1 rfl, show S4.get ⟨r0.xs, r1.xs, r2.xs, r3.xs⟩ 0 = r0.xs from rfl, firstL_nil (by omega)]
    rw [show r0.xs.tail = r0.xs by rw [e0]; rfl]
    have A1 := hL.rA (n := n1) (xs := r1.xs)
    have A2 := hL.rA (n := n2) (xs := r2.xs)
    have A3 := hL.rA (n := n3) (xs := r3.xs)
    exact Fin.ret (resL_cell rfl (hL.cell (k := 5) rfl) rfl rfl) ⟨hL.pfx, ⟨a0, 0, r0.xs⟩, ⟨a1, n1, r1.xs⟩, ⟨a2, n2, r2.xs⟩, ⟨a3, n3, r3.xs⟩, rfl, ⟨rfl, rfl, rfl, rfl⟩, ⟨hw.1, A1.1, A2.1, A3.1⟩, hw.2, A1.2, A2.2, A3.2⟩
   ·obtain ⟨bb, haa, hbb, hb1, hb2⟩ := Ap.pos (hL.get (k := 4) rfl) (by omega)
    subst haa
    obtain ⟨y, ys, hys⟩ : ∃ y ys, r0.xs = y :: ys := by
     cases hx : r0.xs with
     | nil => rw [hx] at hy; simp at hy; omega
     | cons y ys => exact ⟨y, ys, rfl⟩
    have hyl : ys.length + 1 = n0 := by have := hy; rw [hys] at this; simp at this; omega
    have hbb2 : h'[bb]? = some (.cells (ints (y :: ys))) := hys ▸ hbb
    have hq : ∀ lim h2, Pfx h' h2 → Ret X F lim g4 [.slice (some ⟨bb, 0, some 1⟩) n0 n0] h2 fun v h3 => Pfx h2 h3 ∧ v = .tuple #[.slice (some ⟨bb, 1, some 1⟩) (n0 - 1) (n0 - 1), .int .i64 y] := fun lim h2 hp => c4'.1 lim h2 ((hp.2 bb (List.getElem?_eq_some_iff.1 hbb2).1).trans hbb2) hyl
    (refine Wc (OP.idxArrZ rfl rfl (by decide) (by simp only [Int.reduceToNat, Nat.mul_one, Nat.zero_add, Nat.reduceMul, Nat.reduceAdd]; rfl) ?_); refine Wm rfl (Wt ?_); refine Cs (Cs (Co (Wc (OP.fieldAddr0 rfl (Wc (OL.load1 (k := 6) hL rfl rfl rfl (Wt ?_))))))); refine WC.block (Cs (Co (Wc (OP.eqlF rfl rfl (by omega) ?_)))); refine Wm rfl (Wt ?_); refine WC.condF rfl (Cs (Co (Wc (OP.eqlT rfl rfl (by omega) ?_)))); refine Wm rfl (Wt ?_); refine WC.condT rfl (Co (Wm rfl (Wm rfl (Wc (OP.nilP rfl (Wc (OL.load1 (k := 0) hL rfl rfl rfl ?_))))))))
    (refine Wc ?_)
    refine OL.callV hL rfl rfl (hq _ _ (Pfx.refl _)) (fun h4 hp4 hL => ?_)
    (refine Wm rfl (Wc (OP.extract rfl rfl (Wc (OP.extract rfl rfl (Wc (OP.nilP rfl (WO.cons0 ?_))))))); refine OL.store1 (k := 0) hL hlim rfl rfl rfl rfl rfl rfl rfl (fun h' hL => ?_); dsimp only [List.set, Nat.zero_add, Nat.reduceAdd, Nat.reduceMul] at hL; refine Wm rfl (Wt ?_); refine Cs (Co (Wc (OL.loadAll (k := 0) hL rfl rfl rfl (Wm rfl (WO.cons0 ?_))))); refine OL.storeAll (k := 5) hL hlim rfl rfl rfl rfl rfl rfl (by decide) rfl (fun h' hL => ?_); dsimp only [List.set, Nat.zero_add, Nat.reduceAdd, Nat.reduceMul] at hL; refine Wm rfl (Wm rfl (Wt ?_)); refine WC.ret ?_)
    have hb4 := hL.get (k := 4) rfl
    have hw : RowOk h' ⟨some ⟨bb, 1, some 1⟩, n0 - 1, ys⟩ ∧ RowIn h.length h'.length ⟨some ⟨bb, 1, some 1⟩, n0 - 1, ys⟩ := by
     have hbx := (Ap.pos hb4 (by omega))
     obtain ⟨b5, e5, e6, e7, e8⟩ := hbx
     cases e5
     rw [hys] at e6
     exact ⟨⟨Sl.rest e6 hyl, by show n0 - 1 ≤ 2 ^ 44; omega⟩, fun x hx _ => by cases hx; exact ⟨Nat.le_trans (hL.lo (k := 4) rfl) e7, Nat.lt_of_lt_of_le e8 (hL.toEnd (k := 4) rfl)⟩⟩
    rw [zc1 rfl, show S4.get ⟨r0.xs, r1.xs, r2.xs, r3.xs⟩ 0 = r0.xs from rfl]
    rw [hys]
    have A1 := hL.rA (n := n1) (xs := r1.xs)
    have A2 := hL.rA (n := n2) (xs := r2.xs)
    have A3 := hL.rA (n := n3) (xs := r3.xs)
    exact Fin.ret (resL_cell rfl (hL.cell (k := 5) rfl) rfl rfl) ⟨hL.pfx, ⟨_, _, ys⟩, ⟨a1, n1, r1.xs⟩, ⟨a2, n2, r2.xs⟩, ⟨a3, n3, r3.xs⟩, rfl, ⟨rfl, rfl, rfl, rfl⟩, ⟨hw.1, A1.1, A2.1, A3.1⟩, hw.2, A1.2, A2.2, A3.2⟩
  ·(refine Wc (OP.idxArrZ rfl rfl (by decide) (by simp only [Int.reduceToNat, Nat.mul_one, Nat.zero_add, Nat.reduceMul, Nat.reduceAdd]; rfl) ?_); refine Wm rfl (Wt ?_); refine Cs (Cs (Co (Wc (OP.fieldAddr0 rfl (Wc (OL.load1 (k := 6) hL rfl rfl rfl (Wt ?_))))))); refine WC.block (Cs (Co (Wc (OP.eqlF rfl rfl (by omega) ?_)))); refine Wm rfl (Wt ?_); refine WC.condF rfl (Cs (Co (Wc (OP.eqlF rfl rfl (by omega) ?_)))); refine Wm rfl (Wt ?_); refine WC.condF rfl (Cs (Co (Wc (OP.eqlT rfl rfl (by omega) ?_)))); refine Wm rfl (Wt ?_); refine WC.condT rfl (Co (Wm rfl (Wc (OP.nilP rfl (Wc (OL.load1 (k := 0) hL rfl rfl rfl (Wc (OP.lenS rfl (Wm rfl (Wt ?_)))))))))); refine Cs (Co (Wc (OL.loadAll (k := 0) hL rfl rfl rfl (Wm rfl (WO.cons0 ?_))))); refine OL.storeAll (k := 5) hL hlim rfl rfl rfl rfl rfl rfl (by decide) rfl (fun h' hL => ?_); dsimp only [List.set, Nat.zero_add, Nat.reduceAdd, Nat.reduceMul] at hL; refine Wm rfl (Wm rfl (Wt ?_)); refine WC.ret ?_)
   rw [zc2 rfl, show S4.get ⟨r0.xs, r1.xs, r2.xs, r3.xs⟩ 0 = r0.xs from rfl, show r0.xs.length = n0 by omega]
   have A0 := hL.rA (n := n0) (xs := r0.xs)
   have A1 := hL.rA (n := n1) (xs := r1.xs)
   have A2 := hL.rA (n := n2) (xs := r2.xs)
   have A3 := hL.rA (n := n3) (xs := r3.xs)
   exact Fin.ret (resL_cell rfl (hL.cell (k := 5) rfl) rfl rfl) ⟨hL.pfx, ⟨a0, n0, r0.xs⟩, ⟨a1, n1, r1.xs⟩, ⟨a2, n2, r2.xs⟩, ⟨a3, n3, r3.xs⟩, rfl, ⟨rfl, rfl, rfl, rfl⟩, ⟨A0.1, A1.1, A2.1, A3.1⟩, A0.2, A1.2, A2.2, A3.2⟩
  ·(refine Wc (OP.idxArrZ rfl rfl (by decide) (by simp only [Int.reduceToNat, Nat.mul_one, Nat.zero_add, Nat.reduceMul, Nat.reduceAdd]; rfl) ?_); refine Wm rfl (Wt ?_); refine Cs (Cs (Co (Wc (OP.fieldAddr0 rfl (Wc (OL.load1 (k := 6) hL rfl rfl rfl (Wt ?_))))))); refine WC.block (Cs (Co (Wc (OP.eqlF rfl rfl (by omega) ?_)))); refine Wm rfl (Wt ?_); refine WC.condF rfl (Cs (Co (Wc (OP.eqlF rfl rfl (by omega) ?_)))); refine Wm rfl (Wt ?_); refine WC.condF rfl (Cs (Co (Wc (OP.eqlF rfl rfl (by omega) ?_)))); refine Wm rfl (Wt ?_); refine WC.condF rfl (Co ?_))
   (refine Wc ?_)
   have A0 := hL.rA (n := n0) (xs := r0.xs)
   have A1 := hL.rA (n := n1) (xs := r1.xs)
   have A2 := hL.rA (n := n2) (xs := r2.xs)
   have A3 := hL.rA (n := n3) (xs := r3.xs)
   refine OL.callV hL rfl rfl (c5 _ _ (hL.lm hlim) (r0 := ⟨a0, n0, r0.xs⟩) (r1 := ⟨a1, n1, r1.xs⟩) (r2 := ⟨a2, n2, r2.xs⟩) (r3 := ⟨a3, n3, r3.xs⟩) (hL.cell (k := 0) rfl) ⟨A0.1, A1.1, A2.1, A3.1⟩ ⟨by show n0 ≤ 2 ^ 40; omega, by show n1 ≤ 2 ^ 40; omega, by show n2 ≤ 2 ^ 40; omega, by show n3 ≤ 2 ^ 40; omega⟩) (fun h' hp hL => ?_)
   clear A0 A1 A2 A3
   (refine Wm rfl (Wt ?_); refine Cs (Co (Wc (OL.loadAll (k := 0) hL rfl rfl rfl (Wm rfl (WO.cons0 ?_))))); refine OL.storeAll (k := 5) hL hlim rfl rfl rfl rfl rfl rfl (by decide) rfl (fun h' hL => ?_); dsimp only [List.set, Nat.zero_add, Nat.reduceAdd, Nat.reduceMul] at hL; refine Wm rfl (Wm rfl (Wt ?_)); refine WC.ret ?_)
   rw [zc3 rfl, show (allL ⟨r0.xs, r1.xs, r2.xs, r3.xs⟩).length = n0 + n1 + n2 + n3 by simp [allL]; omega]
   have A0 := hL.rA (n := n0) (xs := r0.xs)
   have A1 := hL.rA (n := n1) (xs := r1.xs)
   have A2 := hL.rA (n := n2) (xs := r2.xs)
   have A3 := hL.rA (n := n3) (xs := r3.xs)
   exact Fin.ret (resL_cell rfl (hL.cell (k := 5) rfl) rfl rfl) ⟨hL.pfx, ⟨a0, n0, r0.xs⟩, ⟨a1, n1, r1.xs⟩, ⟨a2, n2, r2.xs⟩, ⟨a3, n3, r3.xs⟩, rfl, ⟨rfl, rfl, rfl, rfl⟩, ⟨A0.1, A1.1, A2.1, A3.1⟩, A0.2, A1.2, A2.2, A3.2⟩
 ·rcases hcc with rfl | rfl | rfl | rfl
  ·by_cases hfull : n1 = 4
   ·subst hfull
    have c6 := c3'.2
    (refine Wc (OP.idxArrZ rfl rfl (by decide) (by simp only [Int.reduceToNat, Nat.mul_one, Nat.zero_add, Nat.reduceMul, Nat.reduceAdd]; rfl) ?_); refine Wm rfl (Wt ?_); refine Cs (Cs (Co (Wc (OP.fieldAddr0 rfl (Wc (OL.load1 (k := 6) hL rfl rfl rfl (Wt ?_))))))); refine WC.block (Cs (Co (Wc (OP.eqlT rfl rfl (by omega) ?_)))); refine Wm rfl (Wt ?_); refine WC.condT rfl (Co (WO.consQ (OP.mv rfl (WO.consQ (OP.mv rfl (WO.consQ (OP.nilP rfl (WO.consQ (OL.load1 (k := 0) hL rfl rfl rfl (WO.consQ (OP.fieldAddr0 rfl (WO.consQ (OL.load1 (k := 6) hL rfl rfl rfl (Wc ?_)))))))))))))); refine OL.callV hL rfl rfl (c6 _ _) (fun h' hp hL => (Wm rfl (Wc (OP.extract rfl rfl (WO.consQ (OP.extract rfl rfl (Wc (OP.nilP rfl (WO.cons0 ?_))))))))); refine OL.store1 (k := 0) hL hlim rfl rfl rfl rfl rfl rfl rfl (fun h' hL => ?_); dsimp only [List.set, Nat.zero_add, Nat.reduceAdd, Nat.reduceMul] at hL; refine Wm rfl (Wt ?_); refine Cs (Co (Wc (OL.loadAll (k := 0) hL rfl rfl rfl (Wm rfl (WO.cons0 ?_))))); refine OL.storeAll (k := 5) hL hlim rfl rfl rfl rfl rfl rfl (by decide) rfl (fun h' hL => ?_); dsimp only [List.set, Nat.zero_add, Nat.reduceAdd, Nat.reduceMul] at hL; refine Wm rfl (Wm rfl (Wt ?_)); refine WC.ret ?_)
    rw [zc0f rfl (by show r1.xs.length ≥ 4; omega)]
    have A0 := hL.rA (n := n0) (xs := r0.xs)
    have A1 := hL.rA (n := 4) (xs := r1.xs)
    have A2 := hL.rA (n := n2) (xs := r2.xs)
    have A3 := hL.rA (n := n3) (xs := r3.xs)
    exact Fin.ret (resL_cell rfl (hL.cell (k := 5) rfl) rfl rfl) ⟨hL.pfx, ⟨a0, n0, r0.xs⟩, ⟨a1, 4, r1.xs⟩, ⟨a2, n2, r2.xs⟩, ⟨a3, n3, r3.xs⟩, rfl, ⟨rfl, rfl, rfl, rfl⟩, ⟨A0.1, A1.1, A2.1, A3.1⟩, A0.2, A1.2, A2.2, A3.2⟩
   ·(refine Wc (OP.idxArrZ rfl rfl (by decide) (by simp only [Int.reduceToNat, Nat.mul_one, Nat.zero_add, Nat.reduceMul, Nat.reduceAdd]; rfl) ?_); refine Wm rfl (Wt ?_); refine Cs (Cs (Co (Wc (OP.fieldAddr0 rfl (Wc (OL.load1 (k := 6) hL rfl rfl rfl (Wt ?_))))))); refine WC.block (Cs (Co (Wc (OP.eqlT rfl rfl (by omega) ?_)))); refine Wm rfl (Wt ?_); refine WC.condT rfl (Co (WO.consQ (OP.mv rfl (WO.consQ (OP.mv rfl (WO.consQ (OP.nilP rfl (WO.consQ (OL.load1 (k := 0) hL rfl rfl rfl (WO.consQ (OP.fieldAddr0 rfl (WO.consQ (OL.load1 (k := 6) hL rfl rfl rfl ?_))))))))))))))
    (refine Wc ?_)
    refine OL.callGrow (k := 3) hL rfl rfl rfl (c3'.1 _ _ (Nat.le_trans hlim (hL.lo (k := 3) rfl)) (hL.toEnd (k := 3) rfl) (hL.mid (i := 3) rfl) (by omega) (hL.get (k := 3) rfl)) (fun a' h' hL => ?_)
    dsimp only [List.set] at hL
    (refine Wm rfl (Wc (OP.extract rfl rfl (WO.consQ (OP.extract rfl rfl (Wc (OP.nilP rfl (WO.cons0 ?_))))))); refine OL.store1 (k := 1) hL hlim rfl rfl rfl rfl rfl rfl rfl (fun h' hL => ?_); dsimp only [List.set, Nat.zero_add, Nat.reduceAdd, Nat.reduceMul] at hL; refine Wm rfl (Wt ?_); refine Cs (Co (Wc (OL.loadAll (k := 1) hL rfl rfl rfl (Wm rfl (WO.cons0 ?_))))); refine OL.storeAll (k := 6) hL hlim rfl rfl rfl rfl rfl rfl (by decide) rfl (fun h' hL => ?_); dsimp only [List.set, Nat.zero_add, Nat.reduceAdd, Nat.reduceMul] at hL; refine Wm rfl (Wm rfl (Wt ?_)); refine WC.ret ?_)
    rw [zc0 rfl (by show ¬ r1.xs.length ≥ 4; omega), show S4.get ⟨r0.xs, r1.xs, r2.xs, r3.xs⟩ 1 = r1.xs from rfl]
    have hw := hL.rA (n := n1 + 1) (xs := r1.xs ++ [a])
    have A0 := hL.rA (n := n0) (xs := r0.xs)
    have A2 := hL.rA (n := n2) (xs := r2.xs)
    have A3 := hL.rA (n := n3) (xs := r3.xs)
    exact Fin.ret (resL_cell rfl (hL.cell (k := 6) rfl) rfl rfl) ⟨hL.pfx, ⟨a0, n0, r0.xs⟩, ⟨a', n1 + 1, r1.xs ++ [a]⟩, ⟨a2, n2, r2.xs⟩, ⟨a3, n3, r3.xs⟩, rfl, ⟨rfl, rfl, rfl, rfl⟩, ⟨A0.1, hw.1, A2.1, A3.1⟩, A0.2, hw.2, A2.2, A3.2⟩
  ·by_cases h0 : n1 = 0
   ·subst h0
    have c6 := c4'.2
    (refine Wc (OP.idxArrZ rfl rfl (by decide) (by simp only [Int.reduceToNat, Nat.mul_one, Nat.zero_add, Nat.reduceMul, Nat.reduceAdd]; rfl) ?_); refine Wm rfl (Wt ?_); refine Cs (Cs (Co (Wc (OP.fieldAddr0 rfl (Wc (OL.load1 (k := 6) hL rfl rfl rfl (Wt ?_))))))); refine WC.block (Cs (Co (Wc (OP.eqlF rfl rfl (by omega) ?_)))); refine Wm rfl (Wt ?_); refine WC.condF rfl (Cs (Co (Wc (OP.eqlT rfl rfl (by omega) ?_)))); refine Wm rfl (Wt ?_); refine WC.condT rfl (Co (Wm rfl (Wm rfl (Wc (OP.nilP rfl (Wc (OL.load1 (k := 0) hL rfl rfl rfl (Wc ?_)))))))); refine OL.callV hL rfl rfl (c6 _ _) (fun h' hp hL => (Wm rfl (Wc (OP.extract rfl rfl (Wc (OP.extract rfl rfl (Wc (OP.nilP rfl (WO.cons0 ?_))))))))); refine OL.store1 (k := 0) hL hlim rfl rfl rfl rfl rfl rfl rfl (fun h' hL => ?_); dsimp only [List.set, Nat.zero_add, Nat.reduceAdd, Nat.reduceMul] at hL; refine Wm rfl (Wt ?_); refine Cs (Co (Wc (OL.loadAll (k := 0) hL rfl rfl rfl (Wm rfl (WO.cons0 ?_))))); refine OL.storeAll (k := 5) hL hlim rfl rfl rfl rfl rfl rfl (by decide) rfl (fun h' hL => ?_); dsimp only [List.set, Nat.zero_add, Nat.reduceAdd, Nat.reduceMul] at hL; refine Wm rfl (Wm rfl (Wt ?_)); refine WC.ret ?_)
    have e0 : r1.xs = [] := List.eq_nil_of_length_eq_zero (by omega)
    have hw := hL.rA (n := 0) (xs := r1.xs)
    rw [zc1 rfl, show S4.get ⟨r0.xs, r1.xs, r2.xs, r3.xs⟩ 1 = r1.xs from rfl, firstL_nil (by omega)]
    rw [show r1.xs.tail = r1.xs by rw [e0]; rfl]
    have A0 := hL.rA (n := n0) (xs := r0.xs)
    have A2 := hL.rA (n := n2) (xs := r2.xs)
    have A3 := hL.rA (n := n3) (xs := r3.xs)
    exact Fin.ret (resL_cell rfl (hL.cell (k := 5) rfl) rfl rfl) ⟨hL.pfx, ⟨a0, n0, r0.xs⟩, ⟨a1, 0, r1.xs⟩, ⟨a2, n2, r2.xs⟩, ⟨a3, n3, r3.xs⟩, rfl, ⟨rfl, rfl, rfl, rfl⟩, ⟨A0.1, hw.1, A2.1, A3.1⟩, A0.2, hw.2, A2.2, A3.2⟩
   ·obtain ⟨bb, haa, hbb, hb1, hb2⟩ := Ap.pos (hL.get (k := 3) rfl) (by omega)
    subst haa
    obtain ⟨y, ys, hys⟩ : ∃ y ys, r1.xs = y :: ys := by
     cases hx : r1.xs with
     | nil => rw [hx] at hy; simp at hy; omega
     | cons y ys => exact ⟨y, ys, rfl⟩
    have hyl : ys.length + 1 = n1 := by have := hy; rw [hys] at this; simp at this; omega
    have hbb2 : h'[bb]? = some (.cells (ints (y :: ys))) := hys ▸ hbb
    have hq : ∀ lim h2, Pfx h' h2 → Ret X F lim g4 [.slice (some ⟨bb, 0, some 1⟩) n1 n1] h2 fun v h3 => Pfx h2 h3 ∧ v = .tuple #[.slice (some ⟨bb, 1, some 1⟩) (n1 - 1) (n1 - 1), .int .i64 y] := fun lim h2 hp => c4'.1 lim h2 ((hp.2 bb (List.getElem?_eq_some_iff.1 hbb2).1).trans hbb2) hyl
    (refine Wc (OP.idxArrZ rfl rfl (by decide) (by simp only [Int.reduceToNat, Nat.mul_one, Nat.zero_add, Nat.reduceMul, Nat.reduceAdd]; rfl) ?_); refine Wm rfl (Wt ?_); refine Cs (Cs (Co (Wc (OP.fieldAddr0 rfl (Wc (OL.load1 (k := 6) hL rfl rfl rfl (Wt ?_))))))); refine WC.block (Cs (Co (Wc (OP.eqlF rfl rfl (by omega) ?_)))); refine Wm rfl (Wt ?_); refine WC.condF rfl (Cs (Co (Wc (OP.eqlT rfl rfl (by omega) ?_)))); refine Wm rfl (Wt ?_); refine WC.condT rfl (Co (Wm rfl (Wm rfl (Wc (OP.nilP rfl (Wc (OL.load1 (k := 0) hL rfl rfl rfl ?_))))))))
    (refine Wc ?_)
    refine OL.callV hL rfl rfl (hq _ _ (Pfx.refl _)) (fun h4 hp4 hL => ?_)
    (refine Wm rfl (Wc (OP.extract rfl rfl (Wc (OP.extract rfl rfl (Wc (OP.nilP rfl (WO.cons0 ?_))))))); refine OL.store1 (k := 0) hL hlim rfl rfl rfl rfl rfl rfl rfl (fun h' hL => ?_); dsimp only [List.set, Nat.zero_add, Nat.reduceAdd, Nat.reduceMul] at hL; refine Wm rfl (Wt ?_); refine Cs (Co (Wc (OL.loadAll (k := 0) hL rfl rfl rfl (Wm rfl (WO.cons0 ?_))))); refine OL.storeAll (k := 5) hL hlim rfl rfl rfl rfl rfl rfl (by decide) rfl (fun h' hL => ?_); dsimp only [List.set, Nat.zero_add, Nat.reduceAdd, Nat.reduceMul] at hL; refine Wm rfl (Wm rfl (Wt ?_)); refine WC.ret ?_)
    have hb4 := hL.get (k := 3) rfl
    have hw : RowOk h' ⟨some ⟨bb, 1, some 1⟩, n1 - 1, ys⟩ ∧ RowIn h.length h'.length ⟨some ⟨bb, 1, some 1⟩, n1 - 1, ys⟩ := by
     have hbx := (Ap.pos hb4 (by omega))
     obtain ⟨b5, e5, e6, e7, e8⟩ := hbx
     cases e5
     rw [hys] at e6
     exact ⟨⟨Sl.rest e6 hyl, by show n1 - 1 ≤ 2 ^ 44; omega⟩, fun x hx _ => by cases hx; exact ⟨Nat.le_trans (hL.lo (k := 3) rfl) e7, Nat.lt_of_lt_of_le e8 (hL.toEnd (k := 3) rfl)⟩⟩
    rw [zc1 rfl, show S4.get ⟨r0.xs, r1.xs, r2.xs, r3.xs⟩ 1 = r1.xs from rfl]
    rw [hys]
    have A0 := hL.rA (n := n0) (xs := r0.xs)
    have A2 := hL.rA (n := n2) (xs := r2.xs)
    have A3 := hL.rA (n := n3) (xs := r3.xs)
    exact Fin.ret (resL_cell rfl (hL.cell (k := 5) rfl) rfl rfl) ⟨hL.pfx, ⟨a0, n0, r0.xs⟩, ⟨_, _, ys⟩, ⟨a2, n2, r2.xs⟩, ⟨a3, n3, r3.xs⟩, rfl, ⟨rfl, rfl, rfl, rfl⟩, ⟨A0.1, hw.1, A2.1, A3.1⟩, A0.2, hw.2, A2.2, A3.2⟩
  ·(refine Wc (OP.idxArrZ rfl rfl (by decide) (by simp only [Int.reduceToNat, Nat.mul_one, Nat.zero_add, Nat.reduceMul, Nat.reduceAdd]; rfl) ?_); refine Wm rfl (Wt ?_); refine Cs (Cs (Co (Wc (OP.fieldAddr0 rfl (Wc (OL.load1 (k := 6) hL rfl rfl rfl (Wt ?_))))))); refine WC.block (Cs (Co (Wc (OP.eqlF rfl rfl (by omega) ?_)))); refine Wm rfl (Wt ?_); refine WC.condF rfl (Cs (Co (Wc (OP.eqlF rfl rfl (by omega) ?_)))); refine Wm rfl (Wt ?_); refine WC.condF rfl (Cs (Co (Wc (OP.eqlT rfl rfl (by omega) ?_)))); refine Wm rfl (Wt ?_); refine WC.condT rfl (Co (Wm rfl (Wc (OP.nilP rfl (Wc (OL.load1 (k := 0) hL rfl rfl rfl (Wc (OP.lenS rfl (Wm rfl (Wt ?_)))))))))); refine Cs (Co (Wc (OL.loadAll (k := 0) hL rfl rfl rfl (Wm rfl (WO.cons0 ?_))))); refine OL.storeAll (k := 5) hL hlim rfl rfl rfl rfl rfl rfl (by decide) rfl (fun h' hL => ?_); dsimp only [List.set, Nat.zero_add, Nat.reduceAdd, Nat.reduceMul] at hL; refine Wm rfl (Wm rfl (Wt ?_)); refine WC.ret ?_)
   rw [zc2 rfl, show S4.get ⟨r0.xs, r1.xs, r2.xs, r3.xs⟩ 1 = r1.xs from rfl, show r1.xs.length = n1 by omega]
   have A0 := hL.rA (n := n0) (xs := r0.xs)
   have A1 := hL.rA (n := n1) (xs := r1.xs)
   have A2 := hL.rA (n := n2) (xs := r2.xs)
   have A3 := hL.rA (n := n3) (xs := r3.xs)
   exact Fin.ret (resL_cell rfl (hL.cell (k := 5) rfl) rfl rfl) ⟨hL.pfx, ⟨a0, n0, r0.xs⟩, ⟨a1, n1, r1.xs⟩, ⟨a2, n2, r2.xs⟩, ⟨a3, n3, r3.xs⟩, rfl, ⟨rfl, rfl, rfl, rfl⟩, ⟨A0.1, A1.1, A2.1, A3.1⟩, A0.2, A1.2, A2.2, A3.2⟩
  ·omega
 ·rcases hcc with rfl | rfl | rfl | rfl
  ·by_cases hfull : n2 = 4
   ·subst hfull
    have c6 := c3'.2
    (refine Wc (OP.idxArrZ rfl rfl (by decide) (by simp only [Int.reduceToNat, Nat.mul_one, Nat.zero_add, Nat.reduceMul, Nat.reduceAdd]; rfl) ?_); refine Wm rfl (Wt ?_); refine Cs (Cs (Co (Wc (OP.fieldAddr0 rfl (Wc (OL.load1 (k := 6) hL rfl rfl rfl (Wt ?_))))))); refine WC.block (Cs (Co (Wc (OP.eqlT rfl rfl (by omega) ?_)))); refine Wm rfl (Wt ?_); refine WC.condT rfl (Co (WO.consQ (OP.mv rfl (WO.consQ (OP.mv rfl (WO.consQ (OP.nilP rfl (WO.consQ (OL.load1 (k := 0) hL rfl rfl rfl (WO.consQ (OP.fieldAddr0 rfl (WO.consQ (OL.load1 (k := 6) hL rfl rfl rfl (Wc ?_)))))))))))))); refine OL.callV hL rfl rfl (c6 _ _) (fun h' hp hL => (Wm rfl (Wc (OP.extract rfl rfl (WO.consQ (OP.extract rfl rfl (Wc (OP.nilP rfl (WO.cons0 ?_))))))))); refine OL.store1 (k := 0) hL hlim rfl rfl rfl rfl rfl rfl rfl (fun h' hL => ?_); dsimp only [List.set, Nat.zero_add, Nat.reduceAdd, Nat.reduceMul] at hL; refine Wm rfl (Wt ?_); refine Cs (Co (Wc (OL.loadAll (k := 0) hL rfl rfl rfl (Wm rfl (WO.cons0 ?_))))); refine OL.storeAll (k := 5) hL hlim rfl rfl rfl rfl rfl rfl (by decide) rfl (fun h' hL => ?_); dsimp only [List.set, Nat.zero_add, Nat.reduceAdd, Nat.reduceMul] at hL; refine Wm rfl (Wm rfl (Wt ?_)); refine WC.ret ?_)
    rw [zc0f rfl (by show r2.xs.length ≥ 4; omega)]
    have A0 := hL.rA (n := n0) (xs := r0.xs)
    have A1 := hL.rA (n := n1) (xs := r1.xs)
    have A2 := hL.rA (n := 4) (xs := r2.xs)
    have A3 := hL.rA (n := n3) (xs := r3.xs)
    exact Fin.ret (resL_cell rfl (hL.cell (k := 5) rfl) rfl rfl) ⟨hL.pfx, ⟨a0, n0, r0.xs⟩, ⟨a1, n1, r1.xs⟩, ⟨a2, 4, r2.xs⟩, ⟨a3, n3, r3.xs⟩, rfl, ⟨rfl, rfl, rfl, rfl⟩, ⟨A0.1, A1.1, A2.1, A3.1⟩, A0.2, A1.2, A2.2, A3.2⟩
   ·(refine Wc (OP.idxArrZ rfl rfl (by decide) (by simp only [Int.reduceToNat, Nat.mul_one, Nat.zero_add, Nat.reduceMul, Nat.reduceAdd]; rfl) ?_); refine Wm rfl (Wt ?_); refine Cs (Cs (Co (Wc (OP.fieldAddr0 rfl (Wc (OL.load1 (k := 6) hL rfl rfl rfl (Wt ?_))))))); refine WC.block (Cs (Co (Wc (OP.eqlT rfl rfl (by omega) ?_)))); refine Wm rfl (Wt ?_); refine WC.condT rfl (Co (WO.consQ (OP.mv rfl (WO.consQ (OP.mv rfl (WO.consQ (OP.nilP rfl (WO.consQ (OL.load1 (k := 0) hL rfl rfl rfl (WO.consQ (OP.fieldAddr0 rfl (WO.consQ (OL.load1 (k := 6) hL rfl rfl rfl ?_))))))))))))))
    (refine Wc ?_)
    refine OL.callGrow (k := 2) hL rfl rfl rfl (c3'.1 _ _ (Nat.le_trans hlim (hL.lo (k := 2) rfl)) (hL.toEnd (k := 2) rfl) (hL.mid (i := 2) rfl) (by omega) (hL.get (k := 2) rfl)) (fun a' h' hL => ?_)
    dsimp only [List.set] at hL
    (refine Wm rfl (Wc (OP.extract rfl rfl (WO.consQ (OP.extract rfl rfl (Wc (OP.nilP rfl (WO.cons0 ?_))))))); refine OL.store1 (k := 1) hL hlim rfl rfl rfl rfl rfl rfl rfl (fun h' hL => ?_); dsimp only [List.set, Nat.zero_add, Nat.reduceAdd, Nat.reduceMul] at hL; refine Wm rfl (Wt ?_); refine Cs (Co (Wc (OL.loadAll (k := 1) hL rfl rfl rfl (Wm rfl (WO.cons0 ?_))))); refine OL.storeAll (k := 6) hL hlim rfl rfl rfl rfl rfl rfl (by decide) rfl (fun h' hL => ?_); dsimp only [List.set, Nat.zero_add, Nat.reduceAdd, Nat.reduceMul] at hL; refine Wm rfl (Wm rfl (Wt ?_)); refine WC.ret ?_)
    rw [zc0 rfl (by show ¬ r2.xs.length ≥ 4; omega), show S4.get ⟨r0.xs, r1.xs, r2.xs, r3.xs⟩ 2 = r2.xs from rfl]
    have hw := hL.rA (n := n2 + 1) (xs := r2.xs ++ [a])
    have A0 := hL.rA (n := n0) (xs := r0.xs)
    have A1 := hL.rA (n := n1) (xs := r1.xs)
    have A3 := hL.rA (n := n3) (xs := r3.xs)
    exact Fin.ret (resL_cell rfl (hL.cell (k := 6) rfl) rfl rfl) ⟨hL.pfx, ⟨a0, n0, r0.xs⟩, ⟨a1, n1, r1.xs⟩, ⟨a', n2 + 1, r2.xs ++ [a]⟩, ⟨a3, n3, r3.xs⟩, rfl, ⟨rfl, rfl, rfl, rfl⟩, ⟨A0.1, A1.1, hw.1, A3.1⟩, A0.2, A1.2, hw.2, A3.2⟩
  ·by_cases h0 : n2 = 0
   ·subst h0
    have c6 := c4'.2
    (refine Wc (OP.idxArrZ rfl rfl (by decide) (by simp only [Int.reduceToNat, Nat.mul_one, Nat.zero_add, Nat.reduceMul, Nat.reduceAdd]; rfl) ?_); refine Wm rfl (Wt ?_); refine Cs (Cs (Co (Wc (OP.fieldAddr0 rfl (Wc (OL.load1 (k := 6) hL rfl rfl rfl (Wt ?_))))))); refine WC.block (Cs (Co (Wc (OP.eqlF rfl rfl (by omega) ?_)))); refine Wm rfl (Wt ?_); refine WC.condF rfl (Cs (Co (Wc (OP.eqlT rfl rfl (by omega) ?_)))); refine Wm rfl (Wt ?_); refine WC.condT rfl (Co (Wm rfl (Wm rfl (Wc (OP.nilP rfl (Wc (OL.load1 (k := 0) hL rfl rfl rfl (Wc ?_)))))))); refine OL.callV hL rfl rfl (c6 _ _) (fun h' hp hL => (Wm rfl (Wc (OP.extract rfl rfl (Wc (OP.extract rfl rfl (Wc (OP.nilP rfl (WO.cons0 ?_))))))))); refine OL.store1 (k := 0) hL hlim rfl rfl rfl rfl rfl rfl rfl (fun h' hL => ?_); dsimp only [List.set, Nat.zero_add, Nat.reduceAdd, Nat.reduceMul] at hL; refine Wm rfl (Wt ?_); refine Cs (Co (Wc (OL.loadAll (k := 0) hL rfl rfl rfl (Wm rfl (WO.cons0 ?_))))); refine OL.storeAll (k := 5) hL hlim rfl rfl rfl rfl rfl rfl (by decide) rfl (fun h' hL => ?_); dsimp only [List.set, Nat.zero_add, Nat.reduceAdd, Nat.reduceMul] at hL; refine Wm rfl (Wm rfl (Wt ?_)); refine WC.ret ?_)
    have e0 : r2.xs = [] := List.eq_nil_of_length_eq_zero (by omega)
    have hw := hL.rA (n := 0) (xs := r2.xs)
    rw [zc1 rfl, show S4.get ⟨r0.xs, r1.xs, r2.xs, r3.xs⟩ 2 = r2.xs from rfl, firstL_nil (by omega)]
    rw [show r2.xs.tail = r2.xs by rw [e0]; rfl]
    have A0 := hL.rA (n := n0) (xs := r0.xs)
    have A1 := hL.rA (n := n1) (xs := r1.xs)
    have A3 := hL.rA (n := n3) (xs := r3.xs)
    exact Fin.ret (resL_cell rfl (hL.cell (k := 5) rfl) rfl rfl) ⟨hL.pfx, ⟨a0, n0, r0.xs⟩, ⟨a1, n1, r1.xs⟩, ⟨a2, 0, r2.xs⟩, ⟨a3, n3, r3.xs⟩, rfl, ⟨rfl, rfl, rfl, rfl⟩, ⟨A0.1, A1.1, hw.1, A3.1⟩, A0.2, A1.2, hw.2, A3.2⟩
   ·obtain ⟨bb, haa, hbb, hb1, hb2⟩ := Ap.pos (hL.get (k := 2) rfl) (by omega)
    subst haa
    obtain ⟨y, ys, hys⟩ : ∃ y ys, r2.xs = y :: ys := by
     cases hx : r2.xs with
     | nil => rw [hx] at hy; simp at hy; omega
     | cons y ys => exact ⟨y, ys, rfl⟩
    have hyl : ys.length + 1 = n2 := by have := hy; rw [hys] at this; simp at this; omega
    have hbb2 : h'[bb]? = some (.cells (ints (y :: ys))) := hys ▸ hbb
    have hq : ∀ lim h2, Pfx h' h2 → Ret X F lim g4 [.slice (some ⟨bb, 0, some 1⟩) n2 n2] h2 fun v h3 => Pfx h2 h3 ∧ v = .tuple #[.slice (some ⟨bb, 1, some 1⟩) (n2 - 1) (n2 - 1), .int .i64 y] := fun lim h2 hp => c4'.1 lim h2 ((hp.2 bb (List.getElem?_eq_some_iff.1 hbb2).1).trans hbb2) hyl
    (refine Wc (OP.idxArrZ rfl rfl (by decide) (by simp only [Int.reduceToNat, Nat.mul_one, Nat.zero_add, Nat.reduceMul, Nat.reduceAdd]; rfl) ?_); refine Wm rfl (Wt ?_); refine Cs (Cs (Co (Wc (OP.fieldAddr0 rfl (Wc (OL.load1 (k := 6) hL rfl rfl rfl (Wt ?_))))))); refine WC.block (Cs (Co (Wc (OP.eqlF rfl rfl (by omega) ?_)))); refine Wm rfl (Wt ?_); refine WC.condF rfl (Cs (Co (Wc (OP.eqlT rfl rfl (by omega) ?_)))); refine Wm rfl (Wt ?_); refine WC.condT rfl (Co (Wm rfl (Wm rfl (Wc (OP.nilP rfl (Wc (OL.load1 (k := 0) hL rfl rfl rfl ?_))))))))
    (refine Wc ?_)
    refine OL.callV hL rfl rfl (hq _ _ (Pfx.refl _)) (fun h4 hp4 hL => ?_)
    (refine Wm rfl (Wc (OP.extract rfl rfl (Wc (OP.extract rfl rfl (Wc (OP.nilP rfl (WO.cons0 ?_))))))); refine OL.store1 (k := 0) hL hlim rfl rfl rfl rfl rfl rfl rfl (fun h' hL => ?_); dsimp only [List.set, Nat.zero_add, Nat.reduceAdd, Nat.reduceMul] at hL; refine Wm rfl (Wt ?_); refine Cs (Co (Wc (OL.loadAll (k := 0) hL rfl rfl rfl (Wm rfl (WO.cons0 ?_))))); refine OL.storeAll (k := 5) hL hlim rfl rfl rfl rfl rfl rfl (by decide) rfl (fun h' hL => ?_); dsimp only [List.set, Nat.zero_add, Nat.reduceAdd, Nat.reduceMul] at hL; refine Wm rfl (Wm rfl (Wt ?_)); refine WC.ret ?_)
    have hb4 := hL.get (k := 2) rfl
    have hw : RowOk h' ⟨some ⟨bb, 1, some 1⟩, n2 - 1, ys⟩ ∧ RowIn h.length h'.length ⟨some ⟨bb, 1, some 1⟩, n2 - 1, ys⟩ := by
     have hbx := (Ap.pos hb4 (by omega))
     obtain ⟨b5, e5, e6, e7, e8⟩ := hbx
     cases e5
     rw [hys] at e6
     exact ⟨⟨Sl.rest e6 hyl, by show n2 - 1 ≤ 2 ^ 44; omega⟩, fun x hx _ => by cases hx; exact ⟨Nat.le_trans (hL.lo (k := 2) rfl) e7, Nat.lt_of_lt_of_le e8 (hL.toEnd (k := 2) rfl)⟩⟩
    rw [zc1 rfl, show S4.get ⟨r0.xs, r1.xs, r2.xs, r3.xs⟩ 2 = r2.xs from rfl]
    rw [hys]
    have A0 := hL.rA (n := n0) (xs := r0.xs)
    have A1 := hL.rA (n := n1) (xs := r1.xs)
    have A3 := hL.rA (n := n3) (xs := r3.xs)
    exact Fin.ret (resL_cell rfl (hL.cell (k := 5) rfl) rfl rfl) ⟨hL.pfx, ⟨a0, n0, r0.xs⟩, ⟨a1, n1, r1.xs⟩, ⟨_, _, ys⟩, ⟨a3, n3, r3.xs⟩, rfl, ⟨rfl, rfl, rfl, rfl⟩, ⟨A0.1, A1.1, hw.1, A3.1⟩, A0.2, A1.2, hw.2, A3.2⟩
  ·(refine Wc (OP.idxArrZ rfl rfl (by decide) (by simp only [Int.reduceToNat, Nat.mul_one, Nat.zero_add, Nat.reduceMul, Nat.reduceAdd]; rfl) ?_); refine Wm rfl (Wt ?_); refine Cs (Cs (Co (Wc (OP.fieldAddr0 rfl (Wc (OL.load1 (k := 6) hL rfl rfl rfl (Wt ?_))))))); refine WC.block (Cs (Co (Wc (OP.eqlF rfl rfl (by omega) ?_)))); refine Wm rfl (Wt ?_); refine WC.condF rfl (Cs (Co (Wc (OP.eqlF rfl rfl (by omega) ?_)))); refine Wm rfl (Wt ?_); refine WC.condF rfl (Cs (Co (Wc (OP.eqlT rfl rfl (by omega) ?_)))); refine Wm rfl (Wt ?_); refine WC.condT rfl (Co (Wm rfl (Wc (OP.nilP rfl (Wc (OL.load1 (k := 0) hL rfl rfl rfl (Wc (OP.lenS rfl (Wm rfl (Wt ?_)))))))))); refine Cs (Co (Wc (OL.loadAll (k := 0) hL rfl rfl rfl (Wm rfl (WO.cons0 ?_))))); refine OL.storeAll (k := 5) hL hlim rfl rfl rfl rfl rfl rfl (by decide) rfl (fun h' hL => ?_); dsimp only [List.set, Nat.zero_add, Nat.reduceAdd, Nat.reduceMul] at hL; refine Wm rfl (Wm rfl (Wt ?_)); refine WC.ret ?_)
   rw [zc2 rfl, show S4.get ⟨r0.xs, r1.xs, r2.xs, r3.xs⟩ 2 = r2.xs from rfl, show r2.xs.length = n2 by omega]
   have A0 := hL.rA (n := n0) (xs := r0.xs)
   have A1 := hL.rA (n := n1) (xs := r1.xs)
   have A2 := hL.rA (n := n2) (xs := r2.xs)
   have A3 := hL.rA (n := n3) (xs := r3.xs)
   exact Fin.ret (resL_cell rfl (hL.cell (k := 5) rfl) rfl rfl) ⟨hL.pfx, ⟨a0, n0, r0.xs⟩, ⟨a1, n1, r1.xs⟩, ⟨a2, n2, r2.xs⟩, ⟨a3, n3, r3.xs⟩, rfl, ⟨rfl, rfl, rfl, rfl⟩, ⟨A0.1, A1.1, A2.1, A3.1⟩, A0.2, A1.2, A2.2, A3.2⟩
  ·omega
 ·rcases hcc with rfl | rfl | rfl | rfl
  ·by_cases hfull : n3 = 4
   ·subst hfull
    have c6 := c3'.2
    (refine Wc (OP.idxArrZ rfl rfl (by decide) (by simp only [Int.reduceToNat, Nat.mul_one, Nat.zero_add, Nat.reduceMul, Nat.reduceAdd]; rfl) ?_); refine Wm rfl (Wt ?_); refine Cs (Cs (Co (Wc (OP.fieldAddr0 rfl (Wc (OL.load1 (k := 6) hL rfl rfl rfl (Wt ?_))))))); refine WC.block (Cs (Co (Wc (OP.eqlT rfl rfl (by omega) ?_)))); refine Wm rfl (Wt ?_); refine WC.condT rfl (Co (WO.consQ (OP.mv rfl (WO.consQ (OP.mv rfl (WO.consQ (OP.nilP rfl (WO.consQ (OL.load1 (k := 0) hL rfl rfl rfl (WO.consQ (OP.fieldAddr0 rfl (WO.consQ (OL.load1 (k := 6) hL rfl rfl rfl (Wc ?_)))))))))))))); refine OL.callV hL rfl rfl (c6 _ _) (fun h' hp hL => (Wm rfl (Wc (OP.extract rfl rfl (WO.consQ (OP.extract rfl rfl (Wc (OP.nilP rfl (WO.cons0 ?_))))))))); refine OL.store1 (k := 0) hL hlim rfl rfl rfl rfl rfl rfl rfl (fun h' hL => ?_); dsimp only [List.set, Nat.zero_add, Nat.reduceAdd, Nat.reduceMul] at hL; refine Wm rfl (Wt ?_); refine Cs (Co (Wc (OL.loadAll (k := 0) hL rfl rfl rfl (Wm rfl (WO.cons0 ?_))))); refine OL.storeAll (k := 5) hL hlim rfl rfl rfl rfl rfl rfl (by decide) rfl (fun h' hL => ?_); dsimp only [List.set, Nat.zero_add, Nat.reduceAdd, Nat.reduceMul] at hL; refine Wm rfl (Wm rfl (Wt ?_)); refine WC.ret ?_)
    rw [zc0f rfl (by show r3.xs.length ≥ 4; omega)]
    have A0 := hL.rA (n := n0) (xs := r0.xs)
    have A1 := hL.rA (n := n1) (xs := r1.xs)
    have A2 := hL.rA (n := n2) (xs := r2.xs)
    have A3 := hL.rA (n := 4) (xs := r3.xs)
    exact Fin.ret (resL_cell rfl (hL.cell (k := 5) rfl) rfl rfl) ⟨hL.pfx, ⟨a0, n0, r0.xs⟩, ⟨a1, n1, r1.xs⟩, ⟨a2, n2, r2.xs⟩, ⟨a3, 4, r3.xs⟩, rfl, ⟨rfl, rfl, rfl, rfl⟩, ⟨A0.1, A1.1, A2.1, A3.1⟩, A0.2, A1.2, A2.2, A3.2⟩
   ·(refine Wc (OP.idxArrZ rfl rfl (by decide) (by simp only [Int.reduceToNat, Nat.mul_one, Nat.zero_add, Nat.reduceMul, Nat.reduceAdd]; rfl) ?_); refine Wm rfl (Wt ?_); refine Cs (Cs (Co (Wc (OP.fieldAddr0 rfl (Wc (OL.load1 (k := 6) hL rfl rfl rfl (Wt ?_))))))); refine WC.block (Cs (Co (Wc (OP.eqlT rfl rfl (by omega) ?_)))); refine Wm rfl (Wt ?_); refine WC.condT rfl (Co (WO.consQ (OP.mv rfl (WO.consQ (OP.mv rfl (WO.consQ (OP.nilP rfl (WO.consQ (OL.load1 (k := 0) hL rfl rfl rfl (WO.consQ (OP.fieldAddr0 rfl (WO.consQ (OL.load1 (k := 6) hL rfl rfl rfl ?_))))))))))))))
    (refine Wc ?_)
    refine OL.callGrow (k := 1) hL rfl rfl rfl (c3'.1 _ _ (Nat.le_trans hlim (hL.lo (k := 1) rfl)) (hL.toEnd (k := 1) rfl) (hL.mid (i := 1) rfl) (by omega) (hL.get (k := 1) rfl)) (fun a' h' hL => ?_)
    dsimp only [List.set] at hL
    (refine Wm rfl (Wc (OP.extract rfl rfl (WO.consQ (OP.extract rfl rfl (Wc (OP.nilP rfl (WO.cons0 ?_))))))); refine OL.store1 (k := 1) hL hlim rfl rfl rfl rfl rfl rfl rfl (fun h' hL => ?_); dsimp only [List.set, Nat.zero_add, Nat.reduceAdd, Nat.reduceMul] at hL; refine Wm rfl (Wt ?_); refine Cs (Co (Wc (OL.loadAll (k := 1) hL rfl rfl rfl (Wm rfl (WO.cons0 ?_))))); refine OL.storeAll (k := 6) hL hlim rfl rfl rfl rfl rfl rfl (by decide) rfl (fun h' hL => ?_); dsimp only [List.set, Nat.zero_add, Nat.reduceAdd, Nat.reduceMul] at hL; refine Wm rfl (Wm rfl (Wt ?_)); refine WC.ret ?_)
    rw [zc0 rfl (by show ¬ r3.xs.length ≥ 4; omega), show S4.get ⟨r0.xs, r1.xs, r2.xs, r3.xs⟩ 3 = r3.xs from rfl]
    have hw := hL.rA (n := n3 + 1) (xs := r3.xs ++ [a])
    have A0 := hL.rA (n := n0) (xs := r0.xs)
    have A1 := hL.rA (n := n1) (xs := r1.xs)
    have A2 := hL.rA (n := n2) (xs := r2.xs)
    exact Fin.ret (resL_cell rfl (hL.cell (k := 6) rfl) rfl rfl) ⟨hL.pfx, ⟨a0, n0, r0.xs⟩, ⟨a1, n1, r1.xs⟩, ⟨a2, n2, r2.xs⟩, ⟨a', n3 + 1, r3.xs ++ [a]⟩, rfl, ⟨rfl, rfl, rfl, rfl⟩, ⟨A0.1, A1.1, A2.1, hw.1⟩, A0.2, A1.2, A2.2, hw.2⟩
  ·by_cases h0 : n3 = 0
   ·subst h0
    have c6 := c4'.2
    (refine Wc (OP.idxArrZ rfl rfl (by decide) (by simp only [Int.reduceToNat, Nat.mul_one, Nat.zero_add, Nat.reduceMul, Nat.reduceAdd]; rfl) ?_); refine Wm rfl (Wt ?_); refine Cs (Cs (Co (Wc (OP.fieldAddr0 rfl (Wc (OL.load1 (k := 6) hL rfl rfl rfl (Wt ?_))))))); refine WC.block (Cs (Co (Wc (OP.eqlF rfl rfl (by omega) ?_)))); refine Wm rfl (Wt ?_); refine WC.condF rfl (Cs (Co (Wc (OP.eqlT rfl rfl (by omega) ?_)))); refine Wm rfl (Wt ?_); refine WC.condT rfl (Co (Wm rfl (Wm rfl (Wc (OP.nilP rfl (Wc (OL.load1 (k := 0) hL rfl rfl rfl (Wc ?_)))))))); refine OL.callV hL rfl rfl (c6 _ _) (fun h' hp hL => (Wm rfl (Wc (OP.extract rfl rfl (Wc (OP.extract rfl rfl (Wc (OP.nilP rfl (WO.cons0 ?_))))))))); refine OL.store1 (k := 0) hL hlim rfl rfl rfl rfl rfl rfl rfl (fun h' hL => ?_); dsimp only [List.set, Nat.zero_add, Nat.reduceAdd, Nat.reduceMul] at hL; refine Wm rfl (Wt ?_); refine Cs (Co (Wc (OL.loadAll (k := 0) hL rfl rfl rfl (Wm rfl (WO.cons0 ?_))))); refine OL.storeAll (k := 5) hL hlim rfl rfl rfl rfl rfl rfl (by decide) rfl (fun h' hL => ?_); dsimp only [List.set, Nat.zero_add, Nat.reduceAdd, Nat.reduceMul] at hL; refine Wm rfl (Wm rfl (Wt ?_)); refine WC.ret ?_)
    have e0 : r3.xs = [] := List.eq_nil_of_length_eq_zero (by omega)
    have hw := hL.rA (n := 0) (xs := r3.xs)
    rw [zc1 rfl, show S4.get ⟨r0.xs, r1.xs, r2.xs, r3.xs⟩ 3 = r3.xs from rfl, firstL_nil (by omega)]
    rw [show r3.xs.tail = r3.xs by rw [e0]; rfl]
    have A0 := hL.rA (n := n0) (xs := r0.xs)
    have A1 := hL.rA (n := n1) (xs := r1.xs)
    have A2 := hL.rA (n := n2) (xs := r2.xs)
    exact Fin.ret (resL_cell rfl (hL.cell (k := 5) rfl) rfl rfl) ⟨hL.pfx, ⟨a0, n0, r0.xs⟩, ⟨a1, n1, r1.xs⟩, ⟨a2, n2, r2.xs⟩, ⟨a3, 0, r3.xs⟩, rfl, ⟨rfl, rfl, rfl, rfl⟩, ⟨A0.1, A1.1, A2.1, hw.1⟩, A0.2, A1.2, A2.2, hw.2⟩
   ·obtain ⟨bb, haa, hbb, hb1, hb2⟩ := Ap.pos (hL.get (k := 1) rfl) (by omega)
    subst haa
    obtain ⟨y, ys, hys⟩ : ∃ y ys, r3.xs = y :: ys := by
     cases hx : r3.xs with
     | nil => rw [hx] at hy; simp at hy; omega
     | cons y ys => exact ⟨y, ys, rfl⟩
    have hyl : ys.length + 1 = n3 := by have := hy; rw [hys] at this; simp at this; omega
    have hbb2 : h'[bb]? = some (.cells (ints (y :: ys))) := hys ▸ hbb
    have hq : ∀ lim h2, Pfx h' h2 → Ret X F lim g4 [.slice (some ⟨bb, 0, some 1⟩) n3 n3] h2 fun v h3 => Pfx h2 h3 ∧ v = .tuple #[.slice (some ⟨bb, 1, some 1⟩) (n3 - 1) (n3 - 1), .int .i64 y] := fun lim h2 hp => c4'.1 lim h2 ((hp.2 bb (List.getElem?_eq_some_iff.1 hbb2).1).trans hbb2) hyl
    (refine Wc (OP.idxArrZ rfl rfl (by decide) (by simp only [Int.reduceToNat, Nat.mul_one, Nat.zero_add, Nat.reduceMul, Nat.reduceAdd]; rfl) ?_); refine Wm rfl (Wt ?_); refine Cs (Cs (Co (Wc (OP.fieldAddr0 rfl (Wc (OL.load1 (k := 6) hL rfl rfl rfl (Wt ?_))))))); refine WC.block (Cs (Co (Wc (OP.eqlF rfl rfl (by omega) ?_)))); refine Wm rfl (Wt ?_); refine WC.condF rfl (Cs (Co (Wc (OP.eqlT rfl rfl (by omega) ?_)))); refine Wm rfl (Wt ?_); refine WC.condT rfl (Co (Wm rfl (Wm rfl (Wc (OP.nilP rfl (Wc (OL.load1 (k := 0) hL rfl rfl rfl ?_))))))))
    (refine Wc ?_)
    refine OL.callV hL rfl rfl (hq _ _ (Pfx.refl _)) (fun h4 hp4 hL => ?_)
    (refine Wm rfl (Wc (OP.extract rfl rfl (Wc (OP.extract rfl rfl (Wc (OP.nilP rfl (WO.cons0 ?_))))))); refine OL.store1 (k := 0) hL hlim rfl rfl rfl rfl rfl rfl rfl (fun h' hL => ?_); dsimp only [List.set, Nat.zero_add, Nat.reduceAdd, Nat.reduceMul] at hL; refine Wm rfl (Wt ?_); refine Cs (Co (Wc (OL.loadAll (k := 0) hL rfl rfl rfl (Wm rfl (WO.cons0 ?_))))); refine OL.storeAll (k := 5) hL hlim rfl rfl rfl rfl rfl rfl (by decide) rfl (fun h' hL => ?_); dsimp only [List.set, Nat.zero_add, Nat.reduceAdd, Nat.reduceMul] at hL; refine Wm rfl (Wm rfl (Wt ?_)); refine WC.ret ?_)
    have hb4 := hL.get (k := 1) rfl
    have hw : RowOk h' ⟨some ⟨bb, 1, some 1⟩, n3 - 1, ys⟩ ∧ RowIn h.length h'.length ⟨some ⟨bb, 1, some 1⟩, n3 - 1, ys⟩ := by
     have hbx := (Ap.pos hb4 (by omega))
     obtain ⟨b5, e5, e6, e7, e8⟩ := hbx
     cases e5
     rw [hys] at e6
     exact ⟨⟨Sl.rest e6 hyl, by show n3 - 1 ≤ 2 ^ 44; omega⟩, fun x hx _ => by cases hx; exact ⟨Nat.le_trans (hL.lo (k := 1) rfl) e7, Nat.lt_of_lt_of_le e8 (hL.toEnd (k := 1) rfl)⟩⟩
    rw [zc1 rfl, show S4.get ⟨r0.xs, r1.xs, r2.xs, r3.xs⟩ 3 = r3.xs from rfl]
    rw [hys]
    have A0 := hL.rA (n := n0) (xs := r0.xs)
    have A1 := hL.rA (n := n1) (xs := r1.xs)
    have A2 := hL.rA (n := n2) (xs := r2.xs)
    exact Fin.ret (resL_cell rfl (hL.cell (k := 5) rfl) rfl rfl) ⟨hL.pfx, ⟨a0, n0, r0.xs⟩, ⟨a1, n1, r1.xs⟩, ⟨a2, n2, r2.xs⟩, ⟨_, _, ys⟩, rfl, ⟨rfl, rfl, rfl, rfl⟩, ⟨A0.1, A1.1, A2.1, hw.1⟩, A0.2, A1.2, A2.2, hw.2⟩
  ·(refine Wc (OP.idxArrZ rfl rfl (by decide) (by simp only [Int.reduceToNat, Nat.mul_one, Nat.zero_add, Nat.reduceMul, Nat.reduceAdd]; rfl) ?_); refine Wm rfl (Wt ?_); refine Cs (Cs (Co (Wc (OP.fieldAddr0 rfl (Wc (OL.load1 (k := 6) hL rfl rfl rfl (Wt ?_))))))); refine WC.block (Cs (Co (Wc (OP.eqlF rfl rfl (by omega) ?_)))); refine Wm rfl (Wt ?_); refine WC.condF rfl (Cs (Co (Wc (OP.eqlF rfl rfl (by omega) ?_)))); refine Wm rfl (Wt ?_); refine WC.condF rfl (Cs (Co (Wc (OP.eqlT rfl rfl (by omega) ?_)))); refine Wm rfl (Wt ?_); refine WC.condT rfl (Co (Wm rfl (Wc (OP.nilP rfl (Wc (OL.load1 (k := 0) hL rfl rfl rfl (Wc (OP.lenS rfl (Wm rfl (Wt ?_)))))))))); refine Cs (Co (Wc (OL.loadAll (k := 0) hL rfl rfl rfl (Wm rfl (WO.cons0 ?_))))); refine OL.storeAll (k := 5) hL hlim rfl rfl rfl rfl rfl rfl (by decide) rfl (fun h' hL => ?_); dsimp only [List.set, Nat.zero_add, Nat.reduceAdd, Nat.reduceMul] at hL; refine Wm rfl (Wm rfl (Wt ?_)); refine WC.ret ?_)
   rw [zc2 rfl, show S4.get ⟨r0.xs, r1.xs, r2.xs, r3.xs⟩ 3 = r3.xs from rfl, show r3.xs.length = n3 by omega]
   have A0 := hL.rA (n := n0) (xs := r0.xs)
   have A1 := hL.rA (n := n1) (xs := r1.xs)
   have A2 := hL.rA (n := n2) (xs := r2.xs)
   have A3 := hL.rA (n := n3) (xs := r3.xs)
   exact Fin.ret (resL_cell rfl (hL.cell (k := 5) rfl) rfl rfl) ⟨hL.pfx, ⟨a0, n0, r0.xs⟩, ⟨a1, n1, r1.xs⟩, ⟨a2, n2, r2.xs⟩, ⟨a3, n3, r3.xs⟩, rfl, ⟨rfl, rfl, rfl, rfl⟩, ⟨A0.1, A1.1, A2.1, A3.1⟩, A0.2, A1.2, A2.2, A3.2⟩
  ·omega
 (refine WO.yes rfl (Wc (OP.not rfl (Wc (OP.pickF rfl rfl (Wt ?_))))); refine WC.condT rfl (Cs (Co (Wc (OP.buildN rfl rfl (WO.cons0 ?_))))); refine OL.storeAll (k := 0) hL hlim rfl rfl rfl rfl rfl rfl (by decide) rfl (fun h' hL => ?_); dsimp only [List.set, Nat.zero_add, Nat.reduceAdd, Nat.reduceMul] at hL; refine Wm rfl (Wm rfl (Wt ?_)); refine WC.ret ?_; dsimp only [zn, zr, zx, yn, yr]; rw [z1 (by grind)]; exact Fin.ret (resL_cell rfl (hL.cell (k := 0) rfl) rfl rfl) ⟨hL.pfx, nilRow, nilRow, nilRow, nilRow, rfl, ⟨rfl, rfl, rfl, rfl⟩, nilSt _, nilIn _ _⟩; refine Wc (OP.not rfl (Wm rfl (WO.no rfl (WO.no rfl (WO.no rfl (Wc (OP.pickT rfl rfl (Wt ?_)))))))); refine WC.condT rfl (Cs (Co (Wc (OP.buildN rfl rfl (WO.cons0 ?_))))); refine OL.storeAll (k := 0) hL hlim rfl rfl rfl rfl rfl rfl (by decide) rfl (fun h' hL => ?_); dsimp only [List.set, Nat.zero_add, Nat.reduceAdd, Nat.reduceMul] at hL; refine Wm rfl (Wm rfl (Wt ?_)); refine WC.ret ?_; dsimp only [zn, zr, zx, yn, yr]; rw [z1 (by grind)]; exact Fin.ret (resL_cell rfl (hL.cell (k := 0) rfl) rfl rfl) ⟨hL.pfx, nilRow, nilRow, nilRow, nilRow, rfl, ⟨rfl, rfl, rfl, rfl⟩, nilSt _, nilIn _ _⟩)
end
end
end Go.Proofs.YtalknjppnkpmmaaDoorW.Ai
