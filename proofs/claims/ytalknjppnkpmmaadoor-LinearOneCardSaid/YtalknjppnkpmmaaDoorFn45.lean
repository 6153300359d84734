/-
 Tables by the document (chapters 4, 6), as the small machine runs them.
-/
import Derived.Test.YtalknjppnkpmmaaDoorFn44
set_option linter.unusedVariables false
set_option linter.unusedSimpArgs false
set_option maxHeartbeats 4000000
set_option maxRecDepth 100000
namespace Go.Proofs.YtalknjppnkpmmaaDoorW.Ai
section
theorem TabRow.args {xs : List Int} (hT : TabRow xs) : ArgsOk xs := fun x hx => by have := hT.rng hx; omega
theorem takeL_len {xs : List Int} (h : TabRow xs) : (takeL xs).1.length ≤ 4 := by
 have : ∀ ys ∈ subs, (takeL ys).1.length ≤ 4 := by decide
 exact this xs h.mem
section
variable (X : Ext) (F : FuncId → Option RFunc) (g : FuncId)
abbrev S_rApplyF : Prop := ∀ (lim : Nat) (h : AH) {r0 r1 r2 r3 : Row} {c r a e : Int}, lim ≤ h.length → St h r0 r1 r2 r3 → Ret X F lim g [.int .i64 1, stV r0 r1 r2 r3, .agg #[.int .i64 c, .int .i64 r, .int .i64 a], .int .i64 e] h fun v h' => Pfx h h' ∧ MadeS h h' (fun s0 s1 s2 s3 => .tuple #[stV s0 s1 s2 s3, .int .i64 (FdsM e ⟨r0.xs, r1.xs, r2.xs, r3.xs⟩ c r a).2.1, .int .i64 (FdsM e ⟨r0.xs, r1.xs, r2.xs, r3.xs⟩ c r a).2.2]) (FdsM e ⟨r0.xs, r1.xs, r2.xs, r3.xs⟩ c r a).1 v
end
section
variable {X : Ext} {F : FuncId → Option RFunc} {f : FuncId}
theorem s_rApplyF {g0 g1 g2 g3 g4 g5 g6 : Nat} (hX : X f = none) (hF : F f = some (rf_rApply g0 g1 g2 g3 g4 g5 g6)) (c0' : S_StateMay1 X F g0) (c1 : S_OperMay X F g1) (hX2 : X g2 = none) (hF2 : F g2 = some rf_rCopyState) (c3' : S_fdsRow X F g5) : S_rApplyF X F f := by
 intro lim h r0 r1 r2 r3 c r a e hlim hst
 have hL := Loc.start h
 have k2 : S_CopyP X F g2 := copyPr hX2 hF2
 have c0 : ∀ lim h', Pfx h h' → Ret X F lim g0 [.int .i64 1, stV r0 r1 r2 r3] h' fun v h'' => Pfx h' h'' ∧ v = .bool (decide (TabOk ⟨r0.xs, r1.xs, r2.xs, r3.xs⟩)) := fun lim h' hp => c0' lim h' (hst.pfx hp)
 obtain ⟨⟨s0, l0⟩, ⟨s1, l1⟩, ⟨s2, l2⟩, ⟨s3, l3⟩⟩ := id hst
 have e0 := s0.ilen
 have e1 := s1.ilen
 have e2 := s2.ilen
 have e3 := s3.ilen
 have z1 : ¬ (TabOk ⟨r0.xs, r1.xs, r2.xs, r3.xs⟩ ∧ OpOk c r a) → FdsM e ⟨r0.xs, r1.xs, r2.xs, r3.xs⟩ c r a = (S4.none, 0, e) := fun hh => if_neg hh
 refine Ret.body hX hF rfl ?_
 simp only [argL, rf_rApply]
 (refine Cs (Co ?_); dsimp only [zn, zr, zx, yn, yr])
 (refine Wc ?_; refine OL.boxA hL rfl rfl (fun B5 h1 hL => ?_))
 (refine Wc ?_; refine OL.boxA hL rfl rfl (fun B6 h2 hL => ?_))
 (refine Wc ?_; refine OL.new hL (fun B8 h3 hL => ?_))
 (refine Wm rfl (Wm rfl (Wn (Cs (Cs (Co (Wm rfl (Wc (OL.loadAll (k := 2) hL rfl rfl rfl (Wc ?_))))))))); refine OL.callB hL rfl rfl (c0 _ _ hL.pfx) (fun h' hp hL hc => ?_) (fun h' hp hL hc => ?_); refine Wc (OP.not rfl (Wm rfl (WO.yes rfl (Wc (OL.loadAll (k := 1) hL rfl rfl rfl (WO.yes rfl (Wc ?_))))))); refine OL.callB hL rfl rfl (c1 _ _) (fun h' hp hL hc => ?_) (fun h' hp hL hc => ?_); refine WO.yes rfl (Wc (OP.not rfl (Wc (OP.pickF rfl rfl (Wt ?_))))); refine WC.condF rfl (Ks ?_); refine Cs (Co (Wc (OL.loadAll (k := 2) hL rfl rfl rfl ?_))))
 have hc1 : TabOk ⟨r0.xs, r1.xs, r2.xs, r3.xs⟩ := by assumption
 have hT0 : TabRow r0.xs := hc1.1
 have hT1 : TabRow r1.xs := hc1.2.1
 have hT2 : TabRow r2.xs := hc1.2.2.1
 have hT3 : TabRow r3.xs := hc1.2.2.2
 have hln : r0.xs.length ≤ 4 ∧ r1.xs.length ≤ 4 ∧ r2.xs.length ≤ 4 ∧ r3.xs.length ≤ 4 := ⟨hT0.len, hT1.len, hT2.len, hT3.len⟩
 have u0 := sumL_full hT0.args
 have u1 := sumL_full hT1.args
 have u2 := sumL_full hT2.args
 have u3 := sumL_full hT3.args
 have zc0 : c = 0 → FdsM e ⟨r0.xs, r1.xs, r2.xs, r3.xs⟩ c r a = (S4.put ⟨r0.xs, r1.xs, r2.xs, r3.xs⟩ r (takeL (S4.get ⟨r0.xs, r1.xs, r2.xs, r3.xs⟩ r)).1, (takeL (S4.get ⟨r0.xs, r1.xs, r2.xs, r3.xs⟩ r)).2, 0) := fun h => (if_pos ⟨hc1, by assumption⟩).trans (if_pos h)
 have zc1 : c = 1 → FdsM e ⟨r0.xs, r1.xs, r2.xs, r3.xs⟩ c r a = (S4.put ⟨r0.xs, r1.xs, r2.xs, r3.xs⟩ r (freeL (S4.get ⟨r0.xs, r1.xs, r2.xs, r3.xs⟩ r) a).1, (freeL (S4.get ⟨r0.xs, r1.xs, r2.xs, r3.xs⟩ r) a).2, 0) := fun h => (if_pos ⟨hc1, by assumption⟩).trans ((if_neg (by omega)).trans (if_pos h))
 have zc2 : c = 2 → FdsM e ⟨r0.xs, r1.xs, r2.xs, r3.xs⟩ c r a = (⟨r0.xs, r1.xs, r2.xs, r3.xs⟩, ((S4.get ⟨r0.xs, r1.xs, r2.xs, r3.xs⟩ r).length : Int), 0) := fun h => (if_pos ⟨hc1, by assumption⟩).trans ((if_neg (by omega)).trans ((if_neg (by omega)).trans (if_pos h)))
 have zc3 : c = 3 → FdsM e ⟨r0.xs, r1.xs, r2.xs, r3.xs⟩ c r a = (⟨r0.xs, r1.xs, r2.xs, r3.xs⟩, ((allL ⟨r0.xs, r1.xs, r2.xs, r3.xs⟩).length : Int), 0) := fun h => (if_pos ⟨hc1, by assumption⟩).trans ((if_neg (by omega)).trans ((if_neg (by omega)).trans (if_neg (by omega))))
 clear z1
 (refine Wc ?_)
 refine OL.callS4 hL rfl rfl (k2 _ _ (hL.lm hlim) (hst.pfx hL.pfx)) (fun a0 n0 a1 n1 a2 n2 a3 n3 l1' l2' l3' h' hy hp hL => ?_)
 dsimp only at hL hy ⊢
 (refine Wc ?_; refine OL.new hL (fun b h' hL => (WO.cons0 ?_)); refine OL.storeAll (k := 0) hL hlim rfl rfl rfl rfl rfl rfl (by decide) rfl (fun h' hL => ?_); dsimp only [List.set, Nat.zero_add, Nat.reduceAdd, Nat.reduceMul] at hL; refine Wt ?_; refine Cs (Co (Wm rfl (Wm rfl (Wt ?_)))); refine Cs (Cs (Co (Wm rfl (Wt ?_)))); refine WC.block ?_)
 refine WC.unroll ?_
 (refine Cs (Cs (Co (Wm rfl (Wc (OP.lssT rfl rfl (by omega) ?_))))); refine Wt ?_; refine WC.condT rfl (Ks ?_); refine Cs (WC.block (Cs (Co (Wm rfl (Wm rfl (Wc (OP.fieldAddr0 rfl (Wc (OP.idxArrZ rfl rfl (by decide) (by simp only [Int.reduceToNat, Nat.mul_one, Nat.zero_add, Nat.reduceMul, Nat.reduceAdd]; rfl) ?_))))))))); refine Wc (OL.load1 (k := 7) hL rfl rfl rfl (Wc (OP.lenS rfl (Wc (OP.add rfl rfl (by omega) ?_))))); refine Wm rfl (Wt ?_); refine Cs (Co (Wm rfl (Wt ?_))); refine WC.block ?_)
 refine WC.loop (fun j : Nat => j ≤ r0.n) (fun j => [(15, .int .i64 (j : Int)), (12, .int .i64 (0 + sumL (r0.xs.take j))), (13, .int .i64 (0 + (r0.n : Int))), (14, .int .i64 0), (5, .pointer (some ⟨B5, 0, none⟩)), (6, .pointer (some ⟨B6, 0, none⟩)), (8, .pointer (some ⟨B8, 0, none⟩)), (11, .pointer (some ⟨b, 0, none⟩)), (0, .int .i64 1), (3, .int .i64 e)]) (fun _ => h') (fun j => r0.n - j) ?_ 0 (Nat.zero_le _) (by rw [List.take_zero, show sumL [] = 0 from rfl, Int.add_zero]; (refine Sub.cons rfl (Sub.cons rfl (Sub.cons rfl (Sub.cons rfl (Sub.cons rfl (Sub.cons rfl (Sub.cons rfl (Sub.cons rfl (Sub.cons rfl (Sub.cons rfl ?_))))))))); exact Sub.nil _)) rfl
 intro j hj
 have hs := sumL_rng hT0.args j (by omega)
 by_cases hlt : (j : Int) < r0.n
 ·have hjl : j < r0.xs.length := by omega
  have hxi := hT0.args _ (List.getElem_mem hjl)
  (refine Cs (Cs (Co (Wm rfl (Wm rfl (Wc (OP.fieldAddr0 rfl (Wc (OP.idxArrZ rfl rfl (by decide) (by simp only [Int.reduceToNat, Nat.mul_one, Nat.zero_add, Nat.reduceMul, Nat.reduceAdd]; rfl) ?_)))))))); refine Wc (OL.load1 (k := 7) hL rfl rfl rfl (Wc (OP.lenS rfl (Wc (OP.lssT rfl rfl (by omega) ?_))))); refine Wt ?_; refine WC.condT rfl (Ks ?_); refine Cs (WC.block (Co (Wm rfl (Wm rfl (Wc (OP.fieldAddr0 rfl (Wc (OP.idxArrZ rfl rfl (by decide) (by simp only [Int.reduceToNat, Nat.mul_one, Nat.zero_add, Nat.reduceMul, Nat.reduceAdd]; rfl) ?_)))))))); refine Wc (OL.load1 (k := 7) hL rfl rfl rfl (Wm rfl (Wc (OP.idxS (Sl.pfx (by assumption) (Loc.pfx hL)) rfl rfl (by omega) ?_)))); refine Wc (OP.ldI (Sl.pfx (by assumption) (Loc.pfx hL)) rfl (by omega) ?_); refine Wc (OP.add rfl rfl (by omega) ?_); refine Wm rfl (Wt ?_); refine Co (Wm rfl (Wc (OP.add rfl rfl (by omega) ?_))); refine Wm rfl (Wt ?_))
  refine ⟨j + 1, by omega, ?_, rfl, by omega⟩
  rw [sumL_snoc hjl, ← Int.add_assoc]
  (refine Sub.cons rfl (Sub.cons rfl (Sub.cons rfl (Sub.cons rfl (Sub.cons rfl (Sub.cons rfl (Sub.cons rfl (Sub.cons rfl (Sub.cons rfl (Sub.cons rfl ?_))))))))); exact Sub.nil _)
 rw [List.take_of_length_le (by omega)]
 clear hs
 (refine Cs (Cs (Co (Wm rfl (Wm rfl (Wc (OP.fieldAddr0 rfl (Wc (OP.idxArrZ rfl rfl (by decide) (by simp only [Int.reduceToNat, Nat.mul_one, Nat.zero_add, Nat.reduceMul, Nat.reduceAdd]; rfl) ?_)))))))); refine Wc (OL.load1 (k := 7) hL rfl rfl rfl (Wc (OP.lenS rfl (Wc (OP.lssF rfl rfl (by omega) ?_))))); refine Wt ?_; refine WC.condF rfl (WC.exit ?_); dsimp only [zn, zr, zx, yn, yr]; rw [yx, if_pos rfl]; dsimp only [zn, zr, zx, yn, yr]; refine Co (Wm rfl (Wc (OP.addL rfl rfl (by simp only [Int.reduceAdd]; rfl) (by decide) ?_))); refine Wm rfl (Wt ?_))
 refine WC.unroll ?_
 (refine Cs (Cs (Co (Wm rfl (Wc (OP.lssT rfl rfl (by omega) ?_))))); refine Wt ?_; refine WC.condT rfl (Ks ?_); refine Cs (WC.block (Cs (Co (Wm rfl (Wm rfl (Wc (OP.fieldAddr0 rfl (Wc (OP.idxArrZ rfl rfl (by decide) (by simp only [Int.reduceToNat, Nat.mul_one, Nat.zero_add, Nat.reduceMul, Nat.reduceAdd]; rfl) ?_))))))))); refine Wc (OL.load1 (k := 7) hL rfl rfl rfl (Wc (OP.lenS rfl (Wc (OP.add rfl rfl (by omega) ?_))))); refine Wm rfl (Wt ?_); refine Cs (Co (Wm rfl (Wt ?_))); refine WC.block ?_)
 refine WC.loop (fun j : Nat => j ≤ r1.n) (fun j => [(15, .int .i64 (j : Int)), (12, .int .i64 (0 + sumL r0.xs + sumL (r1.xs.take j))), (13, .int .i64 (0 + (r0.n : Int) + (r1.n : Int))), (14, .int .i64 1), (5, .pointer (some ⟨B5, 0, none⟩)), (6, .pointer (some ⟨B6, 0, none⟩)), (8, .pointer (some ⟨B8, 0, none⟩)), (11, .pointer (some ⟨b, 0, none⟩)), (0, .int .i64 1), (3, .int .i64 e)]) (fun _ => h') (fun j => r1.n - j) ?_ 0 (Nat.zero_le _) (by rw [List.take_zero, show sumL [] = 0 from rfl, Int.add_zero]; (refine Sub.cons rfl (Sub.cons rfl (Sub.cons rfl (Sub.cons rfl (Sub.cons rfl (Sub.cons rfl (Sub.cons rfl (Sub.cons rfl (Sub.cons rfl (Sub.cons rfl ?_))))))))); exact Sub.nil _)) rfl
 intro j hj
 have hs := sumL_rng hT1.args j (by omega)
 by_cases hlt : (j : Int) < r1.n
 ·have hjl : j < r1.xs.length := by omega
  have hxi := hT1.args _ (List.getElem_mem hjl)
  (refine Cs (Cs (Co (Wm rfl (Wm rfl (Wc (OP.fieldAddr0 rfl (Wc (OP.idxArrZ rfl rfl (by decide) (by simp only [Int.reduceToNat, Nat.mul_one, Nat.zero_add, Nat.reduceMul, Nat.reduceAdd]; rfl) ?_)))))))); refine Wc (OL.load1 (k := 7) hL rfl rfl rfl (Wc (OP.lenS rfl (Wc (OP.lssT rfl rfl (by omega) ?_))))); refine Wt ?_; refine WC.condT rfl (Ks ?_); refine Cs (WC.block (Co (Wm rfl (Wm rfl (Wc (OP.fieldAddr0 rfl (Wc (OP.idxArrZ rfl rfl (by decide) (by simp only [Int.reduceToNat, Nat.mul_one, Nat.zero_add, Nat.reduceMul, Nat.reduceAdd]; rfl) ?_)))))))); refine Wc (OL.load1 (k := 7) hL rfl rfl rfl (Wm rfl (Wc (OP.idxS (Sl.pfx (by assumption) (Loc.pfx hL)) rfl rfl (by omega) ?_)))); refine Wc (OP.ldI (Sl.pfx (by assumption) (Loc.pfx hL)) rfl (by omega) ?_); refine Wc (OP.add rfl rfl (by omega) ?_); refine Wm rfl (Wt ?_); refine Co (Wm rfl (Wc (OP.add rfl rfl (by omega) ?_))); refine Wm rfl (Wt ?_))
  refine ⟨j + 1, by omega, ?_, rfl, by omega⟩
  rw [sumL_snoc hjl, ← Int.add_assoc]
  (refine Sub.cons rfl (Sub.cons rfl (Sub.cons rfl (Sub.cons rfl (Sub.cons rfl (Sub.cons rfl (Sub.cons rfl (Sub.cons rfl (Sub.cons rfl (Sub.cons rfl ?_))))))))); exact Sub.nil _)
 rw [List.take_of_length_le (by omega)]
 clear hs
 (refine Cs (Cs (Co (Wm rfl (Wm rfl (Wc (OP.fieldAddr0 rfl (Wc (OP.idxArrZ rfl rfl (by decide) (by simp only [Int.reduceToNat, Nat.mul_one, Nat.zero_add, Nat.reduceMul, Nat.reduceAdd]; rfl) ?_)))))))); refine Wc (OL.load1 (k := 7) hL rfl rfl rfl (Wc (OP.lenS rfl (Wc (OP.lssF rfl rfl (by omega) ?_))))); refine Wt ?_; refine WC.condF rfl (WC.exit ?_); dsimp only [zn, zr, zx, yn, yr]; rw [yx, if_pos rfl]; dsimp only [zn, zr, zx, yn, yr]; refine Co (Wm rfl (Wc (OP.addL rfl rfl (by simp only [Int.reduceAdd]; rfl) (by decide) ?_))); refine Wm rfl (Wt ?_))
 refine WC.unroll ?_
 (refine Cs (Cs (Co (Wm rfl (Wc (OP.lssT rfl rfl (by omega) ?_))))); refine Wt ?_; refine WC.condT rfl (Ks ?_); refine Cs (WC.block (Cs (Co (Wm rfl (Wm rfl (Wc (OP.fieldAddr0 rfl (Wc (OP.idxArrZ rfl rfl (by decide) (by simp only [Int.reduceToNat, Nat.mul_one, Nat.zero_add, Nat.reduceMul, Nat.reduceAdd]; rfl) ?_))))))))); refine Wc (OL.load1 (k := 7) hL rfl rfl rfl (Wc (OP.lenS rfl (Wc (OP.add rfl rfl (by omega) ?_))))); refine Wm rfl (Wt ?_); refine Cs (Co (Wm rfl (Wt ?_))); refine WC.block ?_)
 refine WC.loop (fun j : Nat => j ≤ r2.n) (fun j => [(15, .int .i64 (j : Int)), (12, .int .i64 (0 + sumL r0.xs + sumL r1.xs + sumL (r2.xs.take j))), (13, .int .i64 (0 + (r0.n : Int) + (r1.n : Int) + (r2.n : Int))), (14, .int .i64 2), (5, .pointer (some ⟨B5, 0, none⟩)), (6, .pointer (some ⟨B6, 0, none⟩)), (8, .pointer (some ⟨B8, 0, none⟩)), (11, .pointer (some ⟨b, 0, none⟩)), (0, .int .i64 1), (3, .int .i64 e)]) (fun _ => h') (fun j => r2.n - j) ?_ 0 (Nat.zero_le _) (by rw [List.take_zero, show sumL [] = 0 from rfl, Int.add_zero]; (refine Sub.cons rfl (Sub.cons rfl (Sub.cons rfl (Sub.cons rfl (Sub.cons rfl (Sub.cons rfl (Sub.cons rfl (Sub.cons rfl (Sub.cons rfl (Sub.cons rfl ?_))))))))); exact Sub.nil _)) rfl
 intro j hj
 have hs := sumL_rng hT2.args j (by omega)
 by_cases hlt : (j : Int) < r2.n
 ·have hjl : j < r2.xs.length := by omega
  have hxi := hT2.args _ (List.getElem_mem hjl)
  (refine Cs (Cs (Co (Wm rfl (Wm rfl (Wc (OP.fieldAddr0 rfl (Wc (OP.idxArrZ rfl rfl (by decide) (by simp only [Int.reduceToNat, Nat.mul_one, Nat.zero_add, Nat.reduceMul, Nat.reduceAdd]; rfl) ?_)))))))); refine Wc (OL.load1 (k := 7) hL rfl rfl rfl (Wc (OP.lenS rfl (Wc (OP.lssT rfl rfl (by omega) ?_))))); refine Wt ?_; refine WC.condT rfl (Ks ?_); refine Cs (WC.block (Co (Wm rfl (Wm rfl (Wc (OP.fieldAddr0 rfl (Wc (OP.idxArrZ rfl rfl (by decide) (by simp only [Int.reduceToNat, Nat.mul_one, Nat.zero_add, Nat.reduceMul, Nat.reduceAdd]; rfl) ?_)))))))); refine Wc (OL.load1 (k := 7) hL rfl rfl rfl (Wm rfl (Wc (OP.idxS (Sl.pfx (by assumption) (Loc.pfx hL)) rfl rfl (by omega) ?_)))); refine Wc (OP.ldI (Sl.pfx (by assumption) (Loc.pfx hL)) rfl (by omega) ?_); refine Wc (OP.add rfl rfl (by omega) ?_); refine Wm rfl (Wt ?_); refine Co (Wm rfl (Wc (OP.add rfl rfl (by omega) ?_))); refine Wm rfl (Wt ?_))
  refine ⟨j + 1, by omega, ?_, rfl, by omega⟩
  rw [sumL_snoc hjl, ← Int.add_assoc]
  (refine Sub.cons rfl (Sub.cons rfl (Sub.cons rfl (Sub.cons rfl (Sub.cons rfl (Sub.cons rfl (Sub.cons rfl (Sub.cons rfl (Sub.cons rfl (Sub.cons rfl ?_))))))))); exact Sub.nil _)
 rw [List.take_of_length_le (by omega)]
 clear hs
 (refine Cs (Cs (Co (Wm rfl (Wm rfl (Wc (OP.fieldAddr0 rfl (Wc (OP.idxArrZ rfl rfl (by decide) (by simp only [Int.reduceToNat, Nat.mul_one, Nat.zero_add, Nat.reduceMul, Nat.reduceAdd]; rfl) ?_)))))))); refine Wc (OL.load1 (k := 7) hL rfl rfl rfl (Wc (OP.lenS rfl (Wc (OP.lssF rfl rfl (by omega) ?_))))); refine Wt ?_; refine WC.condF rfl (WC.exit ?_); dsimp only [zn, zr, zx, yn, yr]; rw [yx, if_pos rfl]; dsimp only [zn, zr, zx, yn, yr]; refine Co (Wm rfl (Wc (OP.addL rfl rfl (by simp only [Int.reduceAdd]; rfl) (by decide) ?_))); refine Wm rfl (Wt ?_))
 refine WC.unroll ?_
 (refine Cs (Cs (Co (Wm rfl (Wc (OP.lssT rfl rfl (by omega) ?_))))); refine Wt ?_; refine WC.condT rfl (Ks ?_); refine Cs (WC.block (Cs (Co (Wm rfl (Wm rfl (Wc (OP.fieldAddr0 rfl (Wc (OP.idxArrZ rfl rfl (by decide) (by simp only [Int.reduceToNat, Nat.mul_one, Nat.zero_add, Nat.reduceMul, Nat.reduceAdd]; rfl) ?_))))))))); refine Wc (OL.load1 (k := 7) hL rfl rfl rfl (Wc (OP.lenS rfl (Wc (OP.add rfl rfl (by omega) ?_))))); refine Wm rfl (Wt ?_); refine Cs (Co (Wm rfl (Wt ?_))); refine WC.block ?_)
 refine WC.loop (fun j : Nat => j ≤ r3.n) (fun j => [(15, .int .i64 (j : Int)), (12, .int .i64 (0 + sumL r0.xs + sumL r1.xs + sumL r2.xs + sumL (r3.xs.take j))), (13, .int .i64 (0 + (r0.n : Int) + (r1.n : Int) + (r2.n : Int) + (r3.n : Int))), (14, .int .i64 3), (5, .pointer (some ⟨B5, 0, none⟩)), (6, .pointer (some ⟨B6, 0, none⟩)), (8, .pointer (some ⟨B8, 0, none⟩)), (11, .pointer (some ⟨b, 0, none⟩)), (0, .int .i64 1), (3, .int .i64 e)]) (fun _ => h') (fun j => r3.n - j) ?_ 0 (Nat.zero_le _) (by rw [List.take_zero, show sumL [] = 0 from rfl, Int.add_zero]; (refine Sub.cons rfl (Sub.cons rfl (Sub.cons rfl (Sub.cons rfl (Sub.cons rfl (Sub.cons rfl (Sub.cons rfl (Sub.cons rfl (Sub.cons rfl (Sub.cons rfl ?_))))))))); exact Sub.nil _)) rfl
 intro j hj
 have hs := sumL_rng hT3.args j (by omega)
 by_cases hlt : (j : Int) < r3.n
 ·have hjl : j < r3.xs.length := by omega
  have hxi := hT3.args _ (List.getElem_mem hjl)
  (refine Cs (Cs (Co (Wm rfl (Wm rfl (Wc (OP.fieldAddr0 rfl (Wc (OP.idxArrZ rfl rfl (by decide) (by simp only [Int.reduceToNat, Nat.mul_one, Nat.zero_add, Nat.reduceMul, Nat.reduceAdd]; rfl) ?_)))))))); refine Wc (OL.load1 (k := 7) hL rfl rfl rfl (Wc (OP.lenS rfl (Wc (OP.lssT rfl rfl (by omega) ?_))))); refine Wt ?_; refine WC.condT rfl (Ks ?_); refine Cs (WC.block (Co (Wm rfl (Wm rfl (Wc (OP.fieldAddr0 rfl (Wc (OP.idxArrZ rfl rfl (by decide) (by simp only [Int.reduceToNat, Nat.mul_one, Nat.zero_add, Nat.reduceMul, Nat.reduceAdd]; rfl) ?_)))))))); refine Wc (OL.load1 (k := 7) hL rfl rfl rfl (Wm rfl (Wc (OP.idxS (Sl.pfx (by assumption) (Loc.pfx hL)) rfl rfl (by omega) ?_)))); refine Wc (OP.ldI (Sl.pfx (by assumption) (Loc.pfx hL)) rfl (by omega) ?_); refine Wc (OP.add rfl rfl (by omega) ?_); refine Wm rfl (Wt ?_); refine Co (Wm rfl (Wc (OP.add rfl rfl (by omega) ?_))); refine Wm rfl (Wt ?_))
  refine ⟨j + 1, by omega, ?_, rfl, by omega⟩
  rw [sumL_snoc hjl, ← Int.add_assoc]
  (refine Sub.cons rfl (Sub.cons rfl (Sub.cons rfl (Sub.cons rfl (Sub.cons rfl (Sub.cons rfl (Sub.cons rfl (Sub.cons rfl (Sub.cons rfl (Sub.cons rfl ?_))))))))); exact Sub.nil _)
 rw [List.take_of_length_le (by omega)]
 clear hs
 (refine Cs (Cs (Co (Wm rfl (Wm rfl (Wc (OP.fieldAddr0 rfl (Wc (OP.idxArrZ rfl rfl (by decide) (by simp only [Int.reduceToNat, Nat.mul_one, Nat.zero_add, Nat.reduceMul, Nat.reduceAdd]; rfl) ?_)))))))); refine Wc (OL.load1 (k := 7) hL rfl rfl rfl (Wc (OP.lenS rfl (Wc (OP.lssF rfl rfl (by omega) ?_))))); refine Wt ?_; refine WC.condF rfl (WC.exit ?_); dsimp only [zn, zr, zx, yn, yr]; rw [yx, if_pos rfl]; dsimp only [zn, zr, zx, yn, yr]; refine Co (Wm rfl (Wc (OP.addL rfl rfl (by simp only [Int.reduceAdd]; rfl) (by decide) ?_))); refine Wm rfl (Wt ?_))
 refine WC.unroll ?_
 (refine Cs (Cs (Co (Wm rfl (Wc (OP.lssF rfl rfl (by omega) ?_))))); refine Wt ?_; refine WC.condF rfl (WC.exit ?_); dsimp only [zn, zr, zx, yn, yr]; rw [yx, if_pos rfl]; dsimp only [zn, zr, zx, yn, yr]; refine Cs (Cs (Co (Wc (OP.fieldAddr0 rfl (Wc (OL.load1 (k := 6) hL rfl rfl rfl (Wc ?_))))))); refine OP.eqlC rfl rfl (fun hc => ?_) (fun hc => ?_); refine Wt ?_; refine WC.condT rfl (Cs (Cs (Co (Wm rfl (Wc (OP.eqlF rfl rfl (by omega) ?_)))))); refine Wt ?_; refine WC.condF rfl (Ks ?_); refine Cs (Co (Wc (OL.loadAll (k := 0) hL rfl rfl rfl (Wm rfl (WO.cons0 ?_))))); refine OL.storeAll (k := 5) hL hlim rfl rfl rfl rfl rfl rfl (by decide) rfl (fun h' hL => ?_); dsimp only [List.set, Nat.zero_add, Nat.reduceAdd, Nat.reduceMul] at hL; refine Wm rfl (Wm rfl (Wt ?_)); refine WC.ret ?_; dsimp only [zn, zr, zx, yn, yr])
 have hmany : (0 : Int) + r0.n + r1.n + r2.n + r3.n = ((allL ⟨r0.xs, r1.xs, r2.xs, r3.xs⟩).length : Int) := by
  simp [allL]; omega
 rw [zc3 hc, hmany]
 have A0 := hL.rA (n := n0) (xs := r0.xs)
 have A1 := hL.rA (n := n1) (xs := r1.xs)
 have A2 := hL.rA (n := n2) (xs := r2.xs)
 have A3 := hL.rA (n := n3) (xs := r3.xs)
 exact Fin.ret (resL_cell rfl (hL.cell (k := 5) rfl) rfl rfl) ⟨hL.pfx, ⟨a0, n0, r0.xs⟩, ⟨a1, n1, r1.xs⟩, ⟨a2, n2, r2.xs⟩, ⟨a3, n3, r3.xs⟩, rfl, ⟨rfl, rfl, rfl, rfl⟩, ⟨A0.1, A1.1, A2.1, A3.1⟩, A0.2, A1.2, A2.2, A3.2⟩
 (refine Wt ?_; refine WC.condF rfl (Ks ?_); refine Cs (Co (Wc (OP.fieldAddr0 rfl (Wc (OL.load1 (k := 6) hL rfl rfl rfl (Wc (OP.fieldAddr0 rfl ?_))))))))
 dsimp only [Row.v] at hL ⊢
 have q0 : Sl 1 h' a0 n0 n0 (ints r0.xs) := hL.apM (by repeat (first | exact mh | apply mt))
 have q1 : Sl 1 h' a1 n1 n1 (ints r1.xs) := hL.apM (by repeat (first | exact mh | apply mt))
 have q2 : Sl 1 h' a2 n2 n2 (ints r2.xs) := hL.apM (by repeat (first | exact mh | apply mt))
 have q3 : Sl 1 h' a3 n3 n3 (ints r3.xs) := hL.apM (by repeat (first | exact mh | apply mt))
 have hr : r = 0 ∨ r = 1 ∨ r = 2 ∨ r = 3 := by omega
 have hcc : c = 0 ∨ c = 1 ∨ c = 2 := by omega
 clear zc3 u0 u1 u2 u3
 rcases hr with rfl | rfl | rfl | rfl
 ·rcases hcc with rfl | rfl | rfl
  ·rw [zc0 rfl, show S4.get ⟨r0.xs, r1.xs, r2.xs, r3.xs⟩ 0 = r0.xs from rfl]
   clear zc0 zc1 zc2
   by_cases hfull : (takeL r0.xs).2 = -1
   ·rw [takeL_full hfull]
    (refine Wc (OP.idxArrZ rfl rfl (by decide) (by simp only [Int.reduceToNat, Nat.mul_one, Nat.zero_add, Nat.reduceMul, Nat.reduceAdd]; rfl) ?_); refine Wc (OL.load1 (k := 0) hL rfl rfl rfl (Wm rfl (Wt ?_))); refine Cs (Cs (Co (Wc (OP.fieldAddr0 rfl (Wc (OL.load1 (k := 6) hL rfl rfl rfl (Wc (OP.eqlF rfl rfl (by omega) ?_)))))))); refine Wt ?_; refine WC.condF rfl (Ks ?_); refine Cs (Co (Wm rfl (Wt ?_))); refine Cs (Cs (Co (Wm rfl (Wt ?_)))); refine WC.block (Cs (Co (Wc (OP.eqlF rfl rfl (by omega) ?_)))); refine Wm rfl (Wt ?_); refine WC.condF rfl (Cs (Co (Wc (OP.eqlT rfl rfl (by omega) ?_)))); refine Wm rfl (Wt ?_); refine WC.condT rfl (Co (Wm rfl (Wc (OL.loadAll (k := 6) hL rfl rfl rfl ?_)))))
    (refine Wc ?_)
    refine OL.callV hL rfl rfl (c3'.1.1 _ _ q0 hT0 hfull) (fun h' hp hL => ?_)
    (refine Wm rfl (Wc (OP.extract rfl rfl (Wc (OP.extract rfl rfl (Wm rfl (Wm rfl (Wt ?_))))))); refine Cs (Co (Wc (OP.fieldAddr0 rfl (Wc (OL.load1 (k := 6) hL rfl rfl rfl (Wm rfl (Wc (OP.fieldAddr0 rfl (Wc (OP.idxArrZ rfl rfl (by decide) (by simp only [Int.reduceToNat, Nat.mul_one, Nat.zero_add, Nat.reduceMul, Nat.reduceAdd]; rfl) ?_)))))))))); refine WO.cons0 ?_; refine OL.store1 (k := 0) hL hlim rfl rfl rfl rfl rfl rfl rfl (fun h' hL => ?_); dsimp only [List.set, Nat.zero_add, Nat.reduceAdd, Nat.reduceMul] at hL; refine Wt ?_; refine Cs (Co (Wc (OL.loadAll (k := 0) hL rfl rfl rfl (Wm rfl (WO.cons0 ?_))))); refine OL.storeAll (k := 5) hL hlim rfl rfl rfl rfl rfl rfl (by decide) rfl (fun h' hL => ?_); dsimp only [List.set, Nat.zero_add, Nat.reduceAdd, Nat.reduceMul] at hL; refine Wm rfl (Wm rfl (Wt ?_)); refine WC.ret ?_)
    have A0 := hL.rA (n := n0) (xs := r0.xs)
    have A1 := hL.rA (n := n1) (xs := r1.xs)
    have A2 := hL.rA (n := n2) (xs := r2.xs)
    have A3 := hL.rA (n := n3) (xs := r3.xs)
    exact Fin.ret (resL_cell rfl (hL.cell (k := 5) rfl) rfl rfl) ⟨hL.pfx, ⟨a0, n0, r0.xs⟩, ⟨a1, n1, r1.xs⟩, ⟨a2, n2, r2.xs⟩, ⟨a3, n3, r3.xs⟩, rfl, ⟨rfl, rfl, rfl, rfl⟩, ⟨A0.1, A1.1, A2.1, A3.1⟩, A0.2, A1.2, A2.2, A3.2⟩
   ·(refine Wc (OP.idxArrZ rfl rfl (by decide) (by simp only [Int.reduceToNat, Nat.mul_one, Nat.zero_add, Nat.reduceMul, Nat.reduceAdd]; rfl) ?_); refine Wc (OL.load1 (k := 0) hL rfl rfl rfl (Wm rfl (Wt ?_))); refine Cs (Cs (Co (Wc (OP.fieldAddr0 rfl (Wc (OL.load1 (k := 6) hL rfl rfl rfl (Wc (OP.eqlF rfl rfl (by omega) ?_)))))))); refine Wt ?_; refine WC.condF rfl (Ks ?_); refine Cs (Co (Wm rfl (Wt ?_))); refine Cs (Cs (Co (Wm rfl (Wt ?_)))); refine WC.block (Cs (Co (Wc (OP.eqlF rfl rfl (by omega) ?_)))); refine Wm rfl (Wt ?_); refine WC.condF rfl (Cs (Co (Wc (OP.eqlT rfl rfl (by omega) ?_)))); refine Wm rfl (Wt ?_); refine WC.condT rfl (Co (Wm rfl (Wc (OL.loadAll (k := 6) hL rfl rfl rfl ?_)))))
    (refine Wc ?_)
    refine OL.callSl hL rfl rfl (c3'.1.2 _ _ (hL.lm hlim) q0 hT0 hfull) (fun a' n' h' hp hL => ?_)
    (refine Wm rfl (Wc (OP.extract rfl rfl (Wc (OP.extract rfl rfl (Wm rfl (Wm rfl (Wt ?_))))))); refine Cs (Co (Wc (OP.fieldAddr0 rfl (Wc (OL.load1 (k := 7) hL rfl rfl rfl (Wm rfl (Wc (OP.fieldAddr0 rfl (Wc (OP.idxArrZ rfl rfl (by decide) (by simp only [Int.reduceToNat, Nat.mul_one, Nat.zero_add, Nat.reduceMul, Nat.reduceAdd]; rfl) ?_)))))))))); refine WO.cons0 ?_; refine OL.store1 (k := 1) hL hlim rfl rfl rfl rfl rfl rfl rfl (fun h' hL => ?_); dsimp only [List.set, Nat.zero_add, Nat.reduceAdd, Nat.reduceMul] at hL; refine Wt ?_; refine Cs (Co (Wc (OL.loadAll (k := 1) hL rfl rfl rfl (Wm rfl (WO.cons0 ?_))))); refine OL.storeAll (k := 6) hL hlim rfl rfl rfl rfl rfl rfl (by decide) rfl (fun h' hL => ?_); dsimp only [List.set, Nat.zero_add, Nat.reduceAdd, Nat.reduceMul] at hL; refine Wm rfl (Wm rfl (Wt ?_)); refine WC.ret ?_)
    have hw := hL.rowSl (xs := (takeL r0.xs).1) (by repeat (first | exact mh | apply mt)) (Nat.le_trans (takeL_len hT0) (by decide))
    have A1 := hL.rA (n := n1) (xs := r1.xs)
    have A2 := hL.rA (n := n2) (xs := r2.xs)
    have A3 := hL.rA (n := n3) (xs := r3.xs)
    exact Fin.ret (resL_cell rfl (hL.cell (k := 6) rfl) rfl rfl) ⟨hL.pfx, ⟨_, _, (takeL r0.xs).1⟩, ⟨a1, n1, r1.xs⟩, ⟨a2, n2, r2.xs⟩, ⟨a3, n3, r3.xs⟩, rfl, ⟨rfl, rfl, rfl, rfl⟩, ⟨hw.1, A1.1, A2.1, A3.1⟩, hw.2, A1.2, A2.2, A3.2⟩
  ·rw [zc1 rfl, show S4.get ⟨r0.xs, r1.xs, r2.xs, r3.xs⟩ 0 = r0.xs from rfl]
   clear zc0 zc1 zc2
   by_cases hin : a ∈ r0.xs
   ·rw [show freeL r0.xs a = (outL r0.xs a, 1) from if_pos hin]
    (refine Wc (OP.idxArrZ rfl rfl (by decide) (by simp only [Int.reduceToNat, Nat.mul_one, Nat.zero_add, Nat.reduceMul, Nat.reduceAdd]; rfl) ?_); refine Wc (OL.load1 (k := 0) hL rfl rfl rfl (Wm rfl (Wt ?_))); refine Cs (Cs (Co (Wc (OP.fieldAddr0 rfl (Wc (OL.load1 (k := 6) hL rfl rfl rfl (Wc (OP.eqlF rfl rfl (by omega) ?_)))))))); refine Wt ?_; refine WC.condF rfl (Ks ?_); refine Cs (Co (Wm rfl (Wt ?_))); refine Cs (Cs (Co (Wm rfl (Wt ?_)))); refine WC.block (Cs (Co (Wc (OP.eqlF rfl rfl (by omega) ?_)))); refine Wm rfl (Wt ?_); refine WC.condF rfl (Cs (Co (Wc (OP.eqlT rfl rfl (by omega) ?_)))); refine Wm rfl (Wt ?_); refine WC.condT rfl (Co (Wm rfl (Wc (OL.loadAll (k := 6) hL rfl rfl rfl ?_)))))
    (refine Wc ?_)
    refine OL.callSl hL rfl rfl (c3'.2.2 _ _ (hL.lm hlim) q0 hT0 hin) (fun a' n' h' hp hL => ?_)
    (refine Wm rfl (Wc (OP.extract rfl rfl (Wc (OP.extract rfl rfl (Wm rfl (Wm rfl (Wt ?_))))))); refine Cs (Co (Wc (OP.fieldAddr0 rfl (Wc (OL.load1 (k := 7) hL rfl rfl rfl (Wm rfl (Wc (OP.fieldAddr0 rfl (Wc (OP.idxArrZ rfl rfl (by decide) (by simp only [Int.reduceToNat, Nat.mul_one, Nat.zero_add, Nat.reduceMul, Nat.reduceAdd]; rfl) ?_)))))))))); refine WO.cons0 ?_; refine OL.store1 (k := 1) hL hlim rfl rfl rfl rfl rfl rfl rfl (fun h' hL => ?_); dsimp only [List.set, Nat.zero_add, Nat.reduceAdd, Nat.reduceMul] at hL; refine Wt ?_; refine Cs (Co (Wc (OL.loadAll (k := 1) hL rfl rfl rfl (Wm rfl (WO.cons0 ?_))))); refine OL.storeAll (k := 6) hL hlim rfl rfl rfl rfl rfl rfl (by decide) rfl (fun h' hL => ?_); dsimp only [List.set, Nat.zero_add, Nat.reduceAdd, Nat.reduceMul] at hL; refine Wm rfl (Wm rfl (Wt ?_)); refine WC.ret ?_)
    have hw := hL.rowSl (xs := outL r0.xs a) (by repeat (first | exact mh | apply mt)) (Nat.le_trans (List.length_filter_le _ _) (by omega))
    have A1 := hL.rA (n := n1) (xs := r1.xs)
    have A2 := hL.rA (n := n2) (xs := r2.xs)
    have A3 := hL.rA (n := n3) (xs := r3.xs)
    exact Fin.ret (resL_cell rfl (hL.cell (k := 6) rfl) rfl rfl) ⟨hL.pfx, ⟨_, _, outL r0.xs a⟩, ⟨a1, n1, r1.xs⟩, ⟨a2, n2, r2.xs⟩, ⟨a3, n3, r3.xs⟩, rfl, ⟨rfl, rfl, rfl, rfl⟩, ⟨hw.1, A1.1, A2.1, A3.1⟩, hw.2, A1.2, A2.2, A3.2⟩
   ·rw [show freeL r0.xs a = (r0.xs, 0) from if_neg hin]
    (refine Wc (OP.idxArrZ rfl rfl (by decide) (by simp only [Int.reduceToNat, Nat.mul_one, Nat.zero_add, Nat.reduceMul, Nat.reduceAdd]; rfl) ?_); refine Wc (OL.load1 (k := 0) hL rfl rfl rfl (Wm rfl (Wt ?_))); refine Cs (Cs (Co (Wc (OP.fieldAddr0 rfl (Wc (OL.load1 (k := 6) hL rfl rfl rfl (Wc (OP.eqlF rfl rfl (by omega) ?_)))))))); refine Wt ?_; refine WC.condF rfl (Ks ?_); refine Cs (Co (Wm rfl (Wt ?_))); refine Cs (Cs (Co (Wm rfl (Wt ?_)))); refine WC.block (Cs (Co (Wc (OP.eqlF rfl rfl (by omega) ?_)))); refine Wm rfl (Wt ?_); refine WC.condF rfl (Cs (Co (Wc (OP.eqlT rfl rfl (by omega) ?_)))); refine Wm rfl (Wt ?_); refine WC.condT rfl (Co (Wm rfl (Wc (OL.loadAll (k := 6) hL rfl rfl rfl ?_)))))
    (refine Wc ?_)
    refine OL.callV hL rfl rfl (c3'.2.1 _ _ q0 hT0 hin) (fun h' hp hL => ?_)
    (refine Wm rfl (Wc (OP.extract rfl rfl (Wc (OP.extract rfl rfl (Wm rfl (Wm rfl (Wt ?_))))))); refine Cs (Co (Wc (OP.fieldAddr0 rfl (Wc (OL.load1 (k := 6) hL rfl rfl rfl (Wm rfl (Wc (OP.fieldAddr0 rfl (Wc (OP.idxArrZ rfl rfl (by decide) (by simp only [Int.reduceToNat, Nat.mul_one, Nat.zero_add, Nat.reduceMul, Nat.reduceAdd]; rfl) ?_)))))))))); refine WO.cons0 ?_; refine OL.store1 (k := 0) hL hlim rfl rfl rfl rfl rfl rfl rfl (fun h' hL => ?_); dsimp only [List.set, Nat.zero_add, Nat.reduceAdd, Nat.reduceMul] at hL; refine Wt ?_; refine Cs (Co (Wc (OL.loadAll (k := 0) hL rfl rfl rfl (Wm rfl (WO.cons0 ?_))))); refine OL.storeAll (k := 5) hL hlim rfl rfl rfl rfl rfl rfl (by decide) rfl (fun h' hL => ?_); dsimp only [List.set, Nat.zero_add, Nat.reduceAdd, Nat.reduceMul] at hL; refine Wm rfl (Wm rfl (Wt ?_)); refine WC.ret ?_)
    have A0 := hL.rA (n := n0) (xs := r0.xs)
    have A1 := hL.rA (n := n1) (xs := r1.xs)
    have A2 := hL.rA (n := n2) (xs := r2.xs)
    have A3 := hL.rA (n := n3) (xs := r3.xs)
    exact Fin.ret (resL_cell rfl (hL.cell (k := 5) rfl) rfl rfl) ⟨hL.pfx, ⟨a0, n0, r0.xs⟩, ⟨a1, n1, r1.xs⟩, ⟨a2, n2, r2.xs⟩, ⟨a3, n3, r3.xs⟩, rfl, ⟨rfl, rfl, rfl, rfl⟩, ⟨A0.1, A1.1, A2.1, A3.1⟩, A0.2, A1.2, A2.2, A3.2⟩
  ·rw [zc2 rfl, show S4.get ⟨r0.xs, r1.xs, r2.xs, r3.xs⟩ 0 = r0.xs from rfl, show r0.xs.length = n0 by omega]
   clear zc0 zc1 zc2
   (refine Wc (OP.idxArrZ rfl rfl (by decide) (by simp only [Int.reduceToNat, Nat.mul_one, Nat.zero_add, Nat.reduceMul, Nat.reduceAdd]; rfl) ?_); refine Wc (OL.load1 (k := 0) hL rfl rfl rfl (Wm rfl (Wt ?_))); refine Cs (Cs (Co (Wc (OP.fieldAddr0 rfl (Wc (OL.load1 (k := 6) hL rfl rfl rfl (Wc (OP.eqlT rfl rfl (by omega) ?_)))))))); refine Wt ?_; refine WC.condT rfl (Cs (Cs (Co (Wm rfl (Wc (OP.eqlF rfl rfl (by omega) ?_)))))); refine Wt ?_; refine WC.condF rfl (Ks ?_); refine Cs (Co (Wc (OL.loadAll (k := 0) hL rfl rfl rfl (Wm rfl (Wc (OP.lenS rfl (WO.cons0 ?_))))))); refine OL.storeAll (k := 5) hL hlim rfl rfl rfl rfl rfl rfl (by decide) rfl (fun h' hL => ?_); dsimp only [List.set, Nat.zero_add, Nat.reduceAdd, Nat.reduceMul] at hL; refine Wm rfl (Wm rfl (Wt ?_)); refine WC.ret ?_; dsimp only [zn, zr, zx, yn, yr])
   have A0 := hL.rA (n := n0) (xs := r0.xs)
   have A1 := hL.rA (n := n1) (xs := r1.xs)
   have A2 := hL.rA (n := n2) (xs := r2.xs)
   have A3 := hL.rA (n := n3) (xs := r3.xs)
   exact Fin.ret (resL_cell rfl (hL.cell (k := 5) rfl) rfl rfl) ⟨hL.pfx, ⟨a0, n0, r0.xs⟩, ⟨a1, n1, r1.xs⟩, ⟨a2, n2, r2.xs⟩, ⟨a3, n3, r3.xs⟩, rfl, ⟨rfl, rfl, rfl, rfl⟩, ⟨A0.1, A1.1, A2.1, A3.1⟩, A0.2, A1.2, A2.2, A3.2⟩
 ·rcases hcc with rfl | rfl | rfl
  ·rw [zc0 rfl, show S4.get ⟨r0.xs, r1.xs, r2.xs, r3.xs⟩ 1 = r1.xs from rfl]
   clear zc0 zc1 zc2
   by_cases hfull : (takeL r1.xs).2 = -1
   ·rw [takeL_full hfull]
    (refine Wc (OP.idxArrZ rfl rfl (by decide) (by simp only [Int.reduceToNat, Nat.mul_one, Nat.zero_add, Nat.reduceMul, Nat.reduceAdd]; rfl) ?_); refine Wc (OL.load1 (k := 0) hL rfl rfl rfl (Wm rfl (Wt ?_))); refine Cs (Cs (Co (Wc (OP.fieldAddr0 rfl (Wc (OL.load1 (k := 6) hL rfl rfl rfl (Wc (OP.eqlF rfl rfl (by omega) ?_)))))))); refine Wt ?_; refine WC.condF rfl (Ks ?_); refine Cs (Co (Wm rfl (Wt ?_))); refine Cs (Cs (Co (Wm rfl (Wt ?_)))); refine WC.block (Cs (Co (Wc (OP.eqlF rfl rfl (by omega) ?_)))); refine Wm rfl (Wt ?_); refine WC.condF rfl (Cs (Co (Wc (OP.eqlT rfl rfl (by omega) ?_)))); refine Wm rfl (Wt ?_); refine WC.condT rfl (Co (Wm rfl (Wc (OL.loadAll (k := 6) hL rfl rfl rfl ?_)))))
    (refine Wc ?_)
    refine OL.callV hL rfl rfl (c3'.1.1 _ _ q1 hT1 hfull) (fun h' hp hL => ?_)
    (refine Wm rfl (Wc (OP.extract rfl rfl (Wc (OP.extract rfl rfl (Wm rfl (Wm rfl (Wt ?_))))))); refine Cs (Co (Wc (OP.fieldAddr0 rfl (Wc (OL.load1 (k := 6) hL rfl rfl rfl (Wm rfl (Wc (OP.fieldAddr0 rfl (Wc (OP.idxArrZ rfl rfl (by decide) (by simp only [Int.reduceToNat, Nat.mul_one, Nat.zero_add, Nat.reduceMul, Nat.reduceAdd]; rfl) ?_)))))))))); refine WO.cons0 ?_; refine OL.store1 (k := 0) hL hlim rfl rfl rfl rfl rfl rfl rfl (fun h' hL => ?_); dsimp only [List.set, Nat.zero_add, Nat.reduceAdd, Nat.reduceMul] at hL; refine Wt ?_; refine Cs (Co (Wc (OL.loadAll (k := 0) hL rfl rfl rfl (Wm rfl (WO.cons0 ?_))))); refine OL.storeAll (k := 5) hL hlim rfl rfl rfl rfl rfl rfl (by decide) rfl (fun h' hL => ?_); dsimp only [List.set, Nat.zero_add, Nat.reduceAdd, Nat.reduceMul] at hL; refine Wm rfl (Wm rfl (Wt ?_)); refine WC.ret ?_)
    have A0 := hL.rA (n := n0) (xs := r0.xs)
    have A1 := hL.rA (n := n1) (xs := r1.xs)
    have A2 := hL.rA (n := n2) (xs := r2.xs)
    have A3 := hL.rA (n := n3) (xs := r3.xs)
    exact Fin.ret (resL_cell rfl (hL.cell (k := 5) rfl) rfl rfl) ⟨hL.pfx, ⟨a0, n0, r0.xs⟩, ⟨a1, n1, r1.xs⟩, ⟨a2, n2, r2.xs⟩, ⟨a3, n3, r3.xs⟩, rfl, ⟨rfl, rfl, rfl, rfl⟩, ⟨A0.1, A1.1, A2.1, A3.1⟩, A0.2, A1.2, A2.2, A3.2⟩
   ·(refine Wc (OP.idxArrZ rfl rfl (by decide) (by simp only [Int.reduceToNat, Nat.mul_one, Nat.zero_add, Nat.reduceMul, Nat.reduceAdd]; rfl) ?_); refine Wc (OL.load1 (k := 0) hL rfl rfl rfl (Wm rfl (Wt ?_))); refine Cs (Cs (Co (Wc (OP.fieldAddr0 rfl (Wc (OL.load1 (k := 6) hL rfl rfl rfl (Wc (OP.eqlF rfl rfl (by omega) ?_)))))))); refine Wt ?_; refine WC.condF rfl (Ks ?_); refine Cs (Co (Wm rfl (Wt ?_))); refine Cs (Cs (Co (Wm rfl (Wt ?_)))); refine WC.block (Cs (Co (Wc (OP.eqlF rfl rfl (by omega) ?_)))); refine Wm rfl (Wt ?_); refine WC.condF rfl (Cs (Co (Wc (OP.eqlT rfl rfl (by omega) ?_)))); refine Wm rfl (Wt ?_); refine WC.condT rfl (Co (Wm rfl (Wc (OL.loadAll (k := 6) hL rfl rfl rfl ?_)))))
    (refine Wc ?_)
    refine OL.callSl hL rfl rfl (c3'.1.2 _ _ (hL.lm hlim) q1 hT1 hfull) (fun a' n' h' hp hL => ?_)
    (refine Wm rfl (Wc (OP.extract rfl rfl (Wc (OP.extract rfl rfl (Wm rfl (Wm rfl (Wt ?_))))))); refine Cs (Co (Wc (OP.fieldAddr0 rfl (Wc (OL.load1 (k := 7) hL rfl rfl rfl (Wm rfl (Wc (OP.fieldAddr0 rfl (Wc (OP.idxArrZ rfl rfl (by decide) (by simp only [Int.reduceToNat, Nat.mul_one, Nat.zero_add, Nat.reduceMul, Nat.reduceAdd]; rfl) ?_)))))))))); refine WO.cons0 ?_; refine OL.store1 (k := 1) hL hlim rfl rfl rfl rfl rfl rfl rfl (fun h' hL => ?_); dsimp only [List.set, Nat.zero_add, Nat.reduceAdd, Nat.reduceMul] at hL; refine Wt ?_; refine Cs (Co (Wc (OL.loadAll (k := 1) hL rfl rfl rfl (Wm rfl (WO.cons0 ?_))))); refine OL.storeAll (k := 6) hL hlim rfl rfl rfl rfl rfl rfl (by decide) rfl (fun h' hL => ?_); dsimp only [List.set, Nat.zero_add, Nat.reduceAdd, Nat.reduceMul] at hL; refine Wm rfl (Wm rfl (Wt ?_)); refine WC.ret ?_)
    have hw := hL.rowSl (xs := (takeL r1.xs).1) (by repeat (first | exact mh | apply mt)) (Nat.le_trans (takeL_len hT1) (by decide))
    have A0 := hL.rA (n := n0) (xs := r0.xs)
    have A2 := hL.rA (n := n2) (xs := r2.xs)
    have A3 := hL.rA (n := n3) (xs := r3.xs)
    exact Fin.ret (resL_cell rfl (hL.cell (k := 6) rfl) rfl rfl) ⟨hL.pfx, ⟨a0, n0, r0.xs⟩, ⟨_, _, (takeL r1.xs).1⟩, ⟨a2, n2, r2.xs⟩, ⟨a3, n3, r3.xs⟩, rfl, ⟨rfl, rfl, rfl, rfl⟩, ⟨A0.1, hw.1, A2.1, A3.1⟩, A0.2, hw.2, A2.2, A3.2⟩
  ·rw [zc1 rfl, show S4.get ⟨r0.xs, r1.xs, r2.xs, r3.xs⟩ 1 = r1.xs from rfl]
   clear zc0 zc1 zc2
   by_cases hin : a ∈ r1.xs
   ·rw [show freeL r1.xs a = (outL r1.xs a, 1) from if_pos hin]
    (refine Wc (OP.idxArrZ rfl rfl (by decide) (by simp only [Int.reduceToNat, Nat.mul_one, Nat.zero_add, Nat.reduceMul, Nat.reduceAdd]; rfl) ?_); refine Wc (OL.load1 (k := 0) hL rfl rfl rfl (Wm rfl (Wt ?_))); refine Cs (Cs (Co (Wc (OP.fieldAddr0 rfl (Wc (OL.load1 (k := 6) hL rfl rfl rfl (Wc (OP.eqlF rfl rfl (by omega) ?_)))))))); refine Wt ?_; refine WC.condF rfl (Ks ?_); refine Cs (Co (Wm rfl (Wt ?_))); refine Cs (Cs (Co (Wm rfl (Wt ?_)))); refine WC.block (Cs (Co (Wc (OP.eqlF rfl rfl (by omega) ?_)))); refine Wm rfl (Wt ?_); refine WC.condF rfl (Cs (Co (Wc (OP.eqlT rfl rfl (by omega) ?_)))); refine Wm rfl (Wt ?_); refine WC.condT rfl (Co (Wm rfl (Wc (OL.loadAll (k := 6) hL rfl rfl rfl ?_)))))
    (refine Wc ?_)
    refine OL.callSl hL rfl rfl (c3'.2.2 _ _ (hL.lm hlim) q1 hT1 hin) (fun a' n' h' hp hL => ?_)
    (refine Wm rfl (Wc (OP.extract rfl rfl (Wc (OP.extract rfl rfl (Wm rfl (Wm rfl (Wt ?_))))))); refine Cs (Co (Wc (OP.fieldAddr0 rfl (Wc (OL.load1 (k := 7) hL rfl rfl rfl (Wm rfl (Wc (OP.fieldAddr0 rfl (Wc (OP.idxArrZ rfl rfl (by decide) (by simp only [Int.reduceToNat, Nat.mul_one, Nat.zero_add, Nat.reduceMul, Nat.reduceAdd]; rfl) ?_)))))))))); refine WO.cons0 ?_; refine OL.store1 (k := 1) hL hlim rfl rfl rfl rfl rfl rfl rfl (fun h' hL => ?_); dsimp only [List.set, Nat.zero_add, Nat.reduceAdd, Nat.reduceMul] at hL; refine Wt ?_; refine Cs (Co (Wc (OL.loadAll (k := 1) hL rfl rfl rfl (Wm rfl (WO.cons0 ?_))))); refine OL.storeAll (k := 6) hL hlim rfl rfl rfl rfl rfl rfl (by decide) rfl (fun h' hL => ?_); dsimp only [List.set, Nat.zero_add, Nat.reduceAdd, Nat.reduceMul] at hL; refine Wm rfl (Wm rfl (Wt ?_)); refine WC.ret ?_)
    have hw := hL.rowSl (xs := outL r1.xs a) (by repeat (first | exact mh | apply mt)) (Nat.le_trans (List.length_filter_le _ _) (by omega))
    have A0 := hL.rA (n := n0) (xs := r0.xs)
    have A2 := hL.rA (n := n2) (xs := r2.xs)
    have A3 := hL.rA (n := n3) (xs := r3.xs)
    exact Fin.ret (resL_cell rfl (hL.cell (k := 6) rfl) rfl rfl) ⟨hL.pfx, ⟨a0, n0, r0.xs⟩, ⟨_, _, outL r1.xs a⟩, ⟨a2, n2, r2.xs⟩, ⟨a3, n3, r3.xs⟩, rfl, ⟨rfl, rfl, rfl, rfl⟩, ⟨A0.1, hw.1, A2.1, A3.1⟩, A0.2, hw.2, A2.2, A3.2⟩
   ·rw [show freeL r1.xs a = (r1.xs, 0) from if_neg hin]
    (refine Wc (OP.idxArrZ rfl rfl (by decide) (by simp only [Int.reduceToNat, Nat.mul_one, Nat.zero_add, Nat.reduceMul, Nat.reduceAdd]; rfl) ?_); refine Wc (OL.load1 (k := 0) hL rfl rfl rfl (Wm rfl (Wt ?_))); refine Cs (Cs (Co (Wc (OP.fieldAddr0 rfl (Wc (OL.load1 (k := 6) hL rfl rfl rfl (Wc (OP.eqlF rfl rfl (by omega) ?_)))))))); refine Wt ?_; refine WC.condF rfl (Ks ?_); refine Cs (Co (Wm rfl (Wt ?_))); refine Cs (Cs (Co (Wm rfl (Wt ?_)))); refine WC.block (Cs (Co (Wc (OP.eqlF rfl rfl (by omega) ?_)))); refine Wm rfl (Wt ?_); refine WC.condF rfl (Cs (Co (Wc (OP.eqlT rfl rfl (by omega) ?_)))); refine Wm rfl (Wt ?_); refine WC.condT rfl (Co (Wm rfl (Wc (OL.loadAll (k := 6) hL rfl rfl rfl ?_)))))
    (refine Wc ?_)
    refine OL.callV hL rfl rfl (c3'.2.1 _ _ q1 hT1 hin) (fun h' hp hL => ?_)
    (refine Wm rfl (Wc (OP.extract rfl rfl (Wc (OP.extract rfl rfl (Wm rfl (Wm rfl (Wt ?_))))))); refine Cs (Co (Wc (OP.fieldAddr0 rfl (Wc (OL.load1 (k := 6) hL rfl rfl rfl (Wm rfl (Wc (OP.fieldAddr0 rfl (Wc (OP.idxArrZ rfl rfl (by decide) (by simp only [Int.reduceToNat, Nat.mul_one, Nat.zero_add, Nat.reduceMul, Nat.reduceAdd]; rfl) ?_)))))))))); refine WO.cons0 ?_; refine OL.store1 (k := 0) hL hlim rfl rfl rfl rfl rfl rfl rfl (fun h' hL => ?_); dsimp only [List.set, Nat.zero_add, Nat.reduceAdd, Nat.reduceMul] at hL; refine Wt ?_; refine Cs (Co (Wc (OL.loadAll (k := 0) hL rfl rfl rfl (Wm rfl (WO.cons0 ?_))))); refine OL.storeAll (k := 5) hL hlim rfl rfl rfl rfl rfl rfl (by decide) rfl (fun h' hL => ?_); dsimp only [List.set, Nat.zero_add, Nat.reduceAdd, Nat.reduceMul] at hL; refine Wm rfl (Wm rfl (Wt ?_)); refine WC.ret ?_)
    have A0 := hL.rA (n := n0) (xs := r0.xs)
    have A1 := hL.rA (n := n1) (xs := r1.xs)
    have A2 := hL.rA (n := n2) (xs := r2.xs)
    have A3 := hL.rA (n := n3) (xs := r3.xs)
    exact Fin.ret (resL_cell rfl (hL.cell (k := 5) rfl) rfl rfl) ⟨hL.pfx, ⟨a0, n0, r0.xs⟩, ⟨a1, n1, r1.xs⟩, ⟨a2, n2, r2.xs⟩, ⟨a3, n3, r3.xs⟩, rfl, ⟨rfl, rfl, rfl, rfl⟩, ⟨A0.1, A1.1, A2.1, A3.1⟩, A0.2, A1.2, A2.2, A3.2⟩
  ·rw [zc2 rfl, show S4.get ⟨r0.xs, r1.xs, r2.xs, r3.xs⟩ 1 = r1.xs from rfl, show r1.xs.length = n1 by omega]
   clear zc0 zc1 zc2
   (refine Wc (OP.idxArrZ rfl rfl (by decide) (by simp only [Int.reduceToNat, Nat.mul_one, Nat.zero_add, Nat.reduceMul, Nat.reduceAdd]; rfl) ?_); refine Wc (OL.load1 (k := 0) hL rfl rfl rfl (Wm rfl (Wt ?_))); refine Cs (Cs (Co (Wc (OP.fieldAddr0 rfl (Wc (OL.load1 (k := 6) hL rfl rfl rfl (Wc (OP.eqlT rfl rfl (by omega) ?_)))))))); refine Wt ?_; refine WC.condT rfl (Cs (Cs (Co (Wm rfl (Wc (OP.eqlF rfl rfl (by omega) ?_)))))); refine Wt ?_; refine WC.condF rfl (Ks ?_); refine Cs (Co (Wc (OL.loadAll (k := 0) hL rfl rfl rfl (Wm rfl (Wc (OP.lenS rfl (WO.cons0 ?_))))))); refine OL.storeAll (k := 5) hL hlim rfl rfl rfl rfl rfl rfl (by decide) rfl (fun h' hL => ?_); dsimp only [List.set, Nat.zero_add, Nat.reduceAdd, Nat.reduceMul] at hL; refine Wm rfl (Wm rfl (Wt ?_)); refine WC.ret ?_; dsimp only [zn, zr, zx, yn, yr])
   have A0 := hL.rA (n := n0) (xs := r0.xs)
   have A1 := hL.rA (n := n1) (xs := r1.xs)
   have A2 := hL.rA (n := n2) (xs := r2.xs)
   have A3 := hL.rA (n := n3) (xs := r3.xs)
   exact Fin.ret (resL_cell rfl (hL.cell (k := 5) rfl) rfl rfl) ⟨hL.pfx, ⟨a0, n0, r0.xs⟩, ⟨a1, n1, r1.xs⟩, ⟨a2, n2, r2.xs⟩, ⟨a3, n3, r3.xs⟩, rfl, ⟨rfl, rfl, rfl, rfl⟩, ⟨A0.1, A1.1, A2.1, A3.1⟩, A0.2, A1.2, A2.2, A3.2⟩
 ·rcases hcc with rfl | rfl | rfl
  ·rw [zc0 rfl, show S4.get ⟨r0.xs, r1.xs, r2.xs, r3.xs⟩ 2 = r2.xs from rfl]
   clear zc0 zc1 zc2
   by_cases hfull : (takeL r2.xs).2 = -1
   ·rw [takeL_full hfull]
    (refine Wc (OP.idxArrZ rfl rfl (by decide) (by simp only [Int.reduceToNat, Nat.mul_one, Nat.zero_add, Nat.reduceMul, Nat.reduceAdd]; rfl) ?_); refine Wc (OL.load1 (k := 0) hL rfl rfl rfl (Wm rfl (Wt ?_))); refine Cs (Cs (Co (Wc (OP.fieldAddr0 rfl (Wc (OL.load1 (k := 6) hL rfl rfl rfl (Wc (OP.eqlF rfl rfl (by omega) ?_)))))))); refine Wt ?_; refine WC.condF rfl (Ks ?_); refine Cs (Co (Wm rfl (Wt ?_))); refine Cs (Cs (Co (Wm rfl (Wt ?_)))); refine WC.block (Cs (Co (Wc (OP.eqlF rfl rfl (by omega) ?_)))); refine Wm rfl (Wt ?_); refine WC.condF rfl (Cs (Co (Wc (OP.eqlT rfl rfl (by omega) ?_)))); refine Wm rfl (Wt ?_); refine WC.condT rfl (Co (Wm rfl (Wc (OL.loadAll (k := 6) hL rfl rfl rfl ?_)))))
    (refine Wc ?_)
    refine OL.callV hL rfl rfl (c3'.1.1 _ _ q2 hT2 hfull) (fun h' hp hL => ?_)
    (refine Wm rfl (Wc (OP.extract rfl rfl (Wc (OP.extract rfl rfl (Wm rfl (Wm rfl (Wt ?_))))))); refine Cs (Co (Wc (OP.fieldAddr0 rfl (Wc (OL.load1 (k := 6) hL rfl rfl rfl (Wm rfl (Wc (OP.fieldAddr0 rfl (Wc (OP.idxArrZ rfl rfl (by decide) (by simp only [Int.reduceToNat, Nat.mul_one, Nat.zero_add, Nat.reduceMul, Nat.reduceAdd]; rfl) ?_)))))))))); refine WO.cons0 ?_; refine OL.store1 (k := 0) hL hlim rfl rfl rfl rfl rfl rfl rfl (fun h' hL => ?_); dsimp only [List.set, Nat.zero_add, Nat.reduceAdd, Nat.reduceMul] at hL; refine Wt ?_; refine Cs (Co (Wc (OL.loadAll (k := 0) hL rfl rfl rfl (Wm rfl (WO.cons0 ?_))))); refine OL.storeAll (k := 5) hL hlim rfl rfl rfl rfl rfl rfl (by decide) rfl (fun h' hL => ?_); dsimp only [List.set, Nat.zero_add, Nat.reduceAdd, Nat.reduceMul] at hL; refine Wm rfl (Wm rfl (Wt ?_)); refine WC.ret ?_)
    have A0 := hL.rA (n := n0) (xs := r0.xs)
    have A1 := hL.rA (n := n1) (xs := r1.xs)
    have A2 := hL.rA (n := n2) (xs := r2.xs)
    have A3 := hL.rA (n := n3) (xs := r3.xs)
    exact Fin.ret (resL_cell rfl (hL.cell (k := 5) rfl) rfl rfl) ⟨hL.pfx, ⟨a0, n0, r0.xs⟩, ⟨a1, n1, r1.xs⟩, ⟨a2, n2, r2.xs⟩, ⟨a3, n3, r3.xs⟩, rfl, ⟨rfl, rfl, rfl, rfl⟩, ⟨A0.1, A1.1, A2.1, A3.1⟩, A0.2, A1.2, A2.2, A3.2⟩
   ·(refine Wc (OP.idxArrZ rfl rfl (by decide) (by simp only [Int.reduceToNat, Nat.mul_one, Nat.zero_add, Nat.reduceMul, Nat.reduceAdd]; rfl) ?_); refine Wc (OL.load1 (k := 0) hL rfl rfl rfl (Wm rfl (Wt ?_))); refine Cs (Cs (Co (Wc (OP.fieldAddr0 rfl (Wc (OL.load1 (k := 6) hL rfl rfl rfl (Wc (OP.eqlF rfl rfl (by omega) ?_)))))))); refine Wt ?_; refine WC.condF rfl (Ks ?_); refine Cs (Co (Wm rfl (Wt ?_))); refine Cs (Cs (Co (Wm rfl (Wt ?_)))); refine WC.block (Cs (Co (Wc (OP.eqlF rfl rfl (by omega) ?_)))); refine Wm rfl (Wt ?_); refine WC.condF rfl (Cs (Co (Wc (OP.eqlT rfl rfl (by omega) ?_)))); refine Wm rfl (Wt ?_); refine WC.condT rfl (Co (Wm rfl (Wc (OL.loadAll (k := 6) hL rfl rfl rfl ?_)))))
    (refine Wc ?_)
    refine OL.callSl hL rfl rfl (c3'.1.2 _ _ (hL.lm hlim) q2 hT2 hfull) (fun a' n' h' hp hL => ?_)
    (refine Wm rfl (Wc (OP.extract rfl rfl (Wc (OP.extract rfl rfl (Wm rfl (Wm rfl (Wt ?_))))))); refine Cs (Co (Wc (OP.fieldAddr0 rfl (Wc (OL.load1 (k := 7) hL rfl rfl rfl (Wm rfl (Wc (OP.fieldAddr0 rfl (Wc (OP.idxArrZ rfl rfl (by decide) (by simp only [Int.reduceToNat, Nat.mul_one, Nat.zero_add, Nat.reduceMul, Nat.reduceAdd]; rfl) ?_)))))))))); refine WO.cons0 ?_; refine OL.store1 (k := 1) hL hlim rfl rfl rfl rfl rfl rfl rfl (fun h' hL => ?_); dsimp only [List.set, Nat.zero_add, Nat.reduceAdd, Nat.reduceMul] at hL; refine Wt ?_; refine Cs (Co (Wc (OL.loadAll (k := 1) hL rfl rfl rfl (Wm rfl (WO.cons0 ?_))))); refine OL.storeAll (k := 6) hL hlim rfl rfl rfl rfl rfl rfl (by decide) rfl (fun h' hL => ?_); dsimp only [List.set, Nat.zero_add, Nat.reduceAdd, Nat.reduceMul] at hL; refine Wm rfl (Wm rfl (Wt ?_)); refine WC.ret ?_)
    have hw := hL.rowSl (xs := (takeL r2.xs).1) (by repeat (first | exact mh | apply mt)) (Nat.le_trans (takeL_len hT2) (by decide))
    have A0 := hL.rA (n := n0) (xs := r0.xs)
    have A1 := hL.rA (n := n1) (xs := r1.xs)
    have A3 := hL.rA (n := n3) (xs := r3.xs)
    exact Fin.ret (resL_cell rfl (hL.cell (k := 6) rfl) rfl rfl) ⟨hL.pfx, ⟨a0, n0, r0.xs⟩, ⟨a1, n1, r1.xs⟩, ⟨_, _, (takeL r2.xs).1⟩, ⟨a3, n3, r3.xs⟩, rfl, ⟨rfl, rfl, rfl, rfl⟩, ⟨A0.1, A1.1, hw.1, A3.1⟩, A0.2, A1.2, hw.2, A3.2⟩
  ·rw [zc1 rfl, show S4.get ⟨r0.xs, r1.xs, r2.xs, r3.xs⟩ 2 = r2.xs from rfl]
   clear zc0 zc1 zc2
   by_cases hin : a ∈ r2.xs
   ·rw [show freeL r2.xs a = (outL r2.xs a, 1) from if_pos hin]
    (refine Wc (OP.idxArrZ rfl rfl (by decide) (by simp only [Int.reduceToNat, Nat.mul_one, Nat.zero_add, Nat.reduceMul, Nat.reduceAdd]; rfl) ?_); refine Wc (OL.load1 (k := 0) hL rfl rfl rfl (Wm rfl (Wt ?_))); refine Cs (Cs (Co (Wc (OP.fieldAddr0 rfl (Wc (OL.load1 (k := 6) hL rfl rfl rfl (Wc (OP.eqlF rfl rfl (by omega) ?_)))))))); refine Wt ?_; refine WC.condF rfl (Ks ?_); refine Cs (Co (Wm rfl (Wt ?_))); refine Cs (Cs (Co (Wm rfl (Wt ?_)))); refine WC.block (Cs (Co (Wc (OP.eqlF rfl rfl (by omega) ?_)))); refine Wm rfl (Wt ?_); refine WC.condF rfl (Cs (Co (Wc (OP.eqlT rfl rfl (by omega) ?_)))); refine Wm rfl (Wt ?_); refine WC.condT rfl (Co (Wm rfl (Wc (OL.loadAll (k := 6) hL rfl rfl rfl ?_)))))
    (refine Wc ?_)
    refine OL.callSl hL rfl rfl (c3'.2.2 _ _ (hL.lm hlim) q2 hT2 hin) (fun a' n' h' hp hL => ?_)
    (refine Wm rfl (Wc (OP.extract rfl rfl (Wc (OP.extract rfl rfl (Wm rfl (Wm rfl (Wt ?_))))))); refine Cs (Co (Wc (OP.fieldAddr0 rfl (Wc (OL.load1 (k := 7) hL rfl rfl rfl (Wm rfl (Wc (OP.fieldAddr0 rfl (Wc (OP.idxArrZ rfl rfl (by decide) (by simp only [Int.reduceToNat, Nat.mul_one, Nat.zero_add, Nat.reduceMul, Nat.reduceAdd]; rfl) ?_)))))))))); refine WO.cons0 ?_; refine OL.store1 (k := 1) hL hlim rfl rfl rfl rfl rfl rfl rfl (fun h' hL => ?_); dsimp only [List.set, Nat.zero_add, Nat.reduceAdd, Nat.reduceMul] at hL; refine Wt ?_; refine Cs (Co (Wc (OL.loadAll (k := 1) hL rfl rfl rfl (Wm rfl (WO.cons0 ?_))))); refine OL.storeAll (k := 6) hL hlim rfl rfl rfl rfl rfl rfl (by decide) rfl (fun h' hL => ?_); dsimp only [List.set, Nat.zero_add, Nat.reduceAdd, Nat.reduceMul] at hL; refine Wm rfl (Wm rfl (Wt ?_)); refine WC.ret ?_)
    have hw := hL.rowSl (xs := outL r2.xs a) (by repeat (first | exact mh | apply mt)) (Nat.le_trans (List.length_filter_le _ _) (by omega))
    have A0 := hL.rA (n := n0) (xs := r0.xs)
    have A1 := hL.rA (n := n1) (xs := r1.xs)
    have A3 := hL.rA (n := n3) (xs := r3.xs)
    exact Fin.ret (resL_cell rfl (hL.cell (k := 6) rfl) rfl rfl) ⟨hL.pfx, ⟨a0, n0, r0.xs⟩, ⟨a1, n1, r1.xs⟩, ⟨_, _, outL r2.xs a⟩, ⟨a3, n3, r3.xs⟩, rfl, ⟨rfl, rfl, rfl, rfl⟩, ⟨A0.1, A1.1, hw.1, A3.1⟩, A0.2, A1.2, hw.2, A3.2⟩
   ·rw [show freeL r2.xs a = (r2.xs, 0) from if_neg hin]
    (refine Wc (OP.idxArrZ rfl rfl (by decide) (by simp only [Int.reduceToNat, Nat.mul_one, Nat.zero_add, Nat.reduceMul, Nat.reduceAdd]; rfl) ?_); refine Wc (OL.load1 (k := 0) hL rfl rfl rfl (Wm rfl (Wt ?_))); refine Cs (Cs (Co (Wc (OP.fieldAddr0 rfl (Wc (OL.load1 (k := 6) hL rfl rfl rfl (Wc (OP.eqlF rfl rfl (by omega) ?_)))))))); refine Wt ?_; refine WC.condF rfl (Ks ?_); refine Cs (Co (Wm rfl (Wt ?_))); refine Cs (Cs (Co (Wm rfl (Wt ?_)))); refine WC.block (Cs (Co (Wc (OP.eqlF rfl rfl (by omega) ?_)))); refine Wm rfl (Wt ?_); refine WC.condF rfl (Cs (Co (Wc (OP.eqlT rfl rfl (by omega) ?_)))); refine Wm rfl (Wt ?_); refine WC.condT rfl (Co (Wm rfl (Wc (OL.loadAll (k := 6) hL rfl rfl rfl ?_)))))
    (refine Wc ?_)
    refine OL.callV hL rfl rfl (c3'.2.1 _ _ q2 hT2 hin) (fun h' hp hL => ?_)
    (refine Wm rfl (Wc (OP.extract rfl rfl (Wc (OP.extract rfl rfl (Wm rfl (Wm rfl (Wt ?_))))))); refine Cs (Co (Wc (OP.fieldAddr0 rfl (Wc (OL.load1 (k := 6) hL rfl rfl rfl (Wm rfl (Wc (OP.fieldAddr0 rfl (Wc (OP.idxArrZ rfl rfl (by decide) (by simp only [Int.reduceToNat, Nat.mul_one, Nat.zero_add, Nat.reduceMul, Nat.reduceAdd]; rfl) ?_)))))))))); refine WO.cons0 ?_; refine OL.store1 (k := 0) hL hlim rfl rfl rfl rfl rfl rfl rfl (fun h' hL => ?_); dsimp only [List.set, Nat.zero_add, Nat.reduceAdd, Nat.reduceMul] at hL; refine Wt ?_; refine Cs (Co (Wc (OL.loadAll (k := 0) hL rfl rfl rfl (Wm rfl (WO.cons0 ?_))))); refine OL.storeAll (k := 5) hL hlim rfl rfl rfl rfl rfl rfl (by decide) rfl (fun h' hL => ?_); dsimp only [List.set, Nat.zero_add, Nat.reduceAdd, Nat.reduceMul] at hL; refine Wm rfl (Wm rfl (Wt ?_)); refine WC.ret ?_)
    have A0 := hL.rA (n := n0) (xs := r0.xs)
    have A1 := hL.rA (n := n1) (xs := r1.xs)
    have A2 := hL.rA (n := n2) (xs := r2.xs)
    have A3 := hL.rA (n := n3) (xs := r3.xs)
    exact Fin.ret (resL_cell rfl (hL.cell (k := 5) rfl) rfl rfl) ⟨hL.pfx, ⟨a0, n0, r0.xs⟩, ⟨a1, n1, r1.xs⟩, ⟨a2, n2, r2.xs⟩, ⟨a3, n3, r3.xs⟩, rfl, ⟨rfl, rfl, rfl, rfl⟩, ⟨A0.1, A1.1, A2.1, A3.1⟩, A0.2, A1.2, A2.2, A3.2⟩
  ·rw [zc2 rfl, show S4.get ⟨r0.xs, r1.xs, r2.xs, r3.xs⟩ 2 = r2.xs from rfl, show r2.xs.length = n2 by omega]
   clear zc0 zc1 zc2
   (refine Wc (OP.idxArrZ rfl rfl (by decide) (by simp only [Int.reduceToNat, Nat.mul_one, Nat.zero_add, Nat.reduceMul, Nat.reduceAdd]; rfl) ?_); refine Wc (OL.load1 (k := 0) hL rfl rfl rfl (Wm rfl (Wt ?_))); refine Cs (Cs (Co (Wc (OP.fieldAddr0 rfl (Wc (OL.load1 (k := 6) hL rfl rfl rfl (Wc (OP.eqlT rfl rfl (by omega) ?_)))))))); refine Wt ?_; refine WC.condT rfl (Cs (Cs (Co (Wm rfl (Wc (OP.eqlF rfl rfl (by omega) ?_)))))); refine Wt ?_; refine WC.condF rfl (Ks ?_); refine Cs (Co (Wc (OL.loadAll (k := 0) hL rfl rfl rfl (Wm rfl (Wc (OP.lenS rfl (WO.cons0 ?_))))))); refine OL.storeAll (k := 5) hL hlim rfl rfl rfl rfl rfl rfl (by decide) rfl (fun h' hL => ?_); dsimp only [List.set, Nat.zero_add, Nat.reduceAdd, Nat.reduceMul] at hL; refine Wm rfl (Wm rfl (Wt ?_)); refine WC.ret ?_; dsimp only [zn, zr, zx, yn, yr])
   have A0 := hL.rA (n := n0) (xs := r0.xs)
   have A1 := hL.rA (n := n1) (xs := r1.xs)
   have A2 := hL.rA (n := n2) (xs := r2.xs)
   have A3 := hL.rA (n := n3) (xs := r3.xs)
   exact Fin.ret (resL_cell rfl (hL.cell (k := 5) rfl) rfl rfl) ⟨hL.pfx, ⟨a0, n0, r0.xs⟩, ⟨a1, n1, r1.xs⟩, ⟨a2, n2, r2.xs⟩, ⟨a3, n3, r3.xs⟩, rfl, ⟨rfl, rfl, rfl, rfl⟩, ⟨A0.1, A1.1, A2.1, A3.1⟩, A0.2, A1.2, A2.2, A3.2⟩
 ·rcases hcc with rfl | rfl | rfl
  ·rw [zc0 rfl, show S4.get ⟨r0.xs, r1.xs, r2.xs, r3.xs⟩ 3 = r3.xs from rfl]
   clear zc0 zc1 zc2
   by_cases hfull : (takeL r3.xs).2 = -1
   ·rw [takeL_full hfull]
    (refine Wc (OP.idxArrZ rfl rfl (by decide) (by simp only [Int.reduceToNat, Nat.mul_one, Nat.zero_add, Nat.reduceMul, Nat.reduceAdd]; rfl) ?_); refine Wc (OL.load1 (k := 0) hL rfl rfl rfl (Wm rfl (Wt ?_))); refine Cs (Cs (Co (Wc (OP.fieldAddr0 rfl (Wc (OL.load1 (k := 6) hL rfl rfl rfl (Wc (OP.eqlF rfl rfl (by omega) ?_)))))))); refine Wt ?_; refine WC.condF rfl (Ks ?_); refine Cs (Co (Wm rfl (Wt ?_))); refine Cs (Cs (Co (Wm rfl (Wt ?_)))); refine WC.block (Cs (Co (Wc (OP.eqlF rfl rfl (by omega) ?_)))); refine Wm rfl (Wt ?_); refine WC.condF rfl (Cs (Co (Wc (OP.eqlT rfl rfl (by omega) ?_)))); refine Wm rfl (Wt ?_); refine WC.condT rfl (Co (Wm rfl (Wc (OL.loadAll (k := 6) hL rfl rfl rfl ?_)))))
    (refine Wc ?_)
    refine OL.callV hL rfl rfl (c3'.1.1 _ _ q3 hT3 hfull) (fun h' hp hL => ?_)
    (refine Wm rfl (Wc (OP.extract rfl rfl (Wc (OP.extract rfl rfl (Wm rfl (Wm rfl (Wt ?_))))))); refine Cs (Co (Wc (OP.fieldAddr0 rfl (Wc (OL.load1 (k := 6) hL rfl rfl rfl (Wm rfl (Wc (OP.fieldAddr0 rfl (Wc (OP.idxArrZ rfl rfl (by decide) (by simp only [Int.reduceToNat, Nat.mul_one, Nat.zero_add, Nat.reduceMul, Nat.reduceAdd]; rfl) ?_)))))))))); refine WO.cons0 ?_; refine OL.store1 (k := 0) hL hlim rfl rfl rfl rfl rfl rfl rfl (fun h' hL => ?_); dsimp only [List.set, Nat.zero_add, Nat.reduceAdd, Nat.reduceMul] at hL; refine Wt ?_; refine Cs (Co (Wc (OL.loadAll (k := 0) hL rfl rfl rfl (Wm rfl (WO.cons0 ?_))))); refine OL.storeAll (k := 5) hL hlim rfl rfl rfl rfl rfl rfl (by decide) rfl (fun h' hL => ?_); dsimp only [List.set, Nat.zero_add, Nat.reduceAdd, Nat.reduceMul] at hL; refine Wm rfl (Wm rfl (Wt ?_)); refine WC.ret ?_)
    have A0 := hL.rA (n := n0) (xs := r0.xs)
    have A1 := hL.rA (n := n1) (xs := r1.xs)
    have A2 := hL.rA (n := n2) (xs := r2.xs)
    have A3 := hL.rA (n := n3) (xs := r3.xs)
    exact Fin.ret (resL_cell rfl (hL.cell (k := 5) rfl) rfl rfl) ⟨hL.pfx, ⟨a0, n0, r0.xs⟩, ⟨a1, n1, r1.xs⟩, ⟨a2, n2, r2.xs⟩, ⟨a3, n3, r3.xs⟩, rfl, ⟨rfl, rfl, rfl, rfl⟩, ⟨A0.1, A1.1, A2.1, A3.1⟩, A0.2, A1.2, A2.2, A3.2⟩
   ·(refine Wc (OP.idxArrZ rfl rfl (by decide) (by simp only [Int.reduceToNat, Nat.mul_one, Nat.zero_add, Nat.reduceMul, Nat.reduceAdd]; rfl) ?_); refine Wc (OL.load1 (k := 0) hL rfl rfl rfl (Wm rfl (Wt ?_))); refine Cs (Cs (Co (Wc (OP.fieldAddr0 rfl (Wc (OL.load1 (k := 6) hL rfl rfl rfl (Wc (OP.eqlF rfl rfl (by omega) ?_)))))))); refine Wt ?_; refine WC.condF rfl (Ks ?_); refine Cs (Co (Wm rfl (Wt ?_))); refine Cs (Cs (Co (Wm rfl (Wt ?_)))); refine WC.block (Cs (Co (Wc (OP.eqlF rfl rfl (by omega) ?_)))); refine Wm rfl (Wt ?_); refine WC.condF rfl (Cs (Co (Wc (OP.eqlT rfl rfl (by omega) ?_)))); refine Wm rfl (Wt ?_); refine WC.condT rfl (Co (Wm rfl (Wc (OL.loadAll (k := 6) hL rfl rfl rfl ?_)))))
    (refine Wc ?_)
    refine OL.callSl hL rfl rfl (c3'.1.2 _ _ (hL.lm hlim) q3 hT3 hfull) (fun a' n' h' hp hL => ?_)
    (refine Wm rfl (Wc (OP.extract rfl rfl (Wc (OP.extract rfl rfl (Wm rfl (Wm rfl (Wt ?_))))))); refine Cs (Co (Wc (OP.fieldAddr0 rfl (Wc (OL.load1 (k := 7) hL rfl rfl rfl (Wm rfl (Wc (OP.fieldAddr0 rfl (Wc (OP.idxArrZ rfl rfl (by decide) (by simp only [Int.reduceToNat, Nat.mul_one, Nat.zero_add, Nat.reduceMul, Nat.reduceAdd]; rfl) ?_)))))))))); refine WO.cons0 ?_; refine OL.store1 (k := 1) hL hlim rfl rfl rfl rfl rfl rfl rfl (fun h' hL => ?_); dsimp only [List.set, Nat.zero_add, Nat.reduceAdd, Nat.reduceMul] at hL; refine Wt ?_; refine Cs (Co (Wc (OL.loadAll (k := 1) hL rfl rfl rfl (Wm rfl (WO.cons0 ?_))))); refine OL.storeAll (k := 6) hL hlim rfl rfl rfl rfl rfl rfl (by decide) rfl (fun h' hL => ?_); dsimp only [List.set, Nat.zero_add, Nat.reduceAdd, Nat.reduceMul] at hL; refine Wm rfl (Wm rfl (Wt ?_)); refine WC.ret ?_)
    have hw := hL.rowSl (xs := (takeL r3.xs).1) (by repeat (first | exact mh | apply mt)) (Nat.le_trans (takeL_len hT3) (by decide))
    have A0 := hL.rA (n := n0) (xs := r0.xs)
    have A1 := hL.rA (n := n1) (xs := r1.xs)
    have A2 := hL.rA (n := n2) (xs := r2.xs)
    exact Fin.ret (resL_cell rfl (hL.cell (k := 6) rfl) rfl rfl) ⟨hL.pfx, ⟨a0, n0, r0.xs⟩, ⟨a1, n1, r1.xs⟩, ⟨a2, n2, r2.xs⟩, ⟨_, _, (takeL r3.xs).1⟩, rfl, ⟨rfl, rfl, rfl, rfl⟩, ⟨A0.1, A1.1, A2.1, hw.1⟩, A0.2, A1.2, A2.2, hw.2⟩
  ·rw [zc1 rfl, show S4.get ⟨r0.xs, r1.xs, r2.xs, r3.xs⟩ 3 = r3.xs from rfl]
   clear zc0 zc1 zc2
   by_cases hin : a ∈ r3.xs
   ·rw [show freeL r3.xs a = (outL r3.xs a, 1) from if_pos hin]
    (refine Wc (OP.idxArrZ rfl rfl (by decide) (by simp only [Int.reduceToNat, Nat.mul_one, Nat.zero_add, Nat.reduceMul, Nat.reduceAdd]; rfl) ?_); refine Wc (OL.load1 (k := 0) hL rfl rfl rfl (Wm rfl (Wt ?_))); refine Cs (Cs (Co (Wc (OP.fieldAddr0 rfl (Wc (OL.load1 (k := 6) hL rfl rfl rfl (Wc (OP.eqlF rfl rfl (by omega) ?_)))))))); refine Wt ?_; refine WC.condF rfl (Ks ?_); refine Cs (Co (Wm rfl (Wt ?_))); refine Cs (Cs (Co (Wm rfl (Wt ?_)))); refine WC.block (Cs (Co (Wc (OP.eqlF rfl rfl (by omega) ?_)))); refine Wm rfl (Wt ?_); refine WC.condF rfl (Cs (Co (Wc (OP.eqlT rfl rfl (by omega) ?_)))); refine Wm rfl (Wt ?_); refine WC.condT rfl (Co (Wm rfl (Wc (OL.loadAll (k := 6) hL rfl rfl rfl ?_)))))
    (refine Wc ?_)
    refine OL.callSl hL rfl rfl (c3'.2.2 _ _ (hL.lm hlim) q3 hT3 hin) (fun a' n' h' hp hL => ?_)
    (refine Wm rfl (Wc (OP.extract rfl rfl (Wc (OP.extract rfl rfl (Wm rfl (Wm rfl (Wt ?_))))))); refine Cs (Co (Wc (OP.fieldAddr0 rfl (Wc (OL.load1 (k := 7) hL rfl rfl rfl (Wm rfl (Wc (OP.fieldAddr0 rfl (Wc (OP.idxArrZ rfl rfl (by decide) (by simp only [Int.reduceToNat, Nat.mul_one, Nat.zero_add, Nat.reduceMul, Nat.reduceAdd]; rfl) ?_)))))))))); refine WO.cons0 ?_; refine OL.store1 (k := 1) hL hlim rfl rfl rfl rfl rfl rfl rfl (fun h' hL => ?_); dsimp only [List.set, Nat.zero_add, Nat.reduceAdd, Nat.reduceMul] at hL; refine Wt ?_; refine Cs (Co (Wc (OL.loadAll (k := 1) hL rfl rfl rfl (Wm rfl (WO.cons0 ?_))))); refine OL.storeAll (k := 6) hL hlim rfl rfl rfl rfl rfl rfl (by decide) rfl (fun h' hL => ?_); dsimp only [List.set, Nat.zero_add, Nat.reduceAdd, Nat.reduceMul] at hL; refine Wm rfl (Wm rfl (Wt ?_)); refine WC.ret ?_)
    have hw := hL.rowSl (xs := outL r3.xs a) (by repeat (first | exact mh | apply mt)) (Nat.le_trans (List.length_filter_le _ _) (by omega))
    have A0 := hL.rA (n := n0) (xs := r0.xs)
    have A1 := hL.rA (n := n1) (xs := r1.xs)
    have A2 := hL.rA (n := n2) (xs := r2.xs)
    exact Fin.ret (resL_cell rfl (hL.cell (k := 6) rfl) rfl rfl) ⟨hL.pfx, ⟨a0, n0, r0.xs⟩, ⟨a1, n1, r1.xs⟩, ⟨a2, n2, r2.xs⟩, ⟨_, _, outL r3.xs a⟩, rfl, ⟨rfl, rfl, rfl, rfl⟩, ⟨A0.1, A1.1, A2.1, hw.1⟩, A0.2, A1.2, A2.2, hw.2⟩
   ·rw [show freeL r3.xs a = (r3.xs, 0) from if_neg hin]
    (refine Wc (OP.idxArrZ rfl rfl (by decide) (by simp only [Int.reduceToNat, Nat.mul_one, Nat.zero_add, Nat.reduceMul, Nat.reduceAdd]; rfl) ?_); refine Wc (OL.load1 (k := 0) hL rfl rfl rfl (Wm rfl (Wt ?_))); refine Cs (Cs (Co (Wc (OP.fieldAddr0 rfl (Wc (OL.load1 (k := 6) hL rfl rfl rfl (Wc (OP.eqlF rfl rfl (by omega) ?_)))))))); refine Wt ?_; refine WC.condF rfl (Ks ?_); refine Cs (Co (Wm rfl (Wt ?_))); refine Cs (Cs (Co (Wm rfl (Wt ?_)))); refine WC.block (Cs (Co (Wc (OP.eqlF rfl rfl (by omega) ?_)))); refine Wm rfl (Wt ?_); refine WC.condF rfl (Cs (Co (Wc (OP.eqlT rfl rfl (by omega) ?_)))); refine Wm rfl (Wt ?_); refine WC.condT rfl (Co (Wm rfl (Wc (OL.loadAll (k := 6) hL rfl rfl rfl ?_)))))
    (refine Wc ?_)
    refine OL.callV hL rfl rfl (c3'.2.1 _ _ q3 hT3 hin) (fun h' hp hL => ?_)
    (refine Wm rfl (Wc (OP.extract rfl rfl (Wc (OP.extract rfl rfl (Wm rfl (Wm rfl (Wt ?_))))))); refine Cs (Co (Wc (OP.fieldAddr0 rfl (Wc (OL.load1 (k := 6) hL rfl rfl rfl (Wm rfl (Wc (OP.fieldAddr0 rfl (Wc (OP.idxArrZ rfl rfl (by decide) (by simp only [Int.reduceToNat, Nat.mul_one, Nat.zero_add, Nat.reduceMul, Nat.reduceAdd]; rfl) ?_)))))))))); refine WO.cons0 ?_; refine OL.store1 (k := 0) hL hlim rfl rfl rfl rfl rfl rfl rfl (fun h' hL => ?_); dsimp only [List.set, Nat.zero_add, Nat.reduceAdd, Nat.reduceMul] at hL; refine Wt ?_; refine Cs (Co (Wc (OL.loadAll (k := 0) hL rfl rfl rfl (Wm rfl (WO.cons0 ?_))))); refine OL.storeAll (k := 5) hL hlim rfl rfl rfl rfl rfl rfl (by decide) rfl (fun h' hL => ?_); dsimp only [List.set, Nat.zero_add, Nat.reduceAdd, Nat.reduceMul] at hL; refine Wm rfl (Wm rfl (Wt ?_)); refine WC.ret ?_)
    have A0 := hL.rA (n := n0) (xs := r0.xs)
    have A1 := hL.rA (n := n1) (xs := r1.xs)
    have A2 := hL.rA (n := n2) (xs := r2.xs)
    have A3 := hL.rA (n := n3) (xs := r3.xs)
    exact Fin.ret (resL_cell rfl (hL.cell (k := 5) rfl) rfl rfl) ⟨hL.pfx, ⟨a0, n0, r0.xs⟩, ⟨a1, n1, r1.xs⟩, ⟨a2, n2, r2.xs⟩, ⟨a3, n3, r3.xs⟩, rfl, ⟨rfl, rfl, rfl, rfl⟩, ⟨A0.1, A1.1, A2.1, A3.1⟩, A0.2, A1.2, A2.2, A3.2⟩
  ·rw [zc2 rfl, show S4.get ⟨r0.xs, r1.xs, r2.xs, r3.xs⟩ 3 = r3.xs from rfl, show r3.xs.length = n3 by omega]
   clear zc0 zc1 zc2
   (refine Wc (OP.idxArrZ rfl rfl (by decide) (by simp only [Int.reduceToNat, Nat.mul_one, Nat.zero_add, Nat.reduceMul, Nat.reduceAdd]; rfl) ?_); refine Wc (OL.load1 (k := 0) hL rfl rfl rfl (Wm rfl (Wt ?_))); refine Cs (Cs (Co (Wc (OP.fieldAddr0 rfl (Wc (OL.load1 (k := 6) hL rfl rfl rfl (Wc (OP.eqlT rfl rfl (by omega) ?_)))))))); refine Wt ?_; refine WC.condT rfl (Cs (Cs (Co (Wm rfl (Wc (OP.eqlF rfl rfl (by omega) ?_)))))); refine Wt ?_; refine WC.condF rfl (Ks ?_); refine Cs (Co (Wc (OL.loadAll (k := 0) hL rfl rfl rfl (Wm rfl (Wc (OP.lenS rfl (WO.cons0 ?_))))))); refine OL.storeAll (k := 5) hL hlim rfl rfl rfl rfl rfl rfl (by decide) rfl (fun h' hL => ?_); dsimp only [List.set, Nat.zero_add, Nat.reduceAdd, Nat.reduceMul] at hL; refine Wm rfl (Wm rfl (Wt ?_)); refine WC.ret ?_; dsimp only [zn, zr, zx, yn, yr])
   have A0 := hL.rA (n := n0) (xs := r0.xs)
   have A1 := hL.rA (n := n1) (xs := r1.xs)
   have A2 := hL.rA (n := n2) (xs := r2.xs)
   have A3 := hL.rA (n := n3) (xs := r3.xs)
   exact Fin.ret (resL_cell rfl (hL.cell (k := 5) rfl) rfl rfl) ⟨hL.pfx, ⟨a0, n0, r0.xs⟩, ⟨a1, n1, r1.xs⟩, ⟨a2, n2, r2.xs⟩, ⟨a3, n3, r3.xs⟩, rfl, ⟨rfl, rfl, rfl, rfl⟩, ⟨A0.1, A1.1, A2.1, A3.1⟩, A0.2, A1.2, A2.2, A3.2⟩
 (refine WO.yes rfl (Wc (OP.not rfl (Wc (OP.pickF rfl rfl (Wt ?_))))); refine WC.condT rfl (Cs (Co (Wc (OP.buildN rfl rfl (Wm rfl (WO.cons0 ?_)))))); refine OL.storeAll (k := 0) hL hlim rfl rfl rfl rfl rfl rfl (by decide) rfl (fun h' hL => ?_); dsimp only [List.set, Nat.zero_add, Nat.reduceAdd, Nat.reduceMul] at hL; refine Wm rfl (Wm rfl (Wt ?_)); refine WC.ret ?_; dsimp only [zn, zr, zx, yn, yr]; rw [z1 (by grind)]; exact Fin.ret (resL_cell rfl (hL.cell (k := 0) rfl) rfl rfl) ⟨hL.pfx, nilRow, nilRow, nilRow, nilRow, rfl, ⟨rfl, rfl, rfl, rfl⟩, nilSt _, nilIn _ _⟩; refine Wc (OP.not rfl (Wm rfl (WO.no rfl (WO.no rfl (WO.no rfl (Wc (OP.pickT rfl rfl (Wt ?_)))))))); refine WC.condT rfl (Cs (Co (Wc (OP.buildN rfl rfl (Wm rfl (WO.cons0 ?_)))))); refine OL.storeAll (k := 0) hL hlim rfl rfl rfl rfl rfl rfl (by decide) rfl (fun h' hL => ?_); dsimp only [List.set, Nat.zero_add, Nat.reduceAdd, Nat.reduceMul] at hL; refine Wm rfl (Wm rfl (Wt ?_)); refine WC.ret ?_; dsimp only [zn, zr, zx, yn, yr]; rw [z1 (by grind)]; exact Fin.ret (resL_cell rfl (hL.cell (k := 0) rfl) rfl rfl) ⟨hL.pfx, nilRow, nilRow, nilRow, nilRow, rfl, ⟨rfl, rfl, rfl, rfl⟩, nilSt _, nilIn _ _⟩)
end
end
end Go.Proofs.YtalknjppnkpmmaaDoorW.Ai
