/-
 Operations one behind the other, by the document (chapter 12), as the small machine runs them.
-/
import Derived.Test.YtdcpmchhioilpaaFn53
set_option linter.unusedVariables false
set_option linter.unusedSimpArgs false
set_option maxHeartbeats 4000000
set_option maxRecDepth 100000
namespace Go.Proofs.YtdcpmchhioilpaaW.Ai
section
variable {X : Ext} {F : FuncId → Option RFunc} {f : FuncId}
theorem s_rFold {g0 g1 g2 : Nat} (hX : X f = none) (hF : F f = some (rf_rFold g0 g1 g2)) (em : S_StateMayO X F g0) (d1 : S_rCopyState X F g1) (eo : S_rApplyO X F g2) : S_rFold X F f := by
 intro lim h r0 r1 r2 r3 ob a n c os hlim hst hs hn
 have hL := Loc.start h
 have hon : os.length = n := hs.rlen opC_len (by decide)
 have apx : ∀ (s : S4) (c r a : Int) (N : S4 × Int × Int), ObjM 1200 ob s c r a = N → ∀ (lim : Nat) (h' : AH) {r0 r1 r2 r3 : Row}, lim ≤ h'.length → St h' r0 r1 r2 r3 → r0.xs = s.x0 → r1.xs = s.x1 → r2.xs = s.x2 → r3.xs = s.x3 → Ret X F lim g2 [.int .i64 ob, stV r0 r1 r2 r3, .agg #[.int .i64 c, .int .i64 r, .int .i64 a], .int .i64 1200] h' fun v h'' => Pfx h' h'' ∧ MadeS h' h'' (fun s0 s1 s2 s3 => .tuple #[stV s0 s1 s2 s3, .int .i64 N.2.1, .int .i64 N.2.2]) N.1 v := by
  intro s c r a N hN lim h' r0 r1 r2 r3 hl hst q0 q1 q2 q3
  have := eo lim h' (ob := ob) (c := c) (r := r) (a := a) (e := 1200) hl hst
  rw [q0, q1, q2, q3] at this
  subst hN
  exact this
 refine Ret.body hX hF rfl ?_
 simp only [argL, rf_rFold]
 by_cases hm : ObMay ob ⟨r0.xs, r1.xs, r2.xs, r3.xs⟩
 ·have d6 : ∀ lim h', Pfx h h' → Ret X F lim g0 [.int .i64 ob, stV r0 r1 r2 r3] h' fun v h'' => Pfx h' h'' ∧ v = .bool true := fun lim h' hp => (decide_eq_true hm) ▸ em lim h' (hst.pfx hp)
  (refine Cs (Co ?_); dsimp only [zn, zr, zx, yn, yr])
  (refine Wc ?_; refine OL.boxA hL rfl rfl (fun B4 h1 hL => ?_))
  (refine Wc ?_; refine OL.new hL (fun B6 h2 hL => ?_))
  (refine Wm rfl (Wm rfl (Wn (Cs (Cs (Co (Wm rfl (Wc (OL.loadAll (k := 1) hL rfl rfl rfl (Wc ?_))))))))); refine OL.callV hL rfl rfl (d6 _ _ hL.pfx) (fun h' hp hL => (Wc (OP.not rfl (Wt ?_)))); refine WC.condF rfl (Ks ?_); refine Cs (Co (Wc (OL.loadAll (k := 1) hL rfl rfl rfl (Wc ?_)))); refine OL.callSt hL rfl rfl (d1 _ _ (by first | exact hL.lm hlim | exact Nat.le_refl _ | omega) (by first | omega | assumption | exact St.pfx (by assumption) hL.pfx | exact hL.stM (by repeat (first | exact mh | apply mt)) | exact RowOk.pfx (by assumption) hL.pfx | exact (hL.stM (by repeat (first | exact mh | apply mt))).1 | exact (hL.stM (by repeat (first | exact mh | apply mt))).2.1 | exact (hL.stM (by repeat (first | exact mh | apply mt))).2.2.1 | exact (hL.stM (by repeat (first | exact mh | apply mt))).2.2.2)) (fun a0 n0 a1 n1 a2 n2 a3 n3 h' hy hp hL => ?_); (try dsimp only at hL hy ⊢); refine Wc ?_; refine OL.new hL (fun b h' hL => (WO.cons0 ?_)); refine OL.storeAll (k := 0) hL hlim rfl rfl rfl rfl rfl rfl (by decide) rfl (fun h' hL => ?_); dsimp only [List.set, Nat.zero_add, Nat.reduceAdd, Nat.reduceMul] at hL; refine Wt ?_; refine Cs (Co (Wm rfl (Wt ?_))); refine Cs (Cs (Co (Wm rfl (Wt ?_)))); refine WC.block ?_)
  have hL := hL.addNil
  refine WC.loop (fun q : FL => (q.i ≤ n ∧ OpsOk (os.take q.i) ∧ q.w0.xs = (runS ob ⟨r0.xs, r1.xs, r2.xs, r3.xs⟩ (os.take q.i)).x0 ∧ q.w1.xs = (runS ob ⟨r0.xs, r1.xs, r2.xs, r3.xs⟩ (os.take q.i)).x1 ∧ q.w2.xs = (runS ob ⟨r0.xs, r1.xs, r2.xs, r3.xs⟩ (os.take q.i)).x2 ∧ q.w3.xs = (runS ob ⟨r0.xs, r1.xs, r2.xs, r3.xs⟩ (os.take q.i)).x3) ∧ ((q.i = 0 ∧ q.a = none ∧ ∃ l1 l2 l3 l4, Loc h q.h [ap l3 l4 1 q.a q.i (ints (runX ob ⟨r0.xs, r1.xs, r2.xs, r3.xs⟩ (os.take q.i))), bx b [q.w0.v, q.w1.v, q.w2.v, q.w3.v], st l1 l2 q.w0 q.w1 q.w2 q.w3, bx B6 [.slice none 0 0, .slice none 0 0, .slice none 0 0, .slice none 0 0]]) ∨ (0 < q.i ∧ ∃ l1 l2 l3 l4, Loc h q.h [ap l3 l4 1 q.a q.i (ints (runX ob ⟨r0.xs, r1.xs, r2.xs, r3.xs⟩ (os.take q.i))), st l1 l2 q.w0 q.w1 q.w2 q.w3, bx b [q.w0.v, q.w1.v, q.w2.v, q.w3.v], bx B6 [.slice none 0 0, .slice none 0 0, .slice none 0 0, .slice none 0 0]]))) (fun q => [(11, .int .i64 (q.i : Int)), (2, .slice a n c), (10, .slice q.a q.i q.i), (9, .pointer (some ⟨b, 0, none⟩)), (6, .pointer (some ⟨B6, 0, none⟩)), (0, .int .i64 ob)]) (fun q => q.h) (fun q => n - q.i) ?_ ⟨0, _, ⟨a0, n0, r0.xs⟩, ⟨a1, n1, r1.xs⟩, ⟨a2, n2, r2.xs⟩, ⟨a3, n3, r3.xs⟩, none⟩ ⟨⟨Nat.zero_le _, fun o ho => absurd ho (by simp), rfl, rfl, rfl, rfl⟩, .inl ⟨rfl, rfl, _, _, _, _, (hL.less (k := 4) rfl)⟩⟩ (by (refine Sub.cons rfl (Sub.cons rfl (Sub.cons rfl (Sub.cons rfl (Sub.cons rfl (Sub.cons rfl ?_))))); exact Sub.nil _)) rfl
  clear hL
  intro ⟨i, h2, w0, w1, w2, w3, A⟩ ⟨⟨hi, hok, e0, e1, e2, e3⟩, hcase⟩
  simp only at hi hok e0 e1 e2 e3 hcase ⊢
  rcases hcase with ⟨hi0, hA, l1, l2, l3, l4, hL⟩ | ⟨hi0, l1, l2, l3, l4, hL⟩
  ·subst hA
   by_cases hlt : (i : Int) < n
   ·have hil : i < os.length := by omega
    have htk : os.take (i + 1) = os.take i ++ [os[i]] := List.take_succ_eq_append_getElem hil
    by_cases hop : OpOk os[i].c os[i].r os[i].a
    ·obtain ⟨s', x, hN, hm'⟩ := ObjM_fine (runS_may hm hok) hop
     have hS1 : runS ob ⟨r0.xs, r1.xs, r2.xs, r3.xs⟩ (os.take (i + 1)) = s' := by rw [htk, runS_app]; simp only [runS, hN 0]
     have hX1 : runX ob ⟨r0.xs, r1.xs, r2.xs, r3.xs⟩ (os.take (i + 1)) = runX ob ⟨r0.xs, r1.xs, r2.xs, r3.xs⟩ (os.take i) ++ [x] := by rw [htk, runX_app]; simp only [runX, hN 0]
     have hok1 : OpsOk (os.take (i + 1)) := by
      rw [htk]
      intro o ho
      rcases List.mem_append.1 ho with ho | ho
      ·exact hok o ho
      ·rw [List.mem_singleton.1 ho]; exact hop
     (refine Cs (Cs (Co (Wm rfl (Wm rfl (Wc (OP.lenS rfl (Wc (OP.lssT rfl rfl (by omega) ?_)))))))); refine Wt ?_; refine WC.condT rfl (Ks ?_); refine Cs (WC.block (Cs (Co (WO.consQ (OP.mv rfl (WO.consQ (OL.loadAll (k := 1) hL rfl rfl rfl (WO.consQ (OP.mv rfl (WO.consQ (OP.mv rfl (WO.consQ (OP.idxS (Sl.pfx (by assumption) (Loc.pfx hL)) rfl rfl (by omega) ?_))))))))))))); refine WO.consQ (OP.ldR opC_len (by decide) (Sl.pfx (by assumption) (Loc.pfx hL)) rfl (by omega) ?_))
     (refine WO.consQ ?_)
     refine OL.callSt hL rfl rfl (apx _ os[i].c os[i].r os[i].a (s', x, 0) (hN 1200) _ _ (by first | exact hL.lm hlim | exact Nat.le_refl _) (hL.stM (by repeat (first | exact mh | apply mt))) e0 e1 e2 e3) (fun a0 n0 a1 n1 a2 n2 a3 n3 h' hy hp hL => ?_)
     (try dsimp only at hL ⊢)
     clear hy
     (refine WO.consQ (OP.mv rfl (WO.consQ (OP.extract rfl rfl (WO.consQ (OP.extract rfl rfl (WO.consQ (OP.extract rfl rfl (WO.consQ ?_)))))))); refine OL.new hL (fun b h' hL => (WO.cons0 ?_)); refine OL.storeAll (k := 0) hL hlim rfl rfl rfl rfl rfl rfl (by decide) rfl (fun h' hL => ?_); dsimp only [List.set, Nat.zero_add, Nat.reduceAdd, Nat.reduceMul] at hL; refine Wm rfl (Wm rfl (Wt ?_)); refine Cs (Cs (Co (Wm rfl (Wc (OP.neqF rfl rfl (by omega) ?_))))); refine Wt ?_; refine WC.condF rfl (Ks ?_); refine Cs (Co (Wc (OL.loadAll (k := 0) hL rfl rfl rfl (WO.cons0 ?_)))); refine OL.storeAll (k := 3) hL hlim rfl rfl rfl rfl rfl rfl (by decide) rfl (fun h' hL => ?_); dsimp only [List.set, Nat.zero_add, Nat.reduceAdd, Nat.reduceMul] at hL; refine Wt ?_; refine Co (Wm rfl (Wm rfl (Wc ?_))); refine OL.buildSlice hL rfl (by simp [over, Value.cells]; rfl) rfl (fun b h' hL => ?_); refine Wc ?_; refine OL.append (k := 3) hL hlim rfl rfl rfl (Loc.bxAt (k := 0) hL rfl rfl) (by omega) ⟨by omega, by omega, by omega⟩ rfl (fun a' h' hL => ?_); dsimp only [List.eraseIdx] at hL; refine Wm rfl (Wt ?_); refine Co (Wm rfl (Wc (OP.add rfl rfl (by omega) ?_))); refine Wm rfl (Wt ?_))
     have hL2 := ((hL.less (k := 1) rfl).less (k := 1) rfl).less (k := 3) rfl
     dsimp only [List.eraseIdx] at hL2
     rw [ints_snoc, ← hX1] at hL2
     exact ⟨⟨i + 1, h', ⟨a0, n0, s'.x0⟩, ⟨a1, n1, s'.x1⟩, ⟨a2, n2, s'.x2⟩, ⟨a3, n3, s'.x3⟩, a'⟩, ⟨⟨by simp only; omega, hok1, by rw [hS1], by rw [hS1], by rw [hS1], by rw [hS1]⟩, .inr ⟨by simp only; omega, _, _, _, _, hL2⟩⟩, by (refine Sub.cons rfl (Sub.cons rfl (Sub.cons rfl (Sub.cons rfl (Sub.cons rfl (Sub.cons rfl ?_))))); exact Sub.nil _), rfl, by simp only; omega⟩
    ·rw [show FoldR ob ⟨r0.xs, r1.xs, r2.xs, r3.xs⟩ os = (S4.none, [], 1200) from if_neg (fun hh => hop (hh.2 _ (List.getElem_mem hil)))]
     (refine Cs (Cs (Co (Wm rfl (Wm rfl (Wc (OP.lenS rfl (Wc (OP.lssT rfl rfl (by omega) ?_)))))))); refine Wt ?_; refine WC.condT rfl (Ks ?_); refine Cs (WC.block (Cs (Co (WO.consQ (OP.mv rfl (WO.consQ (OL.loadAll (k := 1) hL rfl rfl rfl (WO.consQ (OP.mv rfl (WO.consQ (OP.mv rfl (WO.consQ (OP.idxS (Sl.pfx (by assumption) (Loc.pfx hL)) rfl rfl (by omega) ?_))))))))))))); refine WO.consQ (OP.ldR opC_len (by decide) (Sl.pfx (by assumption) (Loc.pfx hL)) rfl (by omega) ?_))
     (refine WO.consQ ?_)
     refine OL.callSt hL rfl rfl (apx _ os[i].c os[i].r os[i].a (S4.none, 0, 1200) (ObjM_no (fun hh => hop hh.2)) _ _ (by first | exact hL.lm hlim | exact Nat.le_refl _) (hL.stM (by repeat (first | exact mh | apply mt))) e0 e1 e2 e3) (fun a0 n0 a1 n1 a2 n2 a3 n3 h' hy hp hL => ?_)
     (try dsimp only at hL ⊢)
     clear hy
     (refine WO.consQ (OP.mv rfl (WO.consQ (OP.extract rfl rfl (WO.consQ (OP.extract rfl rfl (WO.consQ (OP.extract rfl rfl (WO.consQ ?_)))))))); refine OL.new hL (fun b h' hL => (WO.cons0 ?_)); refine OL.storeAll (k := 0) hL hlim rfl rfl rfl rfl rfl rfl (by decide) rfl (fun h' hL => ?_); dsimp only [List.set, Nat.zero_add, Nat.reduceAdd, Nat.reduceMul] at hL; refine Wm rfl (Wm rfl (Wt ?_)); refine Cs (Cs (Co (Wm rfl (Wc (OP.neqT rfl rfl (by omega) ?_))))); refine Wt ?_; refine WC.condT rfl (Cs (Co (Wc (OP.buildN rfl rfl (Wm rfl (WO.cons0 ?_)))))); refine OL.storeAll (k := 5) hL hlim rfl rfl rfl rfl rfl rfl (by decide) rfl (fun h' hL => ?_); dsimp only [List.set, Nat.zero_add, Nat.reduceAdd, Nat.reduceMul] at hL; refine Wm rfl (Wm rfl (Wt ?_)); refine WC.ret ?_; dsimp only [zn, zr, zx, yn, yr])
     exact Fin.ret (resL_cell rfl (hL.cell (k := 5) rfl) rfl rfl) ⟨hL.pfx, nilRow, nilRow, nilRow, nilRow, none, 0, _, rfl, ⟨rfl, rfl, rfl, rfl⟩, ⟨hL.len, Nat.le_refl _⟩, ⟨nilSt _, nilIn _ _⟩, ⟨rfl, .inl ⟨rfl, fun x hx => by cases hx⟩⟩⟩
   ·have hin : i = n := by omega
    rw [List.take_of_length_le (by omega)] at hL hok e0 e1 e2 e3
    rw [show FoldR ob ⟨r0.xs, r1.xs, r2.xs, r3.xs⟩ os = (runS ob ⟨r0.xs, r1.xs, r2.xs, r3.xs⟩ os, runX ob ⟨r0.xs, r1.xs, r2.xs, r3.xs⟩ os, 0) from if_pos ⟨hm, hok⟩]
    clear hm
    (refine Cs (Cs (Co (Wm rfl (Wm rfl (Wc (OP.lenS rfl (Wc (OP.lssF rfl rfl (by omega) ?_)))))))); refine Wt ?_; refine WC.condF rfl (WC.exit ?_); dsimp only [zn, zr, zx, yn, yr]; rw [yx, if_pos rfl]; dsimp only [zn, zr, zx, yn, yr]; refine Cs (Co (Wc (OL.loadAll (k := 1) hL rfl rfl rfl (Wm rfl (WO.cons0 ?_))))); refine OL.storeAll (k := 3) hL hlim rfl rfl rfl rfl rfl rfl (by decide) rfl (fun h' hL => ?_); dsimp only [List.set, Nat.zero_add, Nat.reduceAdd, Nat.reduceMul] at hL; refine Wm rfl (Wm rfl (Wt ?_)); refine WC.ret ?_)
    have hst' := (hL.get (k := 2) rfl)
    have hlo := hL.lo (k := 2) rfl
    have hbl := hL.below (i := 0) (j := 2) rfl rfl (by decide)
    exact Fin.ret (resL_cell rfl (hL.cell (k := 3) rfl) rfl rfl) ⟨hL.pfx, w0, w1, w2, w3, _, i, l2, rfl, ⟨e0, e1, e2, e3⟩, ⟨Nat.le_trans hlo (hL.mid (i := 2) rfl), Nat.le_trans hbl (Nat.le_trans (hL.mid (i := 0) rfl) (hL.toEnd (k := 0) rfl))⟩, ⟨hst'.1, hst'.2.1.le hlo (Nat.le_refl _), hst'.2.2.1.le hlo (Nat.le_refl _), hst'.2.2.2.1.le hlo (Nat.le_refl _), hst'.2.2.2.2.le hlo (Nat.le_refl _)⟩, Ap.widen (hL.get (k := 0) rfl) hbl (hL.toEnd (k := 0) rfl)⟩
  ·skip
   by_cases hlt : (i : Int) < n
   ·have hil : i < os.length := by omega
    have htk : os.take (i + 1) = os.take i ++ [os[i]] := List.take_succ_eq_append_getElem hil
    by_cases hop : OpOk os[i].c os[i].r os[i].a
    ·obtain ⟨s', x, hN, hm'⟩ := ObjM_fine (runS_may hm hok) hop
     have hS1 : runS ob ⟨r0.xs, r1.xs, r2.xs, r3.xs⟩ (os.take (i + 1)) = s' := by rw [htk, runS_app]; simp only [runS, hN 0]
     have hX1 : runX ob ⟨r0.xs, r1.xs, r2.xs, r3.xs⟩ (os.take (i + 1)) = runX ob ⟨r0.xs, r1.xs, r2.xs, r3.xs⟩ (os.take i) ++ [x] := by rw [htk, runX_app]; simp only [runX, hN 0]
     have hok1 : OpsOk (os.take (i + 1)) := by
      rw [htk]
      intro o ho
      rcases List.mem_append.1 ho with ho | ho
      ·exact hok o ho
      ·rw [List.mem_singleton.1 ho]; exact hop
     (refine Cs (Cs (Co (Wm rfl (Wm rfl (Wc (OP.lenS rfl (Wc (OP.lssT rfl rfl (by omega) ?_)))))))); refine Wt ?_; refine WC.condT rfl (Ks ?_); refine Cs (WC.block (Cs (Co (WO.consQ (OP.mv rfl (WO.consQ (OL.loadAll (k := 2) hL rfl rfl rfl (WO.consQ (OP.mv rfl (WO.consQ (OP.mv rfl (WO.consQ (OP.idxS (Sl.pfx (by assumption) (Loc.pfx hL)) rfl rfl (by omega) ?_))))))))))))); refine WO.consQ (OP.ldR opC_len (by decide) (Sl.pfx (by assumption) (Loc.pfx hL)) rfl (by omega) ?_))
     (refine WO.consQ ?_)
     refine OL.callSt hL rfl rfl (apx _ os[i].c os[i].r os[i].a (s', x, 0) (hN 1200) _ _ (by first | exact hL.lm hlim | exact Nat.le_refl _) (hL.stM (by repeat (first | exact mh | apply mt))) e0 e1 e2 e3) (fun a0 n0 a1 n1 a2 n2 a3 n3 h' hy hp hL => ?_)
     (try dsimp only at hL ⊢)
     clear hy
     (refine WO.consQ (OP.mv rfl (WO.consQ (OP.extract rfl rfl (WO.consQ (OP.extract rfl rfl (WO.consQ (OP.extract rfl rfl (WO.consQ ?_)))))))); refine OL.new hL (fun b h' hL => (WO.cons0 ?_)); refine OL.storeAll (k := 0) hL hlim rfl rfl rfl rfl rfl rfl (by decide) rfl (fun h' hL => ?_); dsimp only [List.set, Nat.zero_add, Nat.reduceAdd, Nat.reduceMul] at hL; refine Wm rfl (Wm rfl (Wt ?_)); refine Cs (Cs (Co (Wm rfl (Wc (OP.neqF rfl rfl (by omega) ?_))))); refine Wt ?_; refine WC.condF rfl (Ks ?_); refine Cs (Co (Wc (OL.loadAll (k := 0) hL rfl rfl rfl (WO.cons0 ?_)))); refine OL.storeAll (k := 4) hL hlim rfl rfl rfl rfl rfl rfl (by decide) rfl (fun h' hL => ?_); dsimp only [List.set, Nat.zero_add, Nat.reduceAdd, Nat.reduceMul] at hL; refine Wt ?_; refine Co (Wm rfl (Wm rfl (Wc ?_))); refine OL.buildSlice hL rfl (by simp [over, Value.cells]; rfl) rfl (fun b h' hL => ?_); refine Wc ?_; refine OL.append (k := 3) hL hlim rfl rfl rfl (Loc.bxAt (k := 0) hL rfl rfl) (by omega) ⟨by omega, by omega, by omega⟩ rfl (fun a' h' hL => ?_); dsimp only [List.eraseIdx] at hL; refine Wm rfl (Wt ?_); refine Co (Wm rfl (Wc (OP.add rfl rfl (by omega) ?_))); refine Wm rfl (Wt ?_))
     have hL2 := ((hL.less (k := 1) rfl).less (k := 1) rfl).less (k := 2) rfl
     dsimp only [List.eraseIdx] at hL2
     rw [ints_snoc, ← hX1] at hL2
     exact ⟨⟨i + 1, h', ⟨a0, n0, s'.x0⟩, ⟨a1, n1, s'.x1⟩, ⟨a2, n2, s'.x2⟩, ⟨a3, n3, s'.x3⟩, a'⟩, ⟨⟨by simp only; omega, hok1, by rw [hS1], by rw [hS1], by rw [hS1], by rw [hS1]⟩, .inr ⟨by simp only; omega, _, _, _, _, hL2⟩⟩, by (refine Sub.cons rfl (Sub.cons rfl (Sub.cons rfl (Sub.cons rfl (Sub.cons rfl (Sub.cons rfl ?_))))); exact Sub.nil _), rfl, by simp only; omega⟩
    ·rw [show FoldR ob ⟨r0.xs, r1.xs, r2.xs, r3.xs⟩ os = (S4.none, [], 1200) from if_neg (fun hh => hop (hh.2 _ (List.getElem_mem hil)))]
     (refine Cs (Cs (Co (Wm rfl (Wm rfl (Wc (OP.lenS rfl (Wc (OP.lssT rfl rfl (by omega) ?_)))))))); refine Wt ?_; refine WC.condT rfl (Ks ?_); refine Cs (WC.block (Cs (Co (WO.consQ (OP.mv rfl (WO.consQ (OL.loadAll (k := 2) hL rfl rfl rfl (WO.consQ (OP.mv rfl (WO.consQ (OP.mv rfl (WO.consQ (OP.idxS (Sl.pfx (by assumption) (Loc.pfx hL)) rfl rfl (by omega) ?_))))))))))))); refine WO.consQ (OP.ldR opC_len (by decide) (Sl.pfx (by assumption) (Loc.pfx hL)) rfl (by omega) ?_))
     (refine WO.consQ ?_)
     refine OL.callSt hL rfl rfl (apx _ os[i].c os[i].r os[i].a (S4.none, 0, 1200) (ObjM_no (fun hh => hop hh.2)) _ _ (by first | exact hL.lm hlim | exact Nat.le_refl _) (hL.stM (by repeat (first | exact mh | apply mt))) e0 e1 e2 e3) (fun a0 n0 a1 n1 a2 n2 a3 n3 h' hy hp hL => ?_)
     (try dsimp only at hL ⊢)
     clear hy
     (refine WO.consQ (OP.mv rfl (WO.consQ (OP.extract rfl rfl (WO.consQ (OP.extract rfl rfl (WO.consQ (OP.extract rfl rfl (WO.consQ ?_)))))))); refine OL.new hL (fun b h' hL => (WO.cons0 ?_)); refine OL.storeAll (k := 0) hL hlim rfl rfl rfl rfl rfl rfl (by decide) rfl (fun h' hL => ?_); dsimp only [List.set, Nat.zero_add, Nat.reduceAdd, Nat.reduceMul] at hL; refine Wm rfl (Wm rfl (Wt ?_)); refine Cs (Cs (Co (Wm rfl (Wc (OP.neqT rfl rfl (by omega) ?_))))); refine Wt ?_; refine WC.condT rfl (Cs (Co (Wc (OP.buildN rfl rfl (Wm rfl (WO.cons0 ?_)))))); refine OL.storeAll (k := 5) hL hlim rfl rfl rfl rfl rfl rfl (by decide) rfl (fun h' hL => ?_); dsimp only [List.set, Nat.zero_add, Nat.reduceAdd, Nat.reduceMul] at hL; refine Wm rfl (Wm rfl (Wt ?_)); refine WC.ret ?_; dsimp only [zn, zr, zx, yn, yr])
     exact Fin.ret (resL_cell rfl (hL.cell (k := 5) rfl) rfl rfl) ⟨hL.pfx, nilRow, nilRow, nilRow, nilRow, none, 0, _, rfl, ⟨rfl, rfl, rfl, rfl⟩, ⟨hL.len, Nat.le_refl _⟩, ⟨nilSt _, nilIn _ _⟩, ⟨rfl, .inl ⟨rfl, fun x hx => by cases hx⟩⟩⟩
   ·have hin : i = n := by omega
    rw [List.take_of_length_le (by omega)] at hL hok e0 e1 e2 e3
    rw [show FoldR ob ⟨r0.xs, r1.xs, r2.xs, r3.xs⟩ os = (runS ob ⟨r0.xs, r1.xs, r2.xs, r3.xs⟩ os, runX ob ⟨r0.xs, r1.xs, r2.xs, r3.xs⟩ os, 0) from if_pos ⟨hm, hok⟩]
    clear hm
    (refine Cs (Cs (Co (Wm rfl (Wm rfl (Wc (OP.lenS rfl (Wc (OP.lssF rfl rfl (by omega) ?_)))))))); refine Wt ?_; refine WC.condF rfl (WC.exit ?_); dsimp only [zn, zr, zx, yn, yr]; rw [yx, if_pos rfl]; dsimp only [zn, zr, zx, yn, yr]; refine Cs (Co (Wc (OL.loadAll (k := 2) hL rfl rfl rfl (Wm rfl (WO.cons0 ?_))))); refine OL.storeAll (k := 3) hL hlim rfl rfl rfl rfl rfl rfl (by decide) rfl (fun h' hL => ?_); dsimp only [List.set, Nat.zero_add, Nat.reduceAdd, Nat.reduceMul] at hL; refine Wm rfl (Wm rfl (Wt ?_)); refine WC.ret ?_)
    have hst' := (hL.get (k := 1) rfl)
    have hlo := hL.lo (k := 1) rfl
    have hbl := hL.below (i := 0) (j := 1) rfl rfl (by decide)
    exact Fin.ret (resL_cell rfl (hL.cell (k := 3) rfl) rfl rfl) ⟨hL.pfx, w0, w1, w2, w3, _, i, l2, rfl, ⟨e0, e1, e2, e3⟩, ⟨Nat.le_trans hlo (hL.mid (i := 1) rfl), Nat.le_trans hbl (Nat.le_trans (hL.mid (i := 0) rfl) (hL.toEnd (k := 0) rfl))⟩, ⟨hst'.1, hst'.2.1.le hlo (Nat.le_refl _), hst'.2.2.1.le hlo (Nat.le_refl _), hst'.2.2.2.1.le hlo (Nat.le_refl _), hst'.2.2.2.2.le hlo (Nat.le_refl _)⟩, Ap.widen (hL.get (k := 0) rfl) hbl (hL.toEnd (k := 0) rfl)⟩
 ·have d6 : ∀ lim h', Pfx h h' → Ret X F lim g0 [.int .i64 ob, stV r0 r1 r2 r3] h' fun v h'' => Pfx h' h'' ∧ v = .bool false := fun lim h' hp => (decide_eq_false hm) ▸ em lim h' (hst.pfx hp)
  rw [show FoldR ob ⟨r0.xs, r1.xs, r2.xs, r3.xs⟩ os = (S4.none, [], 1200) from if_neg (fun hh => hm hh.1)]
  (refine Cs (Co (Wc ?_)); refine OL.boxA hL rfl rfl (fun b h' hL => (Wc ?_)); refine OL.new hL (fun b h' hL => (Wm rfl (Wm rfl (Wt ?_)))); refine Cs (Cs (Co (Wm rfl (Wc (OL.loadAll (k := 1) hL rfl rfl rfl (Wc ?_)))))); refine OL.callV hL rfl rfl (d6 _ _ hL.pfx) (fun h' hp hL => (Wc (OP.not rfl (Wt ?_)))); refine WC.condT rfl (Cs (Co (Wc (OP.buildN rfl rfl (WO.cons0 ?_))))); refine OL.storeAll (k := 0) hL hlim rfl rfl rfl rfl rfl rfl (by decide) rfl (fun h' hL => ?_); dsimp only [List.set, Nat.zero_add, Nat.reduceAdd, Nat.reduceMul] at hL; refine Wm rfl (Wm rfl (Wt ?_)); refine WC.ret ?_; dsimp only [zn, zr, zx, yn, yr])
  exact Fin.ret (resL_cell rfl (hL.cell (k := 0) rfl) rfl rfl) ⟨hL.pfx, nilRow, nilRow, nilRow, nilRow, none, 0, _, rfl, ⟨rfl, rfl, rfl, rfl⟩, ⟨hL.len, Nat.le_refl _⟩, ⟨nilSt _, nilIn _ _⟩, ⟨rfl, .inl ⟨rfl, fun x hx => by cases hx⟩⟩⟩
end
end Go.Proofs.YtdcpmchhioilpaaW.Ai
