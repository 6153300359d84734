/-
 Histories (chapter 24), as the small machine runs them: the search.
-/
import Derived.Test.YtalknjppnkpmmaaDoorFnA
set_option linter.unusedVariables false
set_option linter.unusedSimpArgs false
set_option maxHeartbeats 4000000
set_option maxRecDepth 100000
namespace Go.Proofs.YtalknjppnkpmmaaDoorW.Ai
section
def rf_lSearch (g0 g1 g2 g3 g4 : Nat) : RFunc :=
 ⟨95, [(.tmp 6)], (.seq (.ops [rO 4 (.box (.tmp 1)), rO 5 (.box (.tmp 2)), rO 6 (.mv (.const (.bool false)))]) (.seq (.ops [rO 17 (.mv (.tmp 0)), rO 18 (.load (.some 4) (.tmp 4)), rO 19 (.call (.func g0) [(.tmp 17), (.tmp 18)]), rO 16 (.mv (.tmp 19)), rO 20 (.extract (.tmp 16) 0), rO 21 (.extract (.tmp 16) 1), rO 7 (.mv (.tmp 20)), rO 8 (.mv (.tmp 21))]) (.seq (.seq (.ops [rO 22 (.mv (.tmp 8))]) (.cond (.tmp 22) (.seq (.ops [rO 6 (.mv (.const (.bool true)))]) .ret) .skip)) (.seq (.ops [rO 23 (.load (.some 4) (.tmp 4)), rO 24 (.call (.func g1) [(.tmp 23), (.tmp 5)]), rO 9 (.mv (.tmp 24))]) (.seq (.seq (.ops [rO 25 (.mv (.tmp 0)), rO 26 (.nilCheck (.tmp 25)), rO 27 (.fieldAddr 5 (.tmp 26)), rO 28 (.load .none (.tmp 27)), rO 29 (.mv (.tmp 9)), rO 30 (.lookup 2 (.bool false) false (.tmp 28) (.tmp 29))]) (.cond (.tmp 30) (.seq (.ops [rO 6 (.mv (.const (.bool false)))]) .ret) .skip)) (.seq (.ops [rO 31 (.mv (.tmp 0)), rO 32 (.nilCheck (.tmp 31)), rO 33 (.fieldAddr 5 (.tmp 32)), rO 34 (.load .none (.tmp 33)), rO 35 (.mv (.tmp 9)), ⟨.none, (.mapSet 2 (.tmp 34) (.tmp 35) (.const (.bool true))), .none, false, []⟩]) (.seq (.seq (.ops [rO 36 (.mv (.const (.int .i64 0)))]) (.block 0 (.loop (.seq (.ops [rO 37 (.bin .lss (.tmp 36) (.const (.int .i64 4)))]) (.seq (.cond (.tmp 37) .skip (.exit 0)) (.seq (.block 1 (.seq (.ops [rO 38 (.mv (.tmp 36)), rO 10 (.mv (.tmp 38))]) (.seq (.ops [rO 39 (.mv (.tmp 0)), rO 40 (.load (.some 4) (.tmp 4)), rO 41 (.mv (.tmp 10)), rO 42 (.call (.func g2) [(.tmp 39), (.tmp 40), (.tmp 41)]), rO 11 (.mv (.tmp 42))]) (.seq (.seq (.ops [rO 43 (.mv (.tmp 11)), rO 44 (.isNil false 1 (.tmp 43)), rO 45 (.mv (.tmp 44)), ⟨(.some 46), (.mv (.tmp 11)), (.some (45, false)), false, []⟩, ⟨(.some 47), (.nilCheck (.tmp 46)), (.some (45, false)), false, []⟩, ⟨(.some 48), (.fieldAddr 3 (.tmp 47)), (.some (45, false)), false, []⟩, ⟨(.some 49), (.load .none (.tmp 48)), (.some (45, false)), false, []⟩, ⟨(.some 50), (.mv (.tmp 7)), (.some (45, false)), false, []⟩, ⟨(.some 51), (.bin .gtr (.tmp 49) (.tmp 50)), (.some (45, false)), false, []⟩, rO 52 (.pick (.tmp 45) (.const (.bool true)) (.tmp 51))]) (.cond (.tmp 52) (.exit 1) .skip)) (.seq (.ops [⟨(.some 54), (.mv (.tmp 0)), .none, true, []⟩, ⟨(.some 55), (.nilCheck (.tmp 54)), .none, true, []⟩, ⟨(.some 56), (.fieldAddr 4 (.tmp 55)), .none, true, []⟩, ⟨(.some 57), (.load .none (.tmp 56)), .none, true, []⟩, ⟨(.some 58), (.load (.some 4) (.tmp 5)), .none, true, []⟩, ⟨(.some 59), (.mv (.tmp 11)), .none, true, []⟩, ⟨(.some 60), (.nilCheck (.tmp 59)), .none, true, []⟩, ⟨(.some 61), (.fieldAddr 0 (.tmp 60)), .none, true, []⟩, ⟨(.some 62), (.load (.some 3) (.tmp 61)), .none, true, []⟩, ⟨(.some 63), (.call (.func g3) [(.tmp 57), (.tmp 58), (.tmp 62)]), .none, true, []⟩, ⟨(.some 53), (.mv (.tmp 63)), .none, true, []⟩, ⟨(.some 64), (.extract (.tmp 53) 0), .none, true, []⟩, ⟨(.some 65), (.extract (.tmp 53) 1), .none, true, []⟩, ⟨(.some 66), (.extract (.tmp 53) 2), .none, true, []⟩, ⟨(.some 12), (.new [(.slice .none 0 0), (.slice .none 0 0), (.slice .none 0 0), (.slice .none 0 0)]), .none, true, []⟩, ⟨.none, (.store 4 (.tmp 12) (.tmp 64)), .none, false, []⟩, rO 13 (.mv (.tmp 65)), rO 14 (.mv (.tmp 66))]) (.seq (.seq (.ops [rO 67 (.mv (.tmp 14)), rO 68 (.bin .neq (.tmp 67) (.const (.int .i64 0))), rO 69 (.mv (.tmp 68)), ⟨(.some 70), (.mv (.tmp 11)), (.some (69, false)), false, []⟩, ⟨(.some 71), (.nilCheck (.tmp 70)), (.some (69, false)), false, []⟩, ⟨(.some 72), (.fieldAddr 4 (.tmp 71)), (.some (69, false)), false, []⟩, ⟨(.some 73), (.load .none (.tmp 72)), (.some (69, false)), false, []⟩, ⟨(.some 74), (.bin .gtr (.tmp 73) (.const (.int .i64 0))), (.some (69, false)), false, []⟩, ⟨(.some 75), (.mv (.tmp 74)), (.some (69, false)), false, []⟩, ⟨(.some 76), (.mv (.tmp 13)), (.some (75, true)), false, []⟩, ⟨(.some 77), (.mv (.tmp 11)), (.some (75, true)), false, []⟩, ⟨(.some 78), (.nilCheck (.tmp 77)), (.some (75, true)), false, []⟩, ⟨(.some 79), (.fieldAddr 5 (.tmp 78)), (.some (75, true)), false, []⟩, ⟨(.some 80), (.load .none (.tmp 79)), (.some (75, true)), false, []⟩, ⟨(.some 81), (.bin .neq (.tmp 76) (.tmp 80)), (.some (75, true)), false, []⟩, ⟨(.some 82), (.pick (.tmp 75) (.tmp 81) (.const (.bool false))), (.some (69, false)), false, []⟩, rO 83 (.pick (.tmp 69) (.const (.bool true)) (.tmp 82))]) (.cond (.tmp 83) (.exit 1) .skip)) (.seq (.ops [rO 84 (.load (.some 4) (.tmp 4)), rO 15 (.new [(.int .i64 0), (.int .i64 0), (.int .i64 0), (.int .i64 0)]), ⟨.none, (.store 4 (.tmp 15) (.tmp 84)), .none, false, []⟩]) (.seq (.ops [rO 85 (.mv (.tmp 10)), rO 86 (.idxAddrArr 4 1 (.tmp 15) (.tmp 85)), rO 87 (.load .none (.tmp 86)), rO 88 (.bin .add (.tmp 87) (.const (.int .i64 1))), rO 89 (.idxAddrArr 4 1 (.tmp 15) (.tmp 85)), ⟨.none, (.store 1 (.tmp 89) (.tmp 88)), .none, false, []⟩]) (.seq (.ops [rO 90 (.mv (.tmp 0)), rO 91 (.load (.some 4) (.tmp 15)), rO 92 (.load (.some 4) (.tmp 12)), rO 93 (.call (.func g4) [(.tmp 90), (.tmp 91), (.tmp 92)])]) (.cond (.tmp 93) (.seq (.ops [rO 6 (.mv (.const (.bool true)))]) .ret) .skip)))))))))) (.ops [rO 94 (.bin .add (.tmp 36) (.const (.int .i64 1))), rO 36 (.mv (.tmp 94))]))))))) (.seq (.ops [rO 6 (.mv (.const (.bool false)))]) .ret))))))))⟩
theorem Loc.kxM {h h' : AH} {mb : Nat} {l : List Item} (hm : mb ≤ h.length) (hL : Loc (h.take mb) h' l) (hk : fz (mb + 1) h.length h ∈ l) : Kx mb h h' :=
 let ⟨_, hk⟩ := List.getElem?_of_mem hk
 hL.kx hm hk
section
variable (X : Ext) (F : FuncId → Option RFunc) (g : FuncId)
abbrev S_lSearchN (N : Nat) : Prop := ∀ (lim : Nat) (h : AH) {hb mb : Nat} {ob : Int} {a0 a1 a2 a3 : Option Addr} {C : H4} {p : P4} {r0 r1 r2 r3 : Row} {S : List ByteArray}, HistR h hb mb ob a0 a1 a2 a3 C → HOk C → ValidN ob C p ⟨r0.xs, r1.xs, r2.xs, r3.xs⟩ → St h r0 r1 r2 r3 → h[mb]? = some (.map (mpv S)) → lim ≤ mb → Known ob C S p.sum → 256 < p.sum + N →
 Ret X F lim g [.pointer (some ⟨hb, 0, none⟩), pV p, stV r0 r1 r2 r3] h fun v h' => Kx mb h h' ∧ ∃ S', h'[mb]? = some (.map (mpv S')) ∧ ((v = .bool true ∧ Lin ob C p ⟨r0.xs, r1.xs, r2.xs, r3.xs⟩) ∨ (v = .bool false ∧ ¬ Lin ob C p ⟨r0.xs, r1.xs, r2.xs, r3.xs⟩ ∧ More ob C S S' p.sum))
abbrev S_lSearch : Prop := ∀ N, S_lSearchN X F g N
end
theorem sum_le {C : H4} {p : P4} (H : HOk C) (h : InP C p) : p.sum ≤ 256 := by
 obtain ⟨h0, h1, h2, h3⟩ := h
 obtain ⟨g0, g1, g2, g3⟩ := H.len
 unfold P4.sum
 omega
theorem no_succ {p : Nat → Prop} {t : Nat} (h : ∀ u, u < t → ¬ p u) (ht : ¬ p t) : ∀ u, u < t + 1 → ¬ p u := fun u hu => by
 by_cases e : u = t
 ·subst e; exact ht
 ·exact h u (by omega)
structure LS where
 i : Nat
 h : AH
 S : List ByteArray
section
variable {X : Ext} {F : FuncId → Option RFunc} {f : FuncId}
theorem s_lSearchS {g0 g1 g2 g3 N : Nat} (hX : X f = none) (hF : F f = some (rf_lSearch g0 g1 g2 g3 f)) (e0 : S_lBound X F g0) (hXn : X g1 = some nameA) (e2 : S_lNext X F g2) (eo : S_oApply X F g3) (ih : S_lSearchN X F f N) : S_lSearchN X F f (N + 1) := by
 intro lim h hb mb ob a0 a1 a2 a3 C p r0 r1 r2 r3 S H HO hv hst hm hlm hkn hN
 have hml := (List.getElem?_eq_some_iff.1 hm).1
 have hlim : lim ≤ (h.take mb).length := by rw [List.length_take]; omega
 have hL := Loc.frameM hm
 have hin := hv.1
 have hob := hv.2
 generalize hs : (⟨r0.xs, r1.xs, r2.xs, r3.xs⟩ : S4) = s at hv hob ⊢
 have z0 : r0.xs = s.x0 := by rw [← hs]
 have z1 : r1.xs = s.x1 := by rw [← hs]
 have z2 : r2.xs = s.x2 := by rw [← hs]
 have z3 : r3.xs = s.x3 := by rw [← hs]
 have sm := ObMay_small hob
 have hsm : ∀ r, r = r0 ∨ r = r1 ∨ r = r2 ∨ r = r3 → (∀ x ∈ r.xs, 0 ≤ x ∧ x ≤ 1000000) ∧ r.xs.length ≤ 1000 := by
  rintro r (rfl | rfl | rfl | rfl)
  ·rw [z0]; exact ⟨sm.1.1, sm.2.1⟩
  ·rw [z1]; exact ⟨sm.1.2.1, sm.2.2.1⟩
  ·rw [z2]; exact ⟨sm.1.2.2.1, sm.2.2.2.1⟩
  ·rw [z3]; exact ⟨sm.1.2.2.2, sm.2.2.2.2⟩
 have sp := InP_small HO hin
 refine Ret.body hX hF rfl ?_
 simp only [argL, rf_lSearch, pV]
 (refine Cs (Co ?_); dsimp only [zn, zr, zx, yn, yr])
 (refine Wc ?_; refine OL.boxA hL rfl rfl (fun B4 h1 hL => ?_))
 (skip)
 (refine Wc ?_; refine OL.boxA hL rfl rfl (fun B5 h2 hL => ?_))
 (refine Wm rfl (Wn (Cs (Co (Wm rfl (Wc (OL.loadAll (k := 1) hL rfl rfl rfl ?_)))))))
 (refine Wc ?_)
 refine OL.callV hL rfl rfl (e0 _ _ (H.kx (hL.kxM (by omega) (by repeat (first | exact mh | apply mt))) hm) hin) (fun h' hp hL => ?_)
 by_cases hd : bndN C p 4 > 64
 ·rw [decide_eq_true hd]
  (refine Wm rfl (Wc (OP.extract rfl rfl (Wc (OP.extract rfl rfl (Wm rfl (Wm rfl (Wt ?_))))))); refine Cs (Cs (Co (Wm rfl (Wt ?_)))); refine WC.condT rfl (Cs (Co (Wm rfl (Wt ?_)))); refine WC.ret ?_; dsimp only [zn, zr, zx, yn, yr])
  exact Fin.ret rfl ⟨hL.kxM (by omega) (by repeat (first | exact mh | apply mt)), S, hL.get (k := 3) rfl, .inl ⟨rfl, .done ((done_iff HO).1 hd)⟩⟩
 ·rw [decide_eq_false hd]
  (refine Wm rfl (Wc (OP.extract rfl rfl (Wc (OP.extract rfl rfl (Wm rfl (Wm rfl (Wt ?_))))))); refine Cs (Cs (Co (Wm rfl (Wt ?_)))); refine WC.condF rfl (Ks ?_); refine Cs (Co (Wc (OL.loadAll (k := 1) hL rfl rfl rfl ?_))))
  (refine Wc ?_)
  refine OL.callV (V := .string (keyOf p s)) hL rfl rfl (Ret.ext hXn (nameA_run (hL.cell (k := 0) rfl) ((hL.kxM (by omega) (by repeat (first | exact mh | apply mt))).st hm hst) (by obtain ⟨q0, q1, q2, q3⟩ := sp; exact ⟨⟨by omega, by omega⟩, ⟨by omega, by omega⟩, ⟨by omega, by omega⟩, ⟨by omega, by omega⟩⟩) hsm) ⟨Pfx.refl _, by rw [← hs]; rfl⟩) (fun h' hp hL => ?_)
  (refine Wm rfl (Wt ?_); refine Cs (Cs (Co (Wm rfl (Wc (OP.nilP rfl (Wc (OP.fieldAddr0 rfl ?_))))))))
  (refine Wc ?_)
  refine OP.load rfl (H.kx (hL.kxM (by omega) (by repeat (first | exact mh | apply mt))) hm).cell rfl ?_
  (refine Wm rfl ?_)
  (refine Wc ?_)
  refine OL.lookS (k := 3) hL rfl rfl rfl (fun hin' => ?_) (fun hout => ?_)
  ·(refine Wt ?_; refine WC.condT rfl (Cs (Co (Wm rfl (Wt ?_)))); refine WC.ret ?_; dsimp only [zn, zr, zx, yn, yr])
   exact Fin.ret rfl ⟨(hL.kxM (by omega) (by repeat (first | exact mh | apply mt))), S, hL.get (k := 3) rfl, .inr ⟨rfl, hkn.seen hv hin', More.refl _ _ _ _⟩⟩
  ·(refine Wt ?_; refine WC.condF rfl (Ks ?_); refine Cs (Co (Wm rfl (Wc (OP.nilP rfl (Wc (OP.fieldAddr0 rfl ?_)))))))
   (refine Wc ?_)
   refine OP.load rfl (H.kx (hL.kxM (by omega) (by repeat (first | exact mh | apply mt))) hm).cell rfl ?_
   (refine Wm rfl ?_)
   (refine WO.cons0 ?_)
   refine OL.setS (k := 3) hL hlim rfl rfl rfl rfl hout (fun h' hL => ?_)
   dsimp only [List.set] at hL
   (refine Wt ?_; refine Cs (Cs (Co (Wm rfl (Wt ?_)))); refine WC.block ?_)
   refine WC.loop (fun q : LS => (q.i ≤ 4 ∧ (∀ t, t < q.i → ¬ Goes ob C p s t) ∧ More ob C (S ++ [keyOf p s]) q.S (p.sum + 1)) ∧ Loc (h.take mb) q.h [bx B5 [r0.v, r1.v, r2.v, r3.v], bx B4 [.int .i64 (p.p0 : Int), .int .i64 (p.p1 : Int), .int .i64 (p.p2 : Int), .int .i64 (p.p3 : Int)], fz (mb + 1) h.length h, mp mb q.S]) (fun q => [(0, .pointer (some ⟨hb, 0, none⟩)), (4, .pointer (some ⟨B4, 0, none⟩)), (5, .pointer (some ⟨B5, 0, none⟩)), (7, .int .i64 (bndN C p 4)), (36, .int .i64 (q.i : Int))]) (fun q => q.h) (fun q => 4 - q.i) ?_ ⟨0, _, _⟩ ⟨⟨Nat.zero_le _, fun t ht => absurd ht (Nat.not_lt_zero _), More.refl _ _ _ _⟩, hL⟩ (by (refine Sub.cons rfl (Sub.cons rfl (Sub.cons rfl (Sub.cons rfl (Sub.cons rfl ?_)))); exact Sub.nil _)) rfl
   clear hL
   intro ⟨i, h5, S5⟩ ⟨⟨hi, hno, hmo⟩, hL⟩
   simp only at hi hno hmo hL ⊢
   by_cases h4 : i < 4
   ·obtain rfl | rfl | rfl | rfl : i = 0 ∨ i = 1 ∨ i = 2 ∨ i = 3 := by omega
    ·rcases H.next hin (t := 0) (by decide) with ⟨hn, hv'⟩ | ⟨c, bb, oo, cs, hn, hv', hbb, hl⟩
     ·(refine Cs (Co (Wc (OP.lssT rfl rfl (by omega) ?_))); refine Wt ?_; refine Cs (WC.condT rfl (Ks ?_)); refine Cs (WC.block (Cs (Co (Wm rfl (Wm rfl (Wt ?_)))))); refine Cs (Co (Wm rfl (Wc (OL.loadAll (k := 1) hL rfl rfl rfl (Wm rfl ?_))))))
      (refine Wc ?_)
      refine OL.callV (V := .pointer none) hL rfl rfl ((e2 _ _ (H.kx (hL.kxM (by omega) (by repeat (first | exact mh | apply mt))) hm) hin (t := 0) (by decide)).mono (fun v h' ⟨p, q⟩ => ⟨p, q.trans hv'⟩)) (fun h' hp hL => ?_)
      (refine Wm rfl (Wt ?_); refine Cs (Cs (Co (Wm rfl (Wc (OP.isNilT rfl rfl (Wm rfl (WO.no rfl (WO.no rfl (WO.no rfl (WO.no rfl (WO.no rfl (WO.no rfl (Wc (OP.pickT rfl rfl (Wt ?_))))))))))))))); refine WC.condT rfl (WC.exit ?_); dsimp only [zn, zr, zx, yn, yr]; rw [yx, if_pos rfl]; dsimp only [zn, zr, zx, yn, yr]; refine Co (Wc (OP.add rfl rfl (by omega) ?_)); refine Wm rfl (Wt ?_))
      exact ⟨⟨1, _, S5⟩, ⟨⟨by simp only; omega, no_succ hno (by rintro ⟨c', hc', _⟩; rw [hn] at hc'; cases hc'), hmo⟩, hL⟩, by (refine Sub.cons rfl (Sub.cons rfl (Sub.cons rfl (Sub.cons rfl (Sub.cons rfl ?_)))); exact Sub.nil _), rfl, by simp only; omega⟩
     ·obtain ⟨s', x, hN, hm'⟩ := ObjM_next HO hob (by decide) hn
      (refine Cs (Co (Wc (OP.lssT rfl rfl (by omega) ?_))); refine Wt ?_; refine Cs (WC.condT rfl (Ks ?_)); refine Cs (WC.block (Cs (Co (Wm rfl (Wm rfl (Wt ?_)))))); refine Cs (Co (Wm rfl (Wc (OL.loadAll (k := 1) hL rfl rfl rfl (Wm rfl ?_))))))
      (refine Wc ?_)
      refine OL.callV (V := .pointer (some ⟨bb, oo, none⟩)) hL rfl rfl ((e2 _ _ (H.kx (hL.kxM (by omega) (by repeat (first | exact mh | apply mt))) hm) hin (t := 0) (by decide)).mono (fun v h' ⟨p, q⟩ => ⟨p, q.trans hv'⟩)) (fun h' hp hL => ?_)
      (refine Wm rfl (Wt ?_); refine Cs (Cs (Co (Wm rfl (Wc (OP.isNilF rfl rfl (Wm rfl (WO.yes rfl (Wm rfl (WO.yes rfl (Wc (OP.nilP rfl (WO.yes rfl (Wc (OP.fieldAddr rfl (WO.yes rfl ?_))))))))))))))))
      (refine Wc ?_)
      refine OP.load rfl ((hL.kxM (by omega) (by repeat (first | exact mh | apply mt))).cells hm hbb) (hl 3 _ rfl) ?_
      by_cases hf : c.f > bndN C p 4
      ·(refine WO.yes rfl (Wm rfl (WO.yes rfl (Wc (OP.gtrT rfl rfl (by omega) ?_)))); refine Wc (OP.pickF rfl rfl (Wt ?_)); refine WC.condT rfl (WC.exit ?_); dsimp only [zn, zr, zx, yn, yr]; rw [yx, if_pos rfl]; dsimp only [zn, zr, zx, yn, yr]; refine Co (Wc (OP.add rfl rfl (by omega) ?_)); refine Wm rfl (Wt ?_))
       exact ⟨⟨1, _, S5⟩, ⟨⟨by simp only; omega, no_succ hno (by rintro ⟨c', hc', hf', _⟩; rw [hn] at hc'; cases hc'; omega), hmo⟩, hL⟩, by (refine Sub.cons rfl (Sub.cons rfl (Sub.cons rfl (Sub.cons rfl (Sub.cons rfl ?_)))); exact Sub.nil _), rfl, by simp only; omega⟩
      ·(refine WO.yes rfl (Wm rfl (WO.yes rfl (Wc (OP.gtrF rfl rfl (by omega) ?_)))); refine Wc (OP.pickF rfl rfl (Wt ?_)); refine WC.condF rfl (Ks ?_); refine Cs (Co (WO.consQ (OP.mv rfl (WO.consQ (OP.nilP rfl (WO.consQ (OP.fieldAddr0 rfl ?_))))))))
       (refine WO.consQ ?_)
       refine OP.load rfl (H.kx (hL.kxM (by omega) (by repeat (first | exact mh | apply mt))) hm).cell rfl ?_
       (refine WO.consQ (OL.loadAll (k := 0) hL rfl rfl rfl (WO.consQ (OP.mv rfl (WO.consQ (OP.nilP rfl (WO.consQ (OP.fieldAddr rfl ?_))))))))
       (refine WO.consQ ?_)
       refine OP.load rfl ((hL.kxM (by omega) (by repeat (first | exact mh | apply mt))).cells hm hbb) hl.op ?_
       skip
       (refine WO.consQ ?_)
       refine OL.callSt hL rfl rfl (applyO eo ob s c.c c.r c.a (s', x, 0) hN _ _ (by first | exact hL.lm hlim | exact Nat.le_refl _) ((hL.kxM (by omega) (by repeat (first | exact mh | apply mt))).st hm hst) z0 z1 z2 z3) (fun b0 m0 b1 m1 b2 m2 b3 m3 h' hy hp hL => ?_)
       (try dsimp only at hL hy ⊢)
       clear hy
       (refine WO.consQ (OP.mv rfl (WO.consQ (OP.extract rfl rfl (WO.consQ (OP.extract rfl rfl (WO.consQ (OP.extract rfl rfl (WO.consQ ?_)))))))); refine OL.new hL (fun b h' hL => (WO.cons0 ?_)); refine OL.storeAll (k := 0) hL hlim rfl rfl rfl rfl rfl rfl (by decide) rfl (fun h' hL => ?_); dsimp only [List.set, Nat.zero_add, Nat.reduceAdd, Nat.reduceMul] at hL; refine Wm rfl (Wm rfl (Wt ?_)); refine Cs (Cs (Co (Wm rfl (Wc (OP.neqF rfl rfl (by omega) ?_))))); refine Wm rfl (WO.yes rfl (Wm rfl (WO.yes rfl (Wc (OP.nilP rfl (WO.yes rfl (Wc (OP.fieldAddr rfl (WO.yes rfl ?_))))))))))
       (refine Wc ?_)
       refine OP.load rfl ((hL.kxM (by omega) (by repeat (first | exact mh | apply mt))).cells hm hbb) (hl 4 _ rfl) ?_
       by_cases hct : c.t > 0
       ·(refine WO.yes rfl (Wc (OP.gtrT rfl rfl (by omega) ?_)); refine WO.yes rfl (Wm rfl (WO.yes rfl (Wm rfl (WO.yes rfl (Wm rfl (WO.yes rfl (Wc (OP.nilP rfl (WO.yes rfl (Wc (OP.fieldAddr rfl (WO.yes rfl ?_)))))))))))))
        (refine Wc ?_)
        refine OP.load rfl ((hL.kxM (by omega) (by repeat (first | exact mh | apply mt))).cells hm hbb) (hl 5 _ rfl) ?_
        by_cases hx : x = c.x
        ·(refine WO.yes rfl (Wc (OP.neqF rfl rfl (by omega) ?_)); refine WO.yes rfl (Wc (OP.pickT rfl rfl (Wc (OP.pickF rfl rfl (Wt ?_))))); refine WC.condF rfl (Ks ?_); refine Cs (Co (Wc (OL.loadAll (k := 3) hL rfl rfl rfl (Wc ?_)))); refine OL.new hL (fun b h' hL => (WO.cons0 ?_)); refine OL.storeAll (k := 0) hL hlim rfl rfl rfl rfl rfl rfl (by decide) rfl (fun h' hL => ?_); dsimp only [List.set, Nat.zero_add, Nat.reduceAdd, Nat.reduceMul] at hL; refine Wt ?_; refine Cs (Co (Wm rfl (Wc (OP.idxArrZ rfl rfl (by decide) (by simp only [Int.reduceToNat, Nat.mul_one, Nat.zero_add, Nat.reduceMul, Nat.reduceAdd]; rfl) ?_)))); refine Wc (OL.load1 (k := 0) hL rfl rfl rfl (Wc (OP.add rfl rfl (by omega) ?_))); refine Wc (OP.idxArrZ rfl rfl (by decide) (by simp only [Int.reduceToNat, Nat.mul_one, Nat.zero_add, Nat.reduceMul, Nat.reduceAdd]; rfl) ?_); refine WO.cons0 ?_; refine OL.store1 (k := 0) hL hlim rfl rfl rfl rfl rfl rfl rfl (fun h' hL => ?_); dsimp only [List.set, Nat.zero_add, Nat.reduceAdd, Nat.reduceMul] at hL; refine Wt ?_; refine Cs (Co (Wm rfl (Wc (OL.loadAll (k := 0) hL rfl rfl rfl (Wc (OL.loadAll (k := 1) hL rfl rfl rfl ?_)))))))
         (refine Wc ?_)
         refine OL.callMp (k := 6) hL rfl rfl rfl (ih lim _ (p := p.inc 0) (r0 := ⟨b0, m0, s'.x0⟩) (r1 := ⟨b1, m1, s'.x1⟩) (r2 := ⟨b2, m2, s'.x2⟩) (r3 := ⟨b3, m3, s'.x3⟩) (H.kx (hL.kxM (by omega) (by repeat (first | exact mh | apply mt))) hm) HO ⟨hin.inc (by decide) hn, hm'⟩ (hL.stM (by repeat (first | exact mh | apply mt))) (hL.get (k := 6) rfl) hlm (by rw [P4.inc_sum]; exact hkn.next HO hv hmo) (by rw [P4.inc_sum]; omega)) (fun v h' S6 hL hQ => ?_)
         dsimp only [List.set] at hL
         rcases hQ with ⟨rfl, hg⟩ | ⟨rfl, hg, hmo2⟩
         ·(refine Wt ?_; refine WC.condT rfl (Cs (Co (Wm rfl (Wt ?_)))); refine WC.ret ?_; dsimp only [zn, zr, zx, yn, yr])
          exact Fin.ret rfl ⟨(hL.kxM (by omega) (by repeat (first | exact mh | apply mt))), S6, hL.get (k := 6) rfl, .inl ⟨rfl, (lin_iff HO hd).2 ⟨0, by decide, c, hn, by omega, fun _ => by rw [hN]; exact hx, by rw [hN]; exact hg⟩⟩⟩
         ·rw [P4.inc_sum] at hmo2
          (refine Wn ?_; dsimp only [zn, zr, zx, yn, yr]; refine WC.condF rfl (WC.skip ?_); dsimp only [zn, zr, zx, yn, yr]; refine Co (Wc (OP.add rfl rfl (by omega) ?_)); refine Wm rfl (Wn ?_); dsimp only [zn, zr, zx, yn, yr])
          have hL2 := ((hL.less (k := 0) rfl).less (k := 0) rfl).less (k := 0) rfl
          dsimp only [List.eraseIdx] at hL2
          exact ⟨⟨1, _, S6⟩, ⟨⟨by simp only; omega, no_succ hno (by rintro ⟨c', hc', _, _, hg'⟩; rw [hn] at hc'; cases hc'; rw [hN] at hg'; exact hg hg'), hmo.trans hmo2⟩, hL2⟩, by (refine Sub.cons rfl (Sub.cons rfl (Sub.cons rfl (Sub.cons rfl (Sub.cons rfl ?_)))); exact Sub.nil _), rfl, by simp only; omega⟩
        ·(refine WO.yes rfl (Wc (OP.neqT rfl rfl (by omega) ?_)); refine WO.yes rfl (Wc (OP.pickT rfl rfl (Wc (OP.pickF rfl rfl (Wt ?_))))); refine WC.condT rfl (WC.exit ?_); dsimp only [zn, zr, zx, yn, yr]; rw [yx, if_pos rfl]; dsimp only [zn, zr, zx, yn, yr]; refine Co (Wc (OP.add rfl rfl (by omega) ?_)); refine Wm rfl (Wt ?_))
         have hL2 := (hL.less (k := 0) rfl).less (k := 0) rfl
         dsimp only [List.eraseIdx] at hL2
         exact ⟨⟨1, _, S5⟩, ⟨⟨by simp only; omega, no_succ hno (by rintro ⟨c', hc', _, hx', _⟩; rw [hn] at hc'; cases hc'; have := hx' hct; rw [hN] at this; exact hx this), hmo⟩, hL2⟩, by (refine Sub.cons rfl (Sub.cons rfl (Sub.cons rfl (Sub.cons rfl (Sub.cons rfl ?_)))); exact Sub.nil _), rfl, by simp only; omega⟩
       ·(refine WO.yes rfl (Wc (OP.gtrF rfl rfl (by omega) ?_)); refine WO.yes rfl (Wm rfl (WO.no rfl (WO.no rfl (WO.no rfl (WO.no rfl (WO.no rfl (WO.no rfl (WO.yes rfl (Wc (OP.pickF rfl rfl (Wc (OP.pickF rfl rfl (Wt ?_))))))))))))); refine WC.condF rfl (Ks ?_); refine Cs (Co (Wc (OL.loadAll (k := 3) hL rfl rfl rfl (Wc ?_)))); refine OL.new hL (fun b h' hL => (WO.cons0 ?_)); refine OL.storeAll (k := 0) hL hlim rfl rfl rfl rfl rfl rfl (by decide) rfl (fun h' hL => ?_); dsimp only [List.set, Nat.zero_add, Nat.reduceAdd, Nat.reduceMul] at hL; refine Wt ?_; refine Cs (Co (Wm rfl (Wc (OP.idxArrZ rfl rfl (by decide) (by simp only [Int.reduceToNat, Nat.mul_one, Nat.zero_add, Nat.reduceMul, Nat.reduceAdd]; rfl) ?_)))); refine Wc (OL.load1 (k := 0) hL rfl rfl rfl (Wc (OP.add rfl rfl (by omega) ?_))); refine Wc (OP.idxArrZ rfl rfl (by decide) (by simp only [Int.reduceToNat, Nat.mul_one, Nat.zero_add, Nat.reduceMul, Nat.reduceAdd]; rfl) ?_); refine WO.cons0 ?_; refine OL.store1 (k := 0) hL hlim rfl rfl rfl rfl rfl rfl rfl (fun h' hL => ?_); dsimp only [List.set, Nat.zero_add, Nat.reduceAdd, Nat.reduceMul] at hL; refine Wt ?_; refine Cs (Co (Wm rfl (Wc (OL.loadAll (k := 0) hL rfl rfl rfl (Wc (OL.loadAll (k := 1) hL rfl rfl rfl ?_)))))))
        (refine Wc ?_)
        refine OL.callMp (k := 6) hL rfl rfl rfl (ih lim _ (p := p.inc 0) (r0 := ⟨b0, m0, s'.x0⟩) (r1 := ⟨b1, m1, s'.x1⟩) (r2 := ⟨b2, m2, s'.x2⟩) (r3 := ⟨b3, m3, s'.x3⟩) (H.kx (hL.kxM (by omega) (by repeat (first | exact mh | apply mt))) hm) HO ⟨hin.inc (by decide) hn, hm'⟩ (hL.stM (by repeat (first | exact mh | apply mt))) (hL.get (k := 6) rfl) hlm (by rw [P4.inc_sum]; exact hkn.next HO hv hmo) (by rw [P4.inc_sum]; omega)) (fun v h' S6 hL hQ => ?_)
        dsimp only [List.set] at hL
        rcases hQ with ⟨rfl, hg⟩ | ⟨rfl, hg, hmo2⟩
        ·(refine Wt ?_; refine WC.condT rfl (Cs (Co (Wm rfl (Wt ?_)))); refine WC.ret ?_; dsimp only [zn, zr, zx, yn, yr])
         exact Fin.ret rfl ⟨(hL.kxM (by omega) (by repeat (first | exact mh | apply mt))), S6, hL.get (k := 6) rfl, .inl ⟨rfl, (lin_iff HO hd).2 ⟨0, by decide, c, hn, by omega, fun h => absurd h hct, by rw [hN]; exact hg⟩⟩⟩
        ·rw [P4.inc_sum] at hmo2
         (refine Wn ?_; dsimp only [zn, zr, zx, yn, yr]; refine WC.condF rfl (WC.skip ?_); dsimp only [zn, zr, zx, yn, yr]; refine Co (Wc (OP.add rfl rfl (by omega) ?_)); refine Wm rfl (Wn ?_); dsimp only [zn, zr, zx, yn, yr])
         have hL2 := ((hL.less (k := 0) rfl).less (k := 0) rfl).less (k := 0) rfl
         dsimp only [List.eraseIdx] at hL2
         exact ⟨⟨1, _, S6⟩, ⟨⟨by simp only; omega, no_succ hno (by rintro ⟨c', hc', _, _, hg'⟩; rw [hn] at hc'; cases hc'; rw [hN] at hg'; exact hg hg'), hmo.trans hmo2⟩, hL2⟩, by (refine Sub.cons rfl (Sub.cons rfl (Sub.cons rfl (Sub.cons rfl (Sub.cons rfl ?_)))); exact Sub.nil _), rfl, by simp only; omega⟩
    ·rcases H.next hin (t := 1) (by decide) with ⟨hn, hv'⟩ | ⟨c, bb, oo, cs, hn, hv', hbb, hl⟩
     ·(refine Cs (Co (Wc (OP.lssT rfl rfl (by omega) ?_))); refine Wt ?_; refine Cs (WC.condT rfl (Ks ?_)); refine Cs (WC.block (Cs (Co (Wm rfl (Wm rfl (Wt ?_)))))); refine Cs (Co (Wm rfl (Wc (OL.loadAll (k := 1) hL rfl rfl rfl (Wm rfl ?_))))))
      (refine Wc ?_)
      refine OL.callV (V := .pointer none) hL rfl rfl ((e2 _ _ (H.kx (hL.kxM (by omega) (by repeat (first | exact mh | apply mt))) hm) hin (t := 1) (by decide)).mono (fun v h' ⟨p, q⟩ => ⟨p, q.trans hv'⟩)) (fun h' hp hL => ?_)
      (refine Wm rfl (Wt ?_); refine Cs (Cs (Co (Wm rfl (Wc (OP.isNilT rfl rfl (Wm rfl (WO.no rfl (WO.no rfl (WO.no rfl (WO.no rfl (WO.no rfl (WO.no rfl (Wc (OP.pickT rfl rfl (Wt ?_))))))))))))))); refine WC.condT rfl (WC.exit ?_); dsimp only [zn, zr, zx, yn, yr]; rw [yx, if_pos rfl]; dsimp only [zn, zr, zx, yn, yr]; refine Co (Wc (OP.add rfl rfl (by omega) ?_)); refine Wm rfl (Wt ?_))
      exact ⟨⟨2, _, S5⟩, ⟨⟨by simp only; omega, no_succ hno (by rintro ⟨c', hc', _⟩; rw [hn] at hc'; cases hc'), hmo⟩, hL⟩, by (refine Sub.cons rfl (Sub.cons rfl (Sub.cons rfl (Sub.cons rfl (Sub.cons rfl ?_)))); exact Sub.nil _), rfl, by simp only; omega⟩
     ·obtain ⟨s', x, hN, hm'⟩ := ObjM_next HO hob (by decide) hn
      (refine Cs (Co (Wc (OP.lssT rfl rfl (by omega) ?_))); refine Wt ?_; refine Cs (WC.condT rfl (Ks ?_)); refine Cs (WC.block (Cs (Co (Wm rfl (Wm rfl (Wt ?_)))))); refine Cs (Co (Wm rfl (Wc (OL.loadAll (k := 1) hL rfl rfl rfl (Wm rfl ?_))))))
      (refine Wc ?_)
      refine OL.callV (V := .pointer (some ⟨bb, oo, none⟩)) hL rfl rfl ((e2 _ _ (H.kx (hL.kxM (by omega) (by repeat (first | exact mh | apply mt))) hm) hin (t := 1) (by decide)).mono (fun v h' ⟨p, q⟩ => ⟨p, q.trans hv'⟩)) (fun h' hp hL => ?_)
      (refine Wm rfl (Wt ?_); refine Cs (Cs (Co (Wm rfl (Wc (OP.isNilF rfl rfl (Wm rfl (WO.yes rfl (Wm rfl (WO.yes rfl (Wc (OP.nilP rfl (WO.yes rfl (Wc (OP.fieldAddr rfl (WO.yes rfl ?_))))))))))))))))
      (refine Wc ?_)
      refine OP.load rfl ((hL.kxM (by omega) (by repeat (first | exact mh | apply mt))).cells hm hbb) (hl 3 _ rfl) ?_
      by_cases hf : c.f > bndN C p 4
      ·(refine WO.yes rfl (Wm rfl (WO.yes rfl (Wc (OP.gtrT rfl rfl (by omega) ?_)))); refine Wc (OP.pickF rfl rfl (Wt ?_)); refine WC.condT rfl (WC.exit ?_); dsimp only [zn, zr, zx, yn, yr]; rw [yx, if_pos rfl]; dsimp only [zn, zr, zx, yn, yr]; refine Co (Wc (OP.add rfl rfl (by omega) ?_)); refine Wm rfl (Wt ?_))
       exact ⟨⟨2, _, S5⟩, ⟨⟨by simp only; omega, no_succ hno (by rintro ⟨c', hc', hf', _⟩; rw [hn] at hc'; cases hc'; omega), hmo⟩, hL⟩, by (refine Sub.cons rfl (Sub.cons rfl (Sub.cons rfl (Sub.cons rfl (Sub.cons rfl ?_)))); exact Sub.nil _), rfl, by simp only; omega⟩
      ·(refine WO.yes rfl (Wm rfl (WO.yes rfl (Wc (OP.gtrF rfl rfl (by omega) ?_)))); refine Wc (OP.pickF rfl rfl (Wt ?_)); refine WC.condF rfl (Ks ?_); refine Cs (Co (WO.consQ (OP.mv rfl (WO.consQ (OP.nilP rfl (WO.consQ (OP.fieldAddr0 rfl ?_))))))))
       (refine WO.consQ ?_)
       refine OP.load rfl (H.kx (hL.kxM (by omega) (by repeat (first | exact mh | apply mt))) hm).cell rfl ?_
       (refine WO.consQ (OL.loadAll (k := 0) hL rfl rfl rfl (WO.consQ (OP.mv rfl (WO.consQ (OP.nilP rfl (WO.consQ (OP.fieldAddr rfl ?_))))))))
       (refine WO.consQ ?_)
       refine OP.load rfl ((hL.kxM (by omega) (by repeat (first | exact mh | apply mt))).cells hm hbb) hl.op ?_
       skip
       (refine WO.consQ ?_)
       refine OL.callSt hL rfl rfl (applyO eo ob s c.c c.r c.a (s', x, 0) hN _ _ (by first | exact hL.lm hlim | exact Nat.le_refl _) ((hL.kxM (by omega) (by repeat (first | exact mh | apply mt))).st hm hst) z0 z1 z2 z3) (fun b0 m0 b1 m1 b2 m2 b3 m3 h' hy hp hL => ?_)
       (try dsimp only at hL hy ⊢)
       clear hy
       (refine WO.consQ (OP.mv rfl (WO.consQ (OP.extract rfl rfl (WO.consQ (OP.extract rfl rfl (WO.consQ (OP.extract rfl rfl (WO.consQ ?_)))))))); refine OL.new hL (fun b h' hL => (WO.cons0 ?_)); refine OL.storeAll (k := 0) hL hlim rfl rfl rfl rfl rfl rfl (by decide) rfl (fun h' hL => ?_); dsimp only [List.set, Nat.zero_add, Nat.reduceAdd, Nat.reduceMul] at hL; refine Wm rfl (Wm rfl (Wt ?_)); refine Cs (Cs (Co (Wm rfl (Wc (OP.neqF rfl rfl (by omega) ?_))))); refine Wm rfl (WO.yes rfl (Wm rfl (WO.yes rfl (Wc (OP.nilP rfl (WO.yes rfl (Wc (OP.fieldAddr rfl (WO.yes rfl ?_))))))))))
       (refine Wc ?_)
       refine OP.load rfl ((hL.kxM (by omega) (by repeat (first | exact mh | apply mt))).cells hm hbb) (hl 4 _ rfl) ?_
       by_cases hct : c.t > 0
       ·(refine WO.yes rfl (Wc (OP.gtrT rfl rfl (by omega) ?_)); refine WO.yes rfl (Wm rfl (WO.yes rfl (Wm rfl (WO.yes rfl (Wm rfl (WO.yes rfl (Wc (OP.nilP rfl (WO.yes rfl (Wc (OP.fieldAddr rfl (WO.yes rfl ?_)))))))))))))
        (refine Wc ?_)
        refine OP.load rfl ((hL.kxM (by omega) (by repeat (first | exact mh | apply mt))).cells hm hbb) (hl 5 _ rfl) ?_
        by_cases hx : x = c.x
        ·(refine WO.yes rfl (Wc (OP.neqF rfl rfl (by omega) ?_)); refine WO.yes rfl (Wc (OP.pickT rfl rfl (Wc (OP.pickF rfl rfl (Wt ?_))))); refine WC.condF rfl (Ks ?_); refine Cs (Co (Wc (OL.loadAll (k := 3) hL rfl rfl rfl (Wc ?_)))); refine OL.new hL (fun b h' hL => (WO.cons0 ?_)); refine OL.storeAll (k := 0) hL hlim rfl rfl rfl rfl rfl rfl (by decide) rfl (fun h' hL => ?_); dsimp only [List.set, Nat.zero_add, Nat.reduceAdd, Nat.reduceMul] at hL; refine Wt ?_; refine Cs (Co (Wm rfl (Wc (OP.idxArrZ rfl rfl (by decide) (by simp only [Int.reduceToNat, Nat.mul_one, Nat.zero_add, Nat.reduceMul, Nat.reduceAdd]; rfl) ?_)))); refine Wc (OL.load1 (k := 0) hL rfl rfl rfl (Wc (OP.add rfl rfl (by omega) ?_))); refine Wc (OP.idxArrZ rfl rfl (by decide) (by simp only [Int.reduceToNat, Nat.mul_one, Nat.zero_add, Nat.reduceMul, Nat.reduceAdd]; rfl) ?_); refine WO.cons0 ?_; refine OL.store1 (k := 0) hL hlim rfl rfl rfl rfl rfl rfl rfl (fun h' hL => ?_); dsimp only [List.set, Nat.zero_add, Nat.reduceAdd, Nat.reduceMul] at hL; refine Wt ?_; refine Cs (Co (Wm rfl (Wc (OL.loadAll (k := 0) hL rfl rfl rfl (Wc (OL.loadAll (k := 1) hL rfl rfl rfl ?_)))))))
         (refine Wc ?_)
         refine OL.callMp (k := 6) hL rfl rfl rfl (ih lim _ (p := p.inc 1) (r0 := ⟨b0, m0, s'.x0⟩) (r1 := ⟨b1, m1, s'.x1⟩) (r2 := ⟨b2, m2, s'.x2⟩) (r3 := ⟨b3, m3, s'.x3⟩) (H.kx (hL.kxM (by omega) (by repeat (first | exact mh | apply mt))) hm) HO ⟨hin.inc (by decide) hn, hm'⟩ (hL.stM (by repeat (first | exact mh | apply mt))) (hL.get (k := 6) rfl) hlm (by rw [P4.inc_sum]; exact hkn.next HO hv hmo) (by rw [P4.inc_sum]; omega)) (fun v h' S6 hL hQ => ?_)
         dsimp only [List.set] at hL
         rcases hQ with ⟨rfl, hg⟩ | ⟨rfl, hg, hmo2⟩
         ·(refine Wt ?_; refine WC.condT rfl (Cs (Co (Wm rfl (Wt ?_)))); refine WC.ret ?_; dsimp only [zn, zr, zx, yn, yr])
          exact Fin.ret rfl ⟨(hL.kxM (by omega) (by repeat (first | exact mh | apply mt))), S6, hL.get (k := 6) rfl, .inl ⟨rfl, (lin_iff HO hd).2 ⟨1, by decide, c, hn, by omega, fun _ => by rw [hN]; exact hx, by rw [hN]; exact hg⟩⟩⟩
         ·rw [P4.inc_sum] at hmo2
          (refine Wn ?_; dsimp only [zn, zr, zx, yn, yr]; refine WC.condF rfl (WC.skip ?_); dsimp only [zn, zr, zx, yn, yr]; refine Co (Wc (OP.add rfl rfl (by omega) ?_)); refine Wm rfl (Wn ?_); dsimp only [zn, zr, zx, yn, yr])
          have hL2 := ((hL.less (k := 0) rfl).less (k := 0) rfl).less (k := 0) rfl
          dsimp only [List.eraseIdx] at hL2
          exact ⟨⟨2, _, S6⟩, ⟨⟨by simp only; omega, no_succ hno (by rintro ⟨c', hc', _, _, hg'⟩; rw [hn] at hc'; cases hc'; rw [hN] at hg'; exact hg hg'), hmo.trans hmo2⟩, hL2⟩, by (refine Sub.cons rfl (Sub.cons rfl (Sub.cons rfl (Sub.cons rfl (Sub.cons rfl ?_)))); exact Sub.nil _), rfl, by simp only; omega⟩
        ·(refine WO.yes rfl (Wc (OP.neqT rfl rfl (by omega) ?_)); refine WO.yes rfl (Wc (OP.pickT rfl rfl (Wc (OP.pickF rfl rfl (Wt ?_))))); refine WC.condT rfl (WC.exit ?_); dsimp only [zn, zr, zx, yn, yr]; rw [yx, if_pos rfl]; dsimp only [zn, zr, zx, yn, yr]; refine Co (Wc (OP.add rfl rfl (by omega) ?_)); refine Wm rfl (Wt ?_))
         have hL2 := (hL.less (k := 0) rfl).less (k := 0) rfl
         dsimp only [List.eraseIdx] at hL2
         exact ⟨⟨2, _, S5⟩, ⟨⟨by simp only; omega, no_succ hno (by rintro ⟨c', hc', _, hx', _⟩; rw [hn] at hc'; cases hc'; have := hx' hct; rw [hN] at this; exact hx this), hmo⟩, hL2⟩, by (refine Sub.cons rfl (Sub.cons rfl (Sub.cons rfl (Sub.cons rfl (Sub.cons rfl ?_)))); exact Sub.nil _), rfl, by simp only; omega⟩
       ·(refine WO.yes rfl (Wc (OP.gtrF rfl rfl (by omega) ?_)); refine WO.yes rfl (Wm rfl (WO.no rfl (WO.no rfl (WO.no rfl (WO.no rfl (WO.no rfl (WO.no rfl (WO.yes rfl (Wc (OP.pickF rfl rfl (Wc (OP.pickF rfl rfl (Wt ?_))))))))))))); refine WC.condF rfl (Ks ?_); refine Cs (Co (Wc (OL.loadAll (k := 3) hL rfl rfl rfl (Wc ?_)))); refine OL.new hL (fun b h' hL => (WO.cons0 ?_)); refine OL.storeAll (k := 0) hL hlim rfl rfl rfl rfl rfl rfl (by decide) rfl (fun h' hL => ?_); dsimp only [List.set, Nat.zero_add, Nat.reduceAdd, Nat.reduceMul] at hL; refine Wt ?_; refine Cs (Co (Wm rfl (Wc (OP.idxArrZ rfl rfl (by decide) (by simp only [Int.reduceToNat, Nat.mul_one, Nat.zero_add, Nat.reduceMul, Nat.reduceAdd]; rfl) ?_)))); refine Wc (OL.load1 (k := 0) hL rfl rfl rfl (Wc (OP.add rfl rfl (by omega) ?_))); refine Wc (OP.idxArrZ rfl rfl (by decide) (by simp only [Int.reduceToNat, Nat.mul_one, Nat.zero_add, Nat.reduceMul, Nat.reduceAdd]; rfl) ?_); refine WO.cons0 ?_; refine OL.store1 (k := 0) hL hlim rfl rfl rfl rfl rfl rfl rfl (fun h' hL => ?_); dsimp only [List.set, Nat.zero_add, Nat.reduceAdd, Nat.reduceMul] at hL; refine Wt ?_; refine Cs (Co (Wm rfl (Wc (OL.loadAll (k := 0) hL rfl rfl rfl (Wc (OL.loadAll (k := 1) hL rfl rfl rfl ?_)))))))
        (refine Wc ?_)
        refine OL.callMp (k := 6) hL rfl rfl rfl (ih lim _ (p := p.inc 1) (r0 := ⟨b0, m0, s'.x0⟩) (r1 := ⟨b1, m1, s'.x1⟩) (r2 := ⟨b2, m2, s'.x2⟩) (r3 := ⟨b3, m3, s'.x3⟩) (H.kx (hL.kxM (by omega) (by repeat (first | exact mh | apply mt))) hm) HO ⟨hin.inc (by decide) hn, hm'⟩ (hL.stM (by repeat (first | exact mh | apply mt))) (hL.get (k := 6) rfl) hlm (by rw [P4.inc_sum]; exact hkn.next HO hv hmo) (by rw [P4.inc_sum]; omega)) (fun v h' S6 hL hQ => ?_)
        dsimp only [List.set] at hL
        rcases hQ with ⟨rfl, hg⟩ | ⟨rfl, hg, hmo2⟩
        ·(refine Wt ?_; refine WC.condT rfl (Cs (Co (Wm rfl (Wt ?_)))); refine WC.ret ?_; dsimp only [zn, zr, zx, yn, yr])
         exact Fin.ret rfl ⟨(hL.kxM (by omega) (by repeat (first | exact mh | apply mt))), S6, hL.get (k := 6) rfl, .inl ⟨rfl, (lin_iff HO hd).2 ⟨1, by decide, c, hn, by omega, fun h => absurd h hct, by rw [hN]; exact hg⟩⟩⟩
        ·rw [P4.inc_sum] at hmo2
         (refine Wn ?_; dsimp only [zn, zr, zx, yn, yr]; refine WC.condF rfl (WC.skip ?_); dsimp only [zn, zr, zx, yn, yr]; refine Co (Wc (OP.add rfl rfl (by omega) ?_)); refine Wm rfl (Wn ?_); dsimp only [zn, zr, zx, yn, yr])
         have hL2 := ((hL.less (k := 0) rfl).less (k := 0) rfl).less (k := 0) rfl
         dsimp only [List.eraseIdx] at hL2
         exact ⟨⟨2, _, S6⟩, ⟨⟨by simp only; omega, no_succ hno (by rintro ⟨c', hc', _, _, hg'⟩; rw [hn] at hc'; cases hc'; rw [hN] at hg'; exact hg hg'), hmo.trans hmo2⟩, hL2⟩, by (refine Sub.cons rfl (Sub.cons rfl (Sub.cons rfl (Sub.cons rfl (Sub.cons rfl ?_)))); exact Sub.nil _), rfl, by simp only; omega⟩
    ·rcases H.next hin (t := 2) (by decide) with ⟨hn, hv'⟩ | ⟨c, bb, oo, cs, hn, hv', hbb, hl⟩
     ·(refine Cs (Co (Wc (OP.lssT rfl rfl (by omega) ?_))); refine Wt ?_; refine Cs (WC.condT rfl (Ks ?_)); refine Cs (WC.block (Cs (Co (Wm rfl (Wm rfl (Wt ?_)))))); refine Cs (Co (Wm rfl (Wc (OL.loadAll (k := 1) hL rfl rfl rfl (Wm rfl ?_))))))
      (refine Wc ?_)
      refine OL.callV (V := .pointer none) hL rfl rfl ((e2 _ _ (H.kx (hL.kxM (by omega) (by repeat (first | exact mh | apply mt))) hm) hin (t := 2) (by decide)).mono (fun v h' ⟨p, q⟩ => ⟨p, q.trans hv'⟩)) (fun h' hp hL => ?_)
      (refine Wm rfl (Wt ?_); refine Cs (Cs (Co (Wm rfl (Wc (OP.isNilT rfl rfl (Wm rfl (WO.no rfl (WO.no rfl (WO.no rfl (WO.no rfl (WO.no rfl (WO.no rfl (Wc (OP.pickT rfl rfl (Wt ?_))))))))))))))); refine WC.condT rfl (WC.exit ?_); dsimp only [zn, zr, zx, yn, yr]; rw [yx, if_pos rfl]; dsimp only [zn, zr, zx, yn, yr]; refine Co (Wc (OP.add rfl rfl (by omega) ?_)); refine Wm rfl (Wt ?_))
      exact ⟨⟨3, _, S5⟩, ⟨⟨by simp only; omega, no_succ hno (by rintro ⟨c', hc', _⟩; rw [hn] at hc'; cases hc'), hmo⟩, hL⟩, by (refine Sub.cons rfl (Sub.cons rfl (Sub.cons rfl (Sub.cons rfl (Sub.cons rfl ?_)))); exact Sub.nil _), rfl, by simp only; omega⟩
     ·obtain ⟨s', x, hN, hm'⟩ := ObjM_next HO hob (by decide) hn
      (refine Cs (Co (Wc (OP.lssT rfl rfl (by omega) ?_))); refine Wt ?_; refine Cs (WC.condT rfl (Ks ?_)); refine Cs (WC.block (Cs (Co (Wm rfl (Wm rfl (Wt ?_)))))); refine Cs (Co (Wm rfl (Wc (OL.loadAll (k := 1) hL rfl rfl rfl (Wm rfl ?_))))))
      (refine Wc ?_)
      refine OL.callV (V := .pointer (some ⟨bb, oo, none⟩)) hL rfl rfl ((e2 _ _ (H.kx (hL.kxM (by omega) (by repeat (first | exact mh | apply mt))) hm) hin (t := 2) (by decide)).mono (fun v h' ⟨p, q⟩ => ⟨p, q.trans hv'⟩)) (fun h' hp hL => ?_)
      (refine Wm rfl (Wt ?_); refine Cs (Cs (Co (Wm rfl (Wc (OP.isNilF rfl rfl (Wm rfl (WO.yes rfl (Wm rfl (WO.yes rfl (Wc (OP.nilP rfl (WO.yes rfl (Wc (OP.fieldAddr rfl (WO.yes rfl ?_))))))))))))))))
      (refine Wc ?_)
      refine OP.load rfl ((hL.kxM (by omega) (by repeat (first | exact mh | apply mt))).cells hm hbb) (hl 3 _ rfl) ?_
      by_cases hf : c.f > bndN C p 4
      ·(refine WO.yes rfl (Wm rfl (WO.yes rfl (Wc (OP.gtrT rfl rfl (by omega) ?_)))); refine Wc (OP.pickF rfl rfl (Wt ?_)); refine WC.condT rfl (WC.exit ?_); dsimp only [zn, zr, zx, yn, yr]; rw [yx, if_pos rfl]; dsimp only [zn, zr, zx, yn, yr]; refine Co (Wc (OP.add rfl rfl (by omega) ?_)); refine Wm rfl (Wt ?_))
       exact ⟨⟨3, _, S5⟩, ⟨⟨by simp only; omega, no_succ hno (by rintro ⟨c', hc', hf', _⟩; rw [hn] at hc'; cases hc'; omega), hmo⟩, hL⟩, by (refine Sub.cons rfl (Sub.cons rfl (Sub.cons rfl (Sub.cons rfl (Sub.cons rfl ?_)))); exact Sub.nil _), rfl, by simp only; omega⟩
      ·(refine WO.yes rfl (Wm rfl (WO.yes rfl (Wc (OP.gtrF rfl rfl (by omega) ?_)))); refine Wc (OP.pickF rfl rfl (Wt ?_)); refine WC.condF rfl (Ks ?_); refine Cs (Co (WO.consQ (OP.mv rfl (WO.consQ (OP.nilP rfl (WO.consQ (OP.fieldAddr0 rfl ?_))))))))
       (refine WO.consQ ?_)
       refine OP.load rfl (H.kx (hL.kxM (by omega) (by repeat (first | exact mh | apply mt))) hm).cell rfl ?_
       (refine WO.consQ (OL.loadAll (k := 0) hL rfl rfl rfl (WO.consQ (OP.mv rfl (WO.consQ (OP.nilP rfl (WO.consQ (OP.fieldAddr rfl ?_))))))))
       (refine WO.consQ ?_)
       refine OP.load rfl ((hL.kxM (by omega) (by repeat (first | exact mh | apply mt))).cells hm hbb) hl.op ?_
       skip
       (refine WO.consQ ?_)
       refine OL.callSt hL rfl rfl (applyO eo ob s c.c c.r c.a (s', x, 0) hN _ _ (by first | exact hL.lm hlim | exact Nat.le_refl _) ((hL.kxM (by omega) (by repeat (first | exact mh | apply mt))).st hm hst) z0 z1 z2 z3) (fun b0 m0 b1 m1 b2 m2 b3 m3 h' hy hp hL => ?_)
       (try dsimp only at hL hy ⊢)
       clear hy
       (refine WO.consQ (OP.mv rfl (WO.consQ (OP.extract rfl rfl (WO.consQ (OP.extract rfl rfl (WO.consQ (OP.extract rfl rfl (WO.consQ ?_)))))))); refine OL.new hL (fun b h' hL => (WO.cons0 ?_)); refine OL.storeAll (k := 0) hL hlim rfl rfl rfl rfl rfl rfl (by decide) rfl (fun h' hL => ?_); dsimp only [List.set, Nat.zero_add, Nat.reduceAdd, Nat.reduceMul] at hL; refine Wm rfl (Wm rfl (Wt ?_)); refine Cs (Cs (Co (Wm rfl (Wc (OP.neqF rfl rfl (by omega) ?_))))); refine Wm rfl (WO.yes rfl (Wm rfl (WO.yes rfl (Wc (OP.nilP rfl (WO.yes rfl (Wc (OP.fieldAddr rfl (WO.yes rfl ?_))))))))))
       (refine Wc ?_)
       refine OP.load rfl ((hL.kxM (by omega) (by repeat (first | exact mh | apply mt))).cells hm hbb) (hl 4 _ rfl) ?_
       by_cases hct : c.t > 0
       ·(refine WO.yes rfl (Wc (OP.gtrT rfl rfl (by omega) ?_)); refine WO.yes rfl (Wm rfl (WO.yes rfl (Wm rfl (WO.yes rfl (Wm rfl (WO.yes rfl (Wc (OP.nilP rfl (WO.yes rfl (Wc (OP.fieldAddr rfl (WO.yes rfl ?_)))))))))))))
        (refine Wc ?_)
        refine OP.load rfl ((hL.kxM (by omega) (by repeat (first | exact mh | apply mt))).cells hm hbb) (hl 5 _ rfl) ?_
        by_cases hx : x = c.x
        ·(refine WO.yes rfl (Wc (OP.neqF rfl rfl (by omega) ?_)); refine WO.yes rfl (Wc (OP.pickT rfl rfl (Wc (OP.pickF rfl rfl (Wt ?_))))); refine WC.condF rfl (Ks ?_); refine Cs (Co (Wc (OL.loadAll (k := 3) hL rfl rfl rfl (Wc ?_)))); refine OL.new hL (fun b h' hL => (WO.cons0 ?_)); refine OL.storeAll (k := 0) hL hlim rfl rfl rfl rfl rfl rfl (by decide) rfl (fun h' hL => ?_); dsimp only [List.set, Nat.zero_add, Nat.reduceAdd, Nat.reduceMul] at hL; refine Wt ?_; refine Cs (Co (Wm rfl (Wc (OP.idxArrZ rfl rfl (by decide) (by simp only [Int.reduceToNat, Nat.mul_one, Nat.zero_add, Nat.reduceMul, Nat.reduceAdd]; rfl) ?_)))); refine Wc (OL.load1 (k := 0) hL rfl rfl rfl (Wc (OP.add rfl rfl (by omega) ?_))); refine Wc (OP.idxArrZ rfl rfl (by decide) (by simp only [Int.reduceToNat, Nat.mul_one, Nat.zero_add, Nat.reduceMul, Nat.reduceAdd]; rfl) ?_); refine WO.cons0 ?_; refine OL.store1 (k := 0) hL hlim rfl rfl rfl rfl rfl rfl rfl (fun h' hL => ?_); dsimp only [List.set, Nat.zero_add, Nat.reduceAdd, Nat.reduceMul] at hL; refine Wt ?_; refine Cs (Co (Wm rfl (Wc (OL.loadAll (k := 0) hL rfl rfl rfl (Wc (OL.loadAll (k := 1) hL rfl rfl rfl ?_)))))))
         (refine Wc ?_)
         refine OL.callMp (k := 6) hL rfl rfl rfl (ih lim _ (p := p.inc 2) (r0 := ⟨b0, m0, s'.x0⟩) (r1 := ⟨b1, m1, s'.x1⟩) (r2 := ⟨b2, m2, s'.x2⟩) (r3 := ⟨b3, m3, s'.x3⟩) (H.kx (hL.kxM (by omega) (by repeat (first | exact mh | apply mt))) hm) HO ⟨hin.inc (by decide) hn, hm'⟩ (hL.stM (by repeat (first | exact mh | apply mt))) (hL.get (k := 6) rfl) hlm (by rw [P4.inc_sum]; exact hkn.next HO hv hmo) (by rw [P4.inc_sum]; omega)) (fun v h' S6 hL hQ => ?_)
         dsimp only [List.set] at hL
         rcases hQ with ⟨rfl, hg⟩ | ⟨rfl, hg, hmo2⟩
         ·(refine Wt ?_; refine WC.condT rfl (Cs (Co (Wm rfl (Wt ?_)))); refine WC.ret ?_; dsimp only [zn, zr, zx, yn, yr])
          exact Fin.ret rfl ⟨(hL.kxM (by omega) (by repeat (first | exact mh | apply mt))), S6, hL.get (k := 6) rfl, .inl ⟨rfl, (lin_iff HO hd).2 ⟨2, by decide, c, hn, by omega, fun _ => by rw [hN]; exact hx, by rw [hN]; exact hg⟩⟩⟩
         ·rw [P4.inc_sum] at hmo2
          (refine Wn ?_; dsimp only [zn, zr, zx, yn, yr]; refine WC.condF rfl (WC.skip ?_); dsimp only [zn, zr, zx, yn, yr]; refine Co (Wc (OP.add rfl rfl (by omega) ?_)); refine Wm rfl (Wn ?_); dsimp only [zn, zr, zx, yn, yr])
          have hL2 := ((hL.less (k := 0) rfl).less (k := 0) rfl).less (k := 0) rfl
          dsimp only [List.eraseIdx] at hL2
          exact ⟨⟨3, _, S6⟩, ⟨⟨by simp only; omega, no_succ hno (by rintro ⟨c', hc', _, _, hg'⟩; rw [hn] at hc'; cases hc'; rw [hN] at hg'; exact hg hg'), hmo.trans hmo2⟩, hL2⟩, by (refine Sub.cons rfl (Sub.cons rfl (Sub.cons rfl (Sub.cons rfl (Sub.cons rfl ?_)))); exact Sub.nil _), rfl, by simp only; omega⟩
        ·(refine WO.yes rfl (Wc (OP.neqT rfl rfl (by omega) ?_)); refine WO.yes rfl (Wc (OP.pickT rfl rfl (Wc (OP.pickF rfl rfl (Wt ?_))))); refine WC.condT rfl (WC.exit ?_); dsimp only [zn, zr, zx, yn, yr]; rw [yx, if_pos rfl]; dsimp only [zn, zr, zx, yn, yr]; refine Co (Wc (OP.add rfl rfl (by omega) ?_)); refine Wm rfl (Wt ?_))
         have hL2 := (hL.less (k := 0) rfl).less (k := 0) rfl
         dsimp only [List.eraseIdx] at hL2
         exact ⟨⟨3, _, S5⟩, ⟨⟨by simp only; omega, no_succ hno (by rintro ⟨c', hc', _, hx', _⟩; rw [hn] at hc'; cases hc'; have := hx' hct; rw [hN] at this; exact hx this), hmo⟩, hL2⟩, by (refine Sub.cons rfl (Sub.cons rfl (Sub.cons rfl (Sub.cons rfl (Sub.cons rfl ?_)))); exact Sub.nil _), rfl, by simp only; omega⟩
       ·(refine WO.yes rfl (Wc (OP.gtrF rfl rfl (by omega) ?_)); refine WO.yes rfl (Wm rfl (WO.no rfl (WO.no rfl (WO.no rfl (WO.no rfl (WO.no rfl (WO.no rfl (WO.yes rfl (Wc (OP.pickF rfl rfl (Wc (OP.pickF rfl rfl (Wt ?_))))))))))))); refine WC.condF rfl (Ks ?_); refine Cs (Co (Wc (OL.loadAll (k := 3) hL rfl rfl rfl (Wc ?_)))); refine OL.new hL (fun b h' hL => (WO.cons0 ?_)); refine OL.storeAll (k := 0) hL hlim rfl rfl rfl rfl rfl rfl (by decide) rfl (fun h' hL => ?_); dsimp only [List.set, Nat.zero_add, Nat.reduceAdd, Nat.reduceMul] at hL; refine Wt ?_; refine Cs (Co (Wm rfl (Wc (OP.idxArrZ rfl rfl (by decide) (by simp only [Int.reduceToNat, Nat.mul_one, Nat.zero_add, Nat.reduceMul, Nat.reduceAdd]; rfl) ?_)))); refine Wc (OL.load1 (k := 0) hL rfl rfl rfl (Wc (OP.add rfl rfl (by omega) ?_))); refine Wc (OP.idxArrZ rfl rfl (by decide) (by simp only [Int.reduceToNat, Nat.mul_one, Nat.zero_add, Nat.reduceMul, Nat.reduceAdd]; rfl) ?_); refine WO.cons0 ?_; refine OL.store1 (k := 0) hL hlim rfl rfl rfl rfl rfl rfl rfl (fun h' hL => ?_); dsimp only [List.set, Nat.zero_add, Nat.reduceAdd, Nat.reduceMul] at hL; refine Wt ?_; refine Cs (Co (Wm rfl (Wc (OL.loadAll (k := 0) hL rfl rfl rfl (Wc (OL.loadAll (k := 1) hL rfl rfl rfl ?_)))))))
        (refine Wc ?_)
        refine OL.callMp (k := 6) hL rfl rfl rfl (ih lim _ (p := p.inc 2) (r0 := ⟨b0, m0, s'.x0⟩) (r1 := ⟨b1, m1, s'.x1⟩) (r2 := ⟨b2, m2, s'.x2⟩) (r3 := ⟨b3, m3, s'.x3⟩) (H.kx (hL.kxM (by omega) (by repeat (first | exact mh | apply mt))) hm) HO ⟨hin.inc (by decide) hn, hm'⟩ (hL.stM (by repeat (first | exact mh | apply mt))) (hL.get (k := 6) rfl) hlm (by rw [P4.inc_sum]; exact hkn.next HO hv hmo) (by rw [P4.inc_sum]; omega)) (fun v h' S6 hL hQ => ?_)
        dsimp only [List.set] at hL
        rcases hQ with ⟨rfl, hg⟩ | ⟨rfl, hg, hmo2⟩
        ·(refine Wt ?_; refine WC.condT rfl (Cs (Co (Wm rfl (Wt ?_)))); refine WC.ret ?_; dsimp only [zn, zr, zx, yn, yr])
         exact Fin.ret rfl ⟨(hL.kxM (by omega) (by repeat (first | exact mh | apply mt))), S6, hL.get (k := 6) rfl, .inl ⟨rfl, (lin_iff HO hd).2 ⟨2, by decide, c, hn, by omega, fun h => absurd h hct, by rw [hN]; exact hg⟩⟩⟩
        ·rw [P4.inc_sum] at hmo2
         (refine Wn ?_; dsimp only [zn, zr, zx, yn, yr]; refine WC.condF rfl (WC.skip ?_); dsimp only [zn, zr, zx, yn, yr]; refine Co (Wc (OP.add rfl rfl (by omega) ?_)); refine Wm rfl (Wn ?_); dsimp only [zn, zr, zx, yn, yr])
         have hL2 := ((hL.less (k := 0) rfl).less (k := 0) rfl).less (k := 0) rfl
         dsimp only [List.eraseIdx] at hL2
         exact ⟨⟨3, _, S6⟩, ⟨⟨by simp only; omega, no_succ hno (by rintro ⟨c', hc', _, _, hg'⟩; rw [hn] at hc'; cases hc'; rw [hN] at hg'; exact hg hg'), hmo.trans hmo2⟩, hL2⟩, by (refine Sub.cons rfl (Sub.cons rfl (Sub.cons rfl (Sub.cons rfl (Sub.cons rfl ?_)))); exact Sub.nil _), rfl, by simp only; omega⟩
    ·rcases H.next hin (t := 3) (by decide) with ⟨hn, hv'⟩ | ⟨c, bb, oo, cs, hn, hv', hbb, hl⟩
     ·(refine Cs (Co (Wc (OP.lssT rfl rfl (by omega) ?_))); refine Wt ?_; refine Cs (WC.condT rfl (Ks ?_)); refine Cs (WC.block (Cs (Co (Wm rfl (Wm rfl (Wt ?_)))))); refine Cs (Co (Wm rfl (Wc (OL.loadAll (k := 1) hL rfl rfl rfl (Wm rfl ?_))))))
      (refine Wc ?_)
      refine OL.callV (V := .pointer none) hL rfl rfl ((e2 _ _ (H.kx (hL.kxM (by omega) (by repeat (first | exact mh | apply mt))) hm) hin (t := 3) (by decide)).mono (fun v h' ⟨p, q⟩ => ⟨p, q.trans hv'⟩)) (fun h' hp hL => ?_)
      (refine Wm rfl (Wt ?_); refine Cs (Cs (Co (Wm rfl (Wc (OP.isNilT rfl rfl (Wm rfl (WO.no rfl (WO.no rfl (WO.no rfl (WO.no rfl (WO.no rfl (WO.no rfl (Wc (OP.pickT rfl rfl (Wt ?_))))))))))))))); refine WC.condT rfl (WC.exit ?_); dsimp only [zn, zr, zx, yn, yr]; rw [yx, if_pos rfl]; dsimp only [zn, zr, zx, yn, yr]; refine Co (Wc (OP.add rfl rfl (by omega) ?_)); refine Wm rfl (Wt ?_))
      exact ⟨⟨4, _, S5⟩, ⟨⟨by simp only; omega, no_succ hno (by rintro ⟨c', hc', _⟩; rw [hn] at hc'; cases hc'), hmo⟩, hL⟩, by (refine Sub.cons rfl (Sub.cons rfl (Sub.cons rfl (Sub.cons rfl (Sub.cons rfl ?_)))); exact Sub.nil _), rfl, by simp only; omega⟩
     ·obtain ⟨s', x, hN, hm'⟩ := ObjM_next HO hob (by decide) hn
      (refine Cs (Co (Wc (OP.lssT rfl rfl (by omega) ?_))); refine Wt ?_; refine Cs (WC.condT rfl (Ks ?_)); refine Cs (WC.block (Cs (Co (Wm rfl (Wm rfl (Wt ?_)))))); refine Cs (Co (Wm rfl (Wc (OL.loadAll (k := 1) hL rfl rfl rfl (Wm rfl ?_))))))
      (refine Wc ?_)
      refine OL.callV (V := .pointer (some ⟨bb, oo, none⟩)) hL rfl rfl ((e2 _ _ (H.kx (hL.kxM (by omega) (by repeat (first | exact mh | apply mt))) hm) hin (t := 3) (by decide)).mono (fun v h' ⟨p, q⟩ => ⟨p, q.trans hv'⟩)) (fun h' hp hL => ?_)
      (refine Wm rfl (Wt ?_); refine Cs (Cs (Co (Wm rfl (Wc (OP.isNilF rfl rfl (Wm rfl (WO.yes rfl (Wm rfl (WO.yes rfl (Wc (OP.nilP rfl (WO.yes rfl (Wc (OP.fieldAddr rfl (WO.yes rfl ?_))))))))))))))))
      (refine Wc ?_)
      refine OP.load rfl ((hL.kxM (by omega) (by repeat (first | exact mh | apply mt))).cells hm hbb) (hl 3 _ rfl) ?_
      by_cases hf : c.f > bndN C p 4
      ·(refine WO.yes rfl (Wm rfl (WO.yes rfl (Wc (OP.gtrT rfl rfl (by omega) ?_)))); refine Wc (OP.pickF rfl rfl (Wt ?_)); refine WC.condT rfl (WC.exit ?_); dsimp only [zn, zr, zx, yn, yr]; rw [yx, if_pos rfl]; dsimp only [zn, zr, zx, yn, yr]; refine Co (Wc (OP.add rfl rfl (by omega) ?_)); refine Wm rfl (Wt ?_))
       exact ⟨⟨4, _, S5⟩, ⟨⟨by simp only; omega, no_succ hno (by rintro ⟨c', hc', hf', _⟩; rw [hn] at hc'; cases hc'; omega), hmo⟩, hL⟩, by (refine Sub.cons rfl (Sub.cons rfl (Sub.cons rfl (Sub.cons rfl (Sub.cons rfl ?_)))); exact Sub.nil _), rfl, by simp only; omega⟩
      ·(refine WO.yes rfl (Wm rfl (WO.yes rfl (Wc (OP.gtrF rfl rfl (by omega) ?_)))); refine Wc (OP.pickF rfl rfl (Wt ?_)); refine WC.condF rfl (Ks ?_); refine Cs (Co (WO.consQ (OP.mv rfl (WO.consQ (OP.nilP rfl (WO.consQ (OP.fieldAddr0 rfl ?_))))))))
       (refine WO.consQ ?_)
       refine OP.load rfl (H.kx (hL.kxM (by omega) (by repeat (first | exact mh | apply mt))) hm).cell rfl ?_
       (refine WO.consQ (OL.loadAll (k := 0) hL rfl rfl rfl (WO.consQ (OP.mv rfl (WO.consQ (OP.nilP rfl (WO.consQ (OP.fieldAddr rfl ?_))))))))
       (refine WO.consQ ?_)
       refine OP.load rfl ((hL.kxM (by omega) (by repeat (first | exact mh | apply mt))).cells hm hbb) hl.op ?_
       skip
       (refine WO.consQ ?_)
       refine OL.callSt hL rfl rfl (applyO eo ob s c.c c.r c.a (s', x, 0) hN _ _ (by first | exact hL.lm hlim | exact Nat.le_refl _) ((hL.kxM (by omega) (by repeat (first | exact mh | apply mt))).st hm hst) z0 z1 z2 z3) (fun b0 m0 b1 m1 b2 m2 b3 m3 h' hy hp hL => ?_)
       (try dsimp only at hL hy ⊢)
       clear hy
       (refine WO.consQ (OP.mv rfl (WO.consQ (OP.extract rfl rfl (WO.consQ (OP.extract rfl rfl (WO.consQ (OP.extract rfl rfl (WO.consQ ?_)))))))); refine OL.new hL (fun b h' hL => (WO.cons0 ?_)); refine OL.storeAll (k := 0) hL hlim rfl rfl rfl rfl rfl rfl (by decide) rfl (fun h' hL => ?_); dsimp only [List.set, Nat.zero_add, Nat.reduceAdd, Nat.reduceMul] at hL; refine Wm rfl (Wm rfl (Wt ?_)); refine Cs (Cs (Co (Wm rfl (Wc (OP.neqF rfl rfl (by omega) ?_))))); refine Wm rfl (WO.yes rfl (Wm rfl (WO.yes rfl (Wc (OP.nilP rfl (WO.yes rfl (Wc (OP.fieldAddr rfl (WO.yes rfl ?_))))))))))
       (refine Wc ?_)
       refine OP.load rfl ((hL.kxM (by omega) (by repeat (first | exact mh | apply mt))).cells hm hbb) (hl 4 _ rfl) ?_
       by_cases hct : c.t > 0
       ·(refine WO.yes rfl (Wc (OP.gtrT rfl rfl (by omega) ?_)); refine WO.yes rfl (Wm rfl (WO.yes rfl (Wm rfl (WO.yes rfl (Wm rfl (WO.yes rfl (Wc (OP.nilP rfl (WO.yes rfl (Wc (OP.fieldAddr rfl (WO.yes rfl ?_)))))))))))))
        (refine Wc ?_)
        refine OP.load rfl ((hL.kxM (by omega) (by repeat (first | exact mh | apply mt))).cells hm hbb) (hl 5 _ rfl) ?_
        by_cases hx : x = c.x
        ·(refine WO.yes rfl (Wc (OP.neqF rfl rfl (by omega) ?_)); refine WO.yes rfl (Wc (OP.pickT rfl rfl (Wc (OP.pickF rfl rfl (Wt ?_))))); refine WC.condF rfl (Ks ?_); refine Cs (Co (Wc (OL.loadAll (k := 3) hL rfl rfl rfl (Wc ?_)))); refine OL.new hL (fun b h' hL => (WO.cons0 ?_)); refine OL.storeAll (k := 0) hL hlim rfl rfl rfl rfl rfl rfl (by decide) rfl (fun h' hL => ?_); dsimp only [List.set, Nat.zero_add, Nat.reduceAdd, Nat.reduceMul] at hL; refine Wt ?_; refine Cs (Co (Wm rfl (Wc (OP.idxArrZ rfl rfl (by decide) (by simp only [Int.reduceToNat, Nat.mul_one, Nat.zero_add, Nat.reduceMul, Nat.reduceAdd]; rfl) ?_)))); refine Wc (OL.load1 (k := 0) hL rfl rfl rfl (Wc (OP.add rfl rfl (by omega) ?_))); refine Wc (OP.idxArrZ rfl rfl (by decide) (by simp only [Int.reduceToNat, Nat.mul_one, Nat.zero_add, Nat.reduceMul, Nat.reduceAdd]; rfl) ?_); refine WO.cons0 ?_; refine OL.store1 (k := 0) hL hlim rfl rfl rfl rfl rfl rfl rfl (fun h' hL => ?_); dsimp only [List.set, Nat.zero_add, Nat.reduceAdd, Nat.reduceMul] at hL; refine Wt ?_; refine Cs (Co (Wm rfl (Wc (OL.loadAll (k := 0) hL rfl rfl rfl (Wc (OL.loadAll (k := 1) hL rfl rfl rfl ?_)))))))
         (refine Wc ?_)
         refine OL.callMp (k := 6) hL rfl rfl rfl (ih lim _ (p := p.inc 3) (r0 := ⟨b0, m0, s'.x0⟩) (r1 := ⟨b1, m1, s'.x1⟩) (r2 := ⟨b2, m2, s'.x2⟩) (r3 := ⟨b3, m3, s'.x3⟩) (H.kx (hL.kxM (by omega) (by repeat (first | exact mh | apply mt))) hm) HO ⟨hin.inc (by decide) hn, hm'⟩ (hL.stM (by repeat (first | exact mh | apply mt))) (hL.get (k := 6) rfl) hlm (by rw [P4.inc_sum]; exact hkn.next HO hv hmo) (by rw [P4.inc_sum]; omega)) (fun v h' S6 hL hQ => ?_)
         dsimp only [List.set] at hL
         rcases hQ with ⟨rfl, hg⟩ | ⟨rfl, hg, hmo2⟩
         ·(refine Wt ?_; refine WC.condT rfl (Cs (Co (Wm rfl (Wt ?_)))); refine WC.ret ?_; dsimp only [zn, zr, zx, yn, yr])
          exact Fin.ret rfl ⟨(hL.kxM (by omega) (by repeat (first | exact mh | apply mt))), S6, hL.get (k := 6) rfl, .inl ⟨rfl, (lin_iff HO hd).2 ⟨3, by decide, c, hn, by omega, fun _ => by rw [hN]; exact hx, by rw [hN]; exact hg⟩⟩⟩
         ·rw [P4.inc_sum] at hmo2
          (refine Wn ?_; dsimp only [zn, zr, zx, yn, yr]; refine WC.condF rfl (WC.skip ?_); dsimp only [zn, zr, zx, yn, yr]; refine Co (Wc (OP.add rfl rfl (by omega) ?_)); refine Wm rfl (Wn ?_); dsimp only [zn, zr, zx, yn, yr])
          have hL2 := ((hL.less (k := 0) rfl).less (k := 0) rfl).less (k := 0) rfl
          dsimp only [List.eraseIdx] at hL2
          exact ⟨⟨4, _, S6⟩, ⟨⟨by simp only; omega, no_succ hno (by rintro ⟨c', hc', _, _, hg'⟩; rw [hn] at hc'; cases hc'; rw [hN] at hg'; exact hg hg'), hmo.trans hmo2⟩, hL2⟩, by (refine Sub.cons rfl (Sub.cons rfl (Sub.cons rfl (Sub.cons rfl (Sub.cons rfl ?_)))); exact Sub.nil _), rfl, by simp only; omega⟩
        ·(refine WO.yes rfl (Wc (OP.neqT rfl rfl (by omega) ?_)); refine WO.yes rfl (Wc (OP.pickT rfl rfl (Wc (OP.pickF rfl rfl (Wt ?_))))); refine WC.condT rfl (WC.exit ?_); dsimp only [zn, zr, zx, yn, yr]; rw [yx, if_pos rfl]; dsimp only [zn, zr, zx, yn, yr]; refine Co (Wc (OP.add rfl rfl (by omega) ?_)); refine Wm rfl (Wt ?_))
         have hL2 := (hL.less (k := 0) rfl).less (k := 0) rfl
         dsimp only [List.eraseIdx] at hL2
         exact ⟨⟨4, _, S5⟩, ⟨⟨by simp only; omega, no_succ hno (by rintro ⟨c', hc', _, hx', _⟩; rw [hn] at hc'; cases hc'; have := hx' hct; rw [hN] at this; exact hx this), hmo⟩, hL2⟩, by (refine Sub.cons rfl (Sub.cons rfl (Sub.cons rfl (Sub.cons rfl (Sub.cons rfl ?_)))); exact Sub.nil _), rfl, by simp only; omega⟩
       ·(refine WO.yes rfl (Wc (OP.gtrF rfl rfl (by omega) ?_)); refine WO.yes rfl (Wm rfl (WO.no rfl (WO.no rfl (WO.no rfl (WO.no rfl (WO.no rfl (WO.no rfl (WO.yes rfl (Wc (OP.pickF rfl rfl (Wc (OP.pickF rfl rfl (Wt ?_))))))))))))); refine WC.condF rfl (Ks ?_); refine Cs (Co (Wc (OL.loadAll (k := 3) hL rfl rfl rfl (Wc ?_)))); refine OL.new hL (fun b h' hL => (WO.cons0 ?_)); refine OL.storeAll (k := 0) hL hlim rfl rfl rfl rfl rfl rfl (by decide) rfl (fun h' hL => ?_); dsimp only [List.set, Nat.zero_add, Nat.reduceAdd, Nat.reduceMul] at hL; refine Wt ?_; refine Cs (Co (Wm rfl (Wc (OP.idxArrZ rfl rfl (by decide) (by simp only [Int.reduceToNat, Nat.mul_one, Nat.zero_add, Nat.reduceMul, Nat.reduceAdd]; rfl) ?_)))); refine Wc (OL.load1 (k := 0) hL rfl rfl rfl (Wc (OP.add rfl rfl (by omega) ?_))); refine Wc (OP.idxArrZ rfl rfl (by decide) (by simp only [Int.reduceToNat, Nat.mul_one, Nat.zero_add, Nat.reduceMul, Nat.reduceAdd]; rfl) ?_); refine WO.cons0 ?_; refine OL.store1 (k := 0) hL hlim rfl rfl rfl rfl rfl rfl rfl (fun h' hL => ?_); dsimp only [List.set, Nat.zero_add, Nat.reduceAdd, Nat.reduceMul] at hL; refine Wt ?_; refine Cs (Co (Wm rfl (Wc (OL.loadAll (k := 0) hL rfl rfl rfl (Wc (OL.loadAll (k := 1) hL rfl rfl rfl ?_)))))))
        (refine Wc ?_)
        refine OL.callMp (k := 6) hL rfl rfl rfl (ih lim _ (p := p.inc 3) (r0 := ⟨b0, m0, s'.x0⟩) (r1 := ⟨b1, m1, s'.x1⟩) (r2 := ⟨b2, m2, s'.x2⟩) (r3 := ⟨b3, m3, s'.x3⟩) (H.kx (hL.kxM (by omega) (by repeat (first | exact mh | apply mt))) hm) HO ⟨hin.inc (by decide) hn, hm'⟩ (hL.stM (by repeat (first | exact mh | apply mt))) (hL.get (k := 6) rfl) hlm (by rw [P4.inc_sum]; exact hkn.next HO hv hmo) (by rw [P4.inc_sum]; omega)) (fun v h' S6 hL hQ => ?_)
        dsimp only [List.set] at hL
        rcases hQ with ⟨rfl, hg⟩ | ⟨rfl, hg, hmo2⟩
        ·(refine Wt ?_; refine WC.condT rfl (Cs (Co (Wm rfl (Wt ?_)))); refine WC.ret ?_; dsimp only [zn, zr, zx, yn, yr])
         exact Fin.ret rfl ⟨(hL.kxM (by omega) (by repeat (first | exact mh | apply mt))), S6, hL.get (k := 6) rfl, .inl ⟨rfl, (lin_iff HO hd).2 ⟨3, by decide, c, hn, by omega, fun h => absurd h hct, by rw [hN]; exact hg⟩⟩⟩
        ·rw [P4.inc_sum] at hmo2
         (refine Wn ?_; dsimp only [zn, zr, zx, yn, yr]; refine WC.condF rfl (WC.skip ?_); dsimp only [zn, zr, zx, yn, yr]; refine Co (Wc (OP.add rfl rfl (by omega) ?_)); refine Wm rfl (Wn ?_); dsimp only [zn, zr, zx, yn, yr])
         have hL2 := ((hL.less (k := 0) rfl).less (k := 0) rfl).less (k := 0) rfl
         dsimp only [List.eraseIdx] at hL2
         exact ⟨⟨4, _, S6⟩, ⟨⟨by simp only; omega, no_succ hno (by rintro ⟨c', hc', _, _, hg'⟩; rw [hn] at hc'; cases hc'; rw [hN] at hg'; exact hg hg'), hmo.trans hmo2⟩, hL2⟩, by (refine Sub.cons rfl (Sub.cons rfl (Sub.cons rfl (Sub.cons rfl (Sub.cons rfl ?_)))); exact Sub.nil _), rfl, by simp only; omega⟩
   ·obtain rfl : i = 4 := by omega
    have hnl : ¬ Lin ob C p s := fun hl => by
     obtain ⟨t, ht, hg⟩ := (lin_iff HO hd).1 hl
     exact hno t ht hg
    (refine Cs (Co (Wc (OP.lssF rfl rfl (by omega) ?_))); refine Wt ?_; refine Cs (WC.condF rfl (WC.exit ?_)); dsimp only [zn, zr, zx, yn, yr]; rw [yx, if_pos rfl]; dsimp only [zn, zr, zx, yn, yr]; refine Cs (Co (Wm rfl (Wt ?_))); refine WC.ret ?_)
    exact Fin.ret rfl ⟨(hL.kxM (by omega) (by repeat (first | exact mh | apply mt))), S5, hL.get (k := 3) rfl, .inr ⟨rfl, hnl, More.shut hv hmo hnl⟩⟩
theorem s_lSearch {g0 g1 g2 g3 : Nat} (hX : X f = none) (hF : F f = some (rf_lSearch g0 g1 g2 g3 f)) (e0 : S_lBound X F g0) (hXn : X g1 = some nameA) (e2 : S_lNext X F g2) (eo : S_oApply X F g3) : S_lSearch X F f := fun N => by
 induction N with
 | zero =>
  intro lim h hb mb ob a0 a1 a2 a3 C p r0 r1 r2 r3 S H HO hv hst hm hlm hkn hN
  have := sum_le HO hv.1
  omega
 | succ N ih => exact s_lSearchS hX hF e0 hXn e2 eo ih
end
end
section
def rf_lPending : RFunc :=
 ⟨30, [(.tmp 4)], (.seq (.ops [rO 4 (.mv (.const (.pointer .none)))]) (.seq (.ops [rO 7 (.mv (.tmp 0)), rO 8 (.mv (.tmp 1)), rO 9 (.nilCheck (.tmp 7)), rO 10 (.fieldAddr 0 (.tmp 9)), rO 11 (.idxAddrArr 4 1 (.tmp 10) (.tmp 8)), rO 12 (.load .none (.tmp 11)), rO 5 (.mv (.tmp 12))]) (.seq (.seq (.ops [rO 13 (.mv (.tmp 5)), rO 14 (.len 1 (.tmp 13)), rO 6 (.mv (.tmp 14))]) (.seq (.ops [rO 15 (.mv (.tmp 6)), rO 16 (.bin .gtr (.tmp 15) (.const (.int .i64 0))), rO 17 (.mv (.tmp 16)), ⟨(.some 18), (.mv (.tmp 5)), (.some (17, true)), false, []⟩, ⟨(.some 19), (.mv (.tmp 6)), (.some (17, true)), false, []⟩, ⟨(.some 20), (.bin .sub (.tmp 19) (.const (.int .i64 1))), (.some (17, true)), false, []⟩, ⟨(.some 21), (.idxAddr 6 (.tmp 18) (.tmp 20)), (.some (17, true)), false, []⟩, ⟨(.some 22), (.fieldAddr 4 (.tmp 21)), (.some (17, true)), false, []⟩, ⟨(.some 23), (.load .none (.tmp 22)), (.some (17, true)), false, []⟩, ⟨(.some 24), (.bin .eql (.tmp 23) (.const (.int .i64 0))), (.some (17, true)), false, []⟩, rO 25 (.pick (.tmp 17) (.tmp 24) (.const (.bool false)))]) (.cond (.tmp 25) (.seq (.ops [rO 26 (.mv (.tmp 5)), rO 27 (.mv (.tmp 6)), rO 28 (.bin .sub (.tmp 27) (.const (.int .i64 1))), rO 29 (.idxAddr 6 (.tmp 26) (.tmp 28)), rO 4 (.mv (.tmp 29))]) .ret) .skip))) (.seq (.ops [rO 4 (.mv (.const (.pointer .none)))]) .ret))))⟩
theorem HistR.row {h : AH} {hb mb : Nat} {ob : Int} {a0 a1 a2 a3 : Option Addr} {C : H4} {t : Nat} (H : HistR h hb mb ob a0 a1 a2 a3 C) (ht : t < 4) : Sl 6 h (aG a0 a1 a2 a3 t) (C.get t).length (C.get t).length (recs caC (C.get t)) := by
 obtain rfl | rfl | rfl | rfl : t = 0 ∨ t = 1 ∨ t = 2 ∨ t = 3 := by omega
 ·exact H.s0
 ·exact H.s1
 ·exact H.s2
 ·exact H.s3
def pdV (a : Option Addr) (l : List CallR) : Value := if (pendL l).isSome then eptr 6 a (l.length - 1) else .pointer none
section
variable (X : Ext) (F : FuncId → Option RFunc) (g : FuncId)
abbrev S_lPending : Prop := ∀ (lim : Nat) (h : AH) {hb mb : Nat} {ob : Int} {a0 a1 a2 a3 : Option Addr} {C : H4} {t : Nat}, HistR h hb mb ob a0 a1 a2 a3 C → t < 4 → (C.get t).length ≤ 64 → Ret X F lim g [.pointer (some ⟨hb, 0, none⟩), .int .i64 (t : Int)] h fun v h' => Pfx h h' ∧ v = pdV (aG a0 a1 a2 a3 t) (C.get t)
end
section
variable {X : Ext} {F : FuncId → Option RFunc} {f : FuncId}
theorem s_lPending (hX : X f = none) (hF : F f = some rf_lPending) : S_lPending X F f := by
 intro lim h hb mb ob a0 a1 a2 a3 C t H ht hlen
 have hL := Loc.start h
 have hr := H.row ht
 refine Ret.body hX hF rfl ?_
 simp only [argL, rf_lPending]
 have hcell : ∃ cs, h[hb]? = some (.cells cs) ∧ loadAt none cs (0 + t * 1) = some (.slice (aG a0 a1 a2 a3 t) (C.get t).length (C.get t).length) := by
  refine ⟨_, H.cell, ?_⟩
  obtain rfl | rfl | rfl | rfl : t = 0 ∨ t = 1 ∨ t = 2 ∨ t = 3 := by omega
  all_goals rfl
 obtain ⟨cs, hc1, hc2⟩ := hcell
 generalize aG a0 a1 a2 a3 t = a at hr hc2 ⊢
 generalize C.get t = l at hr hc2 hlen ⊢
 (refine Cs (Co (Wm rfl (Wt ?_))); refine Cs (Co (Wm rfl (Wm rfl (Wc (OP.nilP rfl (Wc (OP.fieldAddr0 rfl (Wc (OP.idxArrAddr rfl rfl (by omega) ?_))))))))))
 (refine Wc ?_)
 refine OP.load rfl hc1 hc2 ?_
 by_cases h0 : l.length = 0
 ·have hp : pendL l = none := by unfold pendL; rw [List.getElem?_eq_none (by omega)]
  (refine Wm rfl (Wt ?_); refine Cs (Cs (Co (Wm rfl (Wc (OP.lenS rfl (Wm rfl (Wt ?_))))))); refine Cs (Co (Wm rfl (Wc (OP.gtrF rfl rfl (by omega) ?_)))); refine Wm rfl (WO.no rfl (WO.no rfl (WO.no rfl (WO.no rfl (WO.no rfl (WO.no rfl (WO.no rfl (Wc (OP.pickF rfl rfl (Wt ?_)))))))))); refine WC.condF rfl (Ks ?_); refine Cs (Co (Wm rfl (Wt ?_))); refine WC.ret ?_)
  exact Fin.ret rfl ⟨hL.pfx, by unfold pdV; rw [hp]; rfl⟩
 ·have hg : l[l.length - 1]? = some l[l.length - 1] := List.getElem?_eq_getElem (by omega)
  have hcast : ((l.length : Int) - 1).toNat = l.length - 1 := by omega
  (refine Wm rfl (Wt ?_); refine Cs (Cs (Co (Wm rfl (Wc (OP.lenS rfl (Wm rfl (Wt ?_))))))); refine Cs (Co (Wm rfl (Wc (OP.gtrT rfl rfl (by omega) ?_)))); refine Wm rfl (WO.yes rfl (Wm rfl (WO.yes rfl (Wm rfl (WO.yes rfl (Wc (OP.sub rfl rfl (by omega) ?_))))))); refine WO.yes rfl (Wc (OP.idxZ (by assumption) rfl rfl (by omega) ?_)); refine WO.yes rfl (Wc (OP.fieldE (by assumption) rfl (by omega) ?_)); refine WO.yes rfl ?_)
  rw [hcast]
  (refine Wc ?_)
  refine OP.ldF (a := a) (j := l.length - 1) (f := 4) (v := .int .i64 l[l.length - 1].t) caC_len hr rfl (by omega) (by decide) rfl ?_
  by_cases hz : l[l.length - 1].t = 0
  ·have hp : pendL l = some l[l.length - 1] := by unfold pendL; rw [hg]; exact if_pos hz
   (refine WO.yes rfl (Wc (OP.eqlT rfl rfl (by omega) ?_)); refine Wc (OP.pickT rfl rfl (Wt ?_)); refine WC.condT rfl (Cs (Co (Wm rfl (Wm rfl (Wc (OP.sub rfl rfl (by omega) ?_)))))); refine Wc (OP.idxZ (by assumption) rfl rfl (by omega) ?_); refine Wm rfl (Wt ?_); refine WC.ret ?_; dsimp only [zn, zr, zx, yn, yr])
   rw [hcast]
   exact Fin.ret rfl ⟨hL.pfx, by unfold pdV; rw [hp]; rfl⟩
  ·have hp : pendL l = none := by unfold pendL; rw [hg]; exact if_neg hz
   (refine WO.yes rfl (Wc (OP.eqlF rfl rfl (by omega) ?_)); refine Wc (OP.pickT rfl rfl (Wt ?_)); refine WC.condF rfl (Ks ?_); refine Cs (Co (Wm rfl (Wt ?_))); refine WC.ret ?_)
   exact Fin.ret rfl ⟨hL.pfx, by unfold pdV; rw [hp]; rfl⟩
end
end
end Go.Proofs.YtalknjppnkpmmaaDoorW.Ai
