/-
 The statement LinearRows (chapter 24), as the small machine runs it.
-/
import Derived.Test.YtalknjppnkpmmaaDoorFn93
set_option linter.unusedVariables false
set_option linter.unusedSimpArgs false
set_option maxHeartbeats 4000000
set_option maxRecDepth 100000
namespace Go.Proofs.YtalknjppnkpmmaaDoorW.Ai
-- chorus/choruslaw24.LinearRows; g0 = chorus/choruslaw24.awake; g1 = chorus/linear.Is; g2 = chorus/choruslaw0.Num
def rf_LinearRows (g0 g1 g2 : Nat) : RFunc :=
 ⟨74, [(.tmp 4)], (.seq (.ops [rO 4 (.mv (.const (.bool false)))]) (.seq (.seq (.ops [rO 13 (.call (.func g0) []), rO 14 (.un .not (.tmp 13))]) (.cond (.tmp 14) (.seq (.ops [rO 4 (.mv (.const (.bool false)))]) .ret) .skip)) (.seq (.ops [rO 16 (.mv (.tmp 0)), rO 17 (.mv (.tmp 1)), rO 18 (.call (.func g1) [(.tmp 16), (.tmp 17)]), rO 15 (.mv (.tmp 18)), rO 19 (.extract (.tmp 15) 0), rO 20 (.extract (.tmp 15) 1), rO 5 (.mv (.tmp 19)), rO 6 (.mv (.tmp 20))]) (.seq (.seq (.ops [rO 21 (.mv (.tmp 6)), rO 22 (.call (.func g2) [(.tmp 21)]), rO 23 (.bin .neq (.tmp 22) (.const (.int .i64 0)))]) (.cond (.tmp 23) (.seq (.ops [rO 24 (.mv (.tmp 5)), rO 25 (.un .not (.tmp 24)), rO 4 (.mv (.tmp 25))]) .ret) .skip)) (.seq (.ops [rO 7 (.mv (.const (.bool true)))]) (.seq (.seq (.ops [rO 8 (.mv (.const (.int .i64 0)))]) (.block 0 (.loop (.seq (.seq (.ops [rO 26 (.mv (.tmp 8)), rO 27 (.bin .lss (.tmp 26) (.const (.int .i64 4)))]) (.cond (.tmp 27) .skip (.exit 0))) (.seq (.block 1 (.seq (.ops [rO 9 (.mv (.const (.slice .none 0 0)))]) (.seq (.seq (.ops [rO 10 (.mv (.const (.int .i64 0)))]) (.block 2 (.loop (.seq (.seq (.ops [rO 30 (.mv (.tmp 10)), rO 31 (.mv (.tmp 1)), rO 32 (.len 1 (.tmp 31)), rO 33 (.bin .lss (.tmp 30) (.tmp 32))]) (.cond (.tmp 33) .skip (.exit 2))) (.seq (.block 3 (.seq (.seq (.ops [rO 36 (.mv (.tmp 1)), rO 37 (.mv (.tmp 10)), rO 38 (.idxAddr 6 (.tmp 36) (.tmp 37)), rO 39 (.fieldAddr 2 (.tmp 38)), rO 40 (.fieldAddr 0 (.tmp 39)), rO 41 (.load .none (.tmp 40)), rO 42 (.bin .eql (.tmp 41) (.const (.int .i64 3)))]) (.cond (.tmp 42) (.seq (.ops [rO 4 (.mv (.const (.bool true)))]) .ret) .skip)) (.seq (.ops [rO 43 (.mv (.tmp 1)), rO 44 (.mv (.tmp 10)), rO 45 (.idxAddr 6 (.tmp 43) (.tmp 44)), rO 46 (.fieldAddr 2 (.tmp 45)), rO 47 (.fieldAddr 1 (.tmp 46)), rO 48 (.load .none (.tmp 47)), rO 49 (.mv (.tmp 8)), rO 50 (.bin .eql (.tmp 48) (.tmp 49))]) (.cond (.tmp 50) (.ops [rO 51 (.mv (.tmp 9)), rO 52 (.mv (.tmp 1)), rO 53 (.mv (.tmp 10)), rO 54 (.idxAddr 6 (.tmp 52) (.tmp 53)), rO 55 (.load (.some 6) (.tmp 54)), rO 56 (.buildSlice [(.int .i64 0), (.bool false), (.int .i64 0), (.int .i64 0), (.int .i64 0), (.int .i64 0)] 1 [(0, (6, (.tmp 55)))]), rO 57 (.append 6 48 (.tmp 51) (.tmp 56)), rO 9 (.mv (.tmp 57))]) .skip)))) (.ops [rO 34 (.mv (.tmp 10)), rO 35 (.bin .add (.tmp 34) (.const (.int .i64 1))), rO 10 (.mv (.tmp 35))])))))) (.seq (.ops [rO 59 (.mv (.tmp 0)), rO 60 (.mv (.tmp 9)), rO 61 (.call (.func g1) [(.tmp 59), (.tmp 60)]), rO 58 (.mv (.tmp 61)), rO 62 (.extract (.tmp 58) 0), rO 63 (.extract (.tmp 58) 1), rO 11 (.mv (.tmp 62)), rO 12 (.mv (.tmp 63))]) (.seq (.seq (.ops [rO 64 (.mv (.tmp 12)), rO 65 (.call (.func g2) [(.tmp 64)]), rO 66 (.bin .neq (.tmp 65) (.const (.int .i64 0)))]) (.cond (.tmp 66) (.seq (.ops [rO 4 (.mv (.const (.bool false)))]) .ret) .skip)) (.ops [rO 67 (.mv (.tmp 7)), rO 68 (.mv (.tmp 67)), ⟨(.some 69), (.mv (.tmp 11)), (.some (68, true)), false, []⟩, rO 70 (.pick (.tmp 68) (.tmp 69) (.const (.bool false))), rO 7 (.mv (.tmp 70))])))))) (.ops [rO 28 (.mv (.tmp 8)), rO 29 (.bin .add (.tmp 28) (.const (.int .i64 1))), rO 8 (.mv (.tmp 29))])))))) (.seq (.ops [rO 71 (.mv (.tmp 5)), rO 72 (.mv (.tmp 7)), rO 73 (.eq false .none (.tmp 71) (.tmp 72)), rO 4 (.mv (.tmp 73))]) .ret)))))))⟩
theorem OP.fieldFF {X : Ext} {F : FuncId → Option RFunc} {lim : Nat} {L : Al} {h : AH} {K : Value → AH → Prop} {sz : Nat} {x : Operand} {a : Option Addr} {n c j f off g : Nat} {cs : List Value} (hg : f + off = g) (hs : Sl sz h a n c cs) (hx : lev L x = some (fptr sz a j f)) (hj : j < n) (hk : K (fptr sz a j g) h) : OP X F lim (.fieldAddr off x) L h K := by
 obtain ⟨b, o, m, rfl⟩ := hs.none_iff (by omega)
 subst hg
 refine .fieldAddr hx ?_
 rw [Nat.add_assoc]
 exact hk
structure RI where
 r : Nat
 h : AH
 w : Bool
structure RJ where
 i : Nat
 h : AH
 a : Option Addr
 m : Nat
theorem Loc.addNilE {h0 h : AH} {l : List Item} (hL : Loc h0 h l) : Loc h0 h (ap h.length h.length 6 none 0 (recs evC []) :: l) :=
 hL.add (Pfx.refl h) (ap h.length h.length 6 none 0 (recs evC [])) rfl rfl ⟨rfl, .inl ⟨rfl, fun x hx => by cases hx⟩⟩
theorem recs_snocE (es : List EvR) (e : EvR) : recs evC (es ++ [e]) = recs evC es ++ evC e := by simp [recs]
theorem ownE_take {r : Int} {es : List EvR} {i : Nat} (hi : i < es.length) : ownE r (es.take (i + 1)) = ownE r (es.take i) ++ (if es[i].r = r then [es[i]] else []) := by
 rw [List.take_succ_eq_append_getElem hi, ownE_snoc]
theorem ownE_len (r : Int) (es : List EvR) : (ownE r es).length ≤ es.length := List.length_filter_le _ _
section
variable {X : Ext} {F : FuncId → Option RFunc} {f : FuncId}
theorem s_LinearRows {g0 g1 g2 : Nat} (hX : X f = none) (hF : F f = some (rf_LinearRows g0 g1 g2)) (d0 : S_yes X F g0) (e1 : S_lIs X F g1) (d2 : S_Num X F g2)
  (h : AH) {ob : Int} {a : Option Addr} {n : Nat} {es : List EvR} (hob : R64 ob) (hs : Sl 6 h a n n (recs evC es)) (hf : ∀ s ∈ es, EvFits s) (hn : n ≤ 2 ^ 42) : Ret X F h.length f [.int .i64 ob, .slice a n n] h fun v _ => v = .bool true := by
 have hrl := hs.rlen evC_len (by decide)
 subst hrl
 have hL := Loc.start h
 have hlim : h.length ≤ h.length := Nat.le_refl _
 refine Ret.body hX hF rfl ?_
 simp only [argL, rf_LinearRows]
 have d1 : ∀ lim h', Pfx h h' → lim ≤ h'.length → Ret X F lim g1 [.int .i64 ob, .slice a es.length es.length] h' fun v h'' => Pfx h' h'' ∧ v = .tuple #[.bool (IsL ob es).1, .int .i64 (IsL ob es).2] := fun lim h' hp hl => e1 lim h' hl (hs.pfx hp) (by omega)
 have hC : Hid (IsL ob es = (false, 2400) ∨ ∃ b, IsL ob es = (b, 0)) := by
  rcases IsL_cases ob es with q | q | ⟨q, _⟩
  ·exact .inl q
  ·exact .inr ⟨_, q⟩
  ·exact .inr ⟨_, q⟩
 obtain ⟨r, hr⟩ : ∃ r, IsL ob es = r := ⟨_, rfl⟩
 rw [hr] at hC d1
 rcases hC.out with rfl | ⟨b, rfl⟩
 ·(refine Cs (Co (Wm rfl (Wt ?_))); refine Cs (Cs (Co (Wc ?_))); refine OL.callV hL rfl rfl (d0 _ _) (fun h' hp hL => (Wc (OP.not rfl (Wt ?_)))); refine WC.condF rfl (Ks ?_); refine Cs (Co (Wm rfl (Wm rfl (Wc ?_)))); refine OL.callV hL rfl rfl (d1 _ _ hL.pfx (by first | exact hL.lm hlim | exact Nat.le_refl _ | omega)) (fun h' hp hL => ?_); refine Wm rfl (Wc (OP.extract rfl rfl (Wc (OP.extract rfl rfl (Wm rfl (Wm rfl (Wt ?_))))))); refine Cs (Cs (Co (Wm rfl (Wc ?_)))); refine OL.callV hL rfl rfl (d2 _ _ (by first | omega | assumption | exact St.pfx (by assumption) hL.pfx | exact hL.stM (by repeat (first | exact mh | apply mt)) | exact RowOk.pfx (by assumption) hL.pfx | exact (hL.stM (by repeat (first | exact mh | apply mt))).1 | exact (hL.stM (by repeat (first | exact mh | apply mt))).2.1 | exact (hL.stM (by repeat (first | exact mh | apply mt))).2.2.1 | exact (hL.stM (by repeat (first | exact mh | apply mt))).2.2.2)) (fun h' hp hL => ?_); refine Wc (OP.neqT rfl rfl (by omega) ?_); refine Wt ?_; refine WC.condT rfl (Cs (Co (Wm rfl (Wc (OP.not rfl (Wm rfl (Wt ?_))))))); refine WC.ret ?_; dsimp only [zn, zr, zx, yn, yr]; exact Fin.ret rfl rfl)
 (refine Cs (Co (Wm rfl (Wt ?_))); refine Cs (Cs (Co (Wc ?_))); refine OL.callV hL rfl rfl (d0 _ _) (fun h' hp hL => (Wc (OP.not rfl (Wt ?_)))); refine WC.condF rfl (Ks ?_); refine Cs (Co (Wm rfl (Wm rfl (Wc ?_)))); refine OL.callV hL rfl rfl (d1 _ _ hL.pfx (by first | exact hL.lm hlim | exact Nat.le_refl _ | omega)) (fun h' hp hL => ?_); refine Wm rfl (Wc (OP.extract rfl rfl (Wc (OP.extract rfl rfl (Wm rfl (Wm rfl (Wt ?_))))))); refine Cs (Cs (Co (Wm rfl (Wc ?_)))); refine OL.callV hL rfl rfl (d2 _ _ (by first | omega | assumption | exact St.pfx (by assumption) hL.pfx | exact hL.stM (by repeat (first | exact mh | apply mt)) | exact RowOk.pfx (by assumption) hL.pfx | exact (hL.stM (by repeat (first | exact mh | apply mt))).1 | exact (hL.stM (by repeat (first | exact mh | apply mt))).2.1 | exact (hL.stM (by repeat (first | exact mh | apply mt))).2.2.1 | exact (hL.stM (by repeat (first | exact mh | apply mt))).2.2.2)) (fun h' hp hL => ?_); refine Wc (OP.neqF rfl rfl (by omega) ?_); refine Wt ?_; refine WC.condF rfl (Ks ?_); refine Cs (Co (Wm rfl (Wt ?_))); refine Cs (Cs (Co (Wm rfl (Wt ?_)))); refine WC.block ?_)
 refine WC.loop (fun q : RI => q.r ≤ 4 ∧ Loc h q.h [] ∧ (q.r > 0 → ∀ e ∈ es, e.c ≠ 3) ∧ (q.w = true ↔ ∀ r : Int, 0 ≤ r ∧ r < q.r → (IsL ob (ownE r es)).1 = true)) (fun q => [(0, .int .i64 ob), (1, .slice a es.length es.length), (5, .bool b), (7, .bool q.w), (8, .int .i64 (q.r : Int))]) (fun q => q.h) (fun q => 4 - q.r) ?_ ⟨0, _, true⟩ ⟨Nat.zero_le _, hL, fun h => absurd h (Nat.lt_irrefl _), ⟨fun _ r hr => absurd hr.2 (by simp only; omega), fun _ => rfl⟩⟩ (by (refine Sub.cons rfl (Sub.cons rfl (Sub.cons rfl (Sub.cons rfl (Sub.cons rfl ?_)))); exact Sub.nil _)) rfl
 clear hL
 intro ⟨r, h2, w⟩ ⟨hr4, hL, hsc, hw⟩
 simp only at hr4 hL hsc hw ⊢
 have HW : Hid (w = true ↔ ∀ r' : Int, 0 ≤ r' ∧ r' < r → (IsL ob (ownE r' es)).1 = true) := hw
 have HS : Hid (r > 0 → ∀ e ∈ es, e.c ≠ 3) := hsc
 have HR : Hid (IsL ob es = (b, 0)) := hr
 clear hw hsc hr
 by_cases hlt : (r : Int) < 4
 ·(refine Cs (Cs (Co (Wm rfl (Wc (OP.lssT rfl rfl (by omega) ?_))))); refine Wt ?_; refine WC.condT rfl (Ks ?_); refine Cs (WC.block (Cs (Co (Wm rfl (Wt ?_))))); refine Cs (Cs (Co (Wm rfl (Wt ?_)))); refine WC.block ?_)
  have hL := hL.addNilE
  refine WC.loop (fun q : RJ => (q.i ≤ es.length ∧ (∀ e ∈ es.take q.i, e.c ≠ 3) ∧ (ownE r (es.take q.i)).length = q.m) ∧ ∃ l1 l2, Loc h q.h [ap l1 l2 6 q.a q.m (recs evC (ownE r (es.take q.i)))]) (fun q => [(0, .int .i64 ob), (1, .slice a es.length es.length), (5, .bool b), (7, .bool w), (8, .int .i64 (r : Int)), (9, .slice q.a q.m q.m), (10, .int .i64 (q.i : Int))]) (fun q => q.h) (fun q => es.length - q.i) ?_ ⟨0, _, none, 0⟩ ⟨⟨Nat.zero_le _, fun o ho => absurd ho (by simp), rfl⟩, _, _, hL⟩ (by (refine Sub.cons rfl (Sub.cons rfl (Sub.cons rfl (Sub.cons rfl (Sub.cons rfl (Sub.cons rfl (Sub.cons rfl ?_)))))); exact Sub.nil _)) rfl
  clear hL
  intro ⟨i, h3, A, m⟩ ⟨⟨hi, hc3, hm1⟩, l1, l2, hL⟩
  simp only at hi hc3 hm1 hL ⊢
  have hml : m ≤ i := hm1 ▸ Nat.le_trans (ownE_len _ _) (by rw [List.length_take]; exact Nat.min_le_left _ _)
  have HC : Hid (∀ e ∈ es.take i, e.c ≠ 3) := hc3
  clear hc3
  by_cases hli : (i : Int) < es.length
  ·have hil : i < es.length := by omega
   by_cases hcc : es[i].c = 3
   ·(refine Cs (Cs (Co (Wm rfl (Wm rfl (Wc (OP.lenS rfl (Wc (OP.lssT rfl rfl (by omega) ?_)))))))); refine Wt ?_; refine WC.condT rfl (Ks ?_); refine Cs (WC.block (Cs (Cs (Co (Wm rfl (Wm rfl (Wc (OP.idxS (Sl.pfx (by assumption) (Loc.pfx hL)) rfl rfl (by omega) ?_)))))))); refine Wc (OP.fieldE (Sl.pfx (by assumption) (Loc.pfx hL)) rfl (by omega) ?_))
    (refine Wc ?_)
    refine OP.fieldFF (f := 2) (off := 0) (g := 2) rfl (hs.pfx hL.pfx) rfl (by omega) ?_
    (refine Wc (OP.ldF evC_len (Sl.pfx (by assumption) (Loc.pfx hL)) rfl (by omega) (by decide) rfl ?_); refine Wc (OP.eqlT rfl rfl (by omega) ?_); refine Wt ?_; refine WC.condT rfl (Cs (Co (Wm rfl (Wt ?_)))); refine WC.ret ?_; dsimp only [zn, zr, zx, yn, yr]; exact Fin.ret rfl rfl)
   have HC1 : Hid (∀ e ∈ es.take (i + 1), e.c ≠ 3) := by
    show ∀ e ∈ es.take (i + 1), e.c ≠ 3
    rw [List.take_succ_eq_append_getElem hil]
    intro o ho
    rcases List.mem_append.1 ho with ho | ho
    ·exact HC.out o ho
    ·rw [List.mem_singleton.1 ho]; exact hcc
   by_cases hev : es[i].r = r
   ·have fe : Hid (ownE r (es.take (i + 1)) = ownE r (es.take i) ++ [es[i]]) := by
     show _ = _
     rw [ownE_take hil, if_pos hev]
    (refine Cs (Cs (Co (Wm rfl (Wm rfl (Wc (OP.lenS rfl (Wc (OP.lssT rfl rfl (by omega) ?_)))))))); refine Wt ?_; refine WC.condT rfl (Ks ?_); refine Cs (WC.block (Cs (Cs (Co (Wm rfl (Wm rfl (Wc (OP.idxS (Sl.pfx (by assumption) (Loc.pfx hL)) rfl rfl (by omega) ?_)))))))); refine Wc (OP.fieldE (Sl.pfx (by assumption) (Loc.pfx hL)) rfl (by omega) ?_))
    (refine Wc ?_)
    refine OP.fieldFF (f := 2) (off := 0) (g := 2) rfl (hs.pfx hL.pfx) rfl (by omega) ?_
    (refine Wc (OP.ldF evC_len (Sl.pfx (by assumption) (Loc.pfx hL)) rfl (by omega) (by decide) rfl ?_); refine Wc (OP.eqlF rfl rfl (by omega) ?_); refine Wt ?_; refine WC.condF rfl (Ks ?_); refine Cs (Co (Wm rfl (Wm rfl (Wc (OP.idxS (Sl.pfx (by assumption) (Loc.pfx hL)) rfl rfl (by omega) ?_))))); refine Wc (OP.fieldE (Sl.pfx (by assumption) (Loc.pfx hL)) rfl (by omega) ?_))
    (refine Wc ?_)
    refine OP.fieldFF (f := 2) (off := 1) (g := 3) rfl (hs.pfx hL.pfx) rfl (by omega) ?_
    (refine Wc (OP.ldF evC_len (Sl.pfx (by assumption) (Loc.pfx hL)) rfl (by omega) (by decide) rfl ?_); refine Wm rfl (Wc (OP.eqlT rfl rfl (by omega) ?_)); refine Wt ?_; refine WC.condT rfl (Co (Wm rfl (Wm rfl (Wm rfl (Wc (OP.idxS (Sl.pfx (by assumption) (Loc.pfx hL)) rfl rfl (by omega) ?_)))))); refine Wc (OP.ldR evC_len (by decide) (Sl.pfx (by assumption) (Loc.pfx hL)) rfl (by omega) ?_); refine Wc ?_; refine OL.buildSlice hL rfl (by simp [over, Value.cells]; rfl) rfl (fun b h' hL => ?_); refine Wc ?_; refine OL.append (k := 1) hL hlim rfl rfl rfl (Loc.bxAt (k := 0) hL rfl rfl) (by omega) ⟨by omega, by omega, by omega⟩ rfl (fun a' h' hL => ?_); dsimp only [List.eraseIdx] at hL; refine Wm rfl (Wt ?_); refine Co (Wm rfl (Wc (OP.add rfl rfl (by omega) ?_))); refine Wm rfl (Wt ?_))
    have hL2 := (hL.less (k := 1) rfl)
    dsimp only [List.eraseIdx] at hL2
    rw [show evC es[i] ++ List.drop (evC es[i]).length [Value.int .i64 0, Value.bool false, Value.int .i64 0, Value.int .i64 0, Value.int .i64 0, Value.int .i64 0] = evC es[i] from rfl, ← recs_snocE, ← fe.out] at hL2
    exact ⟨⟨i + 1, h', a', m + 1⟩, ⟨⟨by simp only; omega, HC1.out, by simp only; rw [fe.out]; simp; omega⟩, _, _, hL2⟩, by (refine Sub.cons rfl (Sub.cons rfl (Sub.cons rfl (Sub.cons rfl (Sub.cons rfl (Sub.cons rfl (Sub.cons rfl ?_)))))); exact Sub.nil _), rfl, by simp only; omega⟩
   ·have fe : Hid (ownE r (es.take (i + 1)) = ownE r (es.take i)) := by
     show _ = _
     rw [ownE_take hil, if_neg hev, List.append_nil]
    (refine Cs (Cs (Co (Wm rfl (Wm rfl (Wc (OP.lenS rfl (Wc (OP.lssT rfl rfl (by omega) ?_)))))))); refine Wt ?_; refine WC.condT rfl (Ks ?_); refine Cs (WC.block (Cs (Cs (Co (Wm rfl (Wm rfl (Wc (OP.idxS (Sl.pfx (by assumption) (Loc.pfx hL)) rfl rfl (by omega) ?_)))))))); refine Wc (OP.fieldE (Sl.pfx (by assumption) (Loc.pfx hL)) rfl (by omega) ?_))
    (refine Wc ?_)
    refine OP.fieldFF (f := 2) (off := 0) (g := 2) rfl (hs.pfx hL.pfx) rfl (by omega) ?_
    (refine Wc (OP.ldF evC_len (Sl.pfx (by assumption) (Loc.pfx hL)) rfl (by omega) (by decide) rfl ?_); refine Wc (OP.eqlF rfl rfl (by omega) ?_); refine Wt ?_; refine WC.condF rfl (Ks ?_); refine Cs (Co (Wm rfl (Wm rfl (Wc (OP.idxS (Sl.pfx (by assumption) (Loc.pfx hL)) rfl rfl (by omega) ?_))))); refine Wc (OP.fieldE (Sl.pfx (by assumption) (Loc.pfx hL)) rfl (by omega) ?_))
    (refine Wc ?_)
    refine OP.fieldFF (f := 2) (off := 1) (g := 3) rfl (hs.pfx hL.pfx) rfl (by omega) ?_
    (refine Wc (OP.ldF evC_len (Sl.pfx (by assumption) (Loc.pfx hL)) rfl (by omega) (by decide) rfl ?_); refine Wm rfl (Wc (OP.eqlF rfl rfl (by omega) ?_)); refine Wn ?_; dsimp only [zn, zr, zx, yn, yr]; refine WC.condF rfl (WC.skip ?_); dsimp only [zn, zr, zx, yn, yr]; refine Co (Wm rfl (Wc (OP.add rfl rfl (by omega) ?_))); refine Wm rfl (Wn ?_); dsimp only [zn, zr, zx, yn, yr])
    exact ⟨⟨i + 1, _, A, m⟩, ⟨⟨by simp only; omega, HC1.out, by simp only; rw [fe.out]; exact hm1⟩, _, _, by simp only; rw [fe.out]; exact hL⟩, by (refine Sub.cons rfl (Sub.cons rfl (Sub.cons rfl (Sub.cons rfl (Sub.cons rfl (Sub.cons rfl (Sub.cons rfl ?_)))))); exact Sub.nil _), rfl, by simp only; omega⟩
  ·have hie : i = es.length := by omega
   subst hie
   rw [List.take_length] at hL hm1
   have HC2 : Hid (∀ e ∈ es, e.c ≠ 3) := by have := HC.out; rwa [List.take_length] at this
   have hrow := (IsL_rows (by rw [HR.out]) HC2.out).1 r
   obtain ⟨b2, hb2⟩ : ∃ b2, IsL ob (ownE r es) = (b2, 0) := ⟨(IsL ob (ownE r es)).1, by rw [← hrow]⟩
   have HB : Hid (IsL ob (ownE r es) = (b2, 0)) := hb2
   clear hrow hb2
   have hL := hL.asSl (k := 0) rfl
   dsimp only [List.set] at hL
   (refine Cs (Cs (Co (Wm rfl (Wm rfl (Wc (OP.lenS rfl (Wc (OP.lssF rfl rfl (by omega) ?_)))))))); refine Wt ?_; refine WC.condF rfl (WC.exit ?_); dsimp only [zn, zr, zx, yn, yr]; rw [yx, if_pos rfl]; dsimp only [zn, zr, zx, yn, yr]; refine Cs (Co (Wm rfl (Wm rfl ?_))))
   (refine Wc ?_)
   refine OL.callV (V := .tuple #[.bool b2, .int .i64 0]) hL rfl rfl ((e1 _ _ (ob := ob) (es := ownE r es) hL.len (hL.slAt (k := 0) rfl) (by omega)).mono fun v h' ⟨p, q⟩ => ⟨p, by rw [q, HB.out]⟩) (fun h' hp hL => ?_)
   have hL := hL.tail
   have HN : Hid ((w && b2) = true ↔ ∀ r' : Int, 0 ≤ r' ∧ r' < (r + 1 : Nat) → (IsL ob (ownE r' es)).1 = true) := by
    show _ ↔ _
    rw [Bool.and_eq_true, HW.out]
    constructor
    ·rintro ⟨k1, k2⟩ r' hr'
     by_cases e : r' = r
     ·subst e; rw [HB.out]; exact k2
     ·exact k1 r' (by omega)
    ·intro k1
     refine ⟨fun r' hr' => k1 r' (by omega), ?_⟩
     have := k1 r (by omega)
     rwa [HB.out] at this
   cases w with
   | false =>
    (refine Wm rfl (Wc (OP.extract rfl rfl (Wc (OP.extract rfl rfl (Wm rfl (Wm rfl (Wt ?_))))))); refine Cs (Cs (Co (Wm rfl (Wc ?_)))); refine OL.callV hL rfl rfl (d2 _ _ (by first | omega | assumption | exact St.pfx (by assumption) hL.pfx | exact hL.stM (by repeat (first | exact mh | apply mt)) | exact RowOk.pfx (by assumption) hL.pfx | exact (hL.stM (by repeat (first | exact mh | apply mt))).1 | exact (hL.stM (by repeat (first | exact mh | apply mt))).2.1 | exact (hL.stM (by repeat (first | exact mh | apply mt))).2.2.1 | exact (hL.stM (by repeat (first | exact mh | apply mt))).2.2.2)) (fun h' hp hL => ?_); refine Wc (OP.neqF rfl rfl (by omega) ?_); refine Wt ?_; refine WC.condF rfl (Ks ?_); refine Co (Wm rfl (Wm rfl (WO.no rfl (Wc (OP.pickF rfl rfl (Wm rfl (Wt ?_))))))); refine Co (Wm rfl (Wc (OP.add rfl rfl (by omega) ?_))); refine Wm rfl (Wt ?_))
    exact ⟨⟨r + 1, _, _⟩, ⟨by simp only; omega, hL, fun _ => HC2.out, HN.out⟩, by (refine Sub.cons rfl (Sub.cons rfl (Sub.cons rfl (Sub.cons rfl (Sub.cons rfl ?_)))); exact Sub.nil _), rfl, by simp only; omega⟩
   | true =>
    (refine Wm rfl (Wc (OP.extract rfl rfl (Wc (OP.extract rfl rfl (Wm rfl (Wm rfl (Wt ?_))))))); refine Cs (Cs (Co (Wm rfl (Wc ?_)))); refine OL.callV hL rfl rfl (d2 _ _ (by first | omega | assumption | exact St.pfx (by assumption) hL.pfx | exact hL.stM (by repeat (first | exact mh | apply mt)) | exact RowOk.pfx (by assumption) hL.pfx | exact (hL.stM (by repeat (first | exact mh | apply mt))).1 | exact (hL.stM (by repeat (first | exact mh | apply mt))).2.1 | exact (hL.stM (by repeat (first | exact mh | apply mt))).2.2.1 | exact (hL.stM (by repeat (first | exact mh | apply mt))).2.2.2)) (fun h' hp hL => ?_); refine Wc (OP.neqF rfl rfl (by omega) ?_); refine Wt ?_; refine WC.condF rfl (Ks ?_); refine Co (Wm rfl (Wm rfl (WO.yes rfl (Wm rfl (Wc (OP.pickT rfl rfl (Wm rfl (Wt ?_)))))))); refine Co (Wm rfl (Wc (OP.add rfl rfl (by omega) ?_))); refine Wm rfl (Wt ?_))
    exact ⟨⟨r + 1, _, _⟩, ⟨by simp only; omega, hL, fun _ => HC2.out, HN.out⟩, by (refine Sub.cons rfl (Sub.cons rfl (Sub.cons rfl (Sub.cons rfl (Sub.cons rfl ?_)))); exact Sub.nil _), rfl, by simp only; omega⟩
 ·have hr4 : r = 4 := by omega
  subst hr4
  have hbw : b = w := by
   have h1 := (IsL_rows (by rw [HR.out]) (HS.out (by decide))).2
   rw [HR.out] at h1
   simp only at h1
   have h2 : b = true ↔ w = true := by
    rw [h1, HW.out]
    constructor
    ·intro k r' hr'
     exact k r' (by omega)
    ·intro k r' hr'
     exact k r' (by omega)
   cases b <;> cases w <;> simp_all
  subst hbw
  (refine Cs (Cs (Co (Wm rfl (Wc (OP.lssF rfl rfl (by omega) ?_))))); refine Wt ?_; refine WC.condF rfl (WC.exit ?_); dsimp only [zn, zr, zx, yn, yr]; rw [yx, if_pos rfl]; dsimp only [zn, zr, zx, yn, yr]; refine Cs (Co (Wm rfl (Wm rfl (Wc (OP.eqSelf rfl rfl (Wm rfl (Wt ?_))))))); refine WC.ret ?_; exact Fin.ret rfl rfl)
end
end Go.Proofs.YtalknjppnkpmmaaDoorW.Ai
