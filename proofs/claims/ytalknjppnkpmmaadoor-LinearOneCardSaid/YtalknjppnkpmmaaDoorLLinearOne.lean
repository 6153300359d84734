/-
 The statement LinearOne (chapter 24), as the small machine runs it.
-/
import Derived.Test.YtalknjppnkpmmaaDoorFn95
set_option linter.unusedVariables false
set_option linter.unusedSimpArgs false
set_option maxHeartbeats 4000000
set_option maxRecDepth 100000
namespace Go.Proofs.YtalknjppnkpmmaaDoorW.Ai
def rf_LinearOne (g0 g1 g2 g3 : Nat) : RFunc :=
 ⟨125, [(.tmp 8)], (.seq (.ops [rO 8 (.mv (.const (.bool false)))]) (.seq (.seq (.ops [rO 21 (.call (.func g0) []), rO 22 (.un .not (.tmp 21))]) (.cond (.tmp 22) (.seq (.ops [rO 8 (.mv (.const (.bool false)))]) .ret) .skip)) (.seq (.ops [rO 23 (.mv (.tmp 0)), rO 24 (.conv .u64 (.tmp 23)), rO 25 (.bin .rem (.tmp 24) (.const (.int .u64 3))), rO 26 (.conv .i64 (.tmp 25)), rO 9 (.mv (.tmp 26))]) (.seq (.ops [rO 10 (.new [(.slice .none 0 0), (.slice .none 0 0), (.slice .none 0 0), (.slice .none 0 0)])]) (.seq (.ops [rO 11 (.mv (.const (.slice .none 0 0)))]) (.seq (.seq (.ops [rO 12 (.mv (.const (.int .i64 0)))]) (.block 0 (.loop (.seq (.seq (.ops [rO 27 (.mv (.tmp 12)), rO 28 (.mv (.tmp 1)), rO 29 (.len 1 (.tmp 28)), rO 30 (.bin .lss (.tmp 27) (.tmp 29)), rO 31 (.mv (.tmp 30)), ⟨(.some 32), (.mv (.tmp 12)), (.some (31, true)), false, []⟩, ⟨(.some 33), (.bin .lss (.tmp 32) (.const (.int .i64 20))), (.some (31, true)), false, []⟩, rO 34 (.pick (.tmp 31) (.tmp 33) (.const (.bool false)))]) (.cond (.tmp 34) .skip (.exit 0))) (.seq (.block 1 (.seq (.ops [⟨(.some 38), (.mv (.tmp 9)), .none, true, []⟩, ⟨(.some 39), (.load (.some 4) (.tmp 10)), .none, true, []⟩, ⟨(.some 40), (.mv (.tmp 1)), .none, true, []⟩, ⟨(.some 41), (.mv (.tmp 12)), .none, true, []⟩, ⟨(.some 42), (.idxAddr 3 (.tmp 40) (.tmp 41)), .none, true, []⟩, ⟨(.some 43), (.load (.some 3) (.tmp 42)), .none, true, []⟩, ⟨(.some 44), (.call (.func g1) [(.tmp 38), (.tmp 39), (.tmp 43), (.const (.int .i64 600))]), .none, true, []⟩, ⟨(.some 37), (.mv (.tmp 44)), .none, true, []⟩, ⟨(.some 45), (.extract (.tmp 37) 0), .none, true, []⟩, ⟨(.some 46), (.extract (.tmp 37) 1), .none, true, []⟩, ⟨(.some 47), (.extract (.tmp 37) 2), .none, true, []⟩, ⟨(.some 13), (.new [(.slice .none 0 0), (.slice .none 0 0), (.slice .none 0 0), (.slice .none 0 0)]), .none, true, []⟩, ⟨.none, (.store 4 (.tmp 13) (.tmp 45)), .none, false, []⟩, rO 14 (.mv (.tmp 46)), rO 15 (.mv (.tmp 47))]) (.seq (.seq (.ops [rO 48 (.mv (.tmp 15)), rO 49 (.bin .neq (.tmp 48) (.const (.int .i64 0)))]) (.cond (.tmp 49) (.exit 1) .skip)) (.seq (.ops [rO 50 (.load (.some 4) (.tmp 13)), ⟨.none, (.store 4 (.tmp 10) (.tmp 50)), .none, false, []⟩]) (.ops [⟨(.some 51), (.mv (.tmp 11)), .none, true, []⟩, ⟨(.some 52), (.mv (.tmp 1)), .none, true, []⟩, ⟨(.some 53), (.mv (.tmp 12)), .none, true, []⟩, ⟨(.some 54), (.idxAddr 3 (.tmp 52) (.tmp 53)), .none, true, []⟩, ⟨(.some 55), (.load (.some 3) (.tmp 54)), .none, true, []⟩, ⟨(.some 56), (.build [(.int .i64 0), (.bool false), (.int .i64 0), (.int .i64 0), (.int .i64 0), (.int .i64 0)] [(1, (1, (.const (.bool true)))), (2, (3, (.tmp 55)))]), .none, true, []⟩, ⟨(.some 57), (.mv (.tmp 1)), .none, true, []⟩, ⟨(.some 58), (.mv (.tmp 12)), .none, true, []⟩, ⟨(.some 59), (.idxAddr 3 (.tmp 57) (.tmp 58)), .none, true, []⟩, ⟨(.some 60), (.load (.some 3) (.tmp 59)), .none, true, []⟩, ⟨(.some 61), (.mv (.tmp 14)), .none, true, []⟩, ⟨(.some 62), (.build [(.int .i64 0), (.bool false), (.int .i64 0), (.int .i64 0), (.int .i64 0), (.int .i64 0)] [(2, (3, (.tmp 60))), (5, (1, (.tmp 61)))]), .none, true, []⟩, rO 63 (.buildSlice [(.int .i64 0), (.bool false), (.int .i64 0), (.int .i64 0), (.int .i64 0), (.int .i64 0), (.int .i64 0), (.bool false), (.int .i64 0), (.int .i64 0), (.int .i64 0), (.int .i64 0)] 2 [(0, (6, (.tmp 56))), (6, (6, (.tmp 62)))]), rO 64 (.append 6 48 (.tmp 51) (.tmp 63)), rO 11 (.mv (.tmp 64))]))))) (.ops [rO 35 (.mv (.tmp 12)), rO 36 (.bin .add (.tmp 35) (.const (.int .i64 1))), rO 12 (.mv (.tmp 36))])))))) (.seq (.ops [rO 66 (.mv (.tmp 9)), rO 67 (.mv (.tmp 11)), rO 68 (.call (.func g2) [(.tmp 66), (.tmp 67)]), rO 65 (.mv (.tmp 68)), rO 69 (.extract (.tmp 65) 0), rO 70 (.extract (.tmp 65) 1), rO 16 (.mv (.tmp 69)), rO 17 (.mv (.tmp 70))]) (.seq (.seq (.ops [rO 71 (.mv (.tmp 17)), rO 72 (.call (.func g3) [(.tmp 71)]), rO 73 (.bin .neq (.tmp 72) (.const (.int .i64 0))), rO 74 (.mv (.tmp 73)), ⟨(.some 75), (.mv (.tmp 16)), (.some (74, false)), false, []⟩, ⟨(.some 76), (.un .not (.tmp 75)), (.some (74, false)), false, []⟩, rO 77 (.pick (.tmp 74) (.const (.bool true)) (.tmp 76)), rO 78 (.mv (.tmp 77)), ⟨(.some 79), (.mv (.tmp 11)), (.some (78, false)), false, []⟩, ⟨(.some 80), (.len 1 (.tmp 79)), (.some (78, false)), false, []⟩, ⟨(.some 81), (.bin .eql (.tmp 80) (.const (.int .i64 0))), (.some (78, false)), false, []⟩, rO 82 (.pick (.tmp 78) (.const (.bool true)) (.tmp 81))]) (.cond (.tmp 82) (.seq (.ops [rO 83 (.mv (.tmp 17)), rO 84 (.call (.func g3) [(.tmp 83)]), rO 85 (.bin .eql (.tmp 84) (.const (.int .i64 0))), rO 86 (.mv (.tmp 85)), ⟨(.some 87), (.mv (.tmp 16)), (.some (86, true)), false, []⟩, rO 88 (.pick (.tmp 86) (.tmp 87) (.const (.bool false))), rO 8 (.mv (.tmp 88))]) .ret) .skip)) (.seq (.ops [rO 89 (.mv (.tmp 2)), rO 90 (.conv .u64 (.tmp 89)), rO 91 (.mv (.tmp 11)), rO 92 (.len 1 (.tmp 91)), rO 93 (.bin .quo (.tmp 92) (.const (.int .i64 2))), rO 94 (.conv .u64 (.tmp 93)), rO 95 (.bin .rem (.tmp 90) (.tmp 94)), rO 96 (.conv .i64 (.tmp 95)), rO 97 (.bin .mul (.const (.int .i64 2)) (.tmp 96)), rO 98 (.bin .add (.tmp 97) (.const (.int .i64 1))), rO 18 (.mv (.tmp 98))]) (.seq (.ops [rO 99 (.mv (.tmp 11)), rO 100 (.mv (.tmp 18)), rO 101 (.mv (.tmp 11)), rO 102 (.mv (.tmp 18)), rO 103 (.idxAddr 6 (.tmp 101) (.tmp 102)), rO 104 (.fieldAddr 5 (.tmp 103)), rO 105 (.load .none (.tmp 104)), rO 106 (.bin .add (.tmp 105) (.const (.int .i64 1))), rO 107 (.mv (.tmp 3)), rO 108 (.bin .and (.tmp 107) (.const (.int .i64 255))), rO 109 (.bin .add (.tmp 106) (.tmp 108)), rO 110 (.idxAddr 6 (.tmp 99) (.tmp 100)), rO 111 (.fieldAddr 5 (.tmp 110)), ⟨.none, (.store 1 (.tmp 111) (.tmp 109)), .none, false, []⟩]) (.seq (.ops [rO 113 (.mv (.tmp 9)), rO 114 (.mv (.tmp 11)), rO 115 (.call (.func g2) [(.tmp 113), (.tmp 114)]), rO 112 (.mv (.tmp 115)), rO 116 (.extract (.tmp 112) 0), rO 117 (.extract (.tmp 112) 1), rO 19 (.mv (.tmp 116)), rO 20 (.mv (.tmp 117))]) (.seq (.ops [rO 118 (.mv (.tmp 19)), rO 119 (.un .not (.tmp 118)), rO 120 (.mv (.tmp 119)), ⟨(.some 121), (.mv (.tmp 20)), (.some (120, true)), false, []⟩, ⟨(.some 122), (.call (.func g3) [(.tmp 121)]), (.some (120, true)), false, []⟩, ⟨(.some 123), (.bin .eql (.tmp 122) (.const (.int .i64 0))), (.some (120, true)), false, []⟩, rO 124 (.pick (.tmp 120) (.tmp 123) (.const (.bool false))), rO 8 (.mv (.tmp 124))]) .ret))))))))))))⟩
structure FO where
 i : Nat
 h : AH
 l : List (OpR × Int)
 w0 : Row
 w1 : Row
 w2 : Row
 w3 : Row
 a : Option Addr
theorem Loc.addNilE {h0 h : AH} {l : List Item} (hL : Loc h0 h l) : Loc h0 h (ap h.length h.length 6 none 0 (recs evC []) :: l) :=
 hL.add (Pfx.refl h) (ap h.length h.length 6 none 0 (recs evC [])) rfl rfl ⟨rfl, .inl ⟨rfl, fun x hx => by cases hx⟩⟩
theorem recs_appE (es fs : List EvR) : recs evC (es ++ fs) = recs evC es ++ recs evC fs := by simp [recs]
theorem OL.storeEvX {X : Ext} {F : FuncId → Option RFunc} {lim : Nat} {L : Al} {h0 h : AH} {K : Value → AH → Prop} {l : List Item} {x y : Operand} {a : Option Addr} {n j lo hi k : Nat} {es : List EvR} {e : EvR} {v : Int} (hL : Loc h0 h l) (hlim : lim ≤ h0.length) (hk0 : l[k]? = some (sl lo hi 6 a n n (recs evC es))) (hx : lev L x = some (fptr 6 a j 5)) (hy : lev L y = some (.int .i64 v)) (hj : es[j]? = some e)
  (hk : ∀ h', Loc h0 h' (l.set k (sl lo hi 6 a n n (recs evC (es.set j { e with x := v })))) → K undef h') : OP X F lim (.store 1 x y) L h K := by
 obtain ⟨h1, h2⟩ := List.getElem?_eq_some_iff.1 hj
 have hS := (hL.get hk0).1
 have hl := hS.rlen evC_len (by decide)
 refine .storeF (by decide) hS (hL.get hk0).2 (Nat.le_trans hlim (hL.lo hk0)) hx hy (by omega) (by decide) rfl fun h' g1 g2 g3 => hk h' (hL.put (by omega) hk0 (sl lo hi 6 a n n _) rfl rfl ⟨?_, (hL.get hk0).2⟩ fun b hb _ => g3 b hb)
 rw [over_evX h1, h2] at g1
 exact g1
theorem Loc.addNilSt {h0 h : AH} {l : List Item} (hL : Loc h0 h l) : Loc h0 h (st h.length h.length nilRow nilRow nilRow nilRow :: l) :=
 hL.add (Pfx.refl h) (st h.length h.length nilRow nilRow nilRow nilRow) rfl rfl ⟨nilSt _, nilIn _ _⟩
section
variable {X : Ext} {F : FuncId → Option RFunc} {f : FuncId}
theorem s_LinearOne {g0 g1 g2 g3 : Nat} (hX : X f = none) (hF : F f = some (rf_LinearOne g0 g1 g2 g3)) (d0 : S_yes X F g0) (eo : S_rApplyO X F g1) (e2 : S_lIs X F g2) (d3 : S_Num X F g3)
  (h : AH) {ob at' by' : Int} {a : Option Addr} {n : Nat} {os : List OpR} (hob : R64 ob) (hs : Sl 3 h a n n (recs opC os)) (hf : ∀ s ∈ os, OpFits s) (hn : n ≤ 2 ^ 43) (hat : R64 at') (hby : R64 by') : Ret X F h.length f [.int .i64 ob, .slice a n n, .int .i64 at', .int .i64 by'] h fun v _ => v = .bool true := by
 have hL := Loc.start h
 have hlim : h.length ≤ h.length := Nat.le_refl _
 have hon : os.length = n := hs.rlen opC_len (by decide)
 refine Ret.body hX hF rfl ?_
 simp only [argL, rf_LinearOne]
 (refine Cs (Co (Wm rfl (Wt ?_))); refine Cs (Cs (Co (Wc ?_))); refine OL.callV hL rfl rfl (d0 _ _) (fun h' hp hL => (Wc (OP.not rfl (Wt ?_)))); refine WC.condF rfl (Ks ?_); refine Cs (Co (Wm rfl (Wc ?_))); refine OP.convU rfl (fun u hu => (Wc ?_)); refine OP.remP rfl rfl (by omega) (by omega) (fun m hm hm2 => ?_); refine Wc (OP.convI rfl (by omega) ?_); refine Wm rfl (Wt ?_); refine Cs (Co (Wc ?_)); refine OL.new hL (fun b h' hL => (Wt ?_)); refine Cs (Co (Wm rfl (Wt ?_))); refine Cs (Cs (Co (Wm rfl (Wt ?_)))); refine WC.block ?_)
 obtain ⟨ko, eko⟩ : ∃ ko, ko = m := ⟨m, rfl⟩
 subst eko
 have apx : ∀ (s : S4) (c r a : Int) (N : S4 × Int × Int), ObjM 600 ko s c r a = N → ∀ (lim : Nat) (h' : AH) {r0 r1 r2 r3 : Row}, lim ≤ h'.length → St h' r0 r1 r2 r3 → r0.xs = s.x0 → r1.xs = s.x1 → r2.xs = s.x2 → r3.xs = s.x3 → Ret X F lim g1 [.int .i64 ko, stV r0 r1 r2 r3, .agg #[.int .i64 c, .int .i64 r, .int .i64 a], .int .i64 600] h' fun v h'' => Pfx h' h'' ∧ MadeS h' h'' (fun s0 s1 s2 s3 => .tuple #[stV s0 s1 s2 s3, .int .i64 N.2.1, .int .i64 N.2.2]) N.1 v := by
  intro s c r a N hN lim h' r0 r1 r2 r3 hl hst q0 q1 q2 q3
  have := eo lim h' (ob := ko) (c := c) (r := r) (a := a) (e := 600) hl hst
  rw [q0, q1, q2, q3] at this
  subst hN
  exact this
 obtain ⟨B, ehb⟩ : ∃ B, B = b := ⟨b, rfl⟩
 subst ehb
 have hL := hL.addNilSt.addNilE
 refine WC.loop (fun q : FO => (q.i ≤ n ∧ q.i ≤ 20 ∧ q.l.length ≤ q.i) ∧ (∀ p ∈ q.l, OpOk p.1.c p.1.r p.1.a) ∧ (Leg ko S4.none q.l ∧ ObMay ko (stS ko S4.none q.l)) ∧ (q.w0.xs = (stS ko S4.none q.l).x0 ∧ q.w1.xs = (stS ko S4.none q.l).x1 ∧ q.w2.xs = (stS ko S4.none q.l).x2 ∧ q.w3.xs = (stS ko S4.none q.l).x3) ∧ ∃ l1 l2 l3 l4, Loc h q.h [ap l3 l4 6 q.a (2 * q.l.length) (recs evC (evS q.l)), st l1 l2 q.w0 q.w1 q.w2 q.w3, bx B [q.w0.v, q.w1.v, q.w2.v, q.w3.v]]) (fun q => [(1, .slice a n n), (2, .int .i64 at'), (3, .int .i64 by'), (9, .int .i64 ko), (10, .pointer (some ⟨B, 0, none⟩)), (11, .slice q.a (2 * q.l.length) (2 * q.l.length)), (12, .int .i64 (q.i : Int))]) (fun q => q.h) (fun q => 20 - q.i) ?_ ⟨0, _, [], nilRow, nilRow, nilRow, nilRow, none⟩ ⟨⟨Nat.zero_le _, Nat.zero_le _, Nat.zero_le _⟩, fun p hp => (by cases hp), ⟨trivial, ObMay_none (by omega)⟩, ⟨rfl, rfl, rfl, rfl⟩, _, _, _, _, hL⟩ (by (refine Sub.cons rfl (Sub.cons rfl (Sub.cons rfl (Sub.cons rfl (Sub.cons rfl (Sub.cons rfl (Sub.cons rfl ?_)))))); exact Sub.nil _)) rfl
 clear hL
 intro ⟨i, h2, l, w0, w1, w2, w3, A⟩ ⟨⟨hi, hi20, hli⟩, hop, ⟨hleg, hmay⟩, ⟨e0, e1, e2', e3⟩, l1, l2, l3, l4, hL⟩
 simp only at hi hi20 hli hop hleg hmay e0 e1 e2' e3 hL ⊢
 by_cases hlt : i < os.length ∧ i < 20
 ·have hil := hlt.1
  by_cases ho : OpOk os[i].c os[i].r os[i].a
  ·obtain ⟨s', x, hN, hm'⟩ := ObjM_fine hmay ho
   have hl1 : (l ++ [(os[i], x)]).length = l.length + 1 := by simp
   have HE : Hid ((∀ p ∈ l ++ [(os[i], x)], OpOk p.1.c p.1.r p.1.a) ∧ (Leg ko S4.none (l ++ [(os[i], x)]) ∧ ObMay ko (stS ko S4.none (l ++ [(os[i], x)]))) ∧ stS ko S4.none (l ++ [(os[i], x)]) = s') := by
    have hS : stS ko S4.none (l ++ [(os[i], x)]) = s' := by rw [stS_snoc, hN 600]
    refine ⟨fun p hp => ?_, ⟨(Leg_snoc _ _ _ _ _).2 ⟨hleg, by rw [hN 600]⟩, by rw [hS]; exact hm'⟩, hS⟩
    rcases List.mem_append.1 hp with hp | hp
    ·exact hop p hp
    ·rw [List.mem_singleton.1 hp]; exact ho
   (refine Cs (Cs (Co (Wm rfl (Wm rfl (Wc (OP.lenS rfl (Wc (OP.lssT rfl rfl (by omega) ?_)))))))); refine Wm rfl (WO.yes rfl (Wm rfl (WO.yes rfl (Wc (OP.lssT rfl rfl (by omega) ?_))))); refine Wc (OP.pickT rfl rfl (Wt ?_)); refine WC.condT rfl (Ks ?_); refine Cs (WC.block (Cs (Co (WO.consQ (OP.mv rfl (WO.consQ (OL.loadAll (k := 2) hL rfl rfl rfl (WO.consQ (OP.mv rfl (WO.consQ (OP.mv rfl (WO.consQ (OP.idxS (Sl.pfx (by assumption) (Loc.pfx hL)) rfl rfl (by omega) ?_))))))))))))); refine WO.consQ (OP.ldR opC_len (by decide) (Sl.pfx (by assumption) (Loc.pfx hL)) rfl (by omega) ?_))
   (refine WO.consQ ?_)
   refine OL.callSt hL rfl rfl (apx _ os[i].c os[i].r os[i].a (s', x, 0) (hN 600) _ _ (by first | exact hL.lm hlim | exact Nat.le_refl _) (hL.stM (by repeat (first | exact mh | apply mt))) e0 e1 e2' e3) (fun a0 n0 a1 n1 a2 n2 a3 n3 h' hy hp hL => ?_)
   (try dsimp only at hL ⊢)
   clear hy
   (refine WO.consQ (OP.mv rfl (WO.consQ (OP.extract rfl rfl (WO.consQ (OP.extract rfl rfl (WO.consQ (OP.extract rfl rfl (WO.consQ ?_)))))))); refine OL.new hL (fun b h' hL => (WO.cons0 ?_)); refine OL.storeAll (k := 0) hL hlim rfl rfl rfl rfl rfl rfl (by decide) rfl (fun h' hL => ?_); dsimp only [List.set, Nat.zero_add, Nat.reduceAdd, Nat.reduceMul] at hL; refine Wm rfl (Wm rfl (Wt ?_)); refine Cs (Cs (Co (Wm rfl (Wc (OP.neqF rfl rfl (by omega) ?_))))); refine Wt ?_; refine WC.condF rfl (Ks ?_); refine Cs (Co (Wc (OL.loadAll (k := 0) hL rfl rfl rfl (WO.cons0 ?_)))); refine OL.storeAll (k := 4) hL hlim rfl rfl rfl rfl rfl rfl (by decide) rfl (fun h' hL => ?_); dsimp only [List.set, Nat.zero_add, Nat.reduceAdd, Nat.reduceMul] at hL; refine Wt ?_; refine Co (WO.consQ (OP.mv rfl (WO.consQ (OP.mv rfl (WO.consQ (OP.mv rfl (WO.consQ (OP.idxS (Sl.pfx (by assumption) (Loc.pfx hL)) rfl rfl (by omega) ?_)))))))); refine WO.consQ (OP.ldR opC_len (by decide) (Sl.pfx (by assumption) (Loc.pfx hL)) rfl (by omega) ?_); refine WO.consQ (OP.buildN rfl (by simp [over, Value.cells]; rfl) ?_); refine WO.consQ (OP.mv rfl (WO.consQ (OP.mv rfl (WO.consQ (OP.idxS (Sl.pfx (by assumption) (Loc.pfx hL)) rfl rfl (by omega) ?_))))); refine WO.consQ (OP.ldR opC_len (by decide) (Sl.pfx (by assumption) (Loc.pfx hL)) rfl (by omega) ?_); refine WO.consQ (OP.mv rfl (WO.consQ (OP.buildN rfl (by simp [over, Value.cells]; rfl) ?_))); refine Wc ?_; refine OL.buildSlice hL rfl (by simp [over, Value.cells]; rfl) rfl (fun b h' hL => ?_); refine Wc ?_; refine OL.append (k := 3) hL hlim rfl rfl rfl (Loc.bxAt (k := 0) hL rfl rfl) (by omega) ⟨by omega, by omega, by omega⟩ rfl (fun a' h' hL => ?_); dsimp only [List.eraseIdx] at hL; refine Wm rfl (Wt ?_); refine Co (Wm rfl (Wc (OP.add rfl rfl (by omega) ?_))); refine Wm rfl (Wt ?_))
   have hL2 := ((hL.less (k := 1) rfl).less (k := 1) rfl).less (k := 2) rfl
   dsimp only [List.eraseIdx] at hL2
   obtain ⟨q1, q2, q3⟩ := HE.out
   obtain ⟨l5, l6, l7, l8, hL3⟩ : ∃ l5 l6 l7 l8, Loc h h' [ap l7 l8 6 a' (2 * (l ++ [(os[i], x)]).length) (recs evC (evS (l ++ [(os[i], x)]))), st l5 l6 ⟨a0, n0, s'.x0⟩ ⟨a1, n1, s'.x1⟩ ⟨a2, n2, s'.x2⟩ ⟨a3, n3, s'.x3⟩, bx B [Row.v ⟨a0, n0, s'.x0⟩, Row.v ⟨a1, n1, s'.x1⟩, Row.v ⟨a2, n2, s'.x2⟩, Row.v ⟨a3, n3, s'.x3⟩]] := by
    rw [hl1, Nat.mul_add, evS_snoc, recs_appE]
    exact ⟨_, _, _, _, hL2⟩
   exact ⟨⟨i + 1, h', l ++ [(os[i], x)], ⟨a0, n0, s'.x0⟩, ⟨a1, n1, s'.x1⟩, ⟨a2, n2, s'.x2⟩, ⟨a3, n3, s'.x3⟩, a'⟩, ⟨⟨by simp only; omega, by simp only; omega, by simp only; omega⟩, q1, q2, ⟨by rw [q3], by rw [q3], by rw [q3], by rw [q3]⟩, _, _, _, _, hL3⟩, by simp only; rw [hl1, Nat.mul_add]; (refine Sub.cons rfl (Sub.cons rfl (Sub.cons rfl (Sub.cons rfl (Sub.cons rfl (Sub.cons rfl (Sub.cons rfl ?_)))))); exact Sub.nil _), rfl, by simp only; omega⟩
  ·(refine Cs (Cs (Co (Wm rfl (Wm rfl (Wc (OP.lenS rfl (Wc (OP.lssT rfl rfl (by omega) ?_)))))))); refine Wm rfl (WO.yes rfl (Wm rfl (WO.yes rfl (Wc (OP.lssT rfl rfl (by omega) ?_))))); refine Wc (OP.pickT rfl rfl (Wt ?_)); refine WC.condT rfl (Ks ?_); refine Cs (WC.block (Cs (Co (WO.consQ (OP.mv rfl (WO.consQ (OL.loadAll (k := 2) hL rfl rfl rfl (WO.consQ (OP.mv rfl (WO.consQ (OP.mv rfl (WO.consQ (OP.idxS (Sl.pfx (by assumption) (Loc.pfx hL)) rfl rfl (by omega) ?_))))))))))))); refine WO.consQ (OP.ldR opC_len (by decide) (Sl.pfx (by assumption) (Loc.pfx hL)) rfl (by omega) ?_))
   (refine WO.consQ ?_)
   refine OL.callSt hL rfl rfl (apx _ os[i].c os[i].r os[i].a (S4.none, 0, 600) (ObjM_no (fun hh => ho hh.2)) _ _ (by first | exact hL.lm hlim | exact Nat.le_refl _) (hL.stM (by repeat (first | exact mh | apply mt))) e0 e1 e2' e3) (fun a0 n0 a1 n1 a2 n2 a3 n3 h' hy hp hL => ?_)
   (try dsimp only at hL ⊢)
   clear hy
   (refine WO.consQ (OP.mv rfl (WO.consQ (OP.extract rfl rfl (WO.consQ (OP.extract rfl rfl (WO.consQ (OP.extract rfl rfl (WO.consQ ?_)))))))); refine OL.new hL (fun b h' hL => (WO.cons0 ?_)); refine OL.storeAll (k := 0) hL hlim rfl rfl rfl rfl rfl rfl (by decide) rfl (fun h' hL => ?_); dsimp only [List.set, Nat.zero_add, Nat.reduceAdd, Nat.reduceMul] at hL; refine Wm rfl (Wm rfl (Wt ?_)); refine Cs (Cs (Co (Wm rfl (Wc (OP.neqT rfl rfl (by omega) ?_))))); refine Wt ?_; refine WC.condT rfl (WC.exit ?_); dsimp only [zn, zr, zx, yn, yr]; rw [yx, if_pos rfl]; dsimp only [zn, zr, zx, yn, yr]; refine Co (Wm rfl (Wc (OP.add rfl rfl (by omega) ?_))); refine Wm rfl (Wt ?_))
   exact ⟨⟨i + 1, _, l, w0, w1, w2, w3, A⟩, ⟨⟨by simp only; omega, by simp only; omega, by simp only; omega⟩, hop, ⟨hleg, hmay⟩, ⟨e0, e1, e2', e3⟩, _, _, _, _, hL.tail.tail⟩, by (refine Sub.cons rfl (Sub.cons rfl (Sub.cons rfl (Sub.cons rfl (Sub.cons rfl (Sub.cons rfl (Sub.cons rfl ?_)))))); exact Sub.nil _), rfl, by simp only; omega⟩
 by_cases hlt2 : (i : Int) < n
 ·have hi2 : ¬ (i : Int) < 20 := by omega
  have HI : Hid (IsL ko (evS l) = (true, 0)) := IsL_one (by omega) (by omega) hop ⟨fun _ => hleg, fun _ => rfl⟩
  have hL := hL.asSl (k := 0) rfl
  dsimp only [List.set] at hL
  (refine Cs (Cs (Co (Wm rfl (Wm rfl (Wc (OP.lenS rfl (Wc (OP.lssT rfl rfl (by omega) ?_)))))))); refine Wm rfl (WO.yes rfl (Wm rfl (WO.yes rfl (Wc (OP.lssF rfl rfl (by omega) ?_))))); refine Wc (OP.pickT rfl rfl (Wt ?_)); refine WC.condF rfl (WC.exit ?_); dsimp only [zn, zr, zx, yn, yr]; rw [yx, if_pos rfl]; dsimp only [zn, zr, zx, yn, yr]; refine Cs (Co (Wm rfl (Wm rfl ?_))))
  (refine Wc ?_)
  refine OL.callV (V := .tuple #[.bool true, .int .i64 0]) hL rfl rfl ((e2 _ _ (ob := ko) (es := evS l) hL.len (hL.slAt (k := 0) rfl) (by omega)).mono fun v h' ⟨p, q⟩ => ⟨p, by rw [q, HI.out]⟩) (fun h' hp hL => ?_)
  (refine Wm rfl (Wc (OP.extract rfl rfl (Wc (OP.extract rfl rfl (Wm rfl (Wm rfl (Wt ?_))))))); refine Cs (Cs (Co (Wm rfl (Wc ?_)))); refine OL.callV hL rfl rfl (d3 _ _ (by first | omega | assumption | exact St.pfx (by assumption) hL.pfx | exact hL.stM (by repeat (first | exact mh | apply mt)) | exact RowOk.pfx (by assumption) hL.pfx | exact (hL.stM (by repeat (first | exact mh | apply mt))).1 | exact (hL.stM (by repeat (first | exact mh | apply mt))).2.1 | exact (hL.stM (by repeat (first | exact mh | apply mt))).2.2.1 | exact (hL.stM (by repeat (first | exact mh | apply mt))).2.2.2)) (fun h' hp hL => ?_); refine Wc (OP.neqF rfl rfl (by omega) ?_); refine Wm rfl (WO.yes rfl (Wm rfl (WO.yes rfl (Wc (OP.not rfl (Wc (OP.pickF rfl rfl (Wm rfl (WO.yes rfl (Wm rfl (WO.yes rfl (Wc (OP.lenS rfl (WO.yes rfl (Wc ?_))))))))))))))); refine OP.eqlC rfl rfl (fun hc => ?_) (fun hc => ?_); refine Wc (OP.pickF rfl rfl (Wt ?_)); refine WC.condT rfl (Cs (Co (Wm rfl (Wc ?_)))); refine OL.callV hL rfl rfl (d3 _ _ (by first | omega | assumption | exact St.pfx (by assumption) hL.pfx | exact hL.stM (by repeat (first | exact mh | apply mt)) | exact RowOk.pfx (by assumption) hL.pfx | exact (hL.stM (by repeat (first | exact mh | apply mt))).1 | exact (hL.stM (by repeat (first | exact mh | apply mt))).2.1 | exact (hL.stM (by repeat (first | exact mh | apply mt))).2.2.1 | exact (hL.stM (by repeat (first | exact mh | apply mt))).2.2.2)) (fun h' hp hL => ?_); refine Wc (OP.eqlT rfl rfl (by omega) ?_); refine Wm rfl (WO.yes rfl (Wm rfl (Wc (OP.pickT rfl rfl (Wm rfl (Wt ?_)))))); refine WC.ret ?_; dsimp only [zn, zr, zx, yn, yr]; exact Fin.ret rfl rfl; refine Wc (OP.pickF rfl rfl (Wt ?_)); refine WC.condF rfl (Ks ?_); refine Cs (Co (Wm rfl (Wc ?_))); refine OP.convU rfl (fun u hu => (Wm rfl (Wc (OP.lenS rfl (Wc ?_))))); refine OP.quoP rfl rfl (by omega) (by omega) (fun m hm hm2 => ?_); refine Wc ?_; refine OP.convU rfl (fun u hu => (Wc ?_)); refine OP.remP rfl rfl (by omega) (by omega) (fun m hm hm2 => ?_); refine Wc (OP.convI rfl (by omega) ?_); refine Wc (OP.mulI rfl rfl (by omega) ?_); refine Wc (OP.add rfl rfl (by omega) ?_); refine Wm rfl (Wt ?_); refine Cs (Co (Wm rfl (Wm rfl (Wm rfl (Wm rfl (Wc (OP.idxZ (hL.slM (by repeat (first | exact mh | apply mt))) rfl rfl (by omega) ?_))))))); refine Wc (OP.fieldE (hL.slM (by repeat (first | exact mh | apply mt))) rfl (by omega) ?_))
  have hj : m.toNat < l.length := by omega
  obtain ⟨o, x, hox⟩ : ∃ o x, l[m.toNat]? = some (o, x) := ⟨l[m.toNat].1, l[m.toNat].2, by rw [List.getElem?_eq_getElem hj]⟩
  have hxr := Leg_rng (ObMay_none (by omega)) hop hleg _ (List.mem_of_getElem? hox)
  have hge := evS_get hox
  rw [show 2 * m.toNat + 1 = (2 * m + 1).toNat by omega] at hge
  obtain ⟨hge1, hge2⟩ := List.getElem?_eq_some_iff.1 hge
  have HX : Hid (l[m.toNat]? = some (o, x)) := hox
  clear hox hge
  simp only at hxr
  (refine Wc ?_)
  refine OP.ldF (f := 5) (v := .int .i64 x) evC_len (hL.slAt (k := 0) rfl) rfl hge1 (by decide) (by rw [hge2]; rfl) ?_
  (refine Wc (OP.add rfl rfl (by omega) ?_); refine Wm rfl (Wc ?_); refine OP.andN rfl rfl (by omega) (fun hm2 => ?_); refine Wc (OP.add rfl rfl (by omega) ?_); refine Wc (OP.idxZ (hL.slM (by repeat (first | exact mh | apply mt))) rfl rfl (by omega) ?_); refine Wc (OP.fieldE (hL.slM (by repeat (first | exact mh | apply mt))) rfl (by omega) ?_))
  have hset := evS_set (y := x + 1 + mask by' 255) HX.out
  have HF : Hid (IsL ko (evS (l.set m.toNat (o, x + 1 + mask by' 255))) = (false, 0)) := IsL_one (by omega) (by rw [List.length_set]; omega) (fun p hp => by
   rcases List.mem_or_eq_of_mem_set hp with hp | rfl
   ·exact hop p hp
   ·have := hop _ (List.mem_of_getElem? HX.out); exact this) ⟨fun q => (by cases q), fun q => absurd (Leg_other hleg HX.out q) (by omega)⟩
  (refine WO.cons0 ?_)
  refine OL.storeEvX (k := 0) hL hlim rfl rfl rfl (by rw [List.getElem?_eq_getElem hge1, hge2]) (fun h' hL => ?_)
  dsimp only [List.set] at hL
  rw [show (2 * m + 1).toNat = 2 * m.toNat + 1 by omega] at hL
  rw [hset] at hL
  (refine Wt ?_; refine Cs (Co (Wm rfl (Wm rfl ?_))))
  (refine Wc ?_)
  refine OL.callV (V := .tuple #[.bool false, .int .i64 0]) hL rfl rfl ((e2 _ _ (ob := ko) (es := evS (l.set m.toNat (o, x + 1 + mask by' 255))) hL.len (hL.slAt (k := 0) rfl) (by omega)).mono fun v h' ⟨p, q⟩ => ⟨p, by rw [q, HF.out]⟩) (fun h' hp hL => ?_)
  (refine Wm rfl (Wc (OP.extract rfl rfl (Wc (OP.extract rfl rfl (Wm rfl (Wm rfl (Wt ?_))))))); refine Cs (Co (Wm rfl (Wc (OP.not rfl (Wm rfl (WO.yes rfl (Wm rfl (WO.yes rfl (Wc ?_))))))))); refine OL.callV hL rfl rfl (d3 _ _ (by first | omega | assumption | exact St.pfx (by assumption) hL.pfx | exact hL.stM (by repeat (first | exact mh | apply mt)) | exact RowOk.pfx (by assumption) hL.pfx | exact (hL.stM (by repeat (first | exact mh | apply mt))).1 | exact (hL.stM (by repeat (first | exact mh | apply mt))).2.1 | exact (hL.stM (by repeat (first | exact mh | apply mt))).2.2.1 | exact (hL.stM (by repeat (first | exact mh | apply mt))).2.2.2)) (fun h' hp hL => ?_); refine WO.yes rfl (Wc (OP.eqlT rfl rfl (by omega) ?_)); refine Wc (OP.pickT rfl rfl (Wm rfl (Wt ?_))); refine WC.ret ?_; exact Fin.ret rfl rfl)
 ·skip
  have HI : Hid (IsL ko (evS l) = (true, 0)) := IsL_one (by omega) (by omega) hop ⟨fun _ => hleg, fun _ => rfl⟩
  have hL := hL.asSl (k := 0) rfl
  dsimp only [List.set] at hL
  (refine Cs (Cs (Co (Wm rfl (Wm rfl (Wc (OP.lenS rfl (Wc (OP.lssF rfl rfl (by omega) ?_)))))))); refine Wm rfl (WO.no rfl (WO.no rfl (Wc (OP.pickF rfl rfl (Wt ?_))))); refine WC.condF rfl (WC.exit ?_); dsimp only [zn, zr, zx, yn, yr]; rw [yx, if_pos rfl]; dsimp only [zn, zr, zx, yn, yr]; refine Cs (Co (Wm rfl (Wm rfl ?_))))
  (refine Wc ?_)
  refine OL.callV (V := .tuple #[.bool true, .int .i64 0]) hL rfl rfl ((e2 _ _ (ob := ko) (es := evS l) hL.len (hL.slAt (k := 0) rfl) (by omega)).mono fun v h' ⟨p, q⟩ => ⟨p, by rw [q, HI.out]⟩) (fun h' hp hL => ?_)
  (refine Wm rfl (Wc (OP.extract rfl rfl (Wc (OP.extract rfl rfl (Wm rfl (Wm rfl (Wt ?_))))))); refine Cs (Cs (Co (Wm rfl (Wc ?_)))); refine OL.callV hL rfl rfl (d3 _ _ (by first | omega | assumption | exact St.pfx (by assumption) hL.pfx | exact hL.stM (by repeat (first | exact mh | apply mt)) | exact RowOk.pfx (by assumption) hL.pfx | exact (hL.stM (by repeat (first | exact mh | apply mt))).1 | exact (hL.stM (by repeat (first | exact mh | apply mt))).2.1 | exact (hL.stM (by repeat (first | exact mh | apply mt))).2.2.1 | exact (hL.stM (by repeat (first | exact mh | apply mt))).2.2.2)) (fun h' hp hL => ?_); refine Wc (OP.neqF rfl rfl (by omega) ?_); refine Wm rfl (WO.yes rfl (Wm rfl (WO.yes rfl (Wc (OP.not rfl (Wc (OP.pickF rfl rfl (Wm rfl (WO.yes rfl (Wm rfl (WO.yes rfl (Wc (OP.lenS rfl (WO.yes rfl (Wc ?_))))))))))))))); refine OP.eqlC rfl rfl (fun hc => ?_) (fun hc => ?_); refine Wc (OP.pickF rfl rfl (Wt ?_)); refine WC.condT rfl (Cs (Co (Wm rfl (Wc ?_)))); refine OL.callV hL rfl rfl (d3 _ _ (by first | omega | assumption | exact St.pfx (by assumption) hL.pfx | exact hL.stM (by repeat (first | exact mh | apply mt)) | exact RowOk.pfx (by assumption) hL.pfx | exact (hL.stM (by repeat (first | exact mh | apply mt))).1 | exact (hL.stM (by repeat (first | exact mh | apply mt))).2.1 | exact (hL.stM (by repeat (first | exact mh | apply mt))).2.2.1 | exact (hL.stM (by repeat (first | exact mh | apply mt))).2.2.2)) (fun h' hp hL => ?_); refine Wc (OP.eqlT rfl rfl (by omega) ?_); refine Wm rfl (WO.yes rfl (Wm rfl (Wc (OP.pickT rfl rfl (Wm rfl (Wt ?_)))))); refine WC.ret ?_; dsimp only [zn, zr, zx, yn, yr]; exact Fin.ret rfl rfl; refine Wc (OP.pickF rfl rfl (Wt ?_)); refine WC.condF rfl (Ks ?_); refine Cs (Co (Wm rfl (Wc ?_))); refine OP.convU rfl (fun u hu => (Wm rfl (Wc (OP.lenS rfl (Wc ?_))))); refine OP.quoP rfl rfl (by omega) (by omega) (fun m hm hm2 => ?_); refine Wc ?_; refine OP.convU rfl (fun u hu => (Wc ?_)); refine OP.remP rfl rfl (by omega) (by omega) (fun m hm hm2 => ?_); refine Wc (OP.convI rfl (by omega) ?_); refine Wc (OP.mulI rfl rfl (by omega) ?_); refine Wc (OP.add rfl rfl (by omega) ?_); refine Wm rfl (Wt ?_); refine Cs (Co (Wm rfl (Wm rfl (Wm rfl (Wm rfl (Wc (OP.idxZ (hL.slM (by repeat (first | exact mh | apply mt))) rfl rfl (by omega) ?_))))))); refine Wc (OP.fieldE (hL.slM (by repeat (first | exact mh | apply mt))) rfl (by omega) ?_))
  have hj : m.toNat < l.length := by omega
  obtain ⟨o, x, hox⟩ : ∃ o x, l[m.toNat]? = some (o, x) := ⟨l[m.toNat].1, l[m.toNat].2, by rw [List.getElem?_eq_getElem hj]⟩
  have hxr := Leg_rng (ObMay_none (by omega)) hop hleg _ (List.mem_of_getElem? hox)
  have hge := evS_get hox
  rw [show 2 * m.toNat + 1 = (2 * m + 1).toNat by omega] at hge
  obtain ⟨hge1, hge2⟩ := List.getElem?_eq_some_iff.1 hge
  have HX : Hid (l[m.toNat]? = some (o, x)) := hox
  clear hox hge
  simp only at hxr
  (refine Wc ?_)
  refine OP.ldF (f := 5) (v := .int .i64 x) evC_len (hL.slAt (k := 0) rfl) rfl hge1 (by decide) (by rw [hge2]; rfl) ?_
  (refine Wc (OP.add rfl rfl (by omega) ?_); refine Wm rfl (Wc ?_); refine OP.andN rfl rfl (by omega) (fun hm2 => ?_); refine Wc (OP.add rfl rfl (by omega) ?_); refine Wc (OP.idxZ (hL.slM (by repeat (first | exact mh | apply mt))) rfl rfl (by omega) ?_); refine Wc (OP.fieldE (hL.slM (by repeat (first | exact mh | apply mt))) rfl (by omega) ?_))
  have hset := evS_set (y := x + 1 + mask by' 255) HX.out
  have HF : Hid (IsL ko (evS (l.set m.toNat (o, x + 1 + mask by' 255))) = (false, 0)) := IsL_one (by omega) (by rw [List.length_set]; omega) (fun p hp => by
   rcases List.mem_or_eq_of_mem_set hp with hp | rfl
   ·exact hop p hp
   ·have := hop _ (List.mem_of_getElem? HX.out); exact this) ⟨fun q => (by cases q), fun q => absurd (Leg_other hleg HX.out q) (by omega)⟩
  (refine WO.cons0 ?_)
  refine OL.storeEvX (k := 0) hL hlim rfl rfl rfl (by rw [List.getElem?_eq_getElem hge1, hge2]) (fun h' hL => ?_)
  dsimp only [List.set] at hL
  rw [show (2 * m + 1).toNat = 2 * m.toNat + 1 by omega] at hL
  rw [hset] at hL
  (refine Wt ?_; refine Cs (Co (Wm rfl (Wm rfl ?_))))
  (refine Wc ?_)
  refine OL.callV (V := .tuple #[.bool false, .int .i64 0]) hL rfl rfl ((e2 _ _ (ob := ko) (es := evS (l.set m.toNat (o, x + 1 + mask by' 255))) hL.len (hL.slAt (k := 0) rfl) (by omega)).mono fun v h' ⟨p, q⟩ => ⟨p, by rw [q, HF.out]⟩) (fun h' hp hL => ?_)
  (refine Wm rfl (Wc (OP.extract rfl rfl (Wc (OP.extract rfl rfl (Wm rfl (Wm rfl (Wt ?_))))))); refine Cs (Co (Wm rfl (Wc (OP.not rfl (Wm rfl (WO.yes rfl (Wm rfl (WO.yes rfl (Wc ?_))))))))); refine OL.callV hL rfl rfl (d3 _ _ (by first | omega | assumption | exact St.pfx (by assumption) hL.pfx | exact hL.stM (by repeat (first | exact mh | apply mt)) | exact RowOk.pfx (by assumption) hL.pfx | exact (hL.stM (by repeat (first | exact mh | apply mt))).1 | exact (hL.stM (by repeat (first | exact mh | apply mt))).2.1 | exact (hL.stM (by repeat (first | exact mh | apply mt))).2.2.1 | exact (hL.stM (by repeat (first | exact mh | apply mt))).2.2.2)) (fun h' hp hL => ?_); refine WO.yes rfl (Wc (OP.eqlT rfl rfl (by omega) ?_)); refine Wc (OP.pickT rfl rfl (Wm rfl (Wt ?_))); refine WC.ret ?_; exact Fin.ret rfl rfl)
end
end Go.Proofs.YtalknjppnkpmmaaDoorW.Ai
