/-
 Operations one behind the other (chapter 12), as the small machine runs them.
-/
import Derived.Test.YtdcpmchhioilpaaFn52
import Derived.Test.YtdcpmchhioilpaaFn44
set_option linter.unusedVariables false
set_option linter.unusedSimpArgs false
set_option maxHeartbeats 4000000
set_option maxRecDepth 100000
namespace Go.Proofs.YtdcpmchhioilpaaW.Ai
-- chorus/fold.Fold; g0 = chorus/object.May; g1 = chorus/store.Copy; g2 = chorus/object.Apply
def rf_fFold (g0 g1 g2 : Nat) : RFunc :=
 ⟨48, [(.cell 6 (.some 4)), (.tmp 7), (.tmp 8)], (.seq (.ops [rO 4 (.box (.tmp 1)), rO 6 (.new [(.slice .none 0 0), (.slice .none 0 0), (.slice .none 0 0), (.slice .none 0 0)]), rO 7 (.mv (.const (.slice .none 0 0))), rO 8 (.mv (.const (.int .i64 0)))]) (.seq (.seq (.ops [rO 16 (.mv (.tmp 0)), rO 17 (.load (.some 4) (.tmp 4)), rO 18 (.call (.func g0) [(.tmp 16), (.tmp 17)]), rO 19 (.un .not (.tmp 18))]) (.cond (.tmp 19) (.seq (.ops [rO 20 (.build [(.slice .none 0 0), (.slice .none 0 0), (.slice .none 0 0), (.slice .none 0 0)] []), ⟨.none, (.store 4 (.tmp 6) (.tmp 20)), .none, false, []⟩, rO 7 (.mv (.const (.slice .none 0 0))), rO 8 (.mv (.const (.int .i64 1200)))]) .ret) .skip)) (.seq (.ops [rO 21 (.load (.some 4) (.tmp 4)), rO 22 (.call (.func g1) [(.tmp 21)]), rO 9 (.new [(.slice .none 0 0), (.slice .none 0 0), (.slice .none 0 0), (.slice .none 0 0)]), ⟨.none, (.store 4 (.tmp 9) (.tmp 22)), .none, false, []⟩]) (.seq (.ops [rO 10 (.mv (.const (.slice .none 0 0)))]) (.seq (.seq (.ops [rO 23 (.mv (.tmp 2)), rO 24 (.len 1 (.tmp 23)), rO 25 (.mv (.const (.int .i64 0)))]) (.block 0 (.loop (.seq (.ops [rO 26 (.bin .lss (.tmp 25) (.tmp 24))]) (.seq (.cond (.tmp 26) .skip (.exit 0)) (.seq (.block 1 (.seq (.ops [rO 27 (.idxAddr 3 (.tmp 23) (.tmp 25)), rO 28 (.load (.some 3) (.tmp 27)), rO 12 (.new [(.int .i64 0), (.int .i64 0), (.int .i64 0)]), ⟨.none, (.store 3 (.tmp 12) (.tmp 28)), .none, false, []⟩]) (.seq (.ops [rO 30 (.mv (.tmp 0)), rO 31 (.load (.some 4) (.tmp 9)), rO 32 (.load (.some 3) (.tmp 12)), rO 33 (.call (.func g2) [(.tmp 30), (.tmp 31), (.tmp 32)]), rO 29 (.mv (.tmp 33)), rO 34 (.extract (.tmp 29) 0), rO 35 (.extract (.tmp 29) 1), rO 36 (.extract (.tmp 29) 2), rO 13 (.new [(.slice .none 0 0), (.slice .none 0 0), (.slice .none 0 0), (.slice .none 0 0)]), ⟨.none, (.store 4 (.tmp 13) (.tmp 34)), .none, false, []⟩, rO 14 (.mv (.tmp 35)), rO 15 (.mv (.tmp 36))]) (.seq (.seq (.ops [rO 37 (.mv (.tmp 15)), rO 38 (.bin .neq (.tmp 37) (.const (.int .i64 0)))]) (.cond (.tmp 38) (.seq (.ops [rO 39 (.build [(.slice .none 0 0), (.slice .none 0 0), (.slice .none 0 0), (.slice .none 0 0)] []), ⟨.none, (.store 4 (.tmp 6) (.tmp 39)), .none, false, []⟩, rO 7 (.mv (.const (.slice .none 0 0))), rO 8 (.mv (.const (.int .i64 1200)))]) .ret) .skip)) (.ops [⟨(.some 40), (.load (.some 4) (.tmp 13)), .none, true, []⟩, ⟨(.some 41), (.mv (.tmp 10)), .none, true, []⟩, rO 42 (.mv (.tmp 14)), ⟨(.some 43), (.buildSlice [(.int .i64 0)] 1 [(0, (1, (.tmp 42)))]), .none, false, [(.tmp 13)]⟩, ⟨(.some 44), (.append 1 8 (.tmp 41) (.tmp 43)), .none, false, [(.tmp 13)]⟩, ⟨.none, (.store 4 (.tmp 9) (.tmp 40)), .none, false, []⟩, rO 10 (.mv (.tmp 44))]))))) (.ops [rO 45 (.bin .add (.tmp 25) (.const (.int .i64 1))), rO 25 (.mv (.tmp 45))]))))))) (.seq (.ops [rO 46 (.load (.some 4) (.tmp 9)), rO 47 (.mv (.tmp 10)), ⟨.none, (.store 4 (.tmp 6) (.tmp 46)), .none, false, []⟩, rO 7 (.mv (.tmp 47)), rO 8 (.mv (.const (.int .i64 0)))]) .ret))))))⟩
/-- Operations, one behind the other: the state, the answers. -/
def runS (ob : Int) : S4 → List OpR → S4
 | s, [] => s
 | s, o :: os => runS ob (ObjM 0 ob s o.c o.r o.a).1 os
def runX (ob : Int) : S4 → List OpR → List Int
 | _, [] => []
 | s, o :: os => (ObjM 0 ob s o.c o.r o.a).2.1 :: runX ob (ObjM 0 ob s o.c o.r o.a).1 os
theorem runS_app (ob : Int) : ∀ (os ps : List OpR) (s : S4), runS ob s (os ++ ps) = runS ob (runS ob s os) ps
 | [], ps, s => rfl
 | o :: os, ps, s => runS_app ob os ps _
theorem runX_app (ob : Int) : ∀ (os ps : List OpR) (s : S4), runX ob s (os ++ ps) = runX ob s os ++ runX ob (runS ob s os) ps
 | [], ps, s => rfl
 | o :: os, ps, s => congrArg _ (runX_app ob os ps _)
theorem runX_len (ob : Int) : ∀ (os : List OpR) (s : S4), (runX ob s os).length = os.length
 | [], s => rfl
 | o :: os, s => congrArg (· + 1) (runX_len ob os _)
def OpsOk (os : List OpR) : Prop := ∀ o ∈ os, OpOk o.c o.r o.a
instance (os : List OpR) : Decidable (OpsOk os) := inferInstanceAs (Decidable (∀ o ∈ os, OpOk o.c o.r o.a))
theorem ObjM_fine {ob : Int} {s : S4} {c r a : Int} (h : ObMay ob s) (ho : OpOk c r a) : ∃ s' x, (∀ e, ObjM e ob s c r a = (s', x, 0)) ∧ ObMay ob s' := by
 by_cases hc : c = 3
 ·subst hc
  exact ⟨s, _, fun e => ObjM_scan h ho, h⟩
 ·have ha : 0 ≤ a ∧ a ≤ 255 := by unfold OpOk at ho; omega
  exact ⟨_, _, fun e => ObjM_row h ho hc, ObMay_put h (rowM_may (RowMay_get h) ha)⟩
theorem runS_may {ob : Int} : ∀ {os : List OpR} {s : S4}, ObMay ob s → OpsOk os → ObMay ob (runS ob s os)
 | [], s, h, _ => h
 | o :: os, s, h, ho => by
  obtain ⟨s', x, hN, hm⟩ := ObjM_fine h (ho o (List.mem_cons_self ..))
  have : runS ob s (o :: os) = runS ob s' os := by rw [runS, hN 0]
  rw [this]
  exact runS_may hm fun p hp => ho p (List.mem_cons_of_mem _ hp)
/-- What Fold answers. -/
def FoldR (ob : Int) (s : S4) (os : List OpR) : S4 × List Int × Int := if ObMay ob s ∧ OpsOk os then (runS ob s os, runX ob s os, 0) else (S4.none, [], 1200)
def MadeF (h h' : AH) (s : S4) (xs : List Int) (e : Int) (v : Value) : Prop := ∃ (r0 r1 r2 r3 : Row) (a : Option Addr) (n mid : Nat), v = .tuple #[stV r0 r1 r2 r3, .slice a n n, .int .i64 e] ∧ (r0.xs = s.x0 ∧ r1.xs = s.x1 ∧ r2.xs = s.x2 ∧ r3.xs = s.x3) ∧ (h.length ≤ mid ∧ mid ≤ h'.length) ∧ (St h' r0 r1 r2 r3 ∧ StIn h.length mid r0 r1 r2 r3) ∧ Ap mid h'.length 1 h' a n (ints xs)
section
variable (X : Ext) (F : FuncId → Option RFunc) (g : FuncId)
abbrev S_fFold : Prop := ∀ (lim : Nat) (h : AH) {r0 r1 r2 r3 : Row} {ob : Int} {a : Option Addr} {n c : Nat} {os : List OpR}, lim ≤ h.length → St h r0 r1 r2 r3 → Sl 3 h a n c (recs opC os) → n ≤ 2 ^ 43 → Ret X F lim g [.int .i64 ob, stV r0 r1 r2 r3, .slice a n c] h fun v h' => Pfx h h' ∧ MadeF h h' (FoldR ob ⟨r0.xs, r1.xs, r2.xs, r3.xs⟩ os).1 (FoldR ob ⟨r0.xs, r1.xs, r2.xs, r3.xs⟩ os).2.1 (FoldR ob ⟨r0.xs, r1.xs, r2.xs, r3.xs⟩ os).2.2 v
end
section
variable {X : Ext} {F : FuncId → Option RFunc} {lim : Nat} {L : Al} {h0 h : AH} {K : Value → AH → Prop} {l : List Item}
theorem WO.consAb {r : List RO} {d len : Nat} {z : List Value} {parts : List (Nat × Nat × Operand)} {av : List Operand} {Q : Al → AH → Prop} (hav : ∀ x ∈ av, ∃ c, lev L x = some (.pointer (some c))) (W : OP X F lim (.buildSlice z len parts) L h fun v h' => WO X F lim r ((d, v) :: L) h' Q) : WO X F lim (⟨some d, .buildSlice z len parts, none, false, av⟩ :: r) L h Q := fun e he => by
 obtain ⟨k, v, h', h1, h2⟩ := W e he
 refine wo_run ?_ rfl h1 (he.upd d v) h2
 rw [List.all_eq_true]
 intro x hx
 obtain ⟨c, g1⟩ := hav x hx
 simp only [apart, he.ev g1]
theorem WO.consAn {r : List RO} {d n bytes : Nat} {s x : Operand} {av : List Operand} {Q : Al → AH → Prop} {q c : Nat} (hs : lev L s = some (.slice none q c)) (hav : ∀ x ∈ av, ∃ c, lev L x = some (.pointer (some c))) (W : OP X F lim (.append n bytes s x) L h fun v h' => WO X F lim r ((d, v) :: L) h' Q) : WO X F lim (⟨some d, .append n bytes s x, none, false, av⟩ :: r) L h Q := fun e he => by
 obtain ⟨k, v, h', h1, h2⟩ := W e he
 refine wo_run ?_ rfl h1 (he.upd d v) h2
 rw [List.all_eq_true]
 intro x hx
 obtain ⟨c, g1⟩ := hav x hx
 simp only [apart, he.ev g1, he.ev hs]
/-- A call that makes a state and a row of numbers. -/
theorem OL.callF {f : Operand} {g : FuncId} {xs : List Operand} {vs : List Value} {s : S4} {ys : List Int} {e : Int} (hL : Loc h0 h l) (hf : lev L f = some (.func (.func g) #[] #[])) (ha : levs L xs = some vs) (hr : Ret X F lim g vs h fun v h' => Pfx h h' ∧ MadeF h h' s ys e v)
  (hk : ∀ a0 n0 a1 n1 a2 n2 a3 n3 a n mid h', (s.x0.length = n0 ∧ s.x1.length = n1 ∧ s.x2.length = n2 ∧ s.x3.length = n3 ∧ ys.length = n) → Pfx h h' → Loc h0 h' (ap mid h'.length 1 a n (ints ys) :: st h.length mid ⟨a0, n0, s.x0⟩ ⟨a1, n1, s.x1⟩ ⟨a2, n2, s.x2⟩ ⟨a3, n3, s.x3⟩ :: l) → K (.tuple #[stV ⟨a0, n0, s.x0⟩ ⟨a1, n1, s.x1⟩ ⟨a2, n2, s.x2⟩ ⟨a3, n3, s.x3⟩, .slice a n n, .int .i64 e]) h') : OP X F lim (.call f xs) L h K :=
 .call hf ha (hr.mono fun v h' ⟨hp, ⟨a0, n0, x0⟩, ⟨a1, n1, x1⟩, ⟨a2, n2, x2⟩, ⟨a3, n3, x3⟩, a, n, mid, hv, ⟨e0, e1, e2, e3⟩, ⟨m1, m2⟩, hs, hA⟩ => by
  simp only at e0 e1 e2 e3
  subst e0 e1 e2 e3
  subst hv
  refine hk a0 n0 a1 n1 a2 n2 a3 n3 a n mid h' ⟨hs.1.1.1.ilen, hs.1.2.1.1.ilen, hs.1.2.2.1.1.ilen, hs.1.2.2.2.1.ilen, hA.sl.1.ilen⟩ hp ?_
  have hb : LocB h0 h' h.length l := LocB.same hL (Nat.le_refl _) hp.1 hp.2
  exact ⟨m2, Nat.le_refl _, hA, m1, Nat.le_refl _, hs, hb⟩)
end
structure FL where
 i : Nat
 h : AH
 w0 : Row
 w1 : Row
 w2 : Row
 w3 : Row
 a : Option Addr
section
variable {X : Ext} {F : FuncId → Option RFunc} {f : FuncId}
theorem s_fFold {g0 g1 g2 : Nat} (hX : X f = none) (hF : F f = some (rf_fFold g0 g1 g2)) (em : S_oMay3 X F g0) (d1 : S_sCopy X F g1) (eo : S_oApply X F g2) : S_fFold X F f := by
 intro lim h r0 r1 r2 r3 ob a n c os hlim hst hs hn
 have hL := Loc.start h
 have hon : os.length = n := hs.rlen opC_len (by decide)
 refine Ret.body hX hF rfl ?_
 simp only [argL, rf_fFold]
 by_cases hm : ObMay ob ⟨r0.xs, r1.xs, r2.xs, r3.xs⟩
 ·have d6 : ∀ lim h', Pfx h h' → Ret X F lim g0 [.int .i64 ob, stV r0 r1 r2 r3] h' fun v h'' => Pfx h' h'' ∧ v = .bool true := fun lim h' hp => (decide_eq_true hm) ▸ em lim h' (hst.pfx hp)
  (refine Cs (Co ?_); dsimp only [zn, zr, zx, yn, yr])
  (refine Wc ?_; refine OL.boxA hL rfl rfl (fun B4 h1 hL => ?_))
  (refine Wc ?_; refine OL.new hL (fun B6 h2 hL => ?_))
  (refine Wm rfl (Wm rfl (Wn (Cs (Cs (Co (Wm rfl (Wc (OL.loadAll (k := 1) hL rfl rfl rfl (Wc ?_))))))))); refine OL.callV hL rfl rfl (d6 _ _ hL.pfx) (fun h' hp hL => (Wc (OP.not rfl (Wt ?_)))); refine WC.condF rfl (Ks ?_); refine Cs (Co (Wc (OL.loadAll (k := 1) hL rfl rfl rfl (Wc ?_)))); refine OL.callSt hL rfl rfl (d1 _ _ (by first | exact hL.lm hlim | exact Nat.le_refl _ | omega) (by first | omega | assumption | exact St.pfx (by assumption) hL.pfx | exact hL.stM (by repeat (first | exact mh | apply mt)) | exact RowOk.pfx (by assumption) hL.pfx | exact (hL.stM (by repeat (first | exact mh | apply mt))).1 | exact (hL.stM (by repeat (first | exact mh | apply mt))).2.1 | exact (hL.stM (by repeat (first | exact mh | apply mt))).2.2.1 | exact (hL.stM (by repeat (first | exact mh | apply mt))).2.2.2)) (fun a0 n0 a1 n1 a2 n2 a3 n3 h' hy hp hL => ?_); (try dsimp only at hL hy ⊢); refine Wc ?_; refine OL.new hL (fun b h' hL => (WO.cons0 ?_)); refine OL.storeAll (k := 0) hL hlim rfl rfl rfl rfl rfl rfl (by decide) rfl (fun h' hL => ?_); dsimp only [List.set, Nat.zero_add, Nat.reduceAdd, Nat.reduceMul] at hL; refine Wt ?_; refine Cs (Co (Wm rfl (Wt ?_))); refine Cs (Cs (Co (Wm rfl (Wc (OP.lenS rfl (Wm rfl (Wt ?_))))))); refine WC.block ?_)
  have hL := hL.addNil
  refine WC.loop (fun q : FL => (q.i ≤ n ∧ OpsOk (os.take q.i) ∧ q.w0.xs = (runS ob ⟨r0.xs, r1.xs, r2.xs, r3.xs⟩ (os.take q.i)).x0 ∧ q.w1.xs = (runS ob ⟨r0.xs, r1.xs, r2.xs, r3.xs⟩ (os.take q.i)).x1 ∧ q.w2.xs = (runS ob ⟨r0.xs, r1.xs, r2.xs, r3.xs⟩ (os.take q.i)).x2 ∧ q.w3.xs = (runS ob ⟨r0.xs, r1.xs, r2.xs, r3.xs⟩ (os.take q.i)).x3) ∧ ((q.i = 0 ∧ q.a = none ∧ ∃ l1 l2 l3 l4, Loc h q.h [ap l3 l4 1 q.a q.i (ints (runX ob ⟨r0.xs, r1.xs, r2.xs, r3.xs⟩ (os.take q.i))), bx b [q.w0.v, q.w1.v, q.w2.v, q.w3.v], st l1 l2 q.w0 q.w1 q.w2 q.w3, bx B6 [.slice none 0 0, .slice none 0 0, .slice none 0 0, .slice none 0 0]]) ∨ (0 < q.i ∧ ∃ l1 l2 l3 l4, Loc h q.h [ap l3 l4 1 q.a q.i (ints (runX ob ⟨r0.xs, r1.xs, r2.xs, r3.xs⟩ (os.take q.i))), st l1 l2 q.w0 q.w1 q.w2 q.w3, bx b [q.w0.v, q.w1.v, q.w2.v, q.w3.v], bx B6 [.slice none 0 0, .slice none 0 0, .slice none 0 0, .slice none 0 0]]))) (fun q => [(25, .int .i64 (q.i : Int)), (24, .int .i64 (n : Int)), (23, .slice a n c), (10, .slice q.a q.i q.i), (9, .pointer (some ⟨b, 0, none⟩)), (6, .pointer (some ⟨B6, 0, none⟩)), (0, .int .i64 ob)]) (fun q => q.h) (fun q => n - q.i) ?_ ⟨0, _, ⟨a0, n0, r0.xs⟩, ⟨a1, n1, r1.xs⟩, ⟨a2, n2, r2.xs⟩, ⟨a3, n3, r3.xs⟩, none⟩ ⟨⟨Nat.zero_le _, fun o ho => absurd ho (by simp), rfl, rfl, rfl, rfl⟩, .inl ⟨rfl, rfl, _, _, _, _, (hL.less (k := 4) rfl)⟩⟩ (by (refine Sub.cons rfl (Sub.cons rfl (Sub.cons rfl (Sub.cons rfl (Sub.cons rfl (Sub.cons rfl (Sub.cons rfl ?_)))))); exact Sub.nil _)) rfl
  clear hL
  intro ⟨i, h2, w0, w1, w2, w3, A⟩ ⟨⟨hi, hok, e0, e1, e2, e3⟩, hcase⟩
  simp only at hi hok e0 e1 e2 e3 hcase ⊢
  rcases hcase with ⟨hi0, hA, l1, l2, l3, l4, hL⟩ | ⟨hi0, l1, l2, l3, l4, hL⟩
  ·subst hA
   by_cases hlt : (i : Int) < n
   ·have hil : i < os.length := by omega
    have htk : os.take (i + 1) = os.take i ++ [os[i]] := List.take_succ_eq_append_getElem hil
    by_cases hop : OpOk os[i].c os[i].r os[i].a
    ·obtain ⟨s', x, hN, hm'⟩ := ObjM_fine (runS_may hm hok) hop
     have hS1 : runS ob ⟨r0.xs, r1.xs, r2.xs, r3.xs⟩ (os.take (i + 1)) = s' := by rw [htk, runS_app]; simp only [runS, hN 0]
     have hX1 : runX ob ⟨r0.xs, r1.xs, r2.xs, r3.xs⟩ (os.take (i + 1)) = runX ob ⟨r0.xs, r1.xs, r2.xs, r3.xs⟩ (os.take i) ++ [x] := by rw [htk, runX_app]; simp only [runX, hN 0]
     have hok1 : OpsOk (os.take (i + 1)) := by
      rw [htk]
      intro o ho
      rcases List.mem_append.1 ho with ho | ho
      ·exact hok o ho
      ·rw [List.mem_singleton.1 ho]; exact hop
     (refine Cs (Co (Wc (OP.lssT rfl rfl (by omega) ?_))); refine Wt ?_; refine Cs (WC.condT rfl (Ks ?_)); refine Cs (WC.block (Cs (Co (Wc (OP.idxS (Sl.pfx (by assumption) (Loc.pfx hL)) rfl rfl (by omega) ?_))))); refine Wc (OP.ldR opC_len (by decide) (Sl.pfx (by assumption) (Loc.pfx hL)) rfl (by omega) ?_); refine Wc ?_; refine OL.new hL (fun b h' hL => (WO.cons0 ?_)); refine OL.storeAll (k := 0) hL hlim rfl rfl rfl rfl rfl rfl (by decide) rfl (fun h' hL => ?_); dsimp only [List.set, Nat.zero_add, Nat.reduceAdd, Nat.reduceMul] at hL; refine Wt ?_; refine Cs (Co (Wm rfl (Wc (OL.loadAll (k := 2) hL rfl rfl rfl (Wc (OL.loadAll (k := 0) hL rfl rfl rfl ?_)))))))
     (refine Wc ?_)
     refine OL.callSt hL rfl rfl (applyO eo ob _ os[i].c os[i].r os[i].a (s', x, 0) (hN 600) _ _ (by first | exact hL.lm hlim | exact Nat.le_refl _) (hL.stM (by repeat (first | exact mh | apply mt))) e0 e1 e2 e3) (fun a0 n0 a1 n1 a2 n2 a3 n3 h' hy hp hL => ?_)
     (try dsimp only at hL ⊢)
     clear hy
     (refine Wm rfl (Wc (OP.extract rfl rfl (Wc (OP.extract rfl rfl (Wc (OP.extract rfl rfl (Wc ?_))))))); refine OL.new hL (fun b h' hL => (WO.cons0 ?_)); refine OL.storeAll (k := 0) hL hlim rfl rfl rfl rfl rfl rfl (by decide) rfl (fun h' hL => ?_); dsimp only [List.set, Nat.zero_add, Nat.reduceAdd, Nat.reduceMul] at hL; refine Wm rfl (Wm rfl (Wt ?_)); refine Cs (Cs (Co (Wm rfl (Wc (OP.neqF rfl rfl (by omega) ?_))))); refine Wt ?_; refine WC.condF rfl (Ks ?_); refine Co (WO.consQ (OL.loadAll (k := 0) hL rfl rfl rfl (WO.consQ (OP.mv rfl (Wm rfl ?_))))))
     refine WO.consAb (fun x hx => by rw [List.mem_singleton.1 hx]; exact ⟨_, rfl⟩) ?_
     refine OL.buildSlice hL rfl (by simp [over, Value.cells]; rfl) rfl (fun b2 h' hL => ?_)
     refine WO.consAn rfl (fun x hx => by rw [List.mem_singleton.1 hx]; exact ⟨_, rfl⟩) ?_
     refine OL.append (k := 4) hL hlim rfl rfl rfl (hL.bxAt (k := 0) rfl rfl) (by omega) ⟨by omega, by omega, by omega⟩ rfl (fun a' h' hL => ?_)
     dsimp only [List.eraseIdx] at hL
     (refine WO.cons0 ?_; refine OL.storeAll (k := 5) hL hlim rfl rfl rfl rfl rfl rfl (by decide) rfl (fun h' hL => ?_); dsimp only [List.set, Nat.zero_add, Nat.reduceAdd, Nat.reduceMul] at hL; refine Wm rfl (Wt ?_); refine Co (Wc (OP.add rfl rfl (by omega) ?_)); refine Wm rfl (Wt ?_))
     have hL2 := (((hL.less (k := 1) rfl).less (k := 1) rfl).less (k := 2) rfl).less (k := 3) rfl
     dsimp only [List.eraseIdx] at hL2
     rw [ints_snoc, ← hX1] at hL2
     exact ⟨⟨i + 1, h', ⟨a0, n0, s'.x0⟩, ⟨a1, n1, s'.x1⟩, ⟨a2, n2, s'.x2⟩, ⟨a3, n3, s'.x3⟩, a'⟩, ⟨⟨by simp only; omega, hok1, by rw [hS1], by rw [hS1], by rw [hS1], by rw [hS1]⟩, .inr ⟨by simp only; omega, _, _, _, _, hL2⟩⟩, by (refine Sub.cons rfl (Sub.cons rfl (Sub.cons rfl (Sub.cons rfl (Sub.cons rfl (Sub.cons rfl (Sub.cons rfl ?_)))))); exact Sub.nil _), rfl, by simp only; omega⟩
    ·rw [show FoldR ob ⟨r0.xs, r1.xs, r2.xs, r3.xs⟩ os = (S4.none, [], 1200) from if_neg (fun hh => hop (hh.2 _ (List.getElem_mem hil)))]
     (refine Cs (Co (Wc (OP.lssT rfl rfl (by omega) ?_))); refine Wt ?_; refine Cs (WC.condT rfl (Ks ?_)); refine Cs (WC.block (Cs (Co (Wc (OP.idxS (Sl.pfx (by assumption) (Loc.pfx hL)) rfl rfl (by omega) ?_))))); refine Wc (OP.ldR opC_len (by decide) (Sl.pfx (by assumption) (Loc.pfx hL)) rfl (by omega) ?_); refine Wc ?_; refine OL.new hL (fun b h' hL => (WO.cons0 ?_)); refine OL.storeAll (k := 0) hL hlim rfl rfl rfl rfl rfl rfl (by decide) rfl (fun h' hL => ?_); dsimp only [List.set, Nat.zero_add, Nat.reduceAdd, Nat.reduceMul] at hL; refine Wt ?_; refine Cs (Co (Wm rfl (Wc (OL.loadAll (k := 2) hL rfl rfl rfl (Wc (OL.loadAll (k := 0) hL rfl rfl rfl ?_)))))))
     (refine Wc ?_)
     refine OL.callSt hL rfl rfl (applyO eo ob _ os[i].c os[i].r os[i].a (S4.none, 0, 600) (ObjM_no (fun hh => hop hh.2)) _ _ (by first | exact hL.lm hlim | exact Nat.le_refl _) (hL.stM (by repeat (first | exact mh | apply mt))) e0 e1 e2 e3) (fun a0 n0 a1 n1 a2 n2 a3 n3 h' hy hp hL => ?_)
     (try dsimp only at hL ⊢)
     clear hy
     (refine Wm rfl (Wc (OP.extract rfl rfl (Wc (OP.extract rfl rfl (Wc (OP.extract rfl rfl (Wc ?_))))))); refine OL.new hL (fun b h' hL => (WO.cons0 ?_)); refine OL.storeAll (k := 0) hL hlim rfl rfl rfl rfl rfl rfl (by decide) rfl (fun h' hL => ?_); dsimp only [List.set, Nat.zero_add, Nat.reduceAdd, Nat.reduceMul] at hL; refine Wm rfl (Wm rfl (Wt ?_)); refine Cs (Cs (Co (Wm rfl (Wc (OP.neqT rfl rfl (by omega) ?_))))); refine Wt ?_; refine WC.condT rfl (Cs (Co (Wc (OP.buildN rfl rfl (WO.cons0 ?_))))); refine OL.storeAll (k := 6) hL hlim rfl rfl rfl rfl rfl rfl (by decide) rfl (fun h' hL => ?_); dsimp only [List.set, Nat.zero_add, Nat.reduceAdd, Nat.reduceMul] at hL; refine Wm rfl (Wm rfl (Wt ?_)); refine WC.ret ?_; dsimp only [zn, zr, zx, yn, yr])
     exact Fin.ret (resL_cell rfl (hL.cell (k := 6) rfl) rfl rfl) ⟨hL.pfx, nilRow, nilRow, nilRow, nilRow, none, 0, _, rfl, ⟨rfl, rfl, rfl, rfl⟩, ⟨hL.len, Nat.le_refl _⟩, ⟨nilSt _, nilIn _ _⟩, ⟨rfl, .inl ⟨rfl, fun x hx => by cases hx⟩⟩⟩
   ·have hin : i = n := by omega
    rw [List.take_of_length_le (by omega)] at hL hok e0 e1 e2 e3
    rw [show FoldR ob ⟨r0.xs, r1.xs, r2.xs, r3.xs⟩ os = (runS ob ⟨r0.xs, r1.xs, r2.xs, r3.xs⟩ os, runX ob ⟨r0.xs, r1.xs, r2.xs, r3.xs⟩ os, 0) from if_pos ⟨hm, hok⟩]
    clear hm
    (refine Cs (Co (Wc (OP.lssF rfl rfl (by omega) ?_))); refine Wt ?_; refine Cs (WC.condF rfl (WC.exit ?_)); dsimp only [zn, zr, zx, yn, yr]; rw [yx, if_pos rfl]; dsimp only [zn, zr, zx, yn, yr]; refine Cs (Co (Wc (OL.loadAll (k := 1) hL rfl rfl rfl (Wm rfl (WO.cons0 ?_))))); refine OL.storeAll (k := 3) hL hlim rfl rfl rfl rfl rfl rfl (by decide) rfl (fun h' hL => ?_); dsimp only [List.set, Nat.zero_add, Nat.reduceAdd, Nat.reduceMul] at hL; refine Wm rfl (Wm rfl (Wt ?_)); refine WC.ret ?_)
    have hst' := (hL.get (k := 2) rfl)
    have hlo := hL.lo (k := 2) rfl
    have hbl := hL.below (i := 0) (j := 2) rfl rfl (by decide)
    exact Fin.ret (resL_cell rfl (hL.cell (k := 3) rfl) rfl rfl) ⟨hL.pfx, w0, w1, w2, w3, _, i, l2, rfl, ⟨e0, e1, e2, e3⟩, ⟨Nat.le_trans hlo (hL.mid (i := 2) rfl), Nat.le_trans hbl (Nat.le_trans (hL.mid (i := 0) rfl) (hL.toEnd (k := 0) rfl))⟩, ⟨hst'.1, hst'.2.1.le hlo (Nat.le_refl _), hst'.2.2.1.le hlo (Nat.le_refl _), hst'.2.2.2.1.le hlo (Nat.le_refl _), hst'.2.2.2.2.le hlo (Nat.le_refl _)⟩, Ap.widen (hL.get (k := 0) rfl) hbl (hL.toEnd (k := 0) rfl)⟩
  ·obtain ⟨bq, hAq, -, hq1, hq2⟩ := Ap.pos (hL.get (k := 0) rfl) hi0
   subst hAq
   by_cases hlt : (i : Int) < n
   ·have hil : i < os.length := by omega
    have htk : os.take (i + 1) = os.take i ++ [os[i]] := List.take_succ_eq_append_getElem hil
    by_cases hop : OpOk os[i].c os[i].r os[i].a
    ·obtain ⟨s', x, hN, hm'⟩ := ObjM_fine (runS_may hm hok) hop
     have hS1 : runS ob ⟨r0.xs, r1.xs, r2.xs, r3.xs⟩ (os.take (i + 1)) = s' := by rw [htk, runS_app]; simp only [runS, hN 0]
     have hX1 : runX ob ⟨r0.xs, r1.xs, r2.xs, r3.xs⟩ (os.take (i + 1)) = runX ob ⟨r0.xs, r1.xs, r2.xs, r3.xs⟩ (os.take i) ++ [x] := by rw [htk, runX_app]; simp only [runX, hN 0]
     have hok1 : OpsOk (os.take (i + 1)) := by
      rw [htk]
      intro o ho
      rcases List.mem_append.1 ho with ho | ho
      ·exact hok o ho
      ·rw [List.mem_singleton.1 ho]; exact hop
     (refine Cs (Co (Wc (OP.lssT rfl rfl (by omega) ?_))); refine Wt ?_; refine Cs (WC.condT rfl (Ks ?_)); refine Cs (WC.block (Cs (Co (Wc (OP.idxS (Sl.pfx (by assumption) (Loc.pfx hL)) rfl rfl (by omega) ?_))))); refine Wc (OP.ldR opC_len (by decide) (Sl.pfx (by assumption) (Loc.pfx hL)) rfl (by omega) ?_); refine Wc ?_; refine OL.new hL (fun b h' hL => (WO.cons0 ?_)); refine OL.storeAll (k := 0) hL hlim rfl rfl rfl rfl rfl rfl (by decide) rfl (fun h' hL => ?_); dsimp only [List.set, Nat.zero_add, Nat.reduceAdd, Nat.reduceMul] at hL; refine Wt ?_; refine Cs (Co (Wm rfl (Wc (OL.loadAll (k := 3) hL rfl rfl rfl (Wc (OL.loadAll (k := 0) hL rfl rfl rfl ?_)))))))
     (refine Wc ?_)
     refine OL.callSt hL rfl rfl (applyO eo ob _ os[i].c os[i].r os[i].a (s', x, 0) (hN 600) _ _ (by first | exact hL.lm hlim | exact Nat.le_refl _) (hL.stM (by repeat (first | exact mh | apply mt))) e0 e1 e2 e3) (fun a0 n0 a1 n1 a2 n2 a3 n3 h' hy hp hL => ?_)
     (try dsimp only at hL ⊢)
     clear hy
     (refine Wm rfl (Wc (OP.extract rfl rfl (Wc (OP.extract rfl rfl (Wc (OP.extract rfl rfl (Wc ?_))))))); refine OL.new hL (fun b h' hL => (WO.cons0 ?_)); refine OL.storeAll (k := 0) hL hlim rfl rfl rfl rfl rfl rfl (by decide) rfl (fun h' hL => ?_); dsimp only [List.set, Nat.zero_add, Nat.reduceAdd, Nat.reduceMul] at hL; refine Wm rfl (Wm rfl (Wt ?_)); refine Cs (Cs (Co (Wm rfl (Wc (OP.neqF rfl rfl (by omega) ?_))))); refine Wt ?_; refine WC.condF rfl (Ks ?_); refine Co (WO.consQ (OL.loadAll (k := 0) hL rfl rfl rfl (WO.consQ (OP.mv rfl (Wm rfl ?_))))))
     refine WO.consAb (fun x hx => by rw [List.mem_singleton.1 hx]; exact ⟨_, rfl⟩) ?_
     refine OL.buildSlice hL rfl (by simp [over, Value.cells]; rfl) rfl (fun b2 h' hL => ?_)
     refine WO.consAp rfl (fun x hx => by rw [List.mem_singleton.1 hx]; exact ⟨_, _, _, rfl, Nat.ne_of_lt (Nat.lt_of_lt_of_le hq2 (hL.below (i := 1) (j := 4) rfl rfl (by decide)))⟩) ?_
     refine OL.append (k := 4) hL hlim rfl rfl rfl (hL.bxAt (k := 0) rfl rfl) (by omega) ⟨by omega, by omega, by omega⟩ rfl (fun a' h' hL => ?_)
     dsimp only [List.eraseIdx] at hL
     (refine WO.cons0 ?_; refine OL.storeAll (k := 6) hL hlim rfl rfl rfl rfl rfl rfl (by decide) rfl (fun h' hL => ?_); dsimp only [List.set, Nat.zero_add, Nat.reduceAdd, Nat.reduceMul] at hL; refine Wm rfl (Wt ?_); refine Co (Wc (OP.add rfl rfl (by omega) ?_)); refine Wm rfl (Wt ?_))
     have hL2 := (((hL.less (k := 1) rfl).less (k := 1) rfl).less (k := 2) rfl).less (k := 2) rfl
     dsimp only [List.eraseIdx] at hL2
     rw [ints_snoc, ← hX1] at hL2
     exact ⟨⟨i + 1, h', ⟨a0, n0, s'.x0⟩, ⟨a1, n1, s'.x1⟩, ⟨a2, n2, s'.x2⟩, ⟨a3, n3, s'.x3⟩, a'⟩, ⟨⟨by simp only; omega, hok1, by rw [hS1], by rw [hS1], by rw [hS1], by rw [hS1]⟩, .inr ⟨by simp only; omega, _, _, _, _, hL2⟩⟩, by (refine Sub.cons rfl (Sub.cons rfl (Sub.cons rfl (Sub.cons rfl (Sub.cons rfl (Sub.cons rfl (Sub.cons rfl ?_)))))); exact Sub.nil _), rfl, by simp only; omega⟩
    ·rw [show FoldR ob ⟨r0.xs, r1.xs, r2.xs, r3.xs⟩ os = (S4.none, [], 1200) from if_neg (fun hh => hop (hh.2 _ (List.getElem_mem hil)))]
     (refine Cs (Co (Wc (OP.lssT rfl rfl (by omega) ?_))); refine Wt ?_; refine Cs (WC.condT rfl (Ks ?_)); refine Cs (WC.block (Cs (Co (Wc (OP.idxS (Sl.pfx (by assumption) (Loc.pfx hL)) rfl rfl (by omega) ?_))))); refine Wc (OP.ldR opC_len (by decide) (Sl.pfx (by assumption) (Loc.pfx hL)) rfl (by omega) ?_); refine Wc ?_; refine OL.new hL (fun b h' hL => (WO.cons0 ?_)); refine OL.storeAll (k := 0) hL hlim rfl rfl rfl rfl rfl rfl (by decide) rfl (fun h' hL => ?_); dsimp only [List.set, Nat.zero_add, Nat.reduceAdd, Nat.reduceMul] at hL; refine Wt ?_; refine Cs (Co (Wm rfl (Wc (OL.loadAll (k := 3) hL rfl rfl rfl (Wc (OL.loadAll (k := 0) hL rfl rfl rfl ?_)))))))
     (refine Wc ?_)
     refine OL.callSt hL rfl rfl (applyO eo ob _ os[i].c os[i].r os[i].a (S4.none, 0, 600) (ObjM_no (fun hh => hop hh.2)) _ _ (by first | exact hL.lm hlim | exact Nat.le_refl _) (hL.stM (by repeat (first | exact mh | apply mt))) e0 e1 e2 e3) (fun a0 n0 a1 n1 a2 n2 a3 n3 h' hy hp hL => ?_)
     (try dsimp only at hL ⊢)
     clear hy
     (refine Wm rfl (Wc (OP.extract rfl rfl (Wc (OP.extract rfl rfl (Wc (OP.extract rfl rfl (Wc ?_))))))); refine OL.new hL (fun b h' hL => (WO.cons0 ?_)); refine OL.storeAll (k := 0) hL hlim rfl rfl rfl rfl rfl rfl (by decide) rfl (fun h' hL => ?_); dsimp only [List.set, Nat.zero_add, Nat.reduceAdd, Nat.reduceMul] at hL; refine Wm rfl (Wm rfl (Wt ?_)); refine Cs (Cs (Co (Wm rfl (Wc (OP.neqT rfl rfl (by omega) ?_))))); refine Wt ?_; refine WC.condT rfl (Cs (Co (Wc (OP.buildN rfl rfl (WO.cons0 ?_))))); refine OL.storeAll (k := 6) hL hlim rfl rfl rfl rfl rfl rfl (by decide) rfl (fun h' hL => ?_); dsimp only [List.set, Nat.zero_add, Nat.reduceAdd, Nat.reduceMul] at hL; refine Wm rfl (Wm rfl (Wt ?_)); refine WC.ret ?_; dsimp only [zn, zr, zx, yn, yr])
     exact Fin.ret (resL_cell rfl (hL.cell (k := 6) rfl) rfl rfl) ⟨hL.pfx, nilRow, nilRow, nilRow, nilRow, none, 0, _, rfl, ⟨rfl, rfl, rfl, rfl⟩, ⟨hL.len, Nat.le_refl _⟩, ⟨nilSt _, nilIn _ _⟩, ⟨rfl, .inl ⟨rfl, fun x hx => by cases hx⟩⟩⟩
   ·have hin : i = n := by omega
    rw [List.take_of_length_le (by omega)] at hL hok e0 e1 e2 e3
    rw [show FoldR ob ⟨r0.xs, r1.xs, r2.xs, r3.xs⟩ os = (runS ob ⟨r0.xs, r1.xs, r2.xs, r3.xs⟩ os, runX ob ⟨r0.xs, r1.xs, r2.xs, r3.xs⟩ os, 0) from if_pos ⟨hm, hok⟩]
    clear hm
    (refine Cs (Co (Wc (OP.lssF rfl rfl (by omega) ?_))); refine Wt ?_; refine Cs (WC.condF rfl (WC.exit ?_)); dsimp only [zn, zr, zx, yn, yr]; rw [yx, if_pos rfl]; dsimp only [zn, zr, zx, yn, yr]; refine Cs (Co (Wc (OL.loadAll (k := 2) hL rfl rfl rfl (Wm rfl (WO.cons0 ?_))))); refine OL.storeAll (k := 3) hL hlim rfl rfl rfl rfl rfl rfl (by decide) rfl (fun h' hL => ?_); dsimp only [List.set, Nat.zero_add, Nat.reduceAdd, Nat.reduceMul] at hL; refine Wm rfl (Wm rfl (Wt ?_)); refine WC.ret ?_)
    have hst' := (hL.get (k := 1) rfl)
    have hlo := hL.lo (k := 1) rfl
    have hbl := hL.below (i := 0) (j := 1) rfl rfl (by decide)
    exact Fin.ret (resL_cell rfl (hL.cell (k := 3) rfl) rfl rfl) ⟨hL.pfx, w0, w1, w2, w3, _, i, l2, rfl, ⟨e0, e1, e2, e3⟩, ⟨Nat.le_trans hlo (hL.mid (i := 1) rfl), Nat.le_trans hbl (Nat.le_trans (hL.mid (i := 0) rfl) (hL.toEnd (k := 0) rfl))⟩, ⟨hst'.1, hst'.2.1.le hlo (Nat.le_refl _), hst'.2.2.1.le hlo (Nat.le_refl _), hst'.2.2.2.1.le hlo (Nat.le_refl _), hst'.2.2.2.2.le hlo (Nat.le_refl _)⟩, Ap.widen (hL.get (k := 0) rfl) hbl (hL.toEnd (k := 0) rfl)⟩
 ·have d6 : ∀ lim h', Pfx h h' → Ret X F lim g0 [.int .i64 ob, stV r0 r1 r2 r3] h' fun v h'' => Pfx h' h'' ∧ v = .bool false := fun lim h' hp => (decide_eq_false hm) ▸ em lim h' (hst.pfx hp)
  rw [show FoldR ob ⟨r0.xs, r1.xs, r2.xs, r3.xs⟩ os = (S4.none, [], 1200) from if_neg (fun hh => hm hh.1)]
  (refine Cs (Co (Wc ?_)); refine OL.boxA hL rfl rfl (fun b h' hL => (Wc ?_)); refine OL.new hL (fun b h' hL => (Wm rfl (Wm rfl (Wt ?_)))); refine Cs (Cs (Co (Wm rfl (Wc (OL.loadAll (k := 1) hL rfl rfl rfl (Wc ?_)))))); refine OL.callV hL rfl rfl (d6 _ _ hL.pfx) (fun h' hp hL => (Wc (OP.not rfl (Wt ?_)))); refine WC.condT rfl (Cs (Co (Wc (OP.buildN rfl rfl (WO.cons0 ?_))))); refine OL.storeAll (k := 0) hL hlim rfl rfl rfl rfl rfl rfl (by decide) rfl (fun h' hL => ?_); dsimp only [List.set, Nat.zero_add, Nat.reduceAdd, Nat.reduceMul] at hL; refine Wm rfl (Wm rfl (Wt ?_)); refine WC.ret ?_; dsimp only [zn, zr, zx, yn, yr])
  exact Fin.ret (resL_cell rfl (hL.cell (k := 0) rfl) rfl rfl) ⟨hL.pfx, nilRow, nilRow, nilRow, nilRow, none, 0, _, rfl, ⟨rfl, rfl, rfl, rfl⟩, ⟨hL.len, Nat.le_refl _⟩, ⟨nilSt _, nilIn _ _⟩, ⟨rfl, .inl ⟨rfl, fun x hx => by cases hx⟩⟩⟩
end
end Go.Proofs.YtdcpmchhioilpaaW.Ai
