/-
  Histories (chapter 24), as the small machine runs them: the whole.
-/
import Derived.Test.YtalknjppnkpmmaaDoorFnC
set_option linter.unusedVariables false
set_option linter.unusedSimpArgs false
set_option maxHeartbeats 600000
set_option maxRecDepth 100000
namespace Go.Proofs.YtalknjppnkpmmaaDoorW.Ai
section
def rf_lIs (g0 g1 g2 : Nat) : RFunc :=
  ⟨39, [(.tmp 4), (.tmp 5)], (.seq (.ops [rO 4 (.mv (.const (.bool false))), rO 5 (.mv (.const (.int .i64 0)))]) (.seq (.ops [rO 9 (.mv (.tmp 0)), ⟨(.some 10), .mkMap, .none, false, []⟩, rO 11 (.build [(.slice .none 0 0), (.slice .none 0 0), (.slice .none 0 0), (.slice .none 0 0), (.int .i64 0), (.map .none)] [(4, (1, (.tmp 9))), (5, (1, (.tmp 10)))]), rO 12 (.box (.tmp 11)), rO 6 (.mv (.tmp 12))]) (.seq (.seq (.ops [rO 13 (.mv (.tmp 0)), rO 14 (.call (.func g0) [(.tmp 13)]), rO 15 (.un .not (.tmp 14)), rO 16 (.mv (.tmp 15)), ⟨(.some 17), (.mv (.tmp 1)), (.some (16, false)), false, []⟩, ⟨(.some 18), (.len 1 (.tmp 17)), (.some (16, false)), false, []⟩, ⟨(.some 19), (.bin .gtr (.tmp 18) (.const (.int .i64 64))), (.some (16, false)), false, []⟩, rO 20 (.pick (.tmp 16) (.const (.bool true)) (.tmp 19))]) (.cond (.tmp 20) (.seq (.ops [rO 4 (.mv (.const (.bool false))), rO 5 (.mv (.const (.int .i64 2400)))]) .ret) .skip)) (.seq (.seq (.ops [rO 21 (.mv (.tmp 1)), rO 22 (.len 1 (.tmp 21)), rO 23 (.mv (.const (.int .i64 0)))]) (.block 0 (.loop (.seq (.ops [rO 24 (.bin .lss (.tmp 23) (.tmp 22))]) (.seq (.cond (.tmp 24) .skip (.exit 0)) (.seq (.block 1 (.seq (.ops [rO 25 (.mv (.tmp 23)), rO 26 (.idxAddr 6 (.tmp 21) (.tmp 23)), rO 27 (.load (.some 6) (.tmp 26)), rO 8 (.new [(.int .i64 0), (.bool false), (.int .i64 0), (.int .i64 0), (.int .i64 0), (.int .i64 0)]), rO 7 (.mv (.tmp 25)), ⟨.none, (.store 6 (.tmp 8) (.tmp 27)), .none, false, []⟩]) (.seq (.ops [rO 28 (.mv (.tmp 6)), rO 29 (.load (.some 6) (.tmp 8)), rO 30 (.mv (.tmp 7)), rO 31 (.bin .add (.tmp 30) (.const (.int .i64 1))), rO 32 (.call (.func g1) [(.tmp 28), (.tmp 29), (.tmp 31)]), rO 33 (.un .not (.tmp 32))]) (.cond (.tmp 33) (.seq (.ops [rO 4 (.mv (.const (.bool false))), rO 5 (.mv (.const (.int .i64 2400)))]) .ret) .skip)))) (.ops [rO 34 (.bin .add (.tmp 23) (.const (.int .i64 1))), rO 23 (.mv (.tmp 34))]))))))) (.seq (.ops [rO 35 (.mv (.tmp 6)), rO 36 (.build [(.int .i64 0), (.int .i64 0), (.int .i64 0), (.int .i64 0)] []), rO 37 (.build [(.slice .none 0 0), (.slice .none 0 0), (.slice .none 0 0), (.slice .none 0 0)] []), rO 38 (.call (.func g2) [(.tmp 35), (.tmp 36), (.tmp 37)]), rO 4 (.mv (.tmp 38)), rO 5 (.mv (.const (.int .i64 0)))]) .ret)))))⟩
theorem pendL_some {l : List CallR} {p : CallR} (h : pendL l = some p) : ∃ m, l = m ++ [p] ∧ p.t = 0 := by
  unfold pendL at h
  cases hg : l[l.length - 1]? with
  | none => rw [hg] at h; cases h
  | some q =>
    rw [hg] at h
    simp only at h
    split at h
    · injection h with h
      subst h
      refine ⟨l.dropLast, ?_, by assumption⟩
      obtain ⟨h1, h2⟩ := List.getElem?_eq_some_iff.1 hg
      have hne : l ≠ [] := fun e => by subst e; simp at h1
      rw [← List.dropLast_concat_getLast hne]
      simp only [List.dropLast_concat, List.getLast_append, List.append_cancel_left_eq, List.cons.injEq, and_true]
      rw [List.getLast_eq_getElem, ← h2]
    · cases h
theorem pendL_snoc (m : List CallR) (p : CallR) : pendL (m ++ [p]) = if p.t = 0 then some p else none := by
  unfold pendL
  simp
theorem ansL_snoc (k x : Int) (m : List CallR) (p : CallR) : ansL k x (m ++ [p]) = m ++ [{ p with t := k, x := x }] := by
  unfold ansL
  simp
theorem takeH_inv {C D : H4} {e : EvR} {k : Int} (h : takeH C e k = some D) : (0 ≤ e.t ∧ e.t < 4) ∧ OpOk e.c e.r e.a ∧ ((e.call = true ∧ pendL (C.get e.t) = none ∧ e.x = 0 ∧ D = C.put e.t (C.get e.t ++ [⟨e.c, e.r, e.a, k, 0, 0⟩])) ∨ (e.call = false ∧ ∃ m p, C.get e.t = m ++ [p] ∧ p.t = 0 ∧ (p.c = e.c ∧ p.r = e.r ∧ p.a = e.a) ∧ D = C.put e.t (m ++ [{ p with t := k, x := e.x }]))) := by
  unfold takeH at h
  split at h
  case isFalse => cases h
  rename_i hok
  refine ⟨hok.1, hok.2, ?_⟩
  split at h
  · rename_i hc
    split at h
    · rename_i hp
      injection h with h
      exact .inl ⟨hc, hp.1, hp.2, h.symm⟩
    · cases h
  · rename_i hc
    split at h
    · cases h
    · rename_i p hp
      split at h
      · rename_i he
        injection h with h
        obtain ⟨m, h1, h2⟩ := pendL_some hp
        exact .inr ⟨by simpa using hc, m, p, h1, h2, he, by rw [← h, h1, ansL_snoc]⟩
      · cases h
def HInv (C : H4) (k : Int) : Prop := ∀ t : Nat, t < 4 → (C.get (t : Nat)).length < k ∧ ∀ c ∈ C.get (t : Nat), OpOk c.c c.r c.a ∧ c.t < k
theorem HInv.none : HInv H4.none 1 := fun t ht => by
  obtain rfl | rfl | rfl | rfl : t = 0 ∨ t = 1 ∨ t = 2 ∨ t = 3 := by omega
  all_goals exact ⟨by decide, fun c hc => by cases hc⟩
theorem HInv.take {C D : H4} {e : EvR} {k : Int} (H : HInv C k) (hk : 0 < k) (h : takeH C e k = some D) : HInv D (k + 1) := by
  obtain ⟨ht, ho, hr⟩ := takeH_inv h
  obtain ⟨t, hte⟩ : ∃ t : Nat, e.t = t := ⟨e.t.toNat, by omega⟩
  intro u hu
  rw [hte] at hr ht
  rcases hr with ⟨_, _, _, rfl⟩ | ⟨_, m, p, hm, _, hp, rfl⟩
  · rw [put_nat C _ (by omega) hu]
    by_cases g : u = t
    · rw [if_pos g]
      obtain ⟨h1, h2⟩ := H t (by omega)
      refine ⟨by rw [List.length_append]; simp only [List.length_cons, List.length_nil]; omega, fun c hc => ?_⟩
      rcases List.mem_append.1 hc with hc | hc
      · exact ⟨(h2 c hc).1, by have := (h2 c hc).2; omega⟩
      · rw [List.mem_singleton.1 hc]; exact ⟨ho, by simp only; omega⟩
    · rw [if_neg g]
      obtain ⟨h1, h2⟩ := H u hu
      exact ⟨by omega, fun c hc => ⟨(h2 c hc).1, by have := (h2 c hc).2; omega⟩⟩
  · rw [put_nat C _ (by omega) hu]
    by_cases g : u = t
    · rw [if_pos g]
      obtain ⟨h1, h2⟩ := H t (by omega)
      rw [hm] at h1 h2
      refine ⟨by rw [List.length_append] at h1 ⊢; simp only [List.length_cons, List.length_nil] at h1 ⊢; omega, fun c hc => ?_⟩
      rcases List.mem_append.1 hc with hc | hc
      · have := h2 c (List.mem_append.2 (.inl hc)); exact ⟨this.1, by omega⟩
      · rw [List.mem_singleton.1 hc]
        have := h2 p (by simp)
        exact ⟨this.1, by simp only; omega⟩
    · rw [if_neg g]
      obtain ⟨h1, h2⟩ := H u hu
      exact ⟨by omega, fun c hc => ⟨(h2 c hc).1, by have := (h2 c hc).2; omega⟩⟩
theorem HInv.ok {C : H4} {k : Int} (H : HInv C k) (hk : k ≤ 65) : HOk C := by
  refine ⟨fun t ht c hc => ⟨((H t ht).2 c hc).1, by have := ((H t ht).2 c hc).2; omega⟩, ?_, ?_, ?_, ?_⟩
  · have := (H 0 (by decide)).1; show C.h0.length ≤ 64; have e : (C.get ((0 : Nat) : Int)) = C.h0 := rfl; rw [e] at this; omega
  · have := (H 1 (by decide)).1; show C.h1.length ≤ 64; have e : (C.get ((1 : Nat) : Int)) = C.h1 := rfl; rw [e] at this; omega
  · have := (H 2 (by decide)).1; show C.h2.length ≤ 64; have e : (C.get ((2 : Nat) : Int)) = C.h2 := rfl; rw [e] at this; omega
  · have := (H 3 (by decide)).1; show C.h3.length ≤ 64; have e : (C.get ((3 : Nat) : Int)) = C.h3 := rfl; rw [e] at this; omega
theorem none_get {t : Nat} (ht : t < 4) : H4.none.get (t : Int) = [] := by
  obtain rfl | rfl | rfl | rfl : t = 0 ∨ t = 1 ∨ t = 2 ∨ t = 3 := by omega
  all_goals rfl
structure LI where
  i : Nat
  h : AH
  C : H4
  A : Nat → Option Addr
  hi : Nat
def LInv (h0 : AH) (es : List EvR) (mb hb : Nat) (ob : Int) (q : LI) : Prop := q.i ≤ es.length ∧ Pfx h0 q.h ∧ q.h[mb]? = some (.map (mpv [])) ∧ mb < hb ∧ h0.length ≤ mb ∧ HistF q.h hb q.hi hb mb ob q.A q.C ∧ q.hi ≤ q.h.length ∧ histH es 1 H4.none = histH (es.drop q.i) ((q.i : Int) + 1) q.C ∧ HInv q.C ((q.i : Int) + 1)
section
variable (X : Ext) (F : FuncId → Option RFunc) (g : FuncId)
abbrev S_lIs : Prop := ∀ (lim : Nat) (h : AH) {ob : Int} {es : List EvR} {a : Option Addr} {n c : Nat}, lim ≤ h.length → Sl 6 h a n c (recs evC es) → n ≤ 2 ^ 43 → Ret X F lim g [.int .i64 ob, .slice a n c] h fun v h' => Pfx h h' ∧ v = .tuple #[.bool (IsL ob es).1, .int .i64 (IsL ob es).2]
end
theorem IsL_form {ob : Int} {es : List EvR} (h : ¬ ((0 ≤ ob ∧ ob ≤ 2) ∧ es.length ≤ 64)) : IsL ob es = (false, 2400) := if_neg h
theorem IsL_none {ob : Int} {es : List EvR} (h : histH es 1 H4.none = none) : IsL ob es = (false, 2400) := by
  unfold IsL
  rw [h]
  split <;> rfl
theorem IsL_some {ob : Int} {es : List EvR} {C : H4} (h : (0 ≤ ob ∧ ob ≤ 2) ∧ es.length ≤ 64) (hC : histH es 1 H4.none = some C) {b : Bool} (hb : b = true ↔ Lin ob C P4.zero S4.none) : IsL ob es = (b, 0) := by
  unfold IsL
  rw [if_pos h, hC]
  simp only [Prod.mk.injEq, and_true]
  cases b with
  | true => exact @decide_eq_true _ (Classical.propDecidable _) (hb.1 rfl)
  | false => exact @decide_eq_false _ (Classical.propDecidable _) (fun q => by have := hb.2 q; cases this)
section
variable {X : Ext} {F : FuncId → Option RFunc} {f : FuncId}
theorem s_lIs {g0 g1 g2 : Nat} (hX : X f = none) (hF : F f = some (rf_lIs g0 g1 g2)) (c0 : S_oIs X F g0) (e1 : S_lTake X F g1) (e2 : S_lSearch X F g2) : S_lIs X F f := by
  intro lim h ob es a n c hlim hs hn
  have hrl := hs.rlen evC_len (by decide)
  subst hrl
  have hL := Loc.start h
  suffices key : ∀ Q : Value → AH → Prop, (∀ v h', (Pfx h h' ∧ v = .tuple #[.bool (IsL ob es).1, .int .i64 (IsL ob es).2]) → Q v h') → Ret X F lim f [.int .i64 ob, .slice a es.length c] h Q from key _ (fun _ _ hq => hq)
  intro Q hQ'
  have HQ : Hid (∀ v h', (Pfx h h' ∧ v = .tuple #[.bool (IsL ob es).1, .int .i64 (IsL ob es).2]) → Q v h') := hQ'
  clear hQ'
  refine Ret.body hX hF rfl ?_
  simp only [argL, rf_lIs]
  by_cases hob : 0 ≤ ob ∧ ob ≤ 2
  case neg =>
    have c0 : ∀ lim h', Ret X F lim g0 [.int .i64 ob] h' fun v h'' => Pfx h' h'' ∧ v = .bool false := fun lim h' => by
      have := c0 lim h' (ob := ob)
      rw [decide_eq_false hob] at this
      exact this
    (refine Cs (Co (Wm rfl (Wm rfl (Wn ?_)))); dsimp only [zn, zr, zx, yn, yr]; refine Cs (Co (Wm rfl ?_)))
    (refine Wc ?_)
    refine OL.mkMap hL (fun mb h' hL => ?_)
    (refine Wc (OP.buildN rfl (by simp [over, Value.cells]; rfl) ?_); refine Wc ?_; refine OL.boxA hL rfl rfl (fun b h' hL => (Wm rfl (Wn ?_))); dsimp only [zn, zr, zx, yn, yr]; refine Cs (Cs (Co (Wm rfl (Wc ?_)))); refine OL.callV hL rfl rfl (c0 _ _) (fun h' hp hL => (Wc (OP.not rfl (Wm rfl (WO.no rfl (WO.no rfl (WO.no rfl (Wc (OP.pickT rfl rfl (Wn ?_)))))))))); dsimp only [zn, zr, zx, yn, yr]; refine WC.condT rfl (Cs (Co (Wm rfl (Wm rfl (Wn ?_))))); dsimp only [zn, zr, zx, yn, yr]; refine WC.ret ?_; dsimp only [zn, zr, zx, yn, yr])
    exact Fin.ret rfl (HQ.out _ _ ⟨hL.pfx, by rw [IsL_form fun q => hob q.1]; rfl⟩)
  have c0 : ∀ lim h', Ret X F lim g0 [.int .i64 ob] h' fun v h'' => Pfx h' h'' ∧ v = .bool true := fun lim h' => by
    have := c0 lim h' (ob := ob)
    rw [decide_eq_true hob] at this
    exact this
  by_cases hlen : (es.length : Int) > 64
  · (refine Cs (Co (Wm rfl (Wm rfl (Wn ?_)))); dsimp only [zn, zr, zx, yn, yr]; refine Cs (Co (Wm rfl ?_)))
    (refine Wc ?_)
    refine OL.mkMap hL (fun mb h' hL => ?_)
    (refine Wc (OP.buildN rfl (by simp [over, Value.cells]; rfl) ?_); refine Wc ?_; refine OL.boxA hL rfl rfl (fun b h' hL => (Wm rfl (Wn ?_))); dsimp only [zn, zr, zx, yn, yr]; refine Cs (Cs (Co (Wm rfl (Wc ?_)))); refine OL.callV hL rfl rfl (c0 _ _) (fun h' hp hL => (Wc (OP.not rfl (Wm rfl (WO.yes rfl (Wm rfl (WO.yes rfl (Wc (OP.lenS rfl (WO.yes rfl (Wc (OP.gtrT rfl rfl (by omega) ?_)))))))))))); refine Wc (OP.pickF rfl rfl (Wn ?_)); dsimp only [zn, zr, zx, yn, yr]; refine WC.condT rfl (Cs (Co (Wm rfl (Wm rfl (Wn ?_))))); dsimp only [zn, zr, zx, yn, yr]; refine WC.ret ?_; dsimp only [zn, zr, zx, yn, yr])
    exact Fin.ret rfl (HQ.out _ _ ⟨hL.pfx, by rw [IsL_form fun q => by omega]; rfl⟩)
  have hform : Hid ((0 ≤ ob ∧ ob ≤ 2) ∧ es.length ≤ 64) := ⟨hob, by omega⟩
  (refine Cs (Co (Wm rfl (Wm rfl (Wn ?_)))); dsimp only [zn, zr, zx, yn, yr]; refine Cs (Co (Wm rfl ?_)))
  (refine Wc ?_)
  refine OL.mkMap hL (fun mb h' hL => ?_)
  (refine Wc (OP.buildN rfl (by simp [over, Value.cells]; rfl) ?_); refine Wc ?_; refine OL.boxA hL rfl rfl (fun b h' hL => (Wm rfl (Wn ?_))); dsimp only [zn, zr, zx, yn, yr]; refine Cs (Cs (Co (Wm rfl (Wc ?_)))); refine OL.callV hL rfl rfl (c0 _ _) (fun h' hp hL => (Wc (OP.not rfl (Wm rfl (WO.yes rfl (Wm rfl (WO.yes rfl (Wc (OP.lenS rfl (WO.yes rfl (Wc (OP.gtrF rfl rfl (by omega) ?_)))))))))))); refine Wc (OP.pickF rfl rfl (Wn ?_)); dsimp only [zn, zr, zx, yn, yr]; refine WC.condF rfl (WC.skip ?_); dsimp only [zn, zr, zx, yn, yr]; refine Cs (Cs (Co (Wm rfl (Wc (OP.lenS rfl (Wm rfl (Wn ?_))))))); dsimp only [zn, zr, zx, yn, yr]; refine WC.block ?_)
  obtain ⟨hb, ehb⟩ : ∃ hb, hb = b := ⟨b, rfl⟩
  subst ehb
  have hmb := hL.get (k := 1) rfl
  have hbx := hL.cell (k := 0) rfl
  have hlt : mb + 1 ≤ hb := (LocB.get (show LocB h h' hb [mp mb []] from hL.2.2.2) (k := 0) rfl).2.2.2
  have hmlo : h.length ≤ mb := hL.lo (k := 1) rfl
  have hbl : hb < h'.length := (List.getElem?_eq_some_iff.1 hbx).1
  refine WC.loop (fun q : LI => LInv h es mb hb ob q) (fun q => [(0, .int .i64 ob), (6, .pointer (some ⟨hb, 0, none⟩)), (21, .slice a es.length c), (22, .int .i64 es.length), (23, .int .i64 (q.i : Int))]) (fun q => q.h) (fun q => es.length - q.i) ?_ ⟨0, _, H4.none, fun _ => none, hb + 1⟩ ⟨Nat.zero_le _, hL.pfx, hmb, hlt, hmlo, ⟨hbx, Nat.le_refl _, Nat.lt_succ_self _, fun t ht => .inl ⟨none_get ht, rfl⟩, fun t u x y _ _ _ hx => by cases hx⟩, by simp only; omega, rfl, HInv.none⟩ (by (refine Sub.cons rfl (Sub.cons rfl (Sub.cons rfl (Sub.cons rfl (Sub.cons rfl ?_)))); exact Sub.nil _)) rfl
  clear hL
  intro ⟨i, h5, C, A, hi⟩ hI
  obtain ⟨hI1, hI2, hI3, hI4, hI5, hI6, hI7, hI8, hI9⟩ := hI
  simp only at hI1 hI2 hI3 hI4 hI5 hI6 hI7 hI8 hI9 ⊢
  have HI : Hid (HistF h5 hb hi hb mb ob A C) := hI6
  have HM : Hid (h5[mb]? = some (.map (mpv []))) := hI3
  have HN : Hid (histH es 1 H4.none = histH (es.drop i) ((i : Int) + 1) C) := hI8
  have HV : Hid (HInv C ((i : Int) + 1)) := hI9
  have hs5 := hs.pfx hI2
  clear hI3 hI6 hI8 hI9 hmb hbx
  have hL := Loc.start h5
  have hlim : lim ≤ h5.length := Nat.le_trans hlim hI2.1
  have hin : es.length ≤ 64 := hform.out.2
  by_cases hlt' : i < es.length
  · have hdr : es.drop i = es[i] :: es.drop (i + 1) := List.drop_eq_getElem_cons hlt'
    have HN' : Hid (histH es 1 H4.none = histH (es[i] :: es.drop (i + 1)) ((i : Int) + 1) C) := by rw [← hdr]; exact HN
    clear hdr HN
    (refine Cs (Co (Wc (OP.lssT rfl rfl (by omega) ?_))); refine Wn ?_; dsimp only [zn, zr, zx, yn, yr]; refine Cs (WC.condT rfl (WC.skip ?_)); dsimp only [zn, zr, zx, yn, yr]; refine Cs (WC.block (Cs (Co (Wm rfl (Wc (OP.idxS (by assumption) rfl rfl (by omega) ?_)))))))
    (refine Wc ?_)
    refine OP.ldR evC_len (by decide) hs5 rfl (by omega) ?_
    generalize hei : es[i] = ei at HN' ⊢
    clear hei hs5 hs
    obtain ⟨et, ek, ec, er, ea, ex⟩ := ei
    simp only [evC] at ⊢
    (refine Wc ?_; refine OL.new hL (fun b h' hL => (Wm rfl (WO.cons0 ?_))); refine OL.storeAll (k := 0) hL hlim rfl rfl rfl rfl rfl rfl (by decide) rfl (fun h' hL => ?_); dsimp only [List.set, Nat.zero_add, Nat.reduceAdd, Nat.reduceMul] at hL; refine Wn ?_; dsimp only [zn, zr, zx, yn, yr]; refine Cs (Co (Wm rfl (Wc (OL.loadAll (k := 0) hL rfl rfl rfl (Wm rfl (Wc (OP.add rfl rfl (by omega) ?_))))))))
    (refine Wc ?_)
    have hlo : lim ≤ hb := by omega
    have hH6 : HistF h' hb hi hb mb ob A C := HI.out.same fun d _ hd => hL.pfx.2 d (by omega)
    refine OP.call rfl rfl ((e1 lim h' (e := ⟨et, ek, ec, er, ea, ex⟩) hlo (by have := hL.pfx.1; omega) hH6 (fun t ht => by have := (HV.out t ht).1; omega)).mono fun v h7 hP => ?_)
    clear hH6
    have hpx := hL.pfx
    clear hL
    obtain ⟨hP1, hP2, hP3⟩ := hP
    have HP : Pfx h h7 := ⟨by have := hI2.1; have := hpx.1; omega, fun d hd => by rw [hP2 d (.inl (by omega)) (by have := hpx.1; have := hI2.1; omega), hpx.2 d (by have := hI2.1; omega)]; exact hI2.2 d hd⟩
    have HM' : Hid (h7[mb]? = some (.map (mpv []))) := by
      have hm5 := (List.getElem?_eq_some_iff.1 HM.out).1
      show h7[mb]? = _
      rw [hP2 mb (.inl (by omega)) (by have := hpx.1; omega), hpx.2 mb hm5]
      exact HM.out
    have hL := Loc.start h7
    rcases hP3 with ⟨hT, rfl⟩ | ⟨D, A', hT, rfl, hF'⟩
    · have HE : Hid (IsL ob es = (false, 2400)) := IsL_none (by
        rw [HN'.out]
        unfold histH
        rw [hT])
      clear hP2 hT
      (refine Wc (OP.not rfl (Wn ?_)); dsimp only [zn, zr, zx, yn, yr]; refine WC.condT rfl (Cs (Co (Wm rfl (Wm rfl (Wn ?_))))); dsimp only [zn, zr, zx, yn, yr]; refine WC.ret ?_; dsimp only [zn, zr, zx, yn, yr])
      exact Fin.ret rfl (HQ.out _ _ ⟨HP, by rw [HE.out]; rfl⟩)
    · have HE : Hid (LInv h es mb hb ob ⟨i + 1, h7, D, A', h7.length⟩) := ⟨hlt', HP, HM', hI4, hI5, hF', Nat.le_refl _, by
        rw [HN'.out, histH, hT]
        rfl, HV.out.take (by omega) hT⟩
      clear hP2 hT hF'
      (refine Wc (OP.not rfl (Wn ?_)); dsimp only [zn, zr, zx, yn, yr]; refine WC.condF rfl (WC.skip ?_); dsimp only [zn, zr, zx, yn, yr]; refine Co (Wc (OP.add rfl rfl (by omega) ?_)); refine Wm rfl (Wn ?_); dsimp only [zn, zr, zx, yn, yr])
      exact ⟨⟨i + 1, _, D, A', _⟩, HE, by (refine Sub.cons rfl (Sub.cons rfl (Sub.cons rfl (Sub.cons rfl (Sub.cons rfl ?_)))); exact Sub.nil _), rfl, by simp only; omega⟩
  · have hie : i = es.length := by omega
    subst hie
    have HE : Hid (histH es 1 H4.none = some C) := by
      show _ = _
      rw [HN.out, List.drop_length]
      rfl
    clear HN
    (refine Cs (Co (Wc (OP.lssF rfl rfl (by omega) ?_))); refine Wn ?_; dsimp only [zn, zr, zx, yn, yr]; refine Cs (WC.condF rfl (WC.exit ?_)); dsimp only [zn, zr, zx, yn, yr]; rw [yx, if_pos rfl]; dsimp only [zn, zr, zx, yn, yr]; refine Cs (Co (Wm rfl (Wc (OP.buildN rfl rfl (Wc (OP.buildN rfl rfl ?_)))))))
    (refine Wc ?_)
    refine OP.call rfl rfl (((e2 257) lim _ (p := P4.zero) (r0 := nilRow) (r1 := nilRow) (r2 := nilRow) (r3 := nilRow) (S := []) HI.out.r (HV.out.ok (by omega)) ⟨⟨Nat.zero_le _, Nat.zero_le _, Nat.zero_le _, Nat.zero_le _⟩, ObMay_none hform.out.1⟩ (nilSt _) HM (by omega) (fun q u _ _ hk => by cases hk) (by decide)).mono fun v h7 hP => ?_)
    obtain ⟨hK, S', _, hP3⟩ := hP
    have HP : Pfx h h7 := ⟨Nat.le_trans hI2.1 hK.1, fun d hd => by rw [hK.2 d (by omega) (by have := hI2.1; omega)]; exact hI2.2 d hd⟩
    have HR : ∃ w : Bool, v = .bool w ∧ Hid (IsL ob es = (w, 0)) := by
      rcases hP3 with ⟨rfl, hl⟩ | ⟨rfl, hl, _⟩
      · exact ⟨true, rfl, IsL_some hform.out HE.out ⟨fun _ => hl, fun _ => rfl⟩⟩
      · exact ⟨false, rfl, IsL_some hform.out HE.out ⟨fun q => (by cases q), fun q => absurd q hl⟩⟩
    obtain ⟨w, rfl, HR⟩ := HR
    clear hP3 hK hL
    have hL := Loc.start h7
    (refine Wm rfl (Wm rfl (Wn ?_)); dsimp only [zn, zr, zx, yn, yr]; refine WC.ret ?_)
    exact Fin.ret rfl (HQ.out _ _ ⟨HP, by rw [HR.out]; rfl⟩)
end
end
end Go.Proofs.YtalknjppnkpmmaaDoorW.Ai
