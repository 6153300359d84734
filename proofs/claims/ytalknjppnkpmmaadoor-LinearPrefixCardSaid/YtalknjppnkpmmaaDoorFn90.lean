/-
 Histories (chapter 24), as the document has them: which may be.
-/
import Derived.Test.YtalknjppnkpmmaaDoorFn89
set_option linter.unusedVariables false
set_option linter.unusedSimpArgs false
set_option maxHeartbeats 600000
set_option maxRecDepth 100000
namespace Go.Proofs.YtalknjppnkpmmaaDoorW.Ai
-- chorus/chorusref24.upTo
def rf_upTo24 : RFunc :=
 ⟨15, [(.tmp 6)], (.seq (.ops [rO 6 (.mv (.const (.bool false)))]) (.seq (.ops [rO 7 (.mv (.tmp 0)), rO 8 (.mv (.tmp 1)), rO 9 (.bin .geq (.tmp 7) (.tmp 8)), rO 10 (.mv (.tmp 9)), ⟨(.some 11), (.mv (.tmp 0)), (.some (10, true)), false, []⟩, ⟨(.some 12), (.mv (.tmp 2)), (.some (10, true)), false, []⟩, ⟨(.some 13), (.bin .leq (.tmp 11) (.tmp 12)), (.some (10, true)), false, []⟩, rO 14 (.pick (.tmp 10) (.tmp 13) (.const (.bool false))), rO 6 (.mv (.tmp 14))]) .ret))⟩
-- chorus/chorusref24.HistoryMay; g0 = chorus/chorusref24.upTo; g1 = chorus/chorusref1.OperMay
def rf_hMay (g0 g1 : Nat) : RFunc :=
 ⟨72, [(.tmp 2)], (.seq (.ops [rO 2 (.mv (.const (.bool false)))]) (.seq (.ops [rO 3 (.new [(.bool false), (.bool false), (.bool false), (.bool false)])]) (.seq (.ops [rO 4 (.new [(.int .i64 0), (.int .i64 0), (.int .i64 0), (.int .i64 0), (.int .i64 0), (.int .i64 0), (.int .i64 0), (.int .i64 0), (.int .i64 0), (.int .i64 0), (.int .i64 0), (.int .i64 0)])]) (.seq (.seq (.ops [rO 5 (.mv (.const (.int .i64 0)))]) (.block 0 (.loop (.seq (.seq (.ops [rO 7 (.mv (.tmp 5)), rO 8 (.mv (.tmp 0)), rO 9 (.len 1 (.tmp 8)), rO 10 (.bin .lss (.tmp 7) (.tmp 9))]) (.cond (.tmp 10) .skip (.exit 0))) (.seq (.block 1 (.seq (.ops [rO 13 (.mv (.tmp 0)), rO 14 (.mv (.tmp 5)), rO 15 (.idxAddr 6 (.tmp 13) (.tmp 14)), rO 16 (.load (.some 6) (.tmp 15)), rO 6 (.new [(.int .i64 0), (.bool false), (.int .i64 0), (.int .i64 0), (.int .i64 0), (.int .i64 0)]), ⟨.none, (.store 6 (.tmp 6) (.tmp 16)), .none, false, []⟩]) (.seq (.seq (.ops [rO 17 (.fieldAddr 0 (.tmp 6)), rO 18 (.load .none (.tmp 17)), rO 19 (.call (.func g0) [(.tmp 18), (.const (.int .i64 0)), (.const (.int .i64 3))]), rO 20 (.un .not (.tmp 19)), rO 21 (.mv (.tmp 20)), ⟨(.some 22), (.fieldAddr 2 (.tmp 6)), (.some (21, false)), false, []⟩, ⟨(.some 23), (.load (.some 3) (.tmp 22)), (.some (21, false)), false, []⟩, ⟨(.some 24), (.call (.func g1) [(.tmp 23)]), (.some (21, false)), false, []⟩, ⟨(.some 25), (.un .not (.tmp 24)), (.some (21, false)), false, []⟩, rO 26 (.pick (.tmp 21) (.const (.bool true)) (.tmp 25)), rO 27 (.mv (.tmp 26)), ⟨(.some 28), (.fieldAddr 1 (.tmp 6)), (.some (27, false)), true, []⟩, ⟨(.some 29), (.load .none (.tmp 28)), (.some (27, false)), true, []⟩, ⟨(.some 30), (.fieldAddr 0 (.tmp 6)), (.some (27, false)), true, []⟩, ⟨(.some 31), (.load .none (.tmp 30)), (.some (27, false)), true, []⟩, ⟨(.some 32), (.idxAddrArr 4 1 (.tmp 3) (.tmp 31)), (.some (27, false)), true, []⟩, ⟨(.some 33), (.load .none (.tmp 32)), (.some (27, false)), true, []⟩, ⟨(.some 34), (.eq false .none (.tmp 29) (.tmp 33)), (.some (27, false)), false, []⟩, rO 35 (.pick (.tmp 27) (.const (.bool true)) (.tmp 34)), rO 36 (.mv (.tmp 35)), ⟨(.some 37), (.fieldAddr 1 (.tmp 6)), (.some (36, false)), false, []⟩, ⟨(.some 38), (.load .none (.tmp 37)), (.some (36, false)), false, []⟩, ⟨(.some 39), (.mv (.tmp 38)), (.some (36, false)), false, []⟩, ⟨(.some 40), (.fieldAddr 5 (.tmp 6)), (.some (39, true)), false, []⟩, ⟨(.some 41), (.load .none (.tmp 40)), (.some (39, true)), false, []⟩, ⟨(.some 42), (.bin .neq (.tmp 41) (.const (.int .i64 0))), (.some (39, true)), false, []⟩, ⟨(.some 43), (.pick (.tmp 39) (.tmp 42) (.const (.bool false))), (.some (36, false)), false, []⟩, rO 44 (.pick (.tmp 36) (.const (.bool true)) (.tmp 43)), rO 45 (.mv (.tmp 44)), ⟨(.some 46), (.fieldAddr 1 (.tmp 6)), (.some (45, false)), false, []⟩, ⟨(.some 47), (.load .none (.tmp 46)), (.some (45, false)), false, []⟩, ⟨(.some 48), (.un .not (.tmp 47)), (.some (45, false)), false, []⟩, ⟨(.some 49), (.mv (.tmp 48)), (.some (45, false)), false, []⟩, ⟨(.some 50), (.fieldAddr 2 (.tmp 6)), (.some (49, true)), true, []⟩, ⟨(.some 51), (.load (.some 3) (.tmp 50)), (.some (49, true)), true, []⟩, ⟨(.some 52), (.fieldAddr 0 (.tmp 6)), (.some (49, true)), true, []⟩, ⟨(.some 53), (.load .none (.tmp 52)), (.some (49, true)), true, []⟩, ⟨(.some 54), (.idxAddrArr 4 3 (.tmp 4) (.tmp 53)), (.some (49, true)), true, []⟩, ⟨(.some 55), (.load (.some 3) (.tmp 54)), (.some (49, true)), true, []⟩, ⟨(.some 56), (.eq true (.some [1, 1, 1]) (.tmp 51) (.tmp 55)), (.some (49, true)), false, []⟩, ⟨(.some 57), (.pick (.tmp 49) (.tmp 56) (.const (.bool false))), (.some (45, false)), false, []⟩, rO 58 (.pick (.tmp 45) (.const (.bool true)) (.tmp 57))]) (.cond (.tmp 58) (.seq (.ops [rO 2 (.mv (.const (.bool false)))]) .ret) .skip)) (.seq (.ops [rO 59 (.fieldAddr 0 (.tmp 6)), rO 60 (.load .none (.tmp 59)), rO 61 (.fieldAddr 1 (.tmp 6)), rO 62 (.load .none (.tmp 61)), rO 63 (.idxAddrArr 4 1 (.tmp 3) (.tmp 60)), ⟨.none, (.store 1 (.tmp 63) (.tmp 62)), .none, false, []⟩]) (.ops [rO 64 (.fieldAddr 0 (.tmp 6)), rO 65 (.load .none (.tmp 64)), rO 66 (.fieldAddr 2 (.tmp 6)), rO 67 (.load (.some 3) (.tmp 66)), rO 68 (.idxAddrArr 4 3 (.tmp 4) (.tmp 65)), ⟨.none, (.store 3 (.tmp 68) (.tmp 67)), .none, false, []⟩]))))) (.ops [rO 11 (.mv (.tmp 5)), rO 12 (.bin .add (.tmp 11) (.const (.int .i64 1))), rO 5 (.mv (.tmp 12))])))))) (.seq (.ops [rO 69 (.mv (.tmp 0)), rO 70 (.len 1 (.tmp 69)), rO 71 (.bin .leq (.tmp 70) (.const (.int .i64 64))), rO 2 (.mv (.tmp 71))]) .ret)))))⟩
/-- A history that may be. -/
def HMay (es : List EvR) : Prop := (∃ C, histH es 1 H4.none = some C) ∧ es.length ≤ 64
noncomputable instance (es : List EvR) : Decidable (HMay es) := Classical.propDecidable _
theorem IsL_may {ob : Int} {es : List EvR} (h : IsL ob es = (true, 0)) : HMay es := by
 rcases IsL_cases ob es with g | g | ⟨-, hf, E, hE, hl⟩
 ·rw [h] at g; cases g
 ·rw [h] at g; cases g
 exact ⟨⟨E, hE⟩, hf.2⟩
section
variable (X : Ext) (F : FuncId → Option RFunc) (g : FuncId)
abbrev S_hMay : Prop := ∀ (lim : Nat) (h : AH) {es : List EvR} {a : Option Addr} {n c : Nat}, lim ≤ h.length → Sl 6 h a n c (recs evC es) → n ≤ 2 ^ 43 → Ret X F lim g [.slice a n c] h fun v h' => Pfx h h' ∧ v = .bool (decide (HMay es))
end
def updF {α : Type} (g : Nat → α) (t : Nat) (x : α) : Nat → α := fun u => if u = t then x else g u
/-- Who is in a call, with which operation. -/
def JOn (C : H4) (on : Nat → Bool) (ops : Nat → OpR) : Prop := ∀ t : Nat, t < 4 → (on t = false ∧ pendL (C.get (t : Nat)) = none) ∨ (on t = true ∧ ∃ m p, C.get (t : Nat) = m ++ [p] ∧ p.t = 0 ∧ ops t = ⟨p.c, p.r, p.a⟩)
theorem JOn.none : JOn H4.none (fun _ => false) (fun _ => ⟨0, 0, 0⟩) := fun t ht => .inl ⟨rfl, by rw [none_get ht]; rfl⟩
section
variable {C : H4} {on : Nat → Bool} {ops : Nat → OpR} (H : JOn C on ops) {t : Nat} (ht : t < 4) {c r a x k : Int}
include H ht
theorem JOn.call (ho : OpOk c r a) (hon : on t = false) : ∃ D, takeH C ⟨t, true, c, r, a, 0⟩ k = some D ∧ JOn D (updF on t true) (updF ops t ⟨c, r, a⟩) := by
 have hp : pendL (C.get (t : Nat)) = .none := by
  rcases H t ht with h | h
  ·exact h.2
  ·rw [hon] at h; cases h.1
 refine ⟨_, takeH_call ⟨by simp only; omega, by simp only; omega⟩ ho rfl hp rfl, fun u hu => ?_⟩
 unfold updF
 rw [put_nat _ _ ht hu]
 by_cases e : u = t
 ·rw [if_pos e, if_pos e, if_pos e]
  exact .inr ⟨rfl, _, _, rfl, rfl, rfl⟩
 ·rw [if_neg e, if_neg e, if_neg e]
  exact H u hu
theorem JOn.ans (ho : OpOk c r a) (hon : on t = true) (hop : ops t = ⟨c, r, a⟩) (hk : k ≠ 0) : ∃ D, takeH C ⟨t, false, c, r, a, x⟩ k = some D ∧ JOn D (updF on t false) (updF ops t ⟨c, r, a⟩) := by
 obtain ⟨m, p, hm, hp, hx⟩ : ∃ m p, C.get (t : Nat) = m ++ [p] ∧ p.t = 0 ∧ ops t = ⟨p.c, p.r, p.a⟩ := by
  rcases H t ht with h | h
  ·rw [hon] at h; cases h.1
  ·exact h.2
 rw [hop] at hx
 injection hx with h1 h2 h3
 refine ⟨_, takeH_ans ⟨by simp only; omega, by simp only; omega⟩ ho rfl hm hp ⟨h1.symm, h2.symm, h3.symm⟩, fun u hu => ?_⟩
 unfold updF
 rw [put_nat _ _ ht hu]
 by_cases e : u = t
 ·rw [if_pos e, if_pos e, if_pos e, pendL_snoc]
  exact .inl ⟨rfl, if_neg hk⟩
 ·rw [if_neg e, if_neg e, if_neg e]
  exact H u hu
theorem JOn.noCall (hon : on t = true) : takeH C ⟨t, true, c, r, a, x⟩ k = .none := by
 cases h : takeH C ⟨t, true, c, r, a, x⟩ k with
 | none => rfl
 | some D =>
  obtain ⟨_, _, hr⟩ := takeH_inv h
  rcases hr with ⟨_, hp, _⟩ | ⟨hc, _⟩
  ·rcases H t ht with g | ⟨_, m, p, hm, h0, _⟩
   ·rw [hon] at g; cases g.1
   ·have hp : pendL (C.get (t : Nat)) = .none := hp
    rw [hm, pendL_snoc, if_pos h0] at hp; cases hp
  ·cases hc
theorem JOn.noAns (hon : on t = false) : takeH C ⟨t, false, c, r, a, x⟩ k = .none := by
 cases h : takeH C ⟨t, false, c, r, a, x⟩ k with
 | none => rfl
 | some D =>
  obtain ⟨_, _, hr⟩ := takeH_inv h
  rcases hr with ⟨hc, _⟩ | ⟨hc, m, p, hm, h0, _⟩
  ·cases hc
  ·rcases H t ht with g | g
   ·have hm : C.get (t : Nat) = m ++ [p] := hm
    have := g.2
    rw [hm, pendL_snoc, if_pos h0] at this
    cases this
   ·rw [hon] at g; cases g.1
theorem JOn.noOp (hon : on t = true) (hop : ops t ≠ ⟨c, r, a⟩) : takeH C ⟨t, false, c, r, a, x⟩ k = .none := by
 cases h : takeH C ⟨t, false, c, r, a, x⟩ k with
 | none => rfl
 | some D =>
  obtain ⟨_, _, hr⟩ := takeH_inv h
  rcases hr with ⟨hc, _⟩ | ⟨hc, m, p, hm, h0, he, _⟩
  ·cases hc
  ·rcases H t ht with g | ⟨_, m', p', hm', _, he'⟩
   ·rw [hon] at g; cases g.1
   ·have hm : C.get (t : Nat) = m ++ [p] := hm
    rw [hm] at hm'
    obtain ⟨_, hpp⟩ := List.append_inj' hm' rfl
    have hpp : p = p' := by simpa using hpp
    subst hpp
    exact absurd (by rw [he', he.1, he.2.1, he.2.2]) hop
end
theorem takeH_noT {C : H4} {e : EvR} {k : Int} (h : ¬ (0 ≤ e.t ∧ e.t ≤ 3)) : takeH C e k = none := if_neg fun q => h ⟨q.1.1, by have := q.1.2; omega⟩
theorem takeH_noO {C : H4} {e : EvR} {k : Int} (h : ¬ OpOk e.c e.r e.a) : takeH C e k = none := if_neg fun q => h q.2
theorem takeH_noX {C : H4} {e : EvR} {k : Int} (hc : e.call = true) (h : e.x ≠ 0) : takeH C e k = none := by
 cases g : takeH C e k with
 | none => rfl
 | some D =>
  obtain ⟨_, _, hr⟩ := takeH_inv g
  rcases hr with ⟨_, _, hx, _⟩ | ⟨hc', _⟩
  ·exact absurd hx h
  ·rw [hc] at hc'; cases hc'
structure LM where
 i : Nat
 h : AH
 C : H4
 on : Nat → Bool
 ops : Nat → OpR
def onC (on : Nat → Bool) : List Value := [.bool (on 0), .bool (on 1), .bool (on 2), .bool (on 3)]
def opsC (o : Nat → OpR) : List Value := [.int .i64 (o 0).c, .int .i64 (o 0).r, .int .i64 (o 0).a, .int .i64 (o 1).c, .int .i64 (o 1).r, .int .i64 (o 1).a, .int .i64 (o 2).c, .int .i64 (o 2).r, .int .i64 (o 2).a, .int .i64 (o 3).c, .int .i64 (o 3).r, .int .i64 (o 3).a]
section
variable {X : Ext} {F : FuncId → Option RFunc} {f : FuncId}
theorem s_upTo24 (hX : X f = none) (hF : F f = some rf_upTo24) : S_upTo X F f := by
 intro lim h x a b
 have hL := Loc.start h
 refine Ret.body hX hF rfl ?_
 simp only [argL, rf_upTo24]
 (refine Cs (Co (Wm rfl (Wt ?_))); refine Cs (Co (Wm rfl (Wm rfl (Wc ?_)))); refine OP.geqC rfl rfl (fun hc => ?_) (fun hc => ?_); refine Wm rfl (WO.yes rfl (Wm rfl (WO.yes rfl (Wm rfl (WO.yes rfl (Wc ?_)))))); refine OP.leqC rfl rfl (fun hc => ?_) (fun hc => ?_); refine Wc (OP.pickT rfl rfl (Wm rfl (Wt ?_))); refine WC.ret ?_; exact Fin.ret rfl ⟨hL.pfx, boolT (by omega)⟩; refine Wc (OP.pickT rfl rfl (Wm rfl (Wt ?_))); refine WC.ret ?_; exact Fin.ret rfl ⟨hL.pfx, boolF (by omega)⟩; refine Wm rfl (WO.no rfl (WO.no rfl (WO.no rfl (Wc (OP.pickF rfl rfl (Wm rfl (Wt ?_))))))); refine WC.ret ?_; exact Fin.ret rfl ⟨hL.pfx, boolF (by omega)⟩)
theorem s_hMay {g0 g1 : Nat} (hX : X f = none) (hF : F f = some (rf_hMay g0 g1)) (c0 : S_upTo X F g0) (c1 : S_OperMay X F g1) : S_hMay X F f := by
 intro lim h es a n c hlim hs hn
 have hrl := hs.rlen evC_len (by decide)
 subst hrl
 have hL := Loc.start h
 refine Ret.body hX hF rfl ?_
 simp only [argL, rf_hMay]
 generalize hb56 : (ROp.eq true (.some [1, 1, 1]) (.tmp 51) (.tmp 55)) = op56
 (refine Cs (Co (Wm rfl (Wn (Cs (Co ?_))))); dsimp only [zn, zr, zx, yn, yr])
 (refine Wc ?_; refine OL.new hL (fun BB3 h1 hL => ?_))
 (refine Wn (Cs (Co ?_)); dsimp only [zn, zr, zx, yn, yr])
 (refine Wc ?_; refine OL.new hL (fun BB4 h2 hL => ?_))
 (refine Wn (Cs (Cs (Co (Wm rfl (Wt ?_))))); refine WC.block ?_)
 refine WC.loop (fun q : LM => q.i ≤ es.length ∧ Hid (histH es 1 H4.none = histH (es.drop q.i) ((q.i : Int) + 1) q.C) ∧ Hid (JOn q.C q.on q.ops) ∧ Loc h q.h [bx BB4 (opsC q.ops), bx BB3 (onC q.on)]) (fun q => [(0, .slice a es.length c), (3, .pointer (some ⟨BB3, 0, none⟩)), (4, .pointer (some ⟨BB4, 0, none⟩)), (5, .int .i64 (q.i : Int))]) (fun q => q.h) (fun q => es.length - q.i) ?_ ⟨0, _, H4.none, fun _ => false, fun _ => ⟨0, 0, 0⟩⟩ ⟨Nat.zero_le _, rfl, JOn.none, hL⟩ (by (refine Sub.cons rfl (Sub.cons rfl (Sub.cons rfl (Sub.cons rfl ?_))); exact Sub.nil _)) rfl
 clear hL
 intro ⟨i, h5, C, on, ops⟩ ⟨hi, HN, HJ, hL⟩
 simp only at hi HN HJ hL ⊢
 simp only [onC, opsC] at hL
 have HS : True → Sl 6 h5 a es.length c (recs evC es) := fun _ => hs.pfx hL.pfx
 clear hs
 by_cases hlt : i < es.length
 ·have hdr : es.drop i = es[i] :: es.drop (i + 1) := List.drop_eq_getElem_cons hlt
  have HK : Hid (histH es 1 H4.none = histH (es[i] :: es.drop (i + 1)) ((i : Int) + 1) C) := by rw [← hdr]; exact HN
  clear hdr HN
  (refine Cs (Cs (Co (Wm rfl (Wm rfl (Wc (OP.lenS rfl (Wc (OP.lssT rfl rfl (by omega) ?_)))))))); refine Wt ?_; refine WC.condT rfl (Ks ?_); refine Cs (WC.block (Cs (Co (Wm rfl (Wm rfl ?_))))))
  (refine Wc ?_)
  refine OP.idxS (HS trivial) rfl rfl (by omega) ?_
  (refine Wc ?_)
  refine OP.ldR evC_len (by decide) (HS trivial) rfl (by omega) ?_
  generalize hei : es[i] = ei at HK ⊢
  clear hei HS
  obtain ⟨et, ek, ec, er, ea, ex⟩ := ei
  simp only [evC] at ⊢
  have hno : takeH C ⟨et, ek, ec, er, ea, ex⟩ ((i : Int) + 1) = none → Hid (¬ HMay es) := fun hT hm => by
   obtain ⟨⟨E, hE⟩, _⟩ := hm
   rw [HK.out, histH, hT] at hE
   cases hE
  have hyes : ∀ D, takeH C ⟨et, ek, ec, er, ea, ex⟩ ((i : Int) + 1) = some D → Hid (histH es 1 H4.none = histH (es.drop (i + 1)) (((i + 1 : Nat) : Int) + 1) D) := fun D hT => by
   show _ = _
   rw [HK.out, histH, hT]
   rfl
  by_cases hT : 0 ≤ et ∧ et ≤ 3
  case neg =>
   have HF : Hid (¬ HMay es) := hno (takeH_noT hT)
   have c0 : ∀ lim h', Ret X F lim g0 [.int .i64 et, .int .i64 0, .int .i64 3] h' fun v h'' => Pfx h' h'' ∧ v = .bool false := fun lim h' => by
    have := c0 lim h' (x := et) (y := 0) (z := 3)
    rw [decide_eq_false hT] at this
    exact this
   clear HK hno hyes HJ
   (refine Wc ?_; refine OL.new hL (fun b h' hL => (WO.cons0 ?_)); refine OL.storeAll (k := 0) hL hlim rfl rfl rfl rfl rfl rfl (by decide) rfl (fun h' hL => ?_); dsimp only [List.set, Nat.zero_add, Nat.reduceAdd, Nat.reduceMul] at hL; refine Wt ?_; refine Cs (Cs (Co (Wc (OP.fieldAddr0 rfl (Wc (OL.load1 (k := 0) hL rfl rfl rfl (Wc ?_))))))); refine OL.callV hL rfl rfl (c0 _ _) (fun h' hp hL => (Wc (OP.not rfl (Wm rfl (WO.no rfl (WO.no rfl (WO.no rfl (WO.no rfl (Wc (OP.pickT rfl rfl (Wm rfl (WO.no rfl (WO.no rfl (WO.no rfl (WO.no rfl (WO.no rfl (WO.no rfl (WO.no rfl (Wc (OP.pickT rfl rfl (Wm rfl (WO.no rfl (WO.no rfl (WO.no rfl (WO.noU rfl (WO.noU rfl (WO.noU rfl (WO.no rfl (Wc (OP.pickT rfl rfl (Wm rfl (WO.no rfl (WO.no rfl (WO.no rfl (WO.no rfl (WO.noU rfl (WO.noU rfl (WO.noU rfl (WO.noU rfl (WO.noU rfl (WO.noU rfl (WO.noU rfl (WO.no rfl (Wc (OP.pickT rfl rfl (Wt ?_)))))))))))))))))))))))))))))))))))))))))))))); refine WC.condT rfl (Cs (Co (Wm rfl (Wt ?_)))); refine WC.ret ?_; dsimp only [zn, zr, zx, yn, yr])
   exact Fin.ret rfl ⟨hL.pfx, by rw [decide_eq_false HF.out]; rfl⟩
  have c0 : ∀ lim h', Ret X F lim g0 [.int .i64 et, .int .i64 0, .int .i64 3] h' fun v h'' => Pfx h' h'' ∧ v = .bool true := fun lim h' => by
   have := c0 lim h' (x := et) (y := 0) (z := 3)
   rw [decide_eq_true hT] at this
   exact this
  by_cases ho : OpOk ec er ea
  case neg =>
   have HF : Hid (¬ HMay es) := hno (takeH_noO ho)
   have c1 : ∀ lim h', Ret X F lim g1 [.agg #[.int .i64 ec, .int .i64 er, .int .i64 ea]] h' fun v h'' => Pfx h' h'' ∧ v = .bool false := fun lim h' => by
    have := c1 lim h' (c := ec) (r := er) (a := ea)
    rw [decide_eq_false ho] at this
    exact this
   clear HK hno hyes HJ
   (refine Wc ?_; refine OL.new hL (fun b h' hL => (WO.cons0 ?_)); refine OL.storeAll (k := 0) hL hlim rfl rfl rfl rfl rfl rfl (by decide) rfl (fun h' hL => ?_); dsimp only [List.set, Nat.zero_add, Nat.reduceAdd, Nat.reduceMul] at hL; refine Wt ?_; refine Cs (Cs (Co (Wc (OP.fieldAddr0 rfl (Wc (OL.load1 (k := 0) hL rfl rfl rfl (Wc ?_))))))); refine OL.callV hL rfl rfl (c0 _ _) (fun h' hp hL => (Wc (OP.not rfl (Wm rfl (WO.yes rfl (Wc (OP.fieldAddr0 rfl (WO.yes rfl (Wc (OL.load (k := 0) hL rfl rfl rfl (WO.yes rfl (Wc ?_)))))))))))); refine OL.callV hL rfl rfl (c1 _ _) (fun h' hp hL => (WO.yes rfl (Wc (OP.not rfl (Wc (OP.pickF rfl rfl (Wm rfl (WO.no rfl (WO.no rfl (WO.no rfl (WO.no rfl (WO.no rfl (WO.no rfl (WO.no rfl (Wc (OP.pickT rfl rfl (Wm rfl (WO.no rfl (WO.no rfl (WO.no rfl (WO.noU rfl (WO.noU rfl (WO.noU rfl (WO.no rfl (Wc (OP.pickT rfl rfl (Wm rfl (WO.no rfl (WO.no rfl (WO.no rfl (WO.no rfl (WO.noU rfl (WO.noU rfl (WO.noU rfl (WO.noU rfl (WO.noU rfl (WO.noU rfl (WO.noU rfl (WO.no rfl (Wc (OP.pickT rfl rfl (Wt ?_)))))))))))))))))))))))))))))))))))))))))); refine WC.condT rfl (Cs (Co (Wm rfl (Wt ?_)))); refine WC.ret ?_; dsimp only [zn, zr, zx, yn, yr])
   exact Fin.ret rfl ⟨hL.pfx, by rw [decide_eq_false HF.out]; rfl⟩
  have c1 : ∀ lim h', Ret X F lim g1 [.agg #[.int .i64 ec, .int .i64 er, .int .i64 ea]] h' fun v h'' => Pfx h' h'' ∧ v = .bool true := fun lim h' => by
   have := c1 lim h' (c := ec) (r := er) (a := ea)
   rw [decide_eq_true ho] at this
   exact this
  obtain rfl | rfl | rfl | rfl : et = 0 ∨ et = 1 ∨ et = 2 ∨ et = 3 := by omega
  ·cases ek with
   | true =>
    cases hon : on 0 with
    | true =>
     simp only [hon] at hL
     have HF : Hid (¬ HMay es) := hno (HJ.out.noCall (t := 0) (by decide) hon)
     clear HK hno HJ
     (refine Wc ?_; refine OL.new hL (fun b h' hL => (WO.cons0 ?_)); refine OL.storeAll (k := 0) hL hlim rfl rfl rfl rfl rfl rfl (by decide) rfl (fun h' hL => ?_); dsimp only [List.set, Nat.zero_add, Nat.reduceAdd, Nat.reduceMul] at hL; refine Wt ?_; refine Cs (Cs (Co (Wc (OP.fieldAddr0 rfl (Wc (OL.load1 (k := 0) hL rfl rfl rfl (Wc ?_))))))); refine OL.callV hL rfl rfl (c0 _ _) (fun h' hp hL => (Wc (OP.not rfl (Wm rfl (WO.yes rfl (Wc (OP.fieldAddr0 rfl (WO.yes rfl (Wc (OL.load (k := 0) hL rfl rfl rfl (WO.yes rfl (Wc ?_)))))))))))); refine OL.callV hL rfl rfl (c1 _ _) (fun h' hp hL => (WO.yes rfl (Wc (OP.not rfl (Wc (OP.pickF rfl rfl (Wm rfl (WO.yes rfl (WO.consQ (OP.fieldAddr0 rfl (WO.yes rfl (WO.consQ (OL.load1 (k := 0) hL rfl rfl rfl (WO.yes rfl (WO.consQ (OP.fieldAddr0 rfl (WO.yes rfl (WO.consQ (OL.load1 (k := 0) hL rfl rfl rfl (WO.yes rfl (WO.consQ (OP.idxArrZ rfl rfl (by decide) (by simp only [Int.reduceToNat, Nat.mul_one, Nat.zero_add, Nat.reduceMul, Nat.reduceAdd]; rfl) ?_)))))))))))))))))))))); refine WO.yes rfl (WO.consQ (OL.load1 (k := 2) hL rfl rfl rfl (WO.yes rfl (Wc (OP.eqSelf rfl rfl (Wc (OP.pickF rfl rfl (Wm rfl (WO.no rfl (WO.no rfl (WO.no rfl (WO.noU rfl (WO.noU rfl (WO.noU rfl (WO.no rfl (Wc (OP.pickT rfl rfl (Wm rfl (WO.no rfl (WO.no rfl (WO.no rfl (WO.no rfl (WO.noU rfl (WO.noU rfl (WO.noU rfl (WO.noU rfl (WO.noU rfl (WO.noU rfl (WO.noU rfl (WO.no rfl (Wc (OP.pickT rfl rfl (Wt ?_))))))))))))))))))))))))))))))))); refine WC.condT rfl (Cs (Co (Wm rfl (Wt ?_)))); refine WC.ret ?_; dsimp only [zn, zr, zx, yn, yr])
     exact Fin.ret rfl ⟨hL.pfx, by rw [decide_eq_false HF.out]; rfl⟩
    | false =>
     simp only [hon] at hL
     by_cases hx : ex = 0
     ·subst hx
      obtain ⟨D, hD, HJ2⟩ : ∃ D, takeH C ⟨((0 : Nat) : Int), true, ec, er, ea, 0⟩ ((i : Int) + 1) = some D ∧ Hid (JOn D (updF on 0 true) (updF ops 0 ⟨ec, er, ea⟩)) := HJ.out.call (t := 0) (by decide) ho hon
      have HG := hyes D hD
      clear HK hno hyes HJ hD
      (refine Wc ?_; refine OL.new hL (fun b h' hL => (WO.cons0 ?_)); refine OL.storeAll (k := 0) hL hlim rfl rfl rfl rfl rfl rfl (by decide) rfl (fun h' hL => ?_); dsimp only [List.set, Nat.zero_add, Nat.reduceAdd, Nat.reduceMul] at hL; refine Wt ?_; refine Cs (Cs (Co (Wc (OP.fieldAddr0 rfl (Wc (OL.load1 (k := 0) hL rfl rfl rfl (Wc ?_))))))); refine OL.callV hL rfl rfl (c0 _ _) (fun h' hp hL => (Wc (OP.not rfl (Wm rfl (WO.yes rfl (Wc (OP.fieldAddr0 rfl (WO.yes rfl (Wc (OL.load (k := 0) hL rfl rfl rfl (WO.yes rfl (Wc ?_)))))))))))); refine OL.callV hL rfl rfl (c1 _ _) (fun h' hp hL => (WO.yes rfl (Wc (OP.not rfl (Wc (OP.pickF rfl rfl (Wm rfl (WO.yes rfl (WO.consQ (OP.fieldAddr0 rfl (WO.yes rfl (WO.consQ (OL.load1 (k := 0) hL rfl rfl rfl (WO.yes rfl (WO.consQ (OP.fieldAddr0 rfl (WO.yes rfl (WO.consQ (OL.load1 (k := 0) hL rfl rfl rfl (WO.yes rfl (WO.consQ (OP.idxArrZ rfl rfl (by decide) (by simp only [Int.reduceToNat, Nat.mul_one, Nat.zero_add, Nat.reduceMul, Nat.reduceAdd]; rfl) ?_)))))))))))))))))))))); refine WO.yes rfl (WO.consQ (OL.load1 (k := 2) hL rfl rfl rfl (WO.yes rfl (Wc (OP.eq rfl rfl rfl (Wc (OP.pickF rfl rfl (Wm rfl (WO.yes rfl (Wc (OP.fieldAddr0 rfl (WO.yes rfl (Wc (OL.load1 (k := 0) hL rfl rfl rfl (WO.yes rfl (Wm rfl (WO.yes rfl (Wc (OP.fieldAddr0 rfl (WO.yes rfl (Wc (OL.load1 (k := 0) hL rfl rfl rfl (WO.yes rfl (Wc (OP.neqF rfl rfl (by omega) ?_))))))))))))))))))))))))); refine WO.yes rfl (Wc (OP.pickT rfl rfl (Wc (OP.pickF rfl rfl (Wm rfl (WO.yes rfl (Wc (OP.fieldAddr0 rfl (WO.yes rfl (Wc (OL.load1 (k := 0) hL rfl rfl rfl (WO.yes rfl (Wc (OP.not rfl (WO.yes rfl (Wm rfl (WO.no rfl (WO.no rfl (WO.no rfl (WO.no rfl (WO.no rfl (WO.no rfl (WO.no rfl (WO.yes rfl (Wc (OP.pickF rfl rfl (Wc (OP.pickF rfl rfl (Wt ?_))))))))))))))))))))))))))))); refine WC.condF rfl (Ks ?_); refine Cs (Co (Wc (OP.fieldAddr0 rfl (Wc (OL.load1 (k := 0) hL rfl rfl rfl (Wc (OP.fieldAddr0 rfl (Wc (OL.load1 (k := 0) hL rfl rfl rfl (Wc (OP.idxArrZ rfl rfl (by decide) (by simp only [Int.reduceToNat, Nat.mul_one, Nat.zero_add, Nat.reduceMul, Nat.reduceAdd]; rfl) ?_))))))))))); refine WO.cons0 ?_; refine OL.store1 (k := 2) hL hlim rfl rfl rfl rfl rfl rfl rfl (fun h' hL => ?_); dsimp only [List.set, Nat.zero_add, Nat.reduceAdd, Nat.reduceMul] at hL; refine Wt ?_; refine Co (Wc (OP.fieldAddr0 rfl (Wc (OL.load1 (k := 0) hL rfl rfl rfl (Wc (OP.fieldAddr0 rfl (Wc (OL.load (k := 0) hL rfl rfl rfl (Wc (OP.idxArrZ rfl rfl (by decide) (by simp only [Int.reduceToNat, Nat.mul_one, Nat.zero_add, Nat.reduceMul, Nat.reduceAdd]; rfl) ?_)))))))))))
      (refine WO.cons0 ?_)
      refine OL.store (k := 1) hL hlim rfl rfl rfl rfl rfl rfl (Nat.le_of_ble_eq_true rfl) (by decide) rfl rfl (fun h' hL => ?_)
      (refine Wt ?_; refine Co (Wm rfl (Wc (OP.add rfl rfl (by omega) ?_))); refine Wm rfl (Wt ?_))
      exact ⟨⟨i + 1, _, D, updF on 0 true, updF ops 0 ⟨ec, er, ea⟩⟩, ⟨hlt, HG, HJ2, hL.tail⟩, by (refine Sub.cons rfl (Sub.cons rfl (Sub.cons rfl (Sub.cons rfl ?_))); exact Sub.nil _), rfl, by simp only; omega⟩
     ·have HF : Hid (¬ HMay es) := hno (takeH_noX rfl hx)
      clear HK hno HJ
      (refine Wc ?_; refine OL.new hL (fun b h' hL => (WO.cons0 ?_)); refine OL.storeAll (k := 0) hL hlim rfl rfl rfl rfl rfl rfl (by decide) rfl (fun h' hL => ?_); dsimp only [List.set, Nat.zero_add, Nat.reduceAdd, Nat.reduceMul] at hL; refine Wt ?_; refine Cs (Cs (Co (Wc (OP.fieldAddr0 rfl (Wc (OL.load1 (k := 0) hL rfl rfl rfl (Wc ?_))))))); refine OL.callV hL rfl rfl (c0 _ _) (fun h' hp hL => (Wc (OP.not rfl (Wm rfl (WO.yes rfl (Wc (OP.fieldAddr0 rfl (WO.yes rfl (Wc (OL.load (k := 0) hL rfl rfl rfl (WO.yes rfl (Wc ?_)))))))))))); refine OL.callV hL rfl rfl (c1 _ _) (fun h' hp hL => (WO.yes rfl (Wc (OP.not rfl (Wc (OP.pickF rfl rfl (Wm rfl (WO.yes rfl (WO.consQ (OP.fieldAddr0 rfl (WO.yes rfl (WO.consQ (OL.load1 (k := 0) hL rfl rfl rfl (WO.yes rfl (WO.consQ (OP.fieldAddr0 rfl (WO.yes rfl (WO.consQ (OL.load1 (k := 0) hL rfl rfl rfl (WO.yes rfl (WO.consQ (OP.idxArrZ rfl rfl (by decide) (by simp only [Int.reduceToNat, Nat.mul_one, Nat.zero_add, Nat.reduceMul, Nat.reduceAdd]; rfl) ?_)))))))))))))))))))))); refine WO.yes rfl (WO.consQ (OL.load1 (k := 2) hL rfl rfl rfl (WO.yes rfl (Wc (OP.eq rfl rfl rfl (Wc (OP.pickF rfl rfl (Wm rfl (WO.yes rfl (Wc (OP.fieldAddr0 rfl (WO.yes rfl (Wc (OL.load1 (k := 0) hL rfl rfl rfl (WO.yes rfl (Wm rfl (WO.yes rfl (Wc (OP.fieldAddr0 rfl (WO.yes rfl (Wc (OL.load1 (k := 0) hL rfl rfl rfl (WO.yes rfl (Wc (OP.neqT rfl rfl (by omega) ?_))))))))))))))))))))))))); refine WO.yes rfl (Wc (OP.pickT rfl rfl (Wc (OP.pickF rfl rfl (Wm rfl (WO.no rfl (WO.no rfl (WO.no rfl (WO.no rfl (WO.noU rfl (WO.noU rfl (WO.noU rfl (WO.noU rfl (WO.noU rfl (WO.noU rfl (WO.noU rfl (WO.no rfl (Wc (OP.pickT rfl rfl (Wt ?_)))))))))))))))))))); refine WC.condT rfl (Cs (Co (Wm rfl (Wt ?_)))); refine WC.ret ?_; dsimp only [zn, zr, zx, yn, yr])
      exact Fin.ret rfl ⟨hL.pfx, by rw [decide_eq_false HF.out]; rfl⟩
   | false =>
    cases hon : on 0 with
    | false =>
     simp only [hon] at hL
     have HF : Hid (¬ HMay es) := hno (HJ.out.noAns (t := 0) (by decide) hon)
     clear HK hno HJ
     (refine Wc ?_; refine OL.new hL (fun b h' hL => (WO.cons0 ?_)); refine OL.storeAll (k := 0) hL hlim rfl rfl rfl rfl rfl rfl (by decide) rfl (fun h' hL => ?_); dsimp only [List.set, Nat.zero_add, Nat.reduceAdd, Nat.reduceMul] at hL; refine Wt ?_; refine Cs (Cs (Co (Wc (OP.fieldAddr0 rfl (Wc (OL.load1 (k := 0) hL rfl rfl rfl (Wc ?_))))))); refine OL.callV hL rfl rfl (c0 _ _) (fun h' hp hL => (Wc (OP.not rfl (Wm rfl (WO.yes rfl (Wc (OP.fieldAddr0 rfl (WO.yes rfl (Wc (OL.load (k := 0) hL rfl rfl rfl (WO.yes rfl (Wc ?_)))))))))))); refine OL.callV hL rfl rfl (c1 _ _) (fun h' hp hL => (WO.yes rfl (Wc (OP.not rfl (Wc (OP.pickF rfl rfl (Wm rfl (WO.yes rfl (WO.consQ (OP.fieldAddr0 rfl (WO.yes rfl (WO.consQ (OL.load1 (k := 0) hL rfl rfl rfl (WO.yes rfl (WO.consQ (OP.fieldAddr0 rfl (WO.yes rfl (WO.consQ (OL.load1 (k := 0) hL rfl rfl rfl (WO.yes rfl (WO.consQ (OP.idxArrZ rfl rfl (by decide) (by simp only [Int.reduceToNat, Nat.mul_one, Nat.zero_add, Nat.reduceMul, Nat.reduceAdd]; rfl) ?_)))))))))))))))))))))); refine WO.yes rfl (WO.consQ (OL.load1 (k := 2) hL rfl rfl rfl (WO.yes rfl (Wc (OP.eqSelf rfl rfl (Wc (OP.pickF rfl rfl (Wm rfl (WO.no rfl (WO.no rfl (WO.no rfl (WO.noU rfl (WO.noU rfl (WO.noU rfl (WO.no rfl (Wc (OP.pickT rfl rfl (Wm rfl (WO.no rfl (WO.no rfl (WO.no rfl (WO.no rfl (WO.noU rfl (WO.noU rfl (WO.noU rfl (WO.noU rfl (WO.noU rfl (WO.noU rfl (WO.noU rfl (WO.no rfl (Wc (OP.pickT rfl rfl (Wt ?_))))))))))))))))))))))))))))))))); refine WC.condT rfl (Cs (Co (Wm rfl (Wt ?_)))); refine WC.ret ?_; dsimp only [zn, zr, zx, yn, yr])
     exact Fin.ret rfl ⟨hL.pfx, by rw [decide_eq_false HF.out]; rfl⟩
    | true =>
     simp only [hon] at hL
     (refine Wc ?_; refine OL.new hL (fun b h' hL => (WO.cons0 ?_)); refine OL.storeAll (k := 0) hL hlim rfl rfl rfl rfl rfl rfl (by decide) rfl (fun h' hL => ?_); dsimp only [List.set, Nat.zero_add, Nat.reduceAdd, Nat.reduceMul] at hL; refine Wt ?_; refine Cs (Cs (Co (Wc (OP.fieldAddr0 rfl (Wc (OL.load1 (k := 0) hL rfl rfl rfl (Wc ?_))))))); refine OL.callV hL rfl rfl (c0 _ _) (fun h' hp hL => (Wc (OP.not rfl (Wm rfl (WO.yes rfl (Wc (OP.fieldAddr0 rfl (WO.yes rfl (Wc (OL.load (k := 0) hL rfl rfl rfl (WO.yes rfl (Wc ?_)))))))))))); refine OL.callV hL rfl rfl (c1 _ _) (fun h' hp hL => (WO.yes rfl (Wc (OP.not rfl (Wc (OP.pickF rfl rfl (Wm rfl (WO.yes rfl (WO.consQ (OP.fieldAddr0 rfl (WO.yes rfl (WO.consQ (OL.load1 (k := 0) hL rfl rfl rfl (WO.yes rfl (WO.consQ (OP.fieldAddr0 rfl (WO.yes rfl (WO.consQ (OL.load1 (k := 0) hL rfl rfl rfl (WO.yes rfl (WO.consQ (OP.idxArrZ rfl rfl (by decide) (by simp only [Int.reduceToNat, Nat.mul_one, Nat.zero_add, Nat.reduceMul, Nat.reduceAdd]; rfl) ?_)))))))))))))))))))))); refine WO.yes rfl (WO.consQ (OL.load1 (k := 2) hL rfl rfl rfl (WO.yes rfl (Wc (OP.eq rfl rfl rfl (Wc (OP.pickF rfl rfl (Wm rfl (WO.yes rfl (Wc (OP.fieldAddr0 rfl (WO.yes rfl (Wc (OL.load1 (k := 0) hL rfl rfl rfl (WO.yes rfl (Wm rfl (WO.no rfl (WO.no rfl (WO.no rfl (WO.yes rfl (Wc (OP.pickF rfl rfl (Wc (OP.pickF rfl rfl (Wm rfl (WO.yes rfl (Wc (OP.fieldAddr0 rfl (WO.yes rfl (Wc (OL.load1 (k := 0) hL rfl rfl rfl (WO.yes rfl (Wc (OP.not rfl (WO.yes rfl (Wm rfl (WO.yes rfl (WO.consQ (OP.fieldAddr0 rfl (WO.yes rfl (WO.consQ (OL.load (k := 0) hL rfl rfl rfl (WO.yes rfl (WO.consQ (OP.fieldAddr0 rfl (WO.yes rfl (WO.consQ (OL.load1 (k := 0) hL rfl rfl rfl (WO.yes rfl (WO.consQ (OP.idxArrZ rfl rfl (by decide) (by simp only [Int.reduceToNat, Nat.mul_one, Nat.zero_add, Nat.reduceMul, Nat.reduceAdd]; rfl) ?_))))))))))))))))))))))))))))))))))))))))))))))))))); refine WO.yes rfl (WO.consQ (OL.load (k := 1) hL rfl rfl rfl (WO.yes rfl ?_))))
     (refine Wc ?_)
     subst hb56
     refine OP.eqOp (s := ⟨ec, er, ea⟩) (t := ops 0) rfl rfl (fun he => ?_) (fun he => ?_)
     ·obtain ⟨D, hD, HJ2⟩ : ∃ D, takeH C ⟨((0 : Nat) : Int), false, ec, er, ea, ex⟩ ((i : Int) + 1) = some D ∧ Hid (JOn D (updF on 0 false) (updF ops 0 ⟨ec, er, ea⟩)) := HJ.out.ans (t := 0) (by decide) ho hon he.symm (by omega)
      have HG := hyes D hD
      clear HK hno hyes HJ hD he
      (refine WO.yes rfl (Wc (OP.pickT rfl rfl (Wc (OP.pickF rfl rfl (Wt ?_))))); refine WC.condF rfl (Ks ?_); refine Cs (Co (Wc (OP.fieldAddr0 rfl (Wc (OL.load1 (k := 0) hL rfl rfl rfl (Wc (OP.fieldAddr0 rfl (Wc (OL.load1 (k := 0) hL rfl rfl rfl (Wc (OP.idxArrZ rfl rfl (by decide) (by simp only [Int.reduceToNat, Nat.mul_one, Nat.zero_add, Nat.reduceMul, Nat.reduceAdd]; rfl) ?_))))))))))); refine WO.cons0 ?_; refine OL.store1 (k := 2) hL hlim rfl rfl rfl rfl rfl rfl rfl (fun h' hL => ?_); dsimp only [List.set, Nat.zero_add, Nat.reduceAdd, Nat.reduceMul] at hL; refine Wt ?_; refine Co (Wc (OP.fieldAddr0 rfl (Wc (OL.load1 (k := 0) hL rfl rfl rfl (Wc (OP.fieldAddr0 rfl (Wc (OL.load (k := 0) hL rfl rfl rfl (Wc (OP.idxArrZ rfl rfl (by decide) (by simp only [Int.reduceToNat, Nat.mul_one, Nat.zero_add, Nat.reduceMul, Nat.reduceAdd]; rfl) ?_)))))))))))
      (refine WO.cons0 ?_)
      refine OL.store (k := 1) hL hlim rfl rfl rfl rfl rfl rfl (Nat.le_of_ble_eq_true rfl) (by decide) rfl rfl (fun h' hL => ?_)
      (refine Wt ?_; refine Co (Wm rfl (Wc (OP.add rfl rfl (by omega) ?_))); refine Wm rfl (Wt ?_))
      exact ⟨⟨i + 1, _, D, updF on 0 false, updF ops 0 ⟨ec, er, ea⟩⟩, ⟨hlt, HG, HJ2, hL.tail⟩, by (refine Sub.cons rfl (Sub.cons rfl (Sub.cons rfl (Sub.cons rfl ?_))); exact Sub.nil _), rfl, by simp only; omega⟩
     ·have HF : Hid (¬ HMay es) := hno (HJ.out.noOp (t := 0) (by decide) hon (Ne.symm he))
      clear HK hno HJ he
      (refine WO.yes rfl (Wc (OP.pickT rfl rfl (Wc (OP.pickF rfl rfl (Wt ?_))))); refine WC.condT rfl (Cs (Co (Wm rfl (Wt ?_)))); refine WC.ret ?_; dsimp only [zn, zr, zx, yn, yr])
      exact Fin.ret rfl ⟨hL.pfx, by rw [decide_eq_false HF.out]; rfl⟩
  ·cases ek with
   | true =>
    cases hon : on 1 with
    | true =>
     simp only [hon] at hL
     have HF : Hid (¬ HMay es) := hno (HJ.out.noCall (t := 1) (by decide) hon)
     clear HK hno HJ
     (refine Wc ?_; refine OL.new hL (fun b h' hL => (WO.cons0 ?_)); refine OL.storeAll (k := 0) hL hlim rfl rfl rfl rfl rfl rfl (by decide) rfl (fun h' hL => ?_); dsimp only [List.set, Nat.zero_add, Nat.reduceAdd, Nat.reduceMul] at hL; refine Wt ?_; refine Cs (Cs (Co (Wc (OP.fieldAddr0 rfl (Wc (OL.load1 (k := 0) hL rfl rfl rfl (Wc ?_))))))); refine OL.callV hL rfl rfl (c0 _ _) (fun h' hp hL => (Wc (OP.not rfl (Wm rfl (WO.yes rfl (Wc (OP.fieldAddr0 rfl (WO.yes rfl (Wc (OL.load (k := 0) hL rfl rfl rfl (WO.yes rfl (Wc ?_)))))))))))); refine OL.callV hL rfl rfl (c1 _ _) (fun h' hp hL => (WO.yes rfl (Wc (OP.not rfl (Wc (OP.pickF rfl rfl (Wm rfl (WO.yes rfl (WO.consQ (OP.fieldAddr0 rfl (WO.yes rfl (WO.consQ (OL.load1 (k := 0) hL rfl rfl rfl (WO.yes rfl (WO.consQ (OP.fieldAddr0 rfl (WO.yes rfl (WO.consQ (OL.load1 (k := 0) hL rfl rfl rfl (WO.yes rfl (WO.consQ (OP.idxArrZ rfl rfl (by decide) (by simp only [Int.reduceToNat, Nat.mul_one, Nat.zero_add, Nat.reduceMul, Nat.reduceAdd]; rfl) ?_)))))))))))))))))))))); refine WO.yes rfl (WO.consQ (OL.load1 (k := 2) hL rfl rfl rfl (WO.yes rfl (Wc (OP.eqSelf rfl rfl (Wc (OP.pickF rfl rfl (Wm rfl (WO.no rfl (WO.no rfl (WO.no rfl (WO.noU rfl (WO.noU rfl (WO.noU rfl (WO.no rfl (Wc (OP.pickT rfl rfl (Wm rfl (WO.no rfl (WO.no rfl (WO.no rfl (WO.no rfl (WO.noU rfl (WO.noU rfl (WO.noU rfl (WO.noU rfl (WO.noU rfl (WO.noU rfl (WO.noU rfl (WO.no rfl (Wc (OP.pickT rfl rfl (Wt ?_))))))))))))))))))))))))))))))))); refine WC.condT rfl (Cs (Co (Wm rfl (Wt ?_)))); refine WC.ret ?_; dsimp only [zn, zr, zx, yn, yr])
     exact Fin.ret rfl ⟨hL.pfx, by rw [decide_eq_false HF.out]; rfl⟩
    | false =>
     simp only [hon] at hL
     by_cases hx : ex = 0
     ·subst hx
      obtain ⟨D, hD, HJ2⟩ : ∃ D, takeH C ⟨((1 : Nat) : Int), true, ec, er, ea, 0⟩ ((i : Int) + 1) = some D ∧ Hid (JOn D (updF on 1 true) (updF ops 1 ⟨ec, er, ea⟩)) := HJ.out.call (t := 1) (by decide) ho hon
      have HG := hyes D hD
      clear HK hno hyes HJ hD
      (refine Wc ?_; refine OL.new hL (fun b h' hL => (WO.cons0 ?_)); refine OL.storeAll (k := 0) hL hlim rfl rfl rfl rfl rfl rfl (by decide) rfl (fun h' hL => ?_); dsimp only [List.set, Nat.zero_add, Nat.reduceAdd, Nat.reduceMul] at hL; refine Wt ?_; refine Cs (Cs (Co (Wc (OP.fieldAddr0 rfl (Wc (OL.load1 (k := 0) hL rfl rfl rfl (Wc ?_))))))); refine OL.callV hL rfl rfl (c0 _ _) (fun h' hp hL => (Wc (OP.not rfl (Wm rfl (WO.yes rfl (Wc (OP.fieldAddr0 rfl (WO.yes rfl (Wc (OL.load (k := 0) hL rfl rfl rfl (WO.yes rfl (Wc ?_)))))))))))); refine OL.callV hL rfl rfl (c1 _ _) (fun h' hp hL => (WO.yes rfl (Wc (OP.not rfl (Wc (OP.pickF rfl rfl (Wm rfl (WO.yes rfl (WO.consQ (OP.fieldAddr0 rfl (WO.yes rfl (WO.consQ (OL.load1 (k := 0) hL rfl rfl rfl (WO.yes rfl (WO.consQ (OP.fieldAddr0 rfl (WO.yes rfl (WO.consQ (OL.load1 (k := 0) hL rfl rfl rfl (WO.yes rfl (WO.consQ (OP.idxArrZ rfl rfl (by decide) (by simp only [Int.reduceToNat, Nat.mul_one, Nat.zero_add, Nat.reduceMul, Nat.reduceAdd]; rfl) ?_)))))))))))))))))))))); refine WO.yes rfl (WO.consQ (OL.load1 (k := 2) hL rfl rfl rfl (WO.yes rfl (Wc (OP.eq rfl rfl rfl (Wc (OP.pickF rfl rfl (Wm rfl (WO.yes rfl (Wc (OP.fieldAddr0 rfl (WO.yes rfl (Wc (OL.load1 (k := 0) hL rfl rfl rfl (WO.yes rfl (Wm rfl (WO.yes rfl (Wc (OP.fieldAddr0 rfl (WO.yes rfl (Wc (OL.load1 (k := 0) hL rfl rfl rfl (WO.yes rfl (Wc (OP.neqF rfl rfl (by omega) ?_))))))))))))))))))))))))); refine WO.yes rfl (Wc (OP.pickT rfl rfl (Wc (OP.pickF rfl rfl (Wm rfl (WO.yes rfl (Wc (OP.fieldAddr0 rfl (WO.yes rfl (Wc (OL.load1 (k := 0) hL rfl rfl rfl (WO.yes rfl (Wc (OP.not rfl (WO.yes rfl (Wm rfl (WO.no rfl (WO.no rfl (WO.no rfl (WO.no rfl (WO.no rfl (WO.no rfl (WO.no rfl (WO.yes rfl (Wc (OP.pickF rfl rfl (Wc (OP.pickF rfl rfl (Wt ?_))))))))))))))))))))))))))))); refine WC.condF rfl (Ks ?_); refine Cs (Co (Wc (OP.fieldAddr0 rfl (Wc (OL.load1 (k := 0) hL rfl rfl rfl (Wc (OP.fieldAddr0 rfl (Wc (OL.load1 (k := 0) hL rfl rfl rfl (Wc (OP.idxArrZ rfl rfl (by decide) (by simp only [Int.reduceToNat, Nat.mul_one, Nat.zero_add, Nat.reduceMul, Nat.reduceAdd]; rfl) ?_))))))))))); refine WO.cons0 ?_; refine OL.store1 (k := 2) hL hlim rfl rfl rfl rfl rfl rfl rfl (fun h' hL => ?_); dsimp only [List.set, Nat.zero_add, Nat.reduceAdd, Nat.reduceMul] at hL; refine Wt ?_; refine Co (Wc (OP.fieldAddr0 rfl (Wc (OL.load1 (k := 0) hL rfl rfl rfl (Wc (OP.fieldAddr0 rfl (Wc (OL.load (k := 0) hL rfl rfl rfl (Wc (OP.idxArrZ rfl rfl (by decide) (by simp only [Int.reduceToNat, Nat.mul_one, Nat.zero_add, Nat.reduceMul, Nat.reduceAdd]; rfl) ?_)))))))))))
      (refine WO.cons0 ?_)
      refine OL.store (k := 1) hL hlim rfl rfl rfl rfl rfl rfl (Nat.le_of_ble_eq_true rfl) (by decide) rfl rfl (fun h' hL => ?_)
      (refine Wt ?_; refine Co (Wm rfl (Wc (OP.add rfl rfl (by omega) ?_))); refine Wm rfl (Wt ?_))
      exact ⟨⟨i + 1, _, D, updF on 1 true, updF ops 1 ⟨ec, er, ea⟩⟩, ⟨hlt, HG, HJ2, hL.tail⟩, by (refine Sub.cons rfl (Sub.cons rfl (Sub.cons rfl (Sub.cons rfl ?_))); exact Sub.nil _), rfl, by simp only; omega⟩
     ·have HF : Hid (¬ HMay es) := hno (takeH_noX rfl hx)
      clear HK hno HJ
      (refine Wc ?_; refine OL.new hL (fun b h' hL => (WO.cons0 ?_)); refine OL.storeAll (k := 0) hL hlim rfl rfl rfl rfl rfl rfl (by decide) rfl (fun h' hL => ?_); dsimp only [List.set, Nat.zero_add, Nat.reduceAdd, Nat.reduceMul] at hL; refine Wt ?_; refine Cs (Cs (Co (Wc (OP.fieldAddr0 rfl (Wc (OL.load1 (k := 0) hL rfl rfl rfl (Wc ?_))))))); refine OL.callV hL rfl rfl (c0 _ _) (fun h' hp hL => (Wc (OP.not rfl (Wm rfl (WO.yes rfl (Wc (OP.fieldAddr0 rfl (WO.yes rfl (Wc (OL.load (k := 0) hL rfl rfl rfl (WO.yes rfl (Wc ?_)))))))))))); refine OL.callV hL rfl rfl (c1 _ _) (fun h' hp hL => (WO.yes rfl (Wc (OP.not rfl (Wc (OP.pickF rfl rfl (Wm rfl (WO.yes rfl (WO.consQ (OP.fieldAddr0 rfl (WO.yes rfl (WO.consQ (OL.load1 (k := 0) hL rfl rfl rfl (WO.yes rfl (WO.consQ (OP.fieldAddr0 rfl (WO.yes rfl (WO.consQ (OL.load1 (k := 0) hL rfl rfl rfl (WO.yes rfl (WO.consQ (OP.idxArrZ rfl rfl (by decide) (by simp only [Int.reduceToNat, Nat.mul_one, Nat.zero_add, Nat.reduceMul, Nat.reduceAdd]; rfl) ?_)))))))))))))))))))))); refine WO.yes rfl (WO.consQ (OL.load1 (k := 2) hL rfl rfl rfl (WO.yes rfl (Wc (OP.eq rfl rfl rfl (Wc (OP.pickF rfl rfl (Wm rfl (WO.yes rfl (Wc (OP.fieldAddr0 rfl (WO.yes rfl (Wc (OL.load1 (k := 0) hL rfl rfl rfl (WO.yes rfl (Wm rfl (WO.yes rfl (Wc (OP.fieldAddr0 rfl (WO.yes rfl (Wc (OL.load1 (k := 0) hL rfl rfl rfl (WO.yes rfl (Wc (OP.neqT rfl rfl (by omega) ?_))))))))))))))))))))))))); refine WO.yes rfl (Wc (OP.pickT rfl rfl (Wc (OP.pickF rfl rfl (Wm rfl (WO.no rfl (WO.no rfl (WO.no rfl (WO.no rfl (WO.noU rfl (WO.noU rfl (WO.noU rfl (WO.noU rfl (WO.noU rfl (WO.noU rfl (WO.noU rfl (WO.no rfl (Wc (OP.pickT rfl rfl (Wt ?_)))))))))))))))))))); refine WC.condT rfl (Cs (Co (Wm rfl (Wt ?_)))); refine WC.ret ?_; dsimp only [zn, zr, zx, yn, yr])
      exact Fin.ret rfl ⟨hL.pfx, by rw [decide_eq_false HF.out]; rfl⟩
   | false =>
    cases hon : on 1 with
    | false =>
     simp only [hon] at hL
     have HF : Hid (¬ HMay es) := hno (HJ.out.noAns (t := 1) (by decide) hon)
     clear HK hno HJ
     (refine Wc ?_; refine OL.new hL (fun b h' hL => (WO.cons0 ?_)); refine OL.storeAll (k := 0) hL hlim rfl rfl rfl rfl rfl rfl (by decide) rfl (fun h' hL => ?_); dsimp only [List.set, Nat.zero_add, Nat.reduceAdd, Nat.reduceMul] at hL; refine Wt ?_; refine Cs (Cs (Co (Wc (OP.fieldAddr0 rfl (Wc (OL.load1 (k := 0) hL rfl rfl rfl (Wc ?_))))))); refine OL.callV hL rfl rfl (c0 _ _) (fun h' hp hL => (Wc (OP.not rfl (Wm rfl (WO.yes rfl (Wc (OP.fieldAddr0 rfl (WO.yes rfl (Wc (OL.load (k := 0) hL rfl rfl rfl (WO.yes rfl (Wc ?_)))))))))))); refine OL.callV hL rfl rfl (c1 _ _) (fun h' hp hL => (WO.yes rfl (Wc (OP.not rfl (Wc (OP.pickF rfl rfl (Wm rfl (WO.yes rfl (WO.consQ (OP.fieldAddr0 rfl (WO.yes rfl (WO.consQ (OL.load1 (k := 0) hL rfl rfl rfl (WO.yes rfl (WO.consQ (OP.fieldAddr0 rfl (WO.yes rfl (WO.consQ (OL.load1 (k := 0) hL rfl rfl rfl (WO.yes rfl (WO.consQ (OP.idxArrZ rfl rfl (by decide) (by simp only [Int.reduceToNat, Nat.mul_one, Nat.zero_add, Nat.reduceMul, Nat.reduceAdd]; rfl) ?_)))))))))))))))))))))); refine WO.yes rfl (WO.consQ (OL.load1 (k := 2) hL rfl rfl rfl (WO.yes rfl (Wc (OP.eqSelf rfl rfl (Wc (OP.pickF rfl rfl (Wm rfl (WO.no rfl (WO.no rfl (WO.no rfl (WO.noU rfl (WO.noU rfl (WO.noU rfl (WO.no rfl (Wc (OP.pickT rfl rfl (Wm rfl (WO.no rfl (WO.no rfl (WO.no rfl (WO.no rfl (WO.noU rfl (WO.noU rfl (WO.noU rfl (WO.noU rfl (WO.noU rfl (WO.noU rfl (WO.noU rfl (WO.no rfl (Wc (OP.pickT rfl rfl (Wt ?_))))))))))))))))))))))))))))))))); refine WC.condT rfl (Cs (Co (Wm rfl (Wt ?_)))); refine WC.ret ?_; dsimp only [zn, zr, zx, yn, yr])
     exact Fin.ret rfl ⟨hL.pfx, by rw [decide_eq_false HF.out]; rfl⟩
    | true =>
     simp only [hon] at hL
     (refine Wc ?_; refine OL.new hL (fun b h' hL => (WO.cons0 ?_)); refine OL.storeAll (k := 0) hL hlim rfl rfl rfl rfl rfl rfl (by decide) rfl (fun h' hL => ?_); dsimp only [List.set, Nat.zero_add, Nat.reduceAdd, Nat.reduceMul] at hL; refine Wt ?_; refine Cs (Cs (Co (Wc (OP.fieldAddr0 rfl (Wc (OL.load1 (k := 0) hL rfl rfl rfl (Wc ?_))))))); refine OL.callV hL rfl rfl (c0 _ _) (fun h' hp hL => (Wc (OP.not rfl (Wm rfl (WO.yes rfl (Wc (OP.fieldAddr0 rfl (WO.yes rfl (Wc (OL.load (k := 0) hL rfl rfl rfl (WO.yes rfl (Wc ?_)))))))))))); refine OL.callV hL rfl rfl (c1 _ _) (fun h' hp hL => (WO.yes rfl (Wc (OP.not rfl (Wc (OP.pickF rfl rfl (Wm rfl (WO.yes rfl (WO.consQ (OP.fieldAddr0 rfl (WO.yes rfl (WO.consQ (OL.load1 (k := 0) hL rfl rfl rfl (WO.yes rfl (WO.consQ (OP.fieldAddr0 rfl (WO.yes rfl (WO.consQ (OL.load1 (k := 0) hL rfl rfl rfl (WO.yes rfl (WO.consQ (OP.idxArrZ rfl rfl (by decide) (by simp only [Int.reduceToNat, Nat.mul_one, Nat.zero_add, Nat.reduceMul, Nat.reduceAdd]; rfl) ?_)))))))))))))))))))))); refine WO.yes rfl (WO.consQ (OL.load1 (k := 2) hL rfl rfl rfl (WO.yes rfl (Wc (OP.eq rfl rfl rfl (Wc (OP.pickF rfl rfl (Wm rfl (WO.yes rfl (Wc (OP.fieldAddr0 rfl (WO.yes rfl (Wc (OL.load1 (k := 0) hL rfl rfl rfl (WO.yes rfl (Wm rfl (WO.no rfl (WO.no rfl (WO.no rfl (WO.yes rfl (Wc (OP.pickF rfl rfl (Wc (OP.pickF rfl rfl (Wm rfl (WO.yes rfl (Wc (OP.fieldAddr0 rfl (WO.yes rfl (Wc (OL.load1 (k := 0) hL rfl rfl rfl (WO.yes rfl (Wc (OP.not rfl (WO.yes rfl (Wm rfl (WO.yes rfl (WO.consQ (OP.fieldAddr0 rfl (WO.yes rfl (WO.consQ (OL.load (k := 0) hL rfl rfl rfl (WO.yes rfl (WO.consQ (OP.fieldAddr0 rfl (WO.yes rfl (WO.consQ (OL.load1 (k := 0) hL rfl rfl rfl (WO.yes rfl (WO.consQ (OP.idxArrZ rfl rfl (by decide) (by simp only [Int.reduceToNat, Nat.mul_one, Nat.zero_add, Nat.reduceMul, Nat.reduceAdd]; rfl) ?_))))))))))))))))))))))))))))))))))))))))))))))))))); refine WO.yes rfl (WO.consQ (OL.load (k := 1) hL rfl rfl rfl (WO.yes rfl ?_))))
     (refine Wc ?_)
     subst hb56
     refine OP.eqOp (s := ⟨ec, er, ea⟩) (t := ops 1) rfl rfl (fun he => ?_) (fun he => ?_)
     ·obtain ⟨D, hD, HJ2⟩ : ∃ D, takeH C ⟨((1 : Nat) : Int), false, ec, er, ea, ex⟩ ((i : Int) + 1) = some D ∧ Hid (JOn D (updF on 1 false) (updF ops 1 ⟨ec, er, ea⟩)) := HJ.out.ans (t := 1) (by decide) ho hon he.symm (by omega)
      have HG := hyes D hD
      clear HK hno hyes HJ hD he
      (refine WO.yes rfl (Wc (OP.pickT rfl rfl (Wc (OP.pickF rfl rfl (Wt ?_))))); refine WC.condF rfl (Ks ?_); refine Cs (Co (Wc (OP.fieldAddr0 rfl (Wc (OL.load1 (k := 0) hL rfl rfl rfl (Wc (OP.fieldAddr0 rfl (Wc (OL.load1 (k := 0) hL rfl rfl rfl (Wc (OP.idxArrZ rfl rfl (by decide) (by simp only [Int.reduceToNat, Nat.mul_one, Nat.zero_add, Nat.reduceMul, Nat.reduceAdd]; rfl) ?_))))))))))); refine WO.cons0 ?_; refine OL.store1 (k := 2) hL hlim rfl rfl rfl rfl rfl rfl rfl (fun h' hL => ?_); dsimp only [List.set, Nat.zero_add, Nat.reduceAdd, Nat.reduceMul] at hL; refine Wt ?_; refine Co (Wc (OP.fieldAddr0 rfl (Wc (OL.load1 (k := 0) hL rfl rfl rfl (Wc (OP.fieldAddr0 rfl (Wc (OL.load (k := 0) hL rfl rfl rfl (Wc (OP.idxArrZ rfl rfl (by decide) (by simp only [Int.reduceToNat, Nat.mul_one, Nat.zero_add, Nat.reduceMul, Nat.reduceAdd]; rfl) ?_)))))))))))
      (refine WO.cons0 ?_)
      refine OL.store (k := 1) hL hlim rfl rfl rfl rfl rfl rfl (Nat.le_of_ble_eq_true rfl) (by decide) rfl rfl (fun h' hL => ?_)
      (refine Wt ?_; refine Co (Wm rfl (Wc (OP.add rfl rfl (by omega) ?_))); refine Wm rfl (Wt ?_))
      exact ⟨⟨i + 1, _, D, updF on 1 false, updF ops 1 ⟨ec, er, ea⟩⟩, ⟨hlt, HG, HJ2, hL.tail⟩, by (refine Sub.cons rfl (Sub.cons rfl (Sub.cons rfl (Sub.cons rfl ?_))); exact Sub.nil _), rfl, by simp only; omega⟩
     ·have HF : Hid (¬ HMay es) := hno (HJ.out.noOp (t := 1) (by decide) hon (Ne.symm he))
      clear HK hno HJ he
      (refine WO.yes rfl (Wc (OP.pickT rfl rfl (Wc (OP.pickF rfl rfl (Wt ?_))))); refine WC.condT rfl (Cs (Co (Wm rfl (Wt ?_)))); refine WC.ret ?_; dsimp only [zn, zr, zx, yn, yr])
      exact Fin.ret rfl ⟨hL.pfx, by rw [decide_eq_false HF.out]; rfl⟩
  ·cases ek with
   | true =>
    cases hon : on 2 with
    | true =>
     simp only [hon] at hL
     have HF : Hid (¬ HMay es) := hno (HJ.out.noCall (t := 2) (by decide) hon)
     clear HK hno HJ
     (refine Wc ?_; refine OL.new hL (fun b h' hL => (WO.cons0 ?_)); refine OL.storeAll (k := 0) hL hlim rfl rfl rfl rfl rfl rfl (by decide) rfl (fun h' hL => ?_); dsimp only [List.set, Nat.zero_add, Nat.reduceAdd, Nat.reduceMul] at hL; refine Wt ?_; refine Cs (Cs (Co (Wc (OP.fieldAddr0 rfl (Wc (OL.load1 (k := 0) hL rfl rfl rfl (Wc ?_))))))); refine OL.callV hL rfl rfl (c0 _ _) (fun h' hp hL => (Wc (OP.not rfl (Wm rfl (WO.yes rfl (Wc (OP.fieldAddr0 rfl (WO.yes rfl (Wc (OL.load (k := 0) hL rfl rfl rfl (WO.yes rfl (Wc ?_)))))))))))); refine OL.callV hL rfl rfl (c1 _ _) (fun h' hp hL => (WO.yes rfl (Wc (OP.not rfl (Wc (OP.pickF rfl rfl (Wm rfl (WO.yes rfl (WO.consQ (OP.fieldAddr0 rfl (WO.yes rfl (WO.consQ (OL.load1 (k := 0) hL rfl rfl rfl (WO.yes rfl (WO.consQ (OP.fieldAddr0 rfl (WO.yes rfl (WO.consQ (OL.load1 (k := 0) hL rfl rfl rfl (WO.yes rfl (WO.consQ (OP.idxArrZ rfl rfl (by decide) (by simp only [Int.reduceToNat, Nat.mul_one, Nat.zero_add, Nat.reduceMul, Nat.reduceAdd]; rfl) ?_)))))))))))))))))))))); refine WO.yes rfl (WO.consQ (OL.load1 (k := 2) hL rfl rfl rfl (WO.yes rfl (Wc (OP.eqSelf rfl rfl (Wc (OP.pickF rfl rfl (Wm rfl (WO.no rfl (WO.no rfl (WO.no rfl (WO.noU rfl (WO.noU rfl (WO.noU rfl (WO.no rfl (Wc (OP.pickT rfl rfl (Wm rfl (WO.no rfl (WO.no rfl (WO.no rfl (WO.no rfl (WO.noU rfl (WO.noU rfl (WO.noU rfl (WO.noU rfl (WO.noU rfl (WO.noU rfl (WO.noU rfl (WO.no rfl (Wc (OP.pickT rfl rfl (Wt ?_))))))))))))))))))))))))))))))))); refine WC.condT rfl (Cs (Co (Wm rfl (Wt ?_)))); refine WC.ret ?_; dsimp only [zn, zr, zx, yn, yr])
     exact Fin.ret rfl ⟨hL.pfx, by rw [decide_eq_false HF.out]; rfl⟩
    | false =>
     simp only [hon] at hL
     by_cases hx : ex = 0
     ·subst hx
      obtain ⟨D, hD, HJ2⟩ : ∃ D, takeH C ⟨((2 : Nat) : Int), true, ec, er, ea, 0⟩ ((i : Int) + 1) = some D ∧ Hid (JOn D (updF on 2 true) (updF ops 2 ⟨ec, er, ea⟩)) := HJ.out.call (t := 2) (by decide) ho hon
      have HG := hyes D hD
      clear HK hno hyes HJ hD
      (refine Wc ?_; refine OL.new hL (fun b h' hL => (WO.cons0 ?_)); refine OL.storeAll (k := 0) hL hlim rfl rfl rfl rfl rfl rfl (by decide) rfl (fun h' hL => ?_); dsimp only [List.set, Nat.zero_add, Nat.reduceAdd, Nat.reduceMul] at hL; refine Wt ?_; refine Cs (Cs (Co (Wc (OP.fieldAddr0 rfl (Wc (OL.load1 (k := 0) hL rfl rfl rfl (Wc ?_))))))); refine OL.callV hL rfl rfl (c0 _ _) (fun h' hp hL => (Wc (OP.not rfl (Wm rfl (WO.yes rfl (Wc (OP.fieldAddr0 rfl (WO.yes rfl (Wc (OL.load (k := 0) hL rfl rfl rfl (WO.yes rfl (Wc ?_)))))))))))); refine OL.callV hL rfl rfl (c1 _ _) (fun h' hp hL => (WO.yes rfl (Wc (OP.not rfl (Wc (OP.pickF rfl rfl (Wm rfl (WO.yes rfl (WO.consQ (OP.fieldAddr0 rfl (WO.yes rfl (WO.consQ (OL.load1 (k := 0) hL rfl rfl rfl (WO.yes rfl (WO.consQ (OP.fieldAddr0 rfl (WO.yes rfl (WO.consQ (OL.load1 (k := 0) hL rfl rfl rfl (WO.yes rfl (WO.consQ (OP.idxArrZ rfl rfl (by decide) (by simp only [Int.reduceToNat, Nat.mul_one, Nat.zero_add, Nat.reduceMul, Nat.reduceAdd]; rfl) ?_)))))))))))))))))))))); refine WO.yes rfl (WO.consQ (OL.load1 (k := 2) hL rfl rfl rfl (WO.yes rfl (Wc (OP.eq rfl rfl rfl (Wc (OP.pickF rfl rfl (Wm rfl (WO.yes rfl (Wc (OP.fieldAddr0 rfl (WO.yes rfl (Wc (OL.load1 (k := 0) hL rfl rfl rfl (WO.yes rfl (Wm rfl (WO.yes rfl (Wc (OP.fieldAddr0 rfl (WO.yes rfl (Wc (OL.load1 (k := 0) hL rfl rfl rfl (WO.yes rfl (Wc (OP.neqF rfl rfl (by omega) ?_))))))))))))))))))))))))); refine WO.yes rfl (Wc (OP.pickT rfl rfl (Wc (OP.pickF rfl rfl (Wm rfl (WO.yes rfl (Wc (OP.fieldAddr0 rfl (WO.yes rfl (Wc (OL.load1 (k := 0) hL rfl rfl rfl (WO.yes rfl (Wc (OP.not rfl (WO.yes rfl (Wm rfl (WO.no rfl (WO.no rfl (WO.no rfl (WO.no rfl (WO.no rfl (WO.no rfl (WO.no rfl (WO.yes rfl (Wc (OP.pickF rfl rfl (Wc (OP.pickF rfl rfl (Wt ?_))))))))))))))))))))))))))))); refine WC.condF rfl (Ks ?_); refine Cs (Co (Wc (OP.fieldAddr0 rfl (Wc (OL.load1 (k := 0) hL rfl rfl rfl (Wc (OP.fieldAddr0 rfl (Wc (OL.load1 (k := 0) hL rfl rfl rfl (Wc (OP.idxArrZ rfl rfl (by decide) (by simp only [Int.reduceToNat, Nat.mul_one, Nat.zero_add, Nat.reduceMul, Nat.reduceAdd]; rfl) ?_))))))))))); refine WO.cons0 ?_; refine OL.store1 (k := 2) hL hlim rfl rfl rfl rfl rfl rfl rfl (fun h' hL => ?_); dsimp only [List.set, Nat.zero_add, Nat.reduceAdd, Nat.reduceMul] at hL; refine Wt ?_; refine Co (Wc (OP.fieldAddr0 rfl (Wc (OL.load1 (k := 0) hL rfl rfl rfl (Wc (OP.fieldAddr0 rfl (Wc (OL.load (k := 0) hL rfl rfl rfl (Wc (OP.idxArrZ rfl rfl (by decide) (by simp only [Int.reduceToNat, Nat.mul_one, Nat.zero_add, Nat.reduceMul, Nat.reduceAdd]; rfl) ?_)))))))))))
      (refine WO.cons0 ?_)
      refine OL.store (k := 1) hL hlim rfl rfl rfl rfl rfl rfl (Nat.le_of_ble_eq_true rfl) (by decide) rfl rfl (fun h' hL => ?_)
      (refine Wt ?_; refine Co (Wm rfl (Wc (OP.add rfl rfl (by omega) ?_))); refine Wm rfl (Wt ?_))
      exact ⟨⟨i + 1, _, D, updF on 2 true, updF ops 2 ⟨ec, er, ea⟩⟩, ⟨hlt, HG, HJ2, hL.tail⟩, by (refine Sub.cons rfl (Sub.cons rfl (Sub.cons rfl (Sub.cons rfl ?_))); exact Sub.nil _), rfl, by simp only; omega⟩
     ·have HF : Hid (¬ HMay es) := hno (takeH_noX rfl hx)
      clear HK hno HJ
      (refine Wc ?_; refine OL.new hL (fun b h' hL => (WO.cons0 ?_)); refine OL.storeAll (k := 0) hL hlim rfl rfl rfl rfl rfl rfl (by decide) rfl (fun h' hL => ?_); dsimp only [List.set, Nat.zero_add, Nat.reduceAdd, Nat.reduceMul] at hL; refine Wt ?_; refine Cs (Cs (Co (Wc (OP.fieldAddr0 rfl (Wc (OL.load1 (k := 0) hL rfl rfl rfl (Wc ?_))))))); refine OL.callV hL rfl rfl (c0 _ _) (fun h' hp hL => (Wc (OP.not rfl (Wm rfl (WO.yes rfl (Wc (OP.fieldAddr0 rfl (WO.yes rfl (Wc (OL.load (k := 0) hL rfl rfl rfl (WO.yes rfl (Wc ?_)))))))))))); refine OL.callV hL rfl rfl (c1 _ _) (fun h' hp hL => (WO.yes rfl (Wc (OP.not rfl (Wc (OP.pickF rfl rfl (Wm rfl (WO.yes rfl (WO.consQ (OP.fieldAddr0 rfl (WO.yes rfl (WO.consQ (OL.load1 (k := 0) hL rfl rfl rfl (WO.yes rfl (WO.consQ (OP.fieldAddr0 rfl (WO.yes rfl (WO.consQ (OL.load1 (k := 0) hL rfl rfl rfl (WO.yes rfl (WO.consQ (OP.idxArrZ rfl rfl (by decide) (by simp only [Int.reduceToNat, Nat.mul_one, Nat.zero_add, Nat.reduceMul, Nat.reduceAdd]; rfl) ?_)))))))))))))))))))))); refine WO.yes rfl (WO.consQ (OL.load1 (k := 2) hL rfl rfl rfl (WO.yes rfl (Wc (OP.eq rfl rfl rfl (Wc (OP.pickF rfl rfl (Wm rfl (WO.yes rfl (Wc (OP.fieldAddr0 rfl (WO.yes rfl (Wc (OL.load1 (k := 0) hL rfl rfl rfl (WO.yes rfl (Wm rfl (WO.yes rfl (Wc (OP.fieldAddr0 rfl (WO.yes rfl (Wc (OL.load1 (k := 0) hL rfl rfl rfl (WO.yes rfl (Wc (OP.neqT rfl rfl (by omega) ?_))))))))))))))))))))))))); refine WO.yes rfl (Wc (OP.pickT rfl rfl (Wc (OP.pickF rfl rfl (Wm rfl (WO.no rfl (WO.no rfl (WO.no rfl (WO.no rfl (WO.noU rfl (WO.noU rfl (WO.noU rfl (WO.noU rfl (WO.noU rfl (WO.noU rfl (WO.noU rfl (WO.no rfl (Wc (OP.pickT rfl rfl (Wt ?_)))))))))))))))))))); refine WC.condT rfl (Cs (Co (Wm rfl (Wt ?_)))); refine WC.ret ?_; dsimp only [zn, zr, zx, yn, yr])
      exact Fin.ret rfl ⟨hL.pfx, by rw [decide_eq_false HF.out]; rfl⟩
   | false =>
    cases hon : on 2 with
    | false =>
     simp only [hon] at hL
     have HF : Hid (¬ HMay es) := hno (HJ.out.noAns (t := 2) (by decide) hon)
     clear HK hno HJ
     (refine Wc ?_; refine OL.new hL (fun b h' hL => (WO.cons0 ?_)); refine OL.storeAll (k := 0) hL hlim rfl rfl rfl rfl rfl rfl (by decide) rfl (fun h' hL => ?_); dsimp only [List.set, Nat.zero_add, Nat.reduceAdd, Nat.reduceMul] at hL; refine Wt ?_; refine Cs (Cs (Co (Wc (OP.fieldAddr0 rfl (Wc (OL.load1 (k := 0) hL rfl rfl rfl (Wc ?_))))))); refine OL.callV hL rfl rfl (c0 _ _) (fun h' hp hL => (Wc (OP.not rfl (Wm rfl (WO.yes rfl (Wc (OP.fieldAddr0 rfl (WO.yes rfl (Wc (OL.load (k := 0) hL rfl rfl rfl (WO.yes rfl (Wc ?_)))))))))))); refine OL.callV hL rfl rfl (c1 _ _) (fun h' hp hL => (WO.yes rfl (Wc (OP.not rfl (Wc (OP.pickF rfl rfl (Wm rfl (WO.yes rfl (WO.consQ (OP.fieldAddr0 rfl (WO.yes rfl (WO.consQ (OL.load1 (k := 0) hL rfl rfl rfl (WO.yes rfl (WO.consQ (OP.fieldAddr0 rfl (WO.yes rfl (WO.consQ (OL.load1 (k := 0) hL rfl rfl rfl (WO.yes rfl (WO.consQ (OP.idxArrZ rfl rfl (by decide) (by simp only [Int.reduceToNat, Nat.mul_one, Nat.zero_add, Nat.reduceMul, Nat.reduceAdd]; rfl) ?_)))))))))))))))))))))); refine WO.yes rfl (WO.consQ (OL.load1 (k := 2) hL rfl rfl rfl (WO.yes rfl (Wc (OP.eqSelf rfl rfl (Wc (OP.pickF rfl rfl (Wm rfl (WO.no rfl (WO.no rfl (WO.no rfl (WO.noU rfl (WO.noU rfl (WO.noU rfl (WO.no rfl (Wc (OP.pickT rfl rfl (Wm rfl (WO.no rfl (WO.no rfl (WO.no rfl (WO.no rfl (WO.noU rfl (WO.noU rfl (WO.noU rfl (WO.noU rfl (WO.noU rfl (WO.noU rfl (WO.noU rfl (WO.no rfl (Wc (OP.pickT rfl rfl (Wt ?_))))))))))))))))))))))))))))))))); refine WC.condT rfl (Cs (Co (Wm rfl (Wt ?_)))); refine WC.ret ?_; dsimp only [zn, zr, zx, yn, yr])
     exact Fin.ret rfl ⟨hL.pfx, by rw [decide_eq_false HF.out]; rfl⟩
    | true =>
     simp only [hon] at hL
     (refine Wc ?_; refine OL.new hL (fun b h' hL => (WO.cons0 ?_)); refine OL.storeAll (k := 0) hL hlim rfl rfl rfl rfl rfl rfl (by decide) rfl (fun h' hL => ?_); dsimp only [List.set, Nat.zero_add, Nat.reduceAdd, Nat.reduceMul] at hL; refine Wt ?_; refine Cs (Cs (Co (Wc (OP.fieldAddr0 rfl (Wc (OL.load1 (k := 0) hL rfl rfl rfl (Wc ?_))))))); refine OL.callV hL rfl rfl (c0 _ _) (fun h' hp hL => (Wc (OP.not rfl (Wm rfl (WO.yes rfl (Wc (OP.fieldAddr0 rfl (WO.yes rfl (Wc (OL.load (k := 0) hL rfl rfl rfl (WO.yes rfl (Wc ?_)))))))))))); refine OL.callV hL rfl rfl (c1 _ _) (fun h' hp hL => (WO.yes rfl (Wc (OP.not rfl (Wc (OP.pickF rfl rfl (Wm rfl (WO.yes rfl (WO.consQ (OP.fieldAddr0 rfl (WO.yes rfl (WO.consQ (OL.load1 (k := 0) hL rfl rfl rfl (WO.yes rfl (WO.consQ (OP.fieldAddr0 rfl (WO.yes rfl (WO.consQ (OL.load1 (k := 0) hL rfl rfl rfl (WO.yes rfl (WO.consQ (OP.idxArrZ rfl rfl (by decide) (by simp only [Int.reduceToNat, Nat.mul_one, Nat.zero_add, Nat.reduceMul, Nat.reduceAdd]; rfl) ?_)))))))))))))))))))))); refine WO.yes rfl (WO.consQ (OL.load1 (k := 2) hL rfl rfl rfl (WO.yes rfl (Wc (OP.eq rfl rfl rfl (Wc (OP.pickF rfl rfl (Wm rfl (WO.yes rfl (Wc (OP.fieldAddr0 rfl (WO.yes rfl (Wc (OL.load1 (k := 0) hL rfl rfl rfl (WO.yes rfl (Wm rfl (WO.no rfl (WO.no rfl (WO.no rfl (WO.yes rfl (Wc (OP.pickF rfl rfl (Wc (OP.pickF rfl rfl (Wm rfl (WO.yes rfl (Wc (OP.fieldAddr0 rfl (WO.yes rfl (Wc (OL.load1 (k := 0) hL rfl rfl rfl (WO.yes rfl (Wc (OP.not rfl (WO.yes rfl (Wm rfl (WO.yes rfl (WO.consQ (OP.fieldAddr0 rfl (WO.yes rfl (WO.consQ (OL.load (k := 0) hL rfl rfl rfl (WO.yes rfl (WO.consQ (OP.fieldAddr0 rfl (WO.yes rfl (WO.consQ (OL.load1 (k := 0) hL rfl rfl rfl (WO.yes rfl (WO.consQ (OP.idxArrZ rfl rfl (by decide) (by simp only [Int.reduceToNat, Nat.mul_one, Nat.zero_add, Nat.reduceMul, Nat.reduceAdd]; rfl) ?_))))))))))))))))))))))))))))))))))))))))))))))))))); refine WO.yes rfl (WO.consQ (OL.load (k := 1) hL rfl rfl rfl (WO.yes rfl ?_))))
     (refine Wc ?_)
     subst hb56
     refine OP.eqOp (s := ⟨ec, er, ea⟩) (t := ops 2) rfl rfl (fun he => ?_) (fun he => ?_)
     ·obtain ⟨D, hD, HJ2⟩ : ∃ D, takeH C ⟨((2 : Nat) : Int), false, ec, er, ea, ex⟩ ((i : Int) + 1) = some D ∧ Hid (JOn D (updF on 2 false) (updF ops 2 ⟨ec, er, ea⟩)) := HJ.out.ans (t := 2) (by decide) ho hon he.symm (by omega)
      have HG := hyes D hD
      clear HK hno hyes HJ hD he
      (refine WO.yes rfl (Wc (OP.pickT rfl rfl (Wc (OP.pickF rfl rfl (Wt ?_))))); refine WC.condF rfl (Ks ?_); refine Cs (Co (Wc (OP.fieldAddr0 rfl (Wc (OL.load1 (k := 0) hL rfl rfl rfl (Wc (OP.fieldAddr0 rfl (Wc (OL.load1 (k := 0) hL rfl rfl rfl (Wc (OP.idxArrZ rfl rfl (by decide) (by simp only [Int.reduceToNat, Nat.mul_one, Nat.zero_add, Nat.reduceMul, Nat.reduceAdd]; rfl) ?_))))))))))); refine WO.cons0 ?_; refine OL.store1 (k := 2) hL hlim rfl rfl rfl rfl rfl rfl rfl (fun h' hL => ?_); dsimp only [List.set, Nat.zero_add, Nat.reduceAdd, Nat.reduceMul] at hL; refine Wt ?_; refine Co (Wc (OP.fieldAddr0 rfl (Wc (OL.load1 (k := 0) hL rfl rfl rfl (Wc (OP.fieldAddr0 rfl (Wc (OL.load (k := 0) hL rfl rfl rfl (Wc (OP.idxArrZ rfl rfl (by decide) (by simp only [Int.reduceToNat, Nat.mul_one, Nat.zero_add, Nat.reduceMul, Nat.reduceAdd]; rfl) ?_)))))))))))
      (refine WO.cons0 ?_)
      refine OL.store (k := 1) hL hlim rfl rfl rfl rfl rfl rfl (Nat.le_of_ble_eq_true rfl) (by decide) rfl rfl (fun h' hL => ?_)
      (refine Wt ?_; refine Co (Wm rfl (Wc (OP.add rfl rfl (by omega) ?_))); refine Wm rfl (Wt ?_))
      exact ⟨⟨i + 1, _, D, updF on 2 false, updF ops 2 ⟨ec, er, ea⟩⟩, ⟨hlt, HG, HJ2, hL.tail⟩, by (refine Sub.cons rfl (Sub.cons rfl (Sub.cons rfl (Sub.cons rfl ?_))); exact Sub.nil _), rfl, by simp only; omega⟩
     ·have HF : Hid (¬ HMay es) := hno (HJ.out.noOp (t := 2) (by decide) hon (Ne.symm he))
      clear HK hno HJ he
      (refine WO.yes rfl (Wc (OP.pickT rfl rfl (Wc (OP.pickF rfl rfl (Wt ?_))))); refine WC.condT rfl (Cs (Co (Wm rfl (Wt ?_)))); refine WC.ret ?_; dsimp only [zn, zr, zx, yn, yr])
      exact Fin.ret rfl ⟨hL.pfx, by rw [decide_eq_false HF.out]; rfl⟩
  ·cases ek with
   | true =>
    cases hon : on 3 with
    | true =>
     simp only [hon] at hL
     have HF : Hid (¬ HMay es) := hno (HJ.out.noCall (t := 3) (by decide) hon)
     clear HK hno HJ
     (refine Wc ?_; refine OL.new hL (fun b h' hL => (WO.cons0 ?_)); refine OL.storeAll (k := 0) hL hlim rfl rfl rfl rfl rfl rfl (by decide) rfl (fun h' hL => ?_); dsimp only [List.set, Nat.zero_add, Nat.reduceAdd, Nat.reduceMul] at hL; refine Wt ?_; refine Cs (Cs (Co (Wc (OP.fieldAddr0 rfl (Wc (OL.load1 (k := 0) hL rfl rfl rfl (Wc ?_))))))); refine OL.callV hL rfl rfl (c0 _ _) (fun h' hp hL => (Wc (OP.not rfl (Wm rfl (WO.yes rfl (Wc (OP.fieldAddr0 rfl (WO.yes rfl (Wc (OL.load (k := 0) hL rfl rfl rfl (WO.yes rfl (Wc ?_)))))))))))); refine OL.callV hL rfl rfl (c1 _ _) (fun h' hp hL => (WO.yes rfl (Wc (OP.not rfl (Wc (OP.pickF rfl rfl (Wm rfl (WO.yes rfl (WO.consQ (OP.fieldAddr0 rfl (WO.yes rfl (WO.consQ (OL.load1 (k := 0) hL rfl rfl rfl (WO.yes rfl (WO.consQ (OP.fieldAddr0 rfl (WO.yes rfl (WO.consQ (OL.load1 (k := 0) hL rfl rfl rfl (WO.yes rfl (WO.consQ (OP.idxArrZ rfl rfl (by decide) (by simp only [Int.reduceToNat, Nat.mul_one, Nat.zero_add, Nat.reduceMul, Nat.reduceAdd]; rfl) ?_)))))))))))))))))))))); refine WO.yes rfl (WO.consQ (OL.load1 (k := 2) hL rfl rfl rfl (WO.yes rfl (Wc (OP.eqSelf rfl rfl (Wc (OP.pickF rfl rfl (Wm rfl (WO.no rfl (WO.no rfl (WO.no rfl (WO.noU rfl (WO.noU rfl (WO.noU rfl (WO.no rfl (Wc (OP.pickT rfl rfl (Wm rfl (WO.no rfl (WO.no rfl (WO.no rfl (WO.no rfl (WO.noU rfl (WO.noU rfl (WO.noU rfl (WO.noU rfl (WO.noU rfl (WO.noU rfl (WO.noU rfl (WO.no rfl (Wc (OP.pickT rfl rfl (Wt ?_))))))))))))))))))))))))))))))))); refine WC.condT rfl (Cs (Co (Wm rfl (Wt ?_)))); refine WC.ret ?_; dsimp only [zn, zr, zx, yn, yr])
     exact Fin.ret rfl ⟨hL.pfx, by rw [decide_eq_false HF.out]; rfl⟩
    | false =>
     simp only [hon] at hL
     by_cases hx : ex = 0
     ·subst hx
      obtain ⟨D, hD, HJ2⟩ : ∃ D, takeH C ⟨((3 : Nat) : Int), true, ec, er, ea, 0⟩ ((i : Int) + 1) = some D ∧ Hid (JOn D (updF on 3 true) (updF ops 3 ⟨ec, er, ea⟩)) := HJ.out.call (t := 3) (by decide) ho hon
      have HG := hyes D hD
      clear HK hno hyes HJ hD
      (refine Wc ?_; refine OL.new hL (fun b h' hL => (WO.cons0 ?_)); refine OL.storeAll (k := 0) hL hlim rfl rfl rfl rfl rfl rfl (by decide) rfl (fun h' hL => ?_); dsimp only [List.set, Nat.zero_add, Nat.reduceAdd, Nat.reduceMul] at hL; refine Wt ?_; refine Cs (Cs (Co (Wc (OP.fieldAddr0 rfl (Wc (OL.load1 (k := 0) hL rfl rfl rfl (Wc ?_))))))); refine OL.callV hL rfl rfl (c0 _ _) (fun h' hp hL => (Wc (OP.not rfl (Wm rfl (WO.yes rfl (Wc (OP.fieldAddr0 rfl (WO.yes rfl (Wc (OL.load (k := 0) hL rfl rfl rfl (WO.yes rfl (Wc ?_)))))))))))); refine OL.callV hL rfl rfl (c1 _ _) (fun h' hp hL => (WO.yes rfl (Wc (OP.not rfl (Wc (OP.pickF rfl rfl (Wm rfl (WO.yes rfl (WO.consQ (OP.fieldAddr0 rfl (WO.yes rfl (WO.consQ (OL.load1 (k := 0) hL rfl rfl rfl (WO.yes rfl (WO.consQ (OP.fieldAddr0 rfl (WO.yes rfl (WO.consQ (OL.load1 (k := 0) hL rfl rfl rfl (WO.yes rfl (WO.consQ (OP.idxArrZ rfl rfl (by decide) (by simp only [Int.reduceToNat, Nat.mul_one, Nat.zero_add, Nat.reduceMul, Nat.reduceAdd]; rfl) ?_)))))))))))))))))))))); refine WO.yes rfl (WO.consQ (OL.load1 (k := 2) hL rfl rfl rfl (WO.yes rfl (Wc (OP.eq rfl rfl rfl (Wc (OP.pickF rfl rfl (Wm rfl (WO.yes rfl (Wc (OP.fieldAddr0 rfl (WO.yes rfl (Wc (OL.load1 (k := 0) hL rfl rfl rfl (WO.yes rfl (Wm rfl (WO.yes rfl (Wc (OP.fieldAddr0 rfl (WO.yes rfl (Wc (OL.load1 (k := 0) hL rfl rfl rfl (WO.yes rfl (Wc (OP.neqF rfl rfl (by omega) ?_))))))))))))))))))))))))); refine WO.yes rfl (Wc (OP.pickT rfl rfl (Wc (OP.pickF rfl rfl (Wm rfl (WO.yes rfl (Wc (OP.fieldAddr0 rfl (WO.yes rfl (Wc (OL.load1 (k := 0) hL rfl rfl rfl (WO.yes rfl (Wc (OP.not rfl (WO.yes rfl (Wm rfl (WO.no rfl (WO.no rfl (WO.no rfl (WO.no rfl (WO.no rfl (WO.no rfl (WO.no rfl (WO.yes rfl (Wc (OP.pickF rfl rfl (Wc (OP.pickF rfl rfl (Wt ?_))))))))))))))))))))))))))))); refine WC.condF rfl (Ks ?_); refine Cs (Co (Wc (OP.fieldAddr0 rfl (Wc (OL.load1 (k := 0) hL rfl rfl rfl (Wc (OP.fieldAddr0 rfl (Wc (OL.load1 (k := 0) hL rfl rfl rfl (Wc (OP.idxArrZ rfl rfl (by decide) (by simp only [Int.reduceToNat, Nat.mul_one, Nat.zero_add, Nat.reduceMul, Nat.reduceAdd]; rfl) ?_))))))))))); refine WO.cons0 ?_; refine OL.store1 (k := 2) hL hlim rfl rfl rfl rfl rfl rfl rfl (fun h' hL => ?_); dsimp only [List.set, Nat.zero_add, Nat.reduceAdd, Nat.reduceMul] at hL; refine Wt ?_; refine Co (Wc (OP.fieldAddr0 rfl (Wc (OL.load1 (k := 0) hL rfl rfl rfl (Wc (OP.fieldAddr0 rfl (Wc (OL.load (k := 0) hL rfl rfl rfl (Wc (OP.idxArrZ rfl rfl (by decide) (by simp only [Int.reduceToNat, Nat.mul_one, Nat.zero_add, Nat.reduceMul, Nat.reduceAdd]; rfl) ?_)))))))))))
      (refine WO.cons0 ?_)
      refine OL.store (k := 1) hL hlim rfl rfl rfl rfl rfl rfl (Nat.le_of_ble_eq_true rfl) (by decide) rfl rfl (fun h' hL => ?_)
      (refine Wt ?_; refine Co (Wm rfl (Wc (OP.add rfl rfl (by omega) ?_))); refine Wm rfl (Wt ?_))
      exact ⟨⟨i + 1, _, D, updF on 3 true, updF ops 3 ⟨ec, er, ea⟩⟩, ⟨hlt, HG, HJ2, hL.tail⟩, by (refine Sub.cons rfl (Sub.cons rfl (Sub.cons rfl (Sub.cons rfl ?_))); exact Sub.nil _), rfl, by simp only; omega⟩
     ·have HF : Hid (¬ HMay es) := hno (takeH_noX rfl hx)
      clear HK hno HJ
      (refine Wc ?_; refine OL.new hL (fun b h' hL => (WO.cons0 ?_)); refine OL.storeAll (k := 0) hL hlim rfl rfl rfl rfl rfl rfl (by decide) rfl (fun h' hL => ?_); dsimp only [List.set, Nat.zero_add, Nat.reduceAdd, Nat.reduceMul] at hL; refine Wt ?_; refine Cs (Cs (Co (Wc (OP.fieldAddr0 rfl (Wc (OL.load1 (k := 0) hL rfl rfl rfl (Wc ?_))))))); refine OL.callV hL rfl rfl (c0 _ _) (fun h' hp hL => (Wc (OP.not rfl (Wm rfl (WO.yes rfl (Wc (OP.fieldAddr0 rfl (WO.yes rfl (Wc (OL.load (k := 0) hL rfl rfl rfl (WO.yes rfl (Wc ?_)))))))))))); refine OL.callV hL rfl rfl (c1 _ _) (fun h' hp hL => (WO.yes rfl (Wc (OP.not rfl (Wc (OP.pickF rfl rfl (Wm rfl (WO.yes rfl (WO.consQ (OP.fieldAddr0 rfl (WO.yes rfl (WO.consQ (OL.load1 (k := 0) hL rfl rfl rfl (WO.yes rfl (WO.consQ (OP.fieldAddr0 rfl (WO.yes rfl (WO.consQ (OL.load1 (k := 0) hL rfl rfl rfl (WO.yes rfl (WO.consQ (OP.idxArrZ rfl rfl (by decide) (by simp only [Int.reduceToNat, Nat.mul_one, Nat.zero_add, Nat.reduceMul, Nat.reduceAdd]; rfl) ?_)))))))))))))))))))))); refine WO.yes rfl (WO.consQ (OL.load1 (k := 2) hL rfl rfl rfl (WO.yes rfl (Wc (OP.eq rfl rfl rfl (Wc (OP.pickF rfl rfl (Wm rfl (WO.yes rfl (Wc (OP.fieldAddr0 rfl (WO.yes rfl (Wc (OL.load1 (k := 0) hL rfl rfl rfl (WO.yes rfl (Wm rfl (WO.yes rfl (Wc (OP.fieldAddr0 rfl (WO.yes rfl (Wc (OL.load1 (k := 0) hL rfl rfl rfl (WO.yes rfl (Wc (OP.neqT rfl rfl (by omega) ?_))))))))))))))))))))))))); refine WO.yes rfl (Wc (OP.pickT rfl rfl (Wc (OP.pickF rfl rfl (Wm rfl (WO.no rfl (WO.no rfl (WO.no rfl (WO.no rfl (WO.noU rfl (WO.noU rfl (WO.noU rfl (WO.noU rfl (WO.noU rfl (WO.noU rfl (WO.noU rfl (WO.no rfl (Wc (OP.pickT rfl rfl (Wt ?_)))))))))))))))))))); refine WC.condT rfl (Cs (Co (Wm rfl (Wt ?_)))); refine WC.ret ?_; dsimp only [zn, zr, zx, yn, yr])
      exact Fin.ret rfl ⟨hL.pfx, by rw [decide_eq_false HF.out]; rfl⟩
   | false =>
    cases hon : on 3 with
    | false =>
     simp only [hon] at hL
     have HF : Hid (¬ HMay es) := hno (HJ.out.noAns (t := 3) (by decide) hon)
     clear HK hno HJ
     (refine Wc ?_; refine OL.new hL (fun b h' hL => (WO.cons0 ?_)); refine OL.storeAll (k := 0) hL hlim rfl rfl rfl rfl rfl rfl (by decide) rfl (fun h' hL => ?_); dsimp only [List.set, Nat.zero_add, Nat.reduceAdd, Nat.reduceMul] at hL; refine Wt ?_; refine Cs (Cs (Co (Wc (OP.fieldAddr0 rfl (Wc (OL.load1 (k := 0) hL rfl rfl rfl (Wc ?_))))))); refine OL.callV hL rfl rfl (c0 _ _) (fun h' hp hL => (Wc (OP.not rfl (Wm rfl (WO.yes rfl (Wc (OP.fieldAddr0 rfl (WO.yes rfl (Wc (OL.load (k := 0) hL rfl rfl rfl (WO.yes rfl (Wc ?_)))))))))))); refine OL.callV hL rfl rfl (c1 _ _) (fun h' hp hL => (WO.yes rfl (Wc (OP.not rfl (Wc (OP.pickF rfl rfl (Wm rfl (WO.yes rfl (WO.consQ (OP.fieldAddr0 rfl (WO.yes rfl (WO.consQ (OL.load1 (k := 0) hL rfl rfl rfl (WO.yes rfl (WO.consQ (OP.fieldAddr0 rfl (WO.yes rfl (WO.consQ (OL.load1 (k := 0) hL rfl rfl rfl (WO.yes rfl (WO.consQ (OP.idxArrZ rfl rfl (by decide) (by simp only [Int.reduceToNat, Nat.mul_one, Nat.zero_add, Nat.reduceMul, Nat.reduceAdd]; rfl) ?_)))))))))))))))))))))); refine WO.yes rfl (WO.consQ (OL.load1 (k := 2) hL rfl rfl rfl (WO.yes rfl (Wc (OP.eqSelf rfl rfl (Wc (OP.pickF rfl rfl (Wm rfl (WO.no rfl (WO.no rfl (WO.no rfl (WO.noU rfl (WO.noU rfl (WO.noU rfl (WO.no rfl (Wc (OP.pickT rfl rfl (Wm rfl (WO.no rfl (WO.no rfl (WO.no rfl (WO.no rfl (WO.noU rfl (WO.noU rfl (WO.noU rfl (WO.noU rfl (WO.noU rfl (WO.noU rfl (WO.noU rfl (WO.no rfl (Wc (OP.pickT rfl rfl (Wt ?_))))))))))))))))))))))))))))))))); refine WC.condT rfl (Cs (Co (Wm rfl (Wt ?_)))); refine WC.ret ?_; dsimp only [zn, zr, zx, yn, yr])
     exact Fin.ret rfl ⟨hL.pfx, by rw [decide_eq_false HF.out]; rfl⟩
    | true =>
     simp only [hon] at hL
     (refine Wc ?_; refine OL.new hL (fun b h' hL => (WO.cons0 ?_)); refine OL.storeAll (k := 0) hL hlim rfl rfl rfl rfl rfl rfl (by decide) rfl (fun h' hL => ?_); dsimp only [List.set, Nat.zero_add, Nat.reduceAdd, Nat.reduceMul] at hL; refine Wt ?_; refine Cs (Cs (Co (Wc (OP.fieldAddr0 rfl (Wc (OL.load1 (k := 0) hL rfl rfl rfl (Wc ?_))))))); refine OL.callV hL rfl rfl (c0 _ _) (fun h' hp hL => (Wc (OP.not rfl (Wm rfl (WO.yes rfl (Wc (OP.fieldAddr0 rfl (WO.yes rfl (Wc (OL.load (k := 0) hL rfl rfl rfl (WO.yes rfl (Wc ?_)))))))))))); refine OL.callV hL rfl rfl (c1 _ _) (fun h' hp hL => (WO.yes rfl (Wc (OP.not rfl (Wc (OP.pickF rfl rfl (Wm rfl (WO.yes rfl (WO.consQ (OP.fieldAddr0 rfl (WO.yes rfl (WO.consQ (OL.load1 (k := 0) hL rfl rfl rfl (WO.yes rfl (WO.consQ (OP.fieldAddr0 rfl (WO.yes rfl (WO.consQ (OL.load1 (k := 0) hL rfl rfl rfl (WO.yes rfl (WO.consQ (OP.idxArrZ rfl rfl (by decide) (by simp only [Int.reduceToNat, Nat.mul_one, Nat.zero_add, Nat.reduceMul, Nat.reduceAdd]; rfl) ?_)))))))))))))))))))))); refine WO.yes rfl (WO.consQ (OL.load1 (k := 2) hL rfl rfl rfl (WO.yes rfl (Wc (OP.eq rfl rfl rfl (Wc (OP.pickF rfl rfl (Wm rfl (WO.yes rfl (Wc (OP.fieldAddr0 rfl (WO.yes rfl (Wc (OL.load1 (k := 0) hL rfl rfl rfl (WO.yes rfl (Wm rfl (WO.no rfl (WO.no rfl (WO.no rfl (WO.yes rfl (Wc (OP.pickF rfl rfl (Wc (OP.pickF rfl rfl (Wm rfl (WO.yes rfl (Wc (OP.fieldAddr0 rfl (WO.yes rfl (Wc (OL.load1 (k := 0) hL rfl rfl rfl (WO.yes rfl (Wc (OP.not rfl (WO.yes rfl (Wm rfl (WO.yes rfl (WO.consQ (OP.fieldAddr0 rfl (WO.yes rfl (WO.consQ (OL.load (k := 0) hL rfl rfl rfl (WO.yes rfl (WO.consQ (OP.fieldAddr0 rfl (WO.yes rfl (WO.consQ (OL.load1 (k := 0) hL rfl rfl rfl (WO.yes rfl (WO.consQ (OP.idxArrZ rfl rfl (by decide) (by simp only [Int.reduceToNat, Nat.mul_one, Nat.zero_add, Nat.reduceMul, Nat.reduceAdd]; rfl) ?_))))))))))))))))))))))))))))))))))))))))))))))))))); refine WO.yes rfl (WO.consQ (OL.load (k := 1) hL rfl rfl rfl (WO.yes rfl ?_))))
     (refine Wc ?_)
     subst hb56
     refine OP.eqOp (s := ⟨ec, er, ea⟩) (t := ops 3) rfl rfl (fun he => ?_) (fun he => ?_)
     ·obtain ⟨D, hD, HJ2⟩ : ∃ D, takeH C ⟨((3 : Nat) : Int), false, ec, er, ea, ex⟩ ((i : Int) + 1) = some D ∧ Hid (JOn D (updF on 3 false) (updF ops 3 ⟨ec, er, ea⟩)) := HJ.out.ans (t := 3) (by decide) ho hon he.symm (by omega)
      have HG := hyes D hD
      clear HK hno hyes HJ hD he
      (refine WO.yes rfl (Wc (OP.pickT rfl rfl (Wc (OP.pickF rfl rfl (Wt ?_))))); refine WC.condF rfl (Ks ?_); refine Cs (Co (Wc (OP.fieldAddr0 rfl (Wc (OL.load1 (k := 0) hL rfl rfl rfl (Wc (OP.fieldAddr0 rfl (Wc (OL.load1 (k := 0) hL rfl rfl rfl (Wc (OP.idxArrZ rfl rfl (by decide) (by simp only [Int.reduceToNat, Nat.mul_one, Nat.zero_add, Nat.reduceMul, Nat.reduceAdd]; rfl) ?_))))))))))); refine WO.cons0 ?_; refine OL.store1 (k := 2) hL hlim rfl rfl rfl rfl rfl rfl rfl (fun h' hL => ?_); dsimp only [List.set, Nat.zero_add, Nat.reduceAdd, Nat.reduceMul] at hL; refine Wt ?_; refine Co (Wc (OP.fieldAddr0 rfl (Wc (OL.load1 (k := 0) hL rfl rfl rfl (Wc (OP.fieldAddr0 rfl (Wc (OL.load (k := 0) hL rfl rfl rfl (Wc (OP.idxArrZ rfl rfl (by decide) (by simp only [Int.reduceToNat, Nat.mul_one, Nat.zero_add, Nat.reduceMul, Nat.reduceAdd]; rfl) ?_)))))))))))
      (refine WO.cons0 ?_)
      refine OL.store (k := 1) hL hlim rfl rfl rfl rfl rfl rfl (Nat.le_of_ble_eq_true rfl) (by decide) rfl rfl (fun h' hL => ?_)
      (refine Wt ?_; refine Co (Wm rfl (Wc (OP.add rfl rfl (by omega) ?_))); refine Wm rfl (Wt ?_))
      exact ⟨⟨i + 1, _, D, updF on 3 false, updF ops 3 ⟨ec, er, ea⟩⟩, ⟨hlt, HG, HJ2, hL.tail⟩, by (refine Sub.cons rfl (Sub.cons rfl (Sub.cons rfl (Sub.cons rfl ?_))); exact Sub.nil _), rfl, by simp only; omega⟩
     ·have HF : Hid (¬ HMay es) := hno (HJ.out.noOp (t := 3) (by decide) hon (Ne.symm he))
      clear HK hno HJ he
      (refine WO.yes rfl (Wc (OP.pickT rfl rfl (Wc (OP.pickF rfl rfl (Wt ?_))))); refine WC.condT rfl (Cs (Co (Wm rfl (Wt ?_)))); refine WC.ret ?_; dsimp only [zn, zr, zx, yn, yr])
      exact Fin.ret rfl ⟨hL.pfx, by rw [decide_eq_false HF.out]; rfl⟩
 ·have hie : i = es.length := by omega
  subst hie
  have HE : Hid (∃ C, histH es 1 H4.none = some C) := ⟨C, by rw [HN.out, List.drop_length]; rfl⟩
  clear HN HJ
  by_cases hl : es.length ≤ 64
  ·(refine Cs (Cs (Co (Wm rfl (Wm rfl (Wc (OP.lenS rfl (Wc (OP.lssF rfl rfl (by omega) ?_)))))))); refine Wt ?_; refine WC.condF rfl (WC.exit ?_); dsimp only [zn, zr, zx, yn, yr]; rw [yx, if_pos rfl]; dsimp only [zn, zr, zx, yn, yr]; refine Cs (Co (Wm rfl (Wc (OP.lenS rfl (Wc (OP.leqT rfl rfl (by omega) ?_)))))); refine Wm rfl (Wt ?_); refine WC.ret ?_)
   exact Fin.ret rfl ⟨hL.pfx, by rw [decide_eq_true (show HMay es from ⟨HE.out, hl⟩)]; rfl⟩
  ·(refine Cs (Cs (Co (Wm rfl (Wm rfl (Wc (OP.lenS rfl (Wc (OP.lssF rfl rfl (by omega) ?_)))))))); refine Wt ?_; refine WC.condF rfl (WC.exit ?_); dsimp only [zn, zr, zx, yn, yr]; rw [yx, if_pos rfl]; dsimp only [zn, zr, zx, yn, yr]; refine Cs (Co (Wm rfl (Wc (OP.lenS rfl (Wc (OP.leqF rfl rfl (by omega) ?_)))))); refine Wm rfl (Wt ?_); refine WC.ret ?_)
   exact Fin.ret rfl ⟨hL.pfx, by rw [decide_eq_false (show ¬ HMay es from fun q => hl q.2)]; rfl⟩
end
end Go.Proofs.YtalknjppnkpmmaaDoorW.Ai
