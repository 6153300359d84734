/-
 Histories (chapter 24), plain: orders that stay orders: of a beginning, of one told the other way round.
-/
import Derived.Test.YtalknjppnkpmmaaDoorFn88
set_option linter.unusedVariables false
set_option linter.unusedSimpArgs false
set_option maxHeartbeats 1000000
set_option maxRecDepth 100000
namespace Go.Proofs.YtalknjppnkpmmaaDoorW.Ai
theorem FRow.recsK {α : Type} {enc : α → List Value} {P : α → Prop} {es : List FK} (hdec : ∀ cs : List Value, cs.length = es.length → (∀ (j : Nat) k c, es[j]? = some k → cs[j]? = some c → FIs k c) → ∃ s, enc s = cs ∧ P s) :
  ∀ (n : Nat) (cs : List Value), FRow es n cs → ∃ ss : List α, cs = Ai.recs enc ss ∧ ∀ s ∈ ss, P s
 | 0, cs, hf => ⟨[], List.length_eq_zero_iff.1 (by have := hf.1; simpa using this), fun s hs => by cases hs⟩
 | n + 1, cs, hf => by
  have hlen : cs.length = n * es.length + es.length := by rw [hf.1, Nat.succ_mul]
  obtain ⟨s, hs, hP⟩ := hdec (cs.take es.length) (by rw [List.length_take]; omega) (fun j k c hk hc => by
   have hj : j < es.length := (List.getElem?_eq_some_iff.1 hk).1
   rw [List.getElem?_take_of_lt hj] at hc
   exact hf.2 0 (by omega) j k c hk (by rw [Nat.zero_mul, Nat.zero_add]; exact hc))
  obtain ⟨ss, hss, hPs⟩ := FRow.recsK hdec n (cs.drop es.length) ⟨by rw [List.length_drop]; omega, fun i hi j k v hk hv => by
   rw [List.getElem?_drop] at hv
   exact hf.2 (i + 1) (by omega) j k v hk (by rw [Nat.succ_mul]; rw [← hv]; congr 1; omega)⟩
  refine ⟨s :: ss, ?_, fun t ht => ?_⟩
  ·show cs = enc s ++ Ai.recs enc ss
   rw [hs, ← hss, List.take_append_drop]
  ·rcases List.mem_cons.1 ht with rfl | ht
   ·exact hP
   ·exact hPs t ht
abbrev EvFits (e : EvR) : Prop := R64 e.t ∧ R64 e.c ∧ R64 e.r ∧ R64 e.a ∧ R64 e.x
theorem AArg.eventsS {h : AH} {v : Value} (ha : AArg h (false, [.sl [.int .i64, .bool, .int .i64, .int .i64, .int .i64, .int .i64] 48]) v) : ∃ a n ss, v = .slice a n n ∧ Sl 6 h a n n (recs evC ss) ∧ (∀ s ∈ ss, EvFits s) ∧ n ≤ 2 ^ 42 ∧ (a = none ∨ ∃ b, a = some ⟨b, 0, some 6⟩) := by
 obtain ⟨a, n, cs, h1, h2, h3, h4, h5⟩ := ha.2 0 _ _ rfl rfl
 obtain ⟨ss, rfl, hP⟩ := FRow.recsK (enc := evC) (P := EvFits) (fun cs hl hc => by
  have hl : cs.length = 6 := hl
  match cs, hl with
  | [c0, c1, c2, c3, c4, c5], _ =>
   obtain ⟨x0, rfl, r0⟩ := hc 0 _ _ rfl rfl
   obtain ⟨x1, rfl⟩ := hc 1 _ _ rfl rfl
   obtain ⟨x2, rfl, r2⟩ := hc 2 _ _ rfl rfl
   obtain ⟨x3, rfl, r3⟩ := hc 3 _ _ rfl rfl
   obtain ⟨x4, rfl, r4⟩ := hc 4 _ _ rfl rfl
   obtain ⟨x5, rfl, r5⟩ := hc 5 _ _ rfl rfl
   exact ⟨⟨x0, x1, x2, x3, x4, x5⟩, rfl, wf64 r0, wf64 r2, wf64 r3, wf64 r4, wf64 r5⟩) n cs h3
 exact ⟨a, n, ss, h1, h2, hP, by omega, h5.2⟩
theorem AArg.events {h : AH} {v : Value} (ha : AArg h (false, [.sl [.int .i64, .bool, .int .i64, .int .i64, .int .i64, .int .i64] 48]) v) : ∃ a n ss, v = .slice a n n ∧ Sl 6 h a n n (recs evC ss) ∧ (∀ s ∈ ss, EvFits s) ∧ n ≤ 2 ^ 42 := by
 obtain ⟨a, n, ss, h1, h2, h3, h4, -⟩ := ha.eventsS
 exact ⟨a, n, ss, h1, h2, h3, h4⟩
/-- Two lists, element by element. -/
inductive All2 {α β : Type} (R : α → β → Prop) : List α → List β → Prop
 | nil : All2 R [] []
 | cons {a b l m} (h : R a b) (t : All2 R l m) : All2 R (a :: l) (b :: m)
section
variable {α β : Type} {R : α → β → Prop}
theorem All2.len : ∀ {l : List α} {m : List β}, All2 R l m → l.length = m.length
 | _, _, .nil => rfl
 | _, _, .cons _ t => congrArg Nat.succ t.len
theorem All2.get : ∀ {l : List α} {m : List β}, All2 R l m → ∀ {i : Nat} {a : α}, l[i]? = some a → ∃ b, m[i]? = some b ∧ R a b
 | _, _, .nil, i, a, h => by simp at h
 | _, _, .cons h t, 0, a, e => by
  simp only [List.getElem?_cons_zero, Option.some.injEq] at e
  subst e
  exact ⟨_, rfl, h⟩
 | _, _, .cons h t, i + 1, a, e => by
  rw [List.getElem?_cons_succ] at e ⊢
  exact t.get e
theorem All2.got : ∀ {l : List α} {m : List β}, All2 R l m → ∀ {i : Nat} {b : β}, m[i]? = some b → ∃ a, l[i]? = some a ∧ R a b
 | _, _, .nil, i, a, h => by simp at h
 | _, _, .cons h t, 0, a, e => by
  simp only [List.getElem?_cons_zero, Option.some.injEq] at e
  subst e
  exact ⟨_, rfl, h⟩
 | _, _, .cons h t, i + 1, a, e => by
  rw [List.getElem?_cons_succ] at e ⊢
  exact t.got e
theorem All2.append : ∀ {l : List α} {m : List β} {l' m'}, All2 R l m → All2 R l' m' → All2 R (l ++ l') (m ++ m')
 | _, _, _, _, .nil, g => g
 | _, _, _, _, .cons h t, g => .cons h (t.append g)
theorem All2.snoc {l : List α} {m : List β} {a : α} {b : β} (h : All2 R l m) (g : R a b) : All2 R (l ++ [a]) (m ++ [b]) := h.append (.cons g .nil)
theorem All2.of_snoc : ∀ {l : List α} {a : α} {m : List β}, All2 R (l ++ [a]) m → ∃ m' b, m = m' ++ [b] ∧ All2 R l m' ∧ R a b
 | [], a, _, .cons h .nil => ⟨[], _, rfl, .nil, h⟩
 | x :: l, a, _, .cons h t => by
  obtain ⟨m', b, rfl, h1, h2⟩ := All2.of_snoc t
  exact ⟨_ :: m', b, rfl, .cons h h1, h2⟩
theorem All2.to_snoc : ∀ {m : List β} {b : β} {l : List α}, All2 R l (m ++ [b]) → ∃ l' a, l = l' ++ [a] ∧ All2 R l' m ∧ R a b
 | [], b, _, .cons h .nil => ⟨[], _, rfl, .nil, h⟩
 | x :: m, b, _, .cons h t => by
  obtain ⟨l', a, rfl, h1, h2⟩ := All2.to_snoc t
  exact ⟨_ :: l', a, rfl, .cons h h1, h2⟩
theorem All2.refl {R : α → α → Prop} (h : ∀ a, R a a) : ∀ l : List α, All2 R l l
 | [] => .nil
 | a :: l => .cons (h a) (All2.refl h l)
end
theorem snoc_or {α : Type} (l : List α) : l = [] ∨ ∃ m a, l = m ++ [a] := by
 rcases List.eq_nil_or_concat l with h | ⟨m, a, h⟩
 ·exact .inl h
 ·exact .inr ⟨m, a, by simpa using h⟩
theorem takeH_call {C : H4} {e : EvR} {k : Int} (ht : 0 ≤ e.t ∧ e.t < 4) (ho : OpOk e.c e.r e.a) (hc : e.call = true) (hp : pendL (C.get e.t) = none) (hx : e.x = 0) : takeH C e k = some (C.put e.t (C.get e.t ++ [⟨e.c, e.r, e.a, k, 0, 0⟩])) := by
 unfold takeH
 rw [if_pos ⟨ht, ho⟩, if_pos hc, if_pos ⟨hp, hx⟩]
theorem takeH_ans {C : H4} {e : EvR} {k : Int} {m : List CallR} {p : CallR} (ht : 0 ≤ e.t ∧ e.t < 4) (ho : OpOk e.c e.r e.a) (hc : e.call = false) (hm : C.get e.t = m ++ [p]) (hp : p.t = 0) (hx : p.c = e.c ∧ p.r = e.r ∧ p.a = e.a) : takeH C e k = some (C.put e.t (m ++ [{ p with t := k, x := e.x }])) := by
 unfold takeH
 rw [if_pos ⟨ht, ho⟩, if_neg (by rw [hc]; decide), hm, pendL_snoc, if_pos hp]
 simp only
 rw [if_pos hx, ansL_snoc]
theorem histH_append : ∀ {xs ys : List EvR} {k : Int} {C E : H4}, histH (xs ++ ys) k C = some E ↔ ∃ D, histH xs k C = some D ∧ histH ys (k + xs.length) D = some E
 | [], ys, k, C, E => by
  simp [histH]
 | e :: xs, ys, k, C, E => by
  simp only [List.cons_append, histH]
  cases hT : takeH C e k with
  | none => simp
  | some D =>
   simp only
   rw [histH_append (k := k + 1)]
   have e1 : k + 1 + (xs.length : Int) = k + ((e :: xs).length : Int) := by rw [List.length_cons]; omega
   rw [e1]
theorem IsL_cases (ob : Int) (es : List EvR) : IsL ob es = (false, 2400) ∨ IsL ob es = (false, 0) ∨ (IsL ob es = (true, 0) ∧ ((0 ≤ ob ∧ ob ≤ 2) ∧ es.length ≤ 64) ∧ ∃ C, histH es 1 H4.none = some C ∧ Lin ob C P4.zero S4.none) := by
 by_cases h : (0 ≤ ob ∧ ob ≤ 2) ∧ es.length ≤ 64
 ·cases hC : histH es 1 H4.none with
  | none => exact .inl (IsL_none hC)
  | some C =>
   by_cases hl : Lin ob C P4.zero S4.none
   ·exact .inr (.inr ⟨IsL_some h hC ⟨fun _ => hl, fun _ => rfl⟩, h, C, rfl, hl⟩)
   ·exact .inr (.inl (IsL_some h hC ⟨fun q => (by cases q), fun q => absurd q hl⟩))
 ·exact .inl (IsL_form h)
theorem IsL_true {ob : Int} {es : List EvR} {C : H4} (h : (0 ≤ ob ∧ ob ≤ 2) ∧ es.length ≤ 64) (hC : histH es 1 H4.none = some C) (hl : Lin ob C P4.zero S4.none) : IsL ob es = (true, 0) := IsL_some h hC ⟨fun _ => hl, fun _ => rfl⟩
/-- The same call, called no later, answered no sooner. -/
structure CaLe (y w : CallR) : Prop where
 c : w.c = y.c
 r : w.r = y.r
 a : w.a = y.a
 x : w.x = y.x
 f : w.f ≤ y.f
 z : y.t = 0 ↔ w.t = 0
 p : y.t > 0 ↔ w.t > 0
 t : y.t > 0 → y.t ≤ w.t
theorem CaLe.refl (c : CallR) : CaLe c c := ⟨rfl, rfl, rfl, rfl, Int.le_refl _, Iff.rfl, Iff.rfl, fun _ => Int.le_refl _⟩
def HLe (C D : H4) : Prop := ∀ t : Nat, t < 4 → All2 CaLe (C.get (t : Nat)) (D.get (t : Nat))
theorem HLe.put {C D : H4} (H : HLe C D) {t : Nat} (ht : t < 4) {l m : List CallR} (h : All2 CaLe l m) : HLe (C.put (t : Int) l) (D.put (t : Int) m) := fun u hu => by
 rw [put_nat C l ht hu, put_nat D m ht hu]
 split
 ·exact h
 ·exact H u hu
theorem pend_le {l m : List CallR} (h : All2 CaLe l m) (hp : pendL l = none) : pendL m = none := by
 rcases snoc_or m with rfl | ⟨m', b, rfl⟩
 ·rfl
 ·obtain ⟨l', a, rfl, _, hr⟩ := h.to_snoc
  rw [pendL_snoc] at hp ⊢
  rw [if_neg fun e => by rw [if_pos (hr.z.2 e)] at hp; cases hp]
theorem HLe.take {C D E : H4} {e : EvR} {k : Int} (H : HLe C D) (hk : 0 < k) (h : takeH C e k = some E) : ∃ E', takeH D e k = some E' ∧ HLe E E' := by
 obtain ⟨ht, ho, hr⟩ := takeH_inv h
 obtain ⟨t, hte⟩ : ∃ t : Nat, e.t = t := ⟨e.t.toNat, by omega⟩
 have ht4 : t < 4 := by omega
 rcases hr with ⟨hc, hp, hx, rfl⟩ | ⟨hc, m, p, hm, hp, hx, rfl⟩
 ·refine ⟨_, takeH_call ht ho hc (by rw [hte] at hp ⊢; exact pend_le (H t ht4) hp) hx, ?_⟩
  rw [hte]
  exact H.put ht4 ((H t ht4).snoc (CaLe.refl _))
 ·have h1 := H t ht4
  rw [← hte, hm] at h1
  obtain ⟨m', q, hq, h2, hr⟩ := h1.of_snoc
  refine ⟨_, takeH_ans ht ho hc hq (hr.z.1 hp) ⟨hr.c.trans hx.1, hr.r.trans hx.2.1, hr.a.trans hx.2.2⟩, ?_⟩
  rw [hte]
  refine H.put ht4 (h2.snoc ⟨hr.c, hr.r, hr.a, rfl, hr.f, Iff.rfl, Iff.rfl, fun _ => Int.le_refl _⟩)
theorem HLe.hist : ∀ {es : List EvR} {k : Int} {C D E : H4}, HLe C D → 0 < k → histH es k C = some E → ∃ E', histH es k D = some E' ∧ HLe E E'
 | [], k, C, D, E, H, hk, h => by
  injection h with h
  subst h
  exact ⟨D, rfl, H⟩
 | e :: es, k, C, D, E, H, hk, h => by
  unfold histH at h
  split at h
  ·cases h
  ·rename_i C' hC
   obtain ⟨D', hD, H'⟩ := H.take hk hC
   obtain ⟨E', hE, H2⟩ := H'.hist (by omega) h
   exact ⟨E', by unfold histH; rw [hD]; exact hE, H2⟩
/-- A call as a beginning has it. -/
structure PR (k : Int) (y z : CallR) : Prop where
 c : z.c = y.c
 r : z.r = y.r
 a : z.a = y.a
 f : z.f = y.f
 t : (z.t = y.t ∧ z.x = y.x) ∨ (¬ y.t > 0 ∧ k < z.t)
def PLe (k : Int) (C' C : H4) : Prop := ∀ t : Nat, t < 4 → ∃ l1 l2, C.get (t : Nat) = l1 ++ l2 ∧ All2 (PR k) (C'.get (t : Nat)) l1 ∧ (∀ c ∈ l2, k < c.f) ∧ ∀ c ∈ C'.get (t : Nat), c.t ≤ k
theorem PLe.take {C' C D : H4} {e : EvR} {k j : Int} (H : PLe k C' C) (hk : 0 ≤ k) (hj : k < j) (h : takeH C e j = some D) : PLe k C' D := by
 obtain ⟨ht, ho, hr⟩ := takeH_inv h
 obtain ⟨t, hte⟩ : ∃ t : Nat, e.t = t := ⟨e.t.toNat, by omega⟩
 have ht4 : t < 4 := by omega
 intro u hu
 rcases hr with ⟨hc, hp, hx, rfl⟩ | ⟨hc, m, p, hm, hp, hx, rfl⟩
 ·rw [hte, put_nat _ _ ht4 hu]
  by_cases e1 : u = t
  ·rw [if_pos e1, ← e1]
   obtain ⟨l1, l2, q1, q2, q3, q4⟩ := H u hu
   refine ⟨l1, l2 ++ [⟨e.c, e.r, e.a, j, 0, 0⟩], by rw [q1, List.append_assoc], q2, fun c hc => ?_, q4⟩
   rcases List.mem_append.1 hc with hc | hc
   ·exact q3 c hc
   ·rw [List.mem_singleton.1 hc]; exact hj
  ·rw [if_neg e1]; exact H u hu
 ·rw [hte, put_nat _ _ ht4 hu]
  by_cases e1 : u = t
  ·rw [if_pos e1]
   obtain ⟨l1, l2, q1, q2, q3, q4⟩ := H t ht4
   rw [← hte, hm] at q1
   subst e1
   rcases snoc_or l2 with rfl | ⟨l2', z, rfl⟩
   ·rw [List.append_nil] at q1
    subst q1
    obtain ⟨m', q, hq, h2, hr⟩ := q2.to_snoc
    refine ⟨m ++ [{ p with t := j, x := e.x }], [], by simp, ?_, fun c hc => (by cases hc), q4⟩
    rw [hq]
    refine h2.snoc ⟨hr.c, hr.r, hr.a, hr.f, .inr ⟨?_, hj⟩⟩
    rcases hr.t with ⟨g, _⟩ | ⟨_, g⟩
    ·omega
    ·omega
   ·rw [← List.append_assoc] at q1
    obtain ⟨q5, q6⟩ := List.append_inj' q1 rfl
    have q6 : p = z := by simpa using q6
    subst q5 q6
    refine ⟨l1, l2' ++ [{ p with t := j, x := e.x }], by rw [List.append_assoc], q2, fun c hc => ?_, q4⟩
    rcases List.mem_append.1 hc with hc | hc
    ·exact q3 c (List.mem_append.2 (.inl hc))
    ·rw [List.mem_singleton.1 hc]; exact q3 p (by simp)
  ·rw [if_neg e1]; exact H u hu
theorem PLe.hist : ∀ {es : List EvR} {k j : Int} {C' C D : H4}, PLe k C' C → 0 ≤ k → k < j → histH es j C = some D → PLe k C' D
 | [], k, j, C', C, D, H, hk, hj, h => by
  injection h with h
  subst h
  exact H
 | e :: es, k, j, C', C, D, H, hk, hj, h => by
  unfold histH at h
  split at h
  ·cases h
  ·rename_i C1 hC
   exact (H.take hk hj hC).hist hk (by omega) h
theorem InP.get {C : H4} {p : P4} (h : InP C p) {t : Nat} (ht : t < 4) : p.get t ≤ (C.get (t : Nat)).length := by
 obtain rfl | rfl | rfl | rfl : t = 0 ∨ t = 1 ∨ t = 2 ∨ t = 3 := by omega
 ·exact h.1
 ·exact h.2.1
 ·exact h.2.2.1
 ·exact h.2.2.2
theorem lin_pre {ob k : Int} {C : H4} {p : P4} {s : S4} (h : Lin ob C p s) : ∀ {C' : H4}, PLe k C' C → InP C' p → Lin ob C' p s := by
 have up : ∀ {C C' : H4} {p : P4} {t : Nat} {d' : CallR}, PLe k C' C → t < 4 → nextC C' p t = some d' → ∃ d, nextC C p t = some d ∧ PR k d' d := fun {C C' p t d'} H ht hd => by
  obtain ⟨l1, l2, q1, q2, q3, q4⟩ := H t ht
  obtain ⟨d, h1, h2⟩ := q2.get hd
  refine ⟨d, ?_, h2⟩
  unfold nextC
  rw [q1, List.getElem?_append_left (List.getElem?_eq_some_iff.1 h1).1]
  exact h1
 have ans : ∀ {C' C : H4} {t : Nat} {d d' : CallR} {p : P4}, PLe k C' C → t < 4 → nextC C' p t = some d' → PR k d' d → d'.t > 0 → d.t = d'.t ∧ d.t ≤ k ∧ d.x = d'.x := fun {C' C t d d' p} H ht hd hr h0 => by
  obtain ⟨l1, l2, q1, q2, q3, q4⟩ := H t ht
  have := q4 d' (List.mem_of_getElem? hd)
  rcases hr.t with ⟨g1, g2⟩ | ⟨g, _⟩
  ·exact ⟨g1, by omega, g2⟩
  ·exact absurd h0 g
 induction h with
 | done h =>
  intro C' H hin
  refine .done fun t ht d' hd' hdt => ?_
  obtain ⟨d, hd, hr⟩ := up H ht hd'
  have := ans H ht hd' hr hdt
  exact h t ht d hd (by omega)
 | @step p s t c ht hc hm hx _ ih =>
  intro C' H hin
  by_cases hdn : doneC C' p
  ·exact .done hdn
  obtain ⟨t1, ht1, d1, hd1, hdt1⟩ : ∃ t1, t1 < 4 ∧ ∃ d1, nextC C' p t1 = some d1 ∧ d1.t > 0 := by
   refine Classical.byContradiction fun hno => hdn fun t ht d hd hdt => hno ⟨t, ht, d, hd, hdt⟩
  obtain ⟨d, hd, hr⟩ := up H ht1 hd1
  obtain ⟨q1, q2, q3⟩ := ans H ht1 hd1 hr hdt1
  have hcf := hm t1 ht1 d hd (by omega)
  have hcn : ∃ c', nextC C' p t = some c' ∧ PR k c' c := by
   obtain ⟨l1, l2, g1, g2, g3, g4⟩ := H t ht
   have hpl := hin.get ht
   unfold nextC at hc
   rw [g1] at hc
   by_cases hlt : p.get t < l1.length
   ·rw [List.getElem?_append_left hlt] at hc
    exact g2.got hc
   ·rw [List.getElem?_append_right (by omega)] at hc
    have := g3 c (List.mem_of_getElem? hc)
    omega
  obtain ⟨c', hc', hr'⟩ := hcn
  have hin' := hin.inc ht hc'
  obtain ⟨cc, cr, ca, cf, ct, cx⟩ := c'
  have e1 := hr'.c
  have e2 := hr'.r
  have e3 := hr'.a
  have e4 := hr'.f
  simp only at e1 e2 e3 e4
  have ih' := ih H hin'
  rw [e1, e2, e3] at ih' hx
  refine .step t _ ht hc' (fun u hu d' hd' hdt' => ?_) (fun hct => ?_) ih'
  ·obtain ⟨d, hd, hr⟩ := up H hu hd'
   obtain ⟨q1, q2, q3⟩ := ans H hu hd' hr hdt'
   have := hm u hu d hd (by omega)
   simp only
   omega
  ·obtain ⟨q1, q2, q3⟩ := ans H ht hc' hr' hct
   simp only at q1 q3 hct ⊢
   rw [hx (by omega), q3]
/-- Each beginning of a linear history. -/
theorem IsL_pre {ob : Int} {xs ys : List EvR} (h : IsL ob (xs ++ ys) = (true, 0)) : IsL ob xs = (true, 0) := by
 rcases IsL_cases ob (xs ++ ys) with g | g | ⟨-, hf, E, hE, hl⟩
 ·rw [h] at g; cases g
 ·rw [h] at g; cases g
 obtain ⟨C, h1, h2⟩ := histH_append.1 hE
 have hv := histH_inv HInv.none (by decide) h1
 have hp : PLe (xs.length : Int) C C := fun t ht => ⟨C.get (t : Nat), [], by simp, All2.refl (fun c => ⟨rfl, rfl, rfl, rfl, .inl ⟨rfl, rfl⟩⟩) _, fun c hc => (by cases hc), fun c hc => by have := ((hv t ht).2 c hc).2; omega⟩
 have := hp.hist (by omega) (by omega) h2
 exact IsL_true ⟨hf.1, by have := hf.2; rw [List.length_append] at this; omega⟩ h1 (lin_pre hl this ⟨Nat.zero_le _, Nat.zero_le _, Nat.zero_le _, Nat.zero_le _⟩)
end Go.Proofs.YtalknjppnkpmmaaDoorW.Ai
