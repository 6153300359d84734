/-
 Histories (chapter 24), plain: orders that stay orders: of a beginning, of one told the other way round.
-/
import Derived.Test.YtalknjppnkpmmaaDoorFn88
set_option linter.unusedVariables false
set_option linter.unusedSimpArgs false
set_option maxHeartbeats 1000000
set_option maxRecDepth 100000
namespace Go.Proofs.YtalknjppnkpmmaaDoorW.Ai
section
theorem FRow.recsK {α : Type} {enc : α → List Value} {P : α → Prop} {es : List FK} (hdec : ∀ cs : List Value, cs.length = es.length → (∀ (j : Nat) k c, es[j]? = some k → cs[j]? = some c → FIs k c) → ∃ s, enc s = cs ∧ P s) :
  ∀ (n : Nat) (cs : List Value), FRow es n cs → ∃ ss : List α, cs = Ai.recs enc ss ∧ ∀ s ∈ ss, P s
 | 0, cs, hf => ⟨[], List.length_eq_zero_iff.1 (by have := hf.1; simpa using this), fun s hs => by cases hs⟩
 | n + 1, cs, hf => by
  have hlen : cs.length = n * es.length + es.length := by rw [hf.1, Nat.succ_mul]
  obtain ⟨s, hs, hP⟩ := hdec (cs.take es.length) (by rw [List.length_take]; omega) (fun j k c hk hc => by
   have hj : j < es.length := (List.getElem?_eq_some_iff.1 hk).1
   rw [List.getElem?_take_of_lt hj] at hc
   exact hf.2 0 (by omega) j k c hk (by rw [Nat.zero_mul, Nat.zero_add]; exact hc))
  obtain ⟨ss, hss, hPs⟩ := FRow.recsK hdec n (cs.drop es.length) ⟨by rw [List.length_drop]; omega, fun i hi j k v hk hv => by
   rw [List.getElem?_drop] at hv
   exact hf.2 (i + 1) (by omega) j k v hk (by rw [Nat.succ_mul]; rw [← hv]; congr 1; omega)⟩
  refine ⟨s :: ss, ?_, fun t ht => ?_⟩
  ·show cs = enc s ++ Ai.recs enc ss
   rw [hs, ← hss, List.take_append_drop]
  ·rcases List.mem_cons.1 ht with rfl | ht
   ·exact hP
   ·exact hPs t ht
abbrev EvFits (e : EvR) : Prop := R64 e.t ∧ R64 e.c ∧ R64 e.r ∧ R64 e.a ∧ R64 e.x
theorem AArg.eventsS {h : AH} {v : Value} (ha : AArg h (false, [.sl [.int .i64, .bool, .int .i64, .int .i64, .int .i64, .int .i64] 48]) v) : ∃ a n ss, v = .slice a n n ∧ Sl 6 h a n n (recs evC ss) ∧ (∀ s ∈ ss, EvFits s) ∧ n ≤ 2 ^ 42 ∧ (a = none ∨ ∃ b, a = some ⟨b, 0, some 6⟩) := by
 obtain ⟨a, n, cs, h1, h2, h3, h4, h5⟩ := ha.2 0 _ _ rfl rfl
 obtain ⟨ss, rfl, hP⟩ := FRow.recsK (enc := evC) (P := EvFits) (fun cs hl hc => by
  have hl : cs.length = 6 := hl
  match cs, hl with
  | [c0, c1, c2, c3, c4, c5], _ =>
   obtain ⟨x0, rfl, r0⟩ := hc 0 _ _ rfl rfl
   obtain ⟨x1, rfl⟩ := hc 1 _ _ rfl rfl
   obtain ⟨x2, rfl, r2⟩ := hc 2 _ _ rfl rfl
   obtain ⟨x3, rfl, r3⟩ := hc 3 _ _ rfl rfl
   obtain ⟨x4, rfl, r4⟩ := hc 4 _ _ rfl rfl
   obtain ⟨x5, rfl, r5⟩ := hc 5 _ _ rfl rfl
   exact ⟨⟨x0, x1, x2, x3, x4, x5⟩, rfl, wf64 r0, wf64 r2, wf64 r3, wf64 r4, wf64 r5⟩) n cs h3
 exact ⟨a, n, ss, h1, h2, hP, by omega, h5.2⟩
theorem AArg.events {h : AH} {v : Value} (ha : AArg h (false, [.sl [.int .i64, .bool, .int .i64, .int .i64, .int .i64, .int .i64] 48]) v) : ∃ a n ss, v = .slice a n n ∧ Sl 6 h a n n (recs evC ss) ∧ (∀ s ∈ ss, EvFits s) ∧ n ≤ 2 ^ 42 := by
 obtain ⟨a, n, ss, h1, h2, h3, h4, -⟩ := ha.eventsS
 exact ⟨a, n, ss, h1, h2, h3, h4⟩
inductive All2 {α β : Type} (R : α → β → Prop) : List α → List β → Prop
 | nil : All2 R [] []
 | cons {a b l m} (h : R a b) (t : All2 R l m) : All2 R (a :: l) (b :: m)
section
variable {α β : Type} {R : α → β → Prop}
theorem All2.len : ∀ {l : List α} {m : List β}, All2 R l m → l.length = m.length
 | _, _, .nil => rfl
 | _, _, .cons _ t => congrArg Nat.succ t.len
theorem All2.get : ∀ {l : List α} {m : List β}, All2 R l m → ∀ {i : Nat} {a : α}, l[i]? = some a → ∃ b, m[i]? = some b ∧ R a b
 | _, _, .nil, i, a, h => by simp at h
 | _, _, .cons h t, 0, a, e => by
  simp only [List.getElem?_cons_zero, Option.some.injEq] at e
  subst e
  exact ⟨_, rfl, h⟩
 | _, _, .cons h t, i + 1, a, e => by
  rw [List.getElem?_cons_succ] at e ⊢
  exact t.get e
theorem All2.append : ∀ {l : List α} {m : List β} {l' m'}, All2 R l m → All2 R l' m' → All2 R (l ++ l') (m ++ m')
 | _, _, _, _, .nil, g => g
 | _, _, _, _, .cons h t, g => .cons h (t.append g)
theorem All2.snoc {l : List α} {m : List β} {a : α} {b : β} (h : All2 R l m) (g : R a b) : All2 R (l ++ [a]) (m ++ [b]) := h.append (.cons g .nil)
theorem All2.of_snoc : ∀ {l : List α} {a : α} {m : List β}, All2 R (l ++ [a]) m → ∃ m' b, m = m' ++ [b] ∧ All2 R l m' ∧ R a b
 | [], a, _, .cons h .nil => ⟨[], _, rfl, .nil, h⟩
 | x :: l, a, _, .cons h t => by
  obtain ⟨m', b, rfl, h1, h2⟩ := All2.of_snoc t
  exact ⟨_ :: m', b, rfl, .cons h h1, h2⟩
theorem All2.to_snoc : ∀ {m : List β} {b : β} {l : List α}, All2 R l (m ++ [b]) → ∃ l' a, l = l' ++ [a] ∧ All2 R l' m ∧ R a b
 | [], b, _, .cons h .nil => ⟨[], _, rfl, .nil, h⟩
 | x :: m, b, _, .cons h t => by
  obtain ⟨l', a, rfl, h1, h2⟩ := All2.to_snoc t
  exact ⟨_ :: l', a, rfl, .cons h h1, h2⟩
theorem All2.refl {R : α → α → Prop} (h : ∀ a, R a a) : ∀ l : List α, All2 R l l
 | [] => .nil
 | a :: l => .cons (h a) (All2.refl h l)
end
theorem snoc_or {α : Type} (l : List α) : l = [] ∨ ∃ m a, l = m ++ [a] := by
 rcases List.eq_nil_or_concat l with h | ⟨m, a, h⟩
 ·exact .inl h
 ·exact .inr ⟨m, a, by simpa using h⟩
theorem takeH_call {C : H4} {e : EvR} {k : Int} (ht : 0 ≤ e.t ∧ e.t < 4) (ho : OpOk e.c e.r e.a) (hc : e.call = true) (hp : pendL (C.get e.t) = none) (hx : e.x = 0) : takeH C e k = some (C.put e.t (C.get e.t ++ [⟨e.c, e.r, e.a, k, 0, 0⟩])) := by
 unfold takeH
 rw [if_pos ⟨ht, ho⟩, if_pos hc, if_pos ⟨hp, hx⟩]
theorem takeH_ans {C : H4} {e : EvR} {k : Int} {m : List CallR} {p : CallR} (ht : 0 ≤ e.t ∧ e.t < 4) (ho : OpOk e.c e.r e.a) (hc : e.call = false) (hm : C.get e.t = m ++ [p]) (hp : p.t = 0) (hx : p.c = e.c ∧ p.r = e.r ∧ p.a = e.a) : takeH C e k = some (C.put e.t (m ++ [{ p with t := k, x := e.x }])) := by
 unfold takeH
 rw [if_pos ⟨ht, ho⟩, if_neg (by rw [hc]; decide), hm, pendL_snoc, if_pos hp]
 simp only
 rw [if_pos hx, ansL_snoc]
structure CaLe (y w : CallR) : Prop where
 c : w.c = y.c
 r : w.r = y.r
 a : w.a = y.a
 x : w.x = y.x
 f : w.f ≤ y.f
 z : y.t = 0 ↔ w.t = 0
 p : y.t > 0 ↔ w.t > 0
 t : y.t > 0 → y.t ≤ w.t
theorem CaLe.refl (c : CallR) : CaLe c c := ⟨rfl, rfl, rfl, rfl, Int.le_refl _, Iff.rfl, Iff.rfl, fun _ => Int.le_refl _⟩
def HLe (C D : H4) : Prop := ∀ t : Nat, t < 4 → All2 CaLe (C.get (t : Nat)) (D.get (t : Nat))
theorem HLe.put {C D : H4} (H : HLe C D) {t : Nat} (ht : t < 4) {l m : List CallR} (h : All2 CaLe l m) : HLe (C.put (t : Int) l) (D.put (t : Int) m) := fun u hu => by
 rw [put_nat C l ht hu, put_nat D m ht hu]
 split
 ·exact h
 ·exact H u hu
theorem pend_le {l m : List CallR} (h : All2 CaLe l m) (hp : pendL l = none) : pendL m = none := by
 rcases snoc_or m with rfl | ⟨m', b, rfl⟩
 ·rfl
 ·obtain ⟨l', a, rfl, _, hr⟩ := h.to_snoc
  rw [pendL_snoc] at hp ⊢
  rw [if_neg fun e => by rw [if_pos (hr.z.2 e)] at hp; cases hp]
theorem HLe.take {C D E : H4} {e : EvR} {k : Int} (H : HLe C D) (hk : 0 < k) (h : takeH C e k = some E) : ∃ E', takeH D e k = some E' ∧ HLe E E' := by
 obtain ⟨ht, ho, hr⟩ := takeH_inv h
 obtain ⟨t, hte⟩ : ∃ t : Nat, e.t = t := ⟨e.t.toNat, by omega⟩
 have ht4 : t < 4 := by omega
 rcases hr with ⟨hc, hp, hx, rfl⟩ | ⟨hc, m, p, hm, hp, hx, rfl⟩
 ·refine ⟨_, takeH_call ht ho hc (by rw [hte] at hp ⊢; exact pend_le (H t ht4) hp) hx, ?_⟩
  rw [hte]
  exact H.put ht4 ((H t ht4).snoc (CaLe.refl _))
 ·have h1 := H t ht4
  rw [← hte, hm] at h1
  obtain ⟨m', q, hq, h2, hr⟩ := h1.of_snoc
  refine ⟨_, takeH_ans ht ho hc hq (hr.z.1 hp) ⟨hr.c.trans hx.1, hr.r.trans hx.2.1, hr.a.trans hx.2.2⟩, ?_⟩
  rw [hte]
  refine H.put ht4 (h2.snoc ⟨hr.c, hr.r, hr.a, rfl, hr.f, Iff.rfl, Iff.rfl, fun _ => Int.le_refl _⟩)
structure PR (k : Int) (y z : CallR) : Prop where
 c : z.c = y.c
 r : z.r = y.r
 a : z.a = y.a
 f : z.f = y.f
 t : (z.t = y.t ∧ z.x = y.x) ∨ (¬ y.t > 0 ∧ k < z.t)
def PLe (k : Int) (C' C : H4) : Prop := ∀ t : Nat, t < 4 → ∃ l1 l2, C.get (t : Nat) = l1 ++ l2 ∧ All2 (PR k) (C'.get (t : Nat)) l1 ∧ (∀ c ∈ l2, k < c.f) ∧ ∀ c ∈ C'.get (t : Nat), c.t ≤ k
theorem PLe.take {C' C D : H4} {e : EvR} {k j : Int} (H : PLe k C' C) (hk : 0 ≤ k) (hj : k < j) (h : takeH C e j = some D) : PLe k C' D := by
 obtain ⟨ht, ho, hr⟩ := takeH_inv h
 obtain ⟨t, hte⟩ : ∃ t : Nat, e.t = t := ⟨e.t.toNat, by omega⟩
 have ht4 : t < 4 := by omega
 intro u hu
 rcases hr with ⟨hc, hp, hx, rfl⟩ | ⟨hc, m, p, hm, hp, hx, rfl⟩
 ·rw [hte, put_nat _ _ ht4 hu]
  by_cases e1 : u = t
  ·rw [if_pos e1, ← e1]
   obtain ⟨l1, l2, q1, q2, q3, q4⟩ := H u hu
   refine ⟨l1, l2 ++ [⟨e.c, e.r, e.a, j, 0, 0⟩], by rw [q1, List.append_assoc], q2, fun c hc => ?_, q4⟩
   rcases List.mem_append.1 hc with hc | hc
   ·exact q3 c hc
   ·rw [List.mem_singleton.1 hc]; exact hj
  ·rw [if_neg e1]; exact H u hu
 ·rw [hte, put_nat _ _ ht4 hu]
  by_cases e1 : u = t
  ·rw [if_pos e1]
   obtain ⟨l1, l2, q1, q2, q3, q4⟩ := H t ht4
   rw [← hte, hm] at q1
   subst e1
   rcases snoc_or l2 with rfl | ⟨l2', z, rfl⟩
   ·rw [List.append_nil] at q1
    subst q1
    obtain ⟨m', q, hq, h2, hr⟩ := q2.to_snoc
    refine ⟨m ++ [{ p with t := j, x := e.x }], [], by simp, ?_, fun c hc => (by cases hc), q4⟩
    rw [hq]
    refine h2.snoc ⟨hr.c, hr.r, hr.a, hr.f, .inr ⟨?_, hj⟩⟩
    rcases hr.t with ⟨g, _⟩ | ⟨_, g⟩
    ·omega
    ·omega
   ·rw [← List.append_assoc] at q1
    obtain ⟨q5, q6⟩ := List.append_inj' q1 rfl
    have q6 : p = z := by simpa using q6
    subst q5 q6
    refine ⟨l1, l2' ++ [{ p with t := j, x := e.x }], by rw [List.append_assoc], q2, fun c hc => ?_, q4⟩
    rcases List.mem_append.1 hc with hc | hc
    ·exact q3 c (List.mem_append.2 (.inl hc))
    ·rw [List.mem_singleton.1 hc]; exact q3 p (by simp)
  ·rw [if_neg e1]; exact H u hu
theorem InP.get {C : H4} {p : P4} (h : InP C p) {t : Nat} (ht : t < 4) : p.get t ≤ (C.get (t : Nat)).length := by
 obtain rfl | rfl | rfl | rfl : t = 0 ∨ t = 1 ∨ t = 2 ∨ t = 3 := by omega
 ·exact h.1
 ·exact h.2.1
 ·exact h.2.2.1
 ·exact h.2.2.2
theorem Loc.asSl {h0 h : AH} {l : List Item} (hL : Loc h0 h l) {k lo hi sz n : Nat} {a : Option Addr} {cs : List Value} (hk : l[k]? = some (ap lo hi sz a n cs)) : Loc h0 h (l.set k (sl lo hi sz a n n cs)) :=
 hL.put (Nat.le_refl _) hk (sl lo hi sz a n n cs) rfl rfl (Ap.sl (hL.get hk)) (fun _ _ _ => rfl)
end
end Go.Proofs.YtalknjppnkpmmaaDoorW.Ai
