/-
 Histories (chapter 24), plain: a history without scans is linear just if each row's own is.
-/
import Derived.Test.YtalknjppnkpmmaaDoorFn89
import Derived.Test.YtalknjppnkpmmaaDoorFn56
set_option linter.unusedVariables false
set_option linter.unusedSimpArgs false
set_option maxHeartbeats 1000000
set_option maxRecDepth 100000
namespace Go.Proofs.YtalknjppnkpmmaaDoorW.Ai
def ownC (r : Int) (l : List CallR) : List CallR := l.filter (fun c => decide (c.r = r))
def ownE (r : Int) (l : List EvR) : List EvR := l.filter (fun e => decide (e.r = r))
def H4.own (C : H4) (r : Int) : H4 := ⟨ownC r C.h0, ownC r C.h1, ownC r C.h2, ownC r C.h3⟩
def renC (g : Int → Int) (c : CallR) : CallR := { c with f := g c.f, t := g c.t }
def H4.ren (C : H4) (g : Int → Int) : H4 := ⟨C.h0.map (renC g), C.h1.map (renC g), C.h2.map (renC g), C.h3.map (renC g)⟩
theorem own_get (C : H4) (r : Int) (t : Int) : (C.own r).get t = ownC r (C.get t) := by
 unfold H4.get
 split
 ·rfl
 ·split
  ·rfl
  ·split <;> rfl
theorem ren_get (C : H4) (g : Int → Int) (t : Int) : (C.ren g).get t = (C.get t).map (renC g) := by
 unfold H4.get
 split
 ·rfl
 ·split
  ·rfl
  ·split <;> rfl
theorem next_head (C : H4) (p : P4) (t : Nat) : nextC C p t = ((C.get (t : Nat)).drop (p.get t)).head? := by
 unfold nextC
 rw [List.head?_drop]
/-- Other numbers, the same order. -/
theorem lin_ren {ob : Int} {C : H4} {g : Int → Int} (ho : ∀ t u : Nat, t < 4 → u < 4 → ∀ c, c ∈ C.get (t : Nat) → ∀ d, d ∈ C.get (u : Nat) → d.t > 0 → (g c.f ≤ g d.t ↔ c.f ≤ d.t)) (hp : ∀ t : Nat, t < 4 → ∀ c, c ∈ C.get (t : Nat) → (g c.t > 0 ↔ c.t > 0)) {p : P4} {s : S4} : Lin ob (C.ren g) p s ↔ Lin ob C p s := by
 have nx : ∀ (p : P4) (t : Nat), nextC (C.ren g) p t = (nextC C p t).map (renC g) := fun p t => by
  unfold nextC
  rw [ren_get, List.getElem?_map]
 constructor
 ·intro h
  generalize hD : C.ren g = D at h
  induction h with
  | done h =>
   subst hD
   refine .done fun t ht d hd hdt => ?_
   exact h t ht (renC g d) (by rw [nx, hd]; rfl) ((hp t ht d (nextC_mem hd)).2 hdt)
  | step t c ht hc hm hx k ih =>
   subst hD
   rw [nx] at hc
   obtain ⟨c', hc', rfl⟩ := Option.map_eq_some_iff.1 hc
   refine .step t c' ht hc' (fun u hu d hd hdt => ?_) (fun h => hx ((hp t ht c' (nextC_mem hc')).2 h)) ih
   have := hm u hu (renC g d) (by rw [nx, hd]; rfl) ((hp u hu d (nextC_mem hd)).2 hdt)
   exact (ho t u ht hu c' (nextC_mem hc') d (nextC_mem hd) hdt).1 this
 ·intro h
  induction h with
  | done h =>
   refine .done fun t ht d hd hdt => ?_
   rw [nx] at hd
   obtain ⟨d', hd', rfl⟩ := Option.map_eq_some_iff.1 hd
   exact h t ht d' hd' ((hp t ht d' (nextC_mem hd')).1 hdt)
  | step t c ht hc hm hx k ih =>
   refine .step t (renC g c) ht (by rw [nx, hc]; rfl) (fun u hu d hd hdt => ?_) (fun h => hx ((hp t ht c (nextC_mem hc)).1 h)) ih
   rw [nx] at hd
   obtain ⟨d', hd', rfl⟩ := Option.map_eq_some_iff.1 hd
   have hdt' := (hp u hu d' (nextC_mem hd')).1 hdt
   exact (ho t u ht hu c (nextC_mem hc) d' (nextC_mem hd') hdt').2 (hm u hu d' hd' hdt')
/-- Calls one behind the other, of each thread; without scans. -/
structure HSeq (C : H4) (k : Int) : Prop where
 pw : ∀ t : Nat, t < 4 → (C.get (t : Nat)).Pairwise (fun a b => a.t > 0 ∧ a.t < b.f)
 ft : ∀ t : Nat, t < 4 → ∀ c, c ∈ C.get (t : Nat) → (0 < c.f ∧ c.f < k) ∧ (c.t = 0 ∨ (c.f < c.t ∧ c.t < k))
 op : ∀ t : Nat, t < 4 → ∀ c, c ∈ C.get (t : Nat) → OpOk c.c c.r c.a
theorem HSeq.none : HSeq H4.none 1 := by
 refine ⟨fun t ht => ?_, fun t ht c hc => ?_, fun t ht c hc => ?_⟩
 ·rw [none_get ht]; exact .nil
 ·rw [none_get ht] at hc; cases hc
 ·rw [none_get ht] at hc; cases hc
theorem pw_snoc {α : Type} {R : α → α → Prop} {l : List α} {a : α} : (l ++ [a]).Pairwise R ↔ l.Pairwise R ∧ ∀ b ∈ l, R b a := by
 rw [List.pairwise_append]
 simp
theorem HSeq.take {C D : H4} {e : EvR} {k : Int} (H : HSeq C k) (hk : 0 < k) (h : takeH C e k = some D) : HSeq D (k + 1) := by
 obtain ⟨ht, ho, hr⟩ := takeH_inv h
 obtain ⟨t, hte⟩ : ∃ t : Nat, e.t = t := ⟨e.t.toNat, by omega⟩
 have ht4 : t < 4 := by omega
 rw [hte] at hr
 rcases hr with ⟨_, hp, _, rfl⟩ | ⟨_, m, p, hm, hp0, hpo, rfl⟩
 ·refine ⟨fun u hu => ?_, fun u hu c hc => ?_, fun u hu c hc => ?_⟩
  ·rw [put_nat C _ ht4 hu]
   split
   ·rename_i e1
    subst e1
    refine pw_snoc.2 ⟨H.pw u hu, fun b hb => ?_⟩
    have hf := H.ft u hu b hb
    have : b.t ≠ 0 := fun hz => by
     rcases snoc_or (C.get ((u : Nat) : Int)) with hn | ⟨m, z, hm⟩
     ·rw [hn] at hb; cases hb
     ·rw [hm, pendL_snoc] at hp
      split at hp
      ·cases hp
      ·rename_i hz2
       rw [hm] at hb
       rcases List.mem_append.1 hb with hb | hb
       ·have := H.pw u hu
        rw [hm] at this
        have := (pw_snoc.1 this).2 b hb
        omega
       ·rw [List.mem_singleton.1 hb] at hz; exact hz2 hz
    simp only
    omega
   ·exact H.pw u hu
  ·rw [put_nat C _ ht4 hu] at hc
   split at hc
   ·rename_i e1
    subst e1
    rcases List.mem_append.1 hc with hc | hc
    ·have := H.ft u hu c hc; omega
    ·rw [List.mem_singleton.1 hc]; exact ⟨⟨hk, by simp only; omega⟩, .inl rfl⟩
   ·have := H.ft u hu c hc; omega
  ·rw [put_nat C _ ht4 hu] at hc
   split at hc
   ·rename_i e1
    subst e1
    rcases List.mem_append.1 hc with hc | hc
    ·exact H.op u hu c hc
    ·rw [List.mem_singleton.1 hc]; exact ho
   ·exact H.op u hu c hc
 ·have hpm : p ∈ C.get ((t : Nat) : Int) := by rw [hm]; simp
  have hpf := H.ft t ht4 p hpm
  refine ⟨fun u hu => ?_, fun u hu c hc => ?_, fun u hu c hc => ?_⟩
  ·rw [put_nat C _ ht4 hu]
   split
   ·have := H.pw t ht4
    rw [hm] at this
    obtain ⟨h1, h2⟩ := pw_snoc.1 this
    exact pw_snoc.2 ⟨h1, fun b hb => h2 b hb⟩
   ·exact H.pw u hu
  ·rw [put_nat C _ ht4 hu] at hc
   split at hc
   ·rcases List.mem_append.1 hc with hc | hc
    ·have := H.ft t ht4 c (by rw [hm]; exact List.mem_append.2 (.inl hc)); omega
    ·rw [List.mem_singleton.1 hc]; simp only; omega
   ·have := H.ft u hu c hc; omega
  ·rw [put_nat C _ ht4 hu] at hc
   split at hc
   ·rcases List.mem_append.1 hc with hc | hc
    ·exact H.op t ht4 c (by rw [hm]; exact List.mem_append.2 (.inl hc))
    ·rw [List.mem_singleton.1 hc]; exact H.op t ht4 p hpm
   ·exact H.op u hu c hc
theorem histH_seq : ∀ {es : List EvR} {k : Int} {C D : H4}, HSeq C k → 0 < k → histH es k C = some D → HSeq D (k + es.length)
 | [], k, C, D, H, hk, h => by
  injection h with h
  subst h
  simpa using H
 | e :: es, k, C, D, H, hk, h => by
  unfold histH at h
  split at h
  ·cases h
  ·rename_i D' hD
   have := histH_seq (H.take hk hD) (by omega) h
   rw [List.length_cons]
   have e2 : k + 1 + (es.length : Int) = k + ((es.length + 1 : Nat) : Int) := by omega
   rwa [e2] at this
/-- The same place in a row's own history. -/
def At (C : H4) (p : P4) (r : Int) (q : P4) : Prop := ∀ t : Nat, t < 4 → ((C.own r).get (t : Nat)).drop (q.get t) = ownC r ((C.get (t : Nat)).drop (p.get t))
theorem At.next {C : H4} {p q : P4} {r : Int} (h : At C p r q) {t : Nat} (ht : t < 4) : nextC (C.own r) q t = (ownC r ((C.get (t : Nat)).drop (p.get t))).head? := by
 rw [next_head, h t ht]
theorem drop_inc {l : List CallR} {n : Nat} {c : CallR} {tl : List CallR} (h : l.drop n = c :: tl) : l.drop (n + 1) = tl := by
 rw [← List.drop_drop, h]; rfl
theorem At.inc {C : H4} {p q : P4} {r : Int} (h : At C p r q) {t : Nat} (ht : t < 4) {c : CallR} (hc : nextC C p t = some c) (hr : c.r = r) : At C (p.inc t) r (q.inc t) := fun u hu => by
 rw [P4.inc_get q ht hu, P4.inc_get p ht hu]
 have hh := h u hu
 by_cases e : u = t
 ·subst e
  rw [if_pos rfl, if_pos rfl]
  rw [next_head] at hc
  cases hd : (C.get ((u : Nat) : Int)).drop (p.get u) with
  | nil => rw [hd] at hc; cases hc
  | cons c' tl =>
   rw [hd] at hc hh
   injection hc with hc
   subst hc
   rw [drop_inc hd]
   have e2 : ownC r (c' :: tl) = c' :: ownC r tl := by unfold ownC; rw [List.filter_cons_of_pos (by simpa using hr)]
   rw [e2] at hh
   exact drop_inc hh
 ·rw [if_neg e, if_neg e]; exact hh
theorem At.other {C : H4} {p q : P4} {r : Int} (h : At C p r q) {t : Nat} (ht : t < 4) {c : CallR} (hc : nextC C p t = some c) (hr : c.r ≠ r) : At C (p.inc t) r q := fun u hu => by
 rw [P4.inc_get p ht hu]
 have hh := h u hu
 by_cases e : u = t
 ·subst e
  rw [if_pos rfl]
  rw [next_head] at hc
  cases hd : (C.get ((u : Nat) : Int)).drop (p.get u) with
  | nil => rw [hd] at hc; cases hc
  | cons c' tl =>
   rw [hd] at hc hh
   injection hc with hc
   subst hc
   rw [drop_inc hd]
   have e2 : ownC r (c' :: tl) = ownC r tl := by unfold ownC; rw [List.filter_cons_of_neg (by simpa using hr)]
   rw [e2] at hh
   exact hh
 ·rw [if_neg e]; exact hh
/-- A row's next is the next, or behind it. -/
theorem At.up {C : H4} {k : Int} (H : HSeq C k) {p q : P4} {r : Int} (h : At C p r q) {t : Nat} (ht : t < 4) {d : CallR} (hd : nextC (C.own r) q t = some d) : d.r = r ∧ d ∈ C.get (t : Nat) ∧ ∃ e, nextC C p t = some e ∧ (e = d ∨ (e.r ≠ r ∧ e.t > 0 ∧ e.t < d.f)) := by
 rw [h.next ht] at hd
 have hm : d ∈ ownC r ((C.get ((t : Nat) : Int)).drop (p.get t)) := List.mem_of_mem_head? hd
 have hm2 := List.mem_filter.1 hm
 refine ⟨by simpa using hm2.2, List.mem_of_mem_drop hm2.1, ?_⟩
 rw [next_head]
 have hpw : ((C.get ((t : Nat) : Int)).drop (p.get t)).Pairwise (fun a b => a.t > 0 ∧ a.t < b.f) := (H.pw t ht).sublist (List.drop_sublist _ _)
 cases hl : (C.get ((t : Nat) : Int)).drop (p.get t) with
 | nil => rw [hl] at hd; cases hd
 | cons e tl =>
  rw [hl] at hd hpw hm2
  refine ⟨e, rfl, ?_⟩
  by_cases he : e.r = r
  ·left
   unfold ownC at hd
   rw [List.filter_cons_of_pos (by simpa using he)] at hd
   injection hd
  ·right
   unfold ownC at hd
   rw [List.filter_cons_of_neg (by simpa using he)] at hd
   have hdt : d ∈ tl := (List.mem_filter.1 (List.mem_of_mem_head? hd)).1
   exact ⟨he, (List.pairwise_cons.1 hpw).1 d hdt⟩
theorem At.down {C : H4} {p q : P4} {r : Int} (h : At C p r q) {t : Nat} (ht : t < 4) {e : CallR} (he : nextC C p t = some e) (hr : e.r = r) : nextC (C.own r) q t = some e := by
 rw [h.next ht]
 rw [next_head] at he
 cases hl : (C.get ((t : Nat) : Int)).drop (p.get t) with
 | nil => rw [hl] at he; cases he
 | cons e' tl =>
  rw [hl] at he
  injection he with he
  subst he
  unfold ownC
  rw [List.filter_cons_of_pos (by simpa using hr)]
  rfl
/-- An order of the whole is one of each row. -/
theorem lin_own {ob k : Int} {C : H4} (H : HSeq C k) (hsc : ∀ t : Nat, t < 4 → ∀ c, c ∈ C.get (t : Nat) → c.c ≠ 3) {p : P4} {s : S4} (h : Lin ob C p s) : ObMay ob s → ∀ {r : Int} {q : P4} {u : S4}, 0 ≤ r ∧ r ≤ 3 → At C p r q → ObMay ob u → u.get r = s.get r → Lin ob (C.own r) q u := by
 induction h with
 | done h =>
  intro hs r q u hr ha hu hg
  refine .done fun t ht d hd hdt => ?_
  obtain ⟨-, -, e, he, h1⟩ := ha.up H ht hd
  rcases h1 with rfl | ⟨_, h2, _⟩
  ·exact h t ht e he hdt
  ·exact h t ht e he h2
 | step t c ht hc hm hx k' ih =>
  intro hs r q u hr ha hu hg
  have ho := H.op t ht c (nextC_mem hc)
  have h3 := hsc t ht c (nextC_mem hc)
  have e1 := ObjM_row (e := 600) hs ho h3
  have hcr : 0 ≤ c.r ∧ c.r ≤ 3 := by unfold OpOk at ho; omega
  have hca : 0 ≤ c.a ∧ c.a ≤ 255 := by unfold OpOk at ho; omega
  rw [e1] at ih hx
  have hs' : ObMay ob (S4.put _ c.r (rowM ob (S4.get _ c.r) c.c c.a).1) := ObMay_put hs (rowM_may (RowMay_get hs) hca)
  by_cases e : c.r = r
  ·subst e
   have e2 := ObjM_row (e := 600) hu ho h3
   rw [hg] at e2
   refine .step t c ht (ha.down ht hc rfl) (fun v hv d hd hdt => ?_) (fun hct => by rw [e2]; exact hx hct) ?_
   ·obtain ⟨-, hdm, e, he, h1⟩ := ha.up H hv hd
    rcases h1 with rfl | ⟨_, h2, h3⟩
    ·exact hm v hv e he hdt
    ·have := hm v hv e he h2
     have := H.ft v hv d hdm
     omega
   ·rw [e2]
    exact ih hs' hr (ha.inc ht hc rfl) (ObMay_put hu (by rw [← hg]; exact rowM_may (RowMay_get hu) hca)) (by simp only [gp _ hr])
  ·exact ih hs' hr (ha.other ht hc e) hu (by rw [hg]; simp only; rw [gpn _ hcr hr e])
theorem min_ex {P : Int → Prop} (h0 : ∀ x, P x → 0 ≤ x) (h : ∃ x, P x) : ∃ x, P x ∧ ∀ y, P y → x ≤ y := by
 have key : ∀ n : Nat, ∀ x, P x → x ≤ n → ∃ x, P x ∧ ∀ y, P y → x ≤ y := by
  intro n
  induction n with
  | zero => exact fun x hx hn => ⟨x, hx, fun y hy => by have := h0 y hy; omega⟩
  | succ n ih =>
   intro x hx hn
   by_cases e : ∃ y, P y ∧ y < x
   ·obtain ⟨y, hy, hlt⟩ := e
    exact ih y hy (by omega)
   ·exact ⟨x, hx, fun y hy => Int.not_lt.1 fun hlt => e ⟨y, hy, hlt⟩⟩
 obtain ⟨x, hx⟩ := h
 exact key x.toNat x hx (by omega)
def left (C : H4) (p : P4) : Nat := (C.h0.length - p.p0) + (C.h1.length - p.p1) + (C.h2.length - p.p2) + (C.h3.length - p.p3)
theorem left_inc {C : H4} {p : P4} {t : Nat} {c : CallR} (ht : t < 4) (hc : nextC C p t = some c) : left C (p.inc t) < left C p := by
 have h1 := nextC_lt hc
 unfold left
 obtain rfl | rfl | rfl | rfl : t = 0 ∨ t = 1 ∨ t = 2 ∨ t = 3 := by omega
 ·have h1 : p.p0 < C.h0.length := h1
  simp only [P4.inc]; simp only [↓reduceIte]; omega
 ·have h1 : p.p1 < C.h1.length := h1
  simp only [P4.inc]; simp only [Nat.one_ne_zero, ↓reduceIte]; omega
 ·have h1 : p.p2 < C.h2.length := h1
  show C.h0.length - p.p0 + (C.h1.length - p.p1) + (C.h2.length - (p.p2 + 1)) + (C.h3.length - p.p3) < _
  omega
 ·have h1 : p.p3 < C.h3.length := h1
  show C.h0.length - p.p0 + (C.h1.length - p.p1) + (C.h2.length - p.p2) + (C.h3.length - (p.p3 + 1)) < _
  omega
/-- Orders of each row make one of the whole. -/
theorem lin_merge {ob k : Int} {C : H4} (H : HSeq C k) (hsc : ∀ t : Nat, t < 4 → ∀ c, c ∈ C.get (t : Nat) → c.c ≠ 3) : ∀ (n : Nat) {p : P4} {s : S4} {q : Int → P4} {u : Int → S4}, left C p < n → ObMay ob s → (∀ r, 0 ≤ r ∧ r ≤ 3 → At C p r (q r) ∧ ObMay ob (u r) ∧ (u r).get r = s.get r ∧ Lin ob (C.own r) (q r) (u r)) → Lin ob C p s
 | 0, p, s, q, u, hn, _, _ => by omega
 | n + 1, p, s, q, u, hn, hs, hr => by
  by_cases hdn : doneC C p
  ·exact .done hdn
  have row : ∀ t : Nat, t < 4 → ∀ e, nextC C p t = some e → 0 ≤ e.r ∧ e.r ≤ 3 := fun t ht e he => by
   have := H.op t ht e (nextC_mem he)
   unfold OpOk at this; omega
  -- a row whose next is answered goes on
  have go : ∀ t : Nat, t < 4 → ∀ e, nextC C p t = some e → e.t > 0 → ∃ t' c, t' < 4 ∧ nextC (C.own e.r) (q e.r) t' = some c ∧ mayC (C.own e.r) (q e.r) c ∧ (c.t > 0 → (ObjM 600 ob (u e.r) c.c c.r c.a).2.1 = c.x) ∧ Lin ob (C.own e.r) ((q e.r).inc t') (ObjM 600 ob (u e.r) c.c c.r c.a).1 := fun t ht e he het => by
   obtain ⟨h1, h2, h3, h4⟩ := hr e.r (row t ht e he)
   cases h4 with
   | done h => exact absurd het (h t ht e (h1.down ht he rfl))
   | step t' c ht' hc hm hx hk => exact ⟨t', c, ht', hc, hm, hx, hk⟩
  let P : Int → Prop := fun x => ∃ r t' c, (0 ≤ r ∧ r ≤ 3) ∧ t' < 4 ∧ nextC (C.own r) (q r) t' = some c ∧ mayC (C.own r) (q r) c ∧ (c.t > 0 → (ObjM 600 ob (u r) c.c c.r c.a).2.1 = c.x) ∧ Lin ob (C.own r) ((q r).inc t') (ObjM 600 ob (u r) c.c c.r c.a).1 ∧ x = c.f
  have low : ∀ t : Nat, t < 4 → ∀ e, nextC C p t = some e → e.t > 0 → ∃ x, P x ∧ x ≤ e.t := fun t ht e he het => by
   have hrw := row t ht e he
   obtain ⟨t', c, g1, g2, g3, g4, g5⟩ := go t ht e he het
   refine ⟨c.f, ⟨e.r, t', c, hrw, g1, g2, g3, g4, g5, rfl⟩, ?_⟩
   exact g3 t ht e ((hr e.r hrw).1.down ht he rfl) het
  obtain ⟨t0, ht0, e0, he0, het0⟩ : ∃ t0 : Nat, t0 < 4 ∧ ∃ e0, nextC C p t0 = some e0 ∧ e0.t > 0 :=
   Classical.byContradiction fun hno => hdn fun t ht d hd hdt => hno ⟨t, ht, d, hd, hdt⟩
  obtain ⟨x, hPx, hmin⟩ := min_ex (P := P) (fun x ⟨r, t', c, h1, h2, h3, _, _, _, hx⟩ => by
   obtain ⟨-, hcm, -⟩ := (hr r h1).1.up H h2 h3
   have := H.ft t' h2 c hcm
   omega) ((low t0 ht0 e0 he0 het0).imp fun _ h => h.1)
  obtain ⟨r, t, c, hrr, ht, hc, hm, hx, hk, hxe⟩ := hPx
  subst hxe
  obtain ⟨hA, hu, hg, -⟩ := hr r hrr
  obtain ⟨hcr, hcm, e, he, h1⟩ := hA.up H ht hc
  have hce : e = c := by
   rcases h1 with h1 | ⟨_, h2, h3⟩
   ·exact h1
   ·obtain ⟨y, hy, hle⟩ := low t ht e he h2
    have := hmin y hy
    omega
  subst hce
  have ho := H.op t ht e hcm
  have h3 := hsc t ht e hcm
  have e1 := ObjM_row (e := 600) hs ho h3
  have e2 := ObjM_row (e := 600) hu ho h3
  have hca : 0 ≤ e.a ∧ e.a ≤ 255 := by unfold OpOk at ho; omega
  subst hcr
  rw [hg] at e2
  refine .step t e ht he (fun v hv d hd hdt => ?_) (fun het => ?_) ?_
  ·obtain ⟨y, hy, hle⟩ := low v hv d hd hdt
   have := hmin y hy
   omega
  ·have := hx het
   rw [e2] at this
   rw [e1]
   exact this
  ·rw [e1]
   rw [e2] at hk
   refine lin_merge H hsc n (q := fun r' => if r' = e.r then (q e.r).inc t else q r') (u := fun r' => if r' = e.r then ((u e.r).put e.r (rowM ob (s.get e.r) e.c e.a).1) else u r') (by have := left_inc ht he; omega) (ObMay_put hs (rowM_may (RowMay_get hs) hca)) (fun r' hr' => ?_)
   by_cases er : r' = e.r
   ·subst er
    simp only [↓reduceIte]
    exact ⟨hA.inc ht he rfl, ObMay_put hu (rowM_may (RowMay_get hs) hca), by rw [gp _ hr', gp _ hr'], hk⟩
   ·simp only [if_neg er]
    obtain ⟨k1, k2, k3, k4⟩ := hr r' hr'
    exact ⟨k1.other ht he (Ne.symm er), k2, by rw [k3, gpn _ hrr hr' (Ne.symm er)], k4⟩
/-- How many of the first are of a row. -/
def cnt (r : Int) (es : List EvR) (k : Int) : Int := (ownE r (es.take k.toNat)).length
theorem cnt_mono {r : Int} {es : List EvR} {k l : Int} (h : k ≤ l) : cnt r es k ≤ cnt r es l := by
 unfold cnt ownE
 have h1 : (es.take k.toNat).Sublist (es.take l.toNat) := by
  rw [show k.toNat = min k.toNat l.toNat by omega, ← List.take_take]
  exact List.take_sublist _ _
 exact Int.ofNat_le.2 (h1.filter _).length_le
theorem cnt_lt {r : Int} {es : List EvR} {k l : Int} (h : k < l) (hl : 0 < l) {e : EvR} (he : es[(l - 1).toNat]? = some e) (hr : e.r = r) : cnt r es k < cnt r es l := by
 have h1 : cnt r es k ≤ cnt r es (l - 1) := cnt_mono (by omega)
 have h2 : cnt r es l = cnt r es (l - 1) + 1 := by
  unfold cnt ownE
  rw [show l.toNat = (l - 1).toNat + 1 by omega, List.take_add_one, he, List.filter_append]
  simp [hr]
 omega
theorem cnt_append {r : Int} {es fs : List EvR} {k : Int} (h : k ≤ es.length) : cnt r (es ++ fs) k = cnt r es k := by
 unfold cnt
 rw [List.take_append_of_le_length (by omega)]
theorem cnt_zero {r : Int} {es : List EvR} {k : Int} (h : k ≤ 0) : cnt r es k = 0 := by
 unfold cnt
 rw [show k.toNat = 0 by omega]
 rfl
theorem cnt_all {r : Int} {es : List EvR} : cnt r es (es.length : Int) = (ownE r es).length := by
 unfold cnt
 rw [Int.toNat_natCast, List.take_length]
/-- Calls stand where they were told. -/
def Told (es : List EvR) (C : H4) : Prop := ∀ t : Nat, t < 4 → ∀ c, c ∈ C.get (t : Nat) → (∃ e, es[(c.f - 1).toNat]? = some e ∧ e.r = c.r ∧ e.c = c.c) ∧ (c.t > 0 → ∃ e, es[(c.t - 1).toNat]? = some e ∧ e.r = c.r)
theorem ren_same {g g' : Int → Int} {l : List CallR} (h : ∀ c ∈ l, g c.f = g' c.f ∧ g c.t = g' c.t) : l.map (renC g) = l.map (renC g') :=
 List.map_congr_left fun c hc => by unfold renC; rw [(h c hc).1, (h c hc).2]
theorem H4.ext_nat {C D : H4} (h : ∀ t : Nat, t < 4 → C.get (t : Nat) = D.get (t : Nat)) : C = D := by
 have h0 := h 0 (by decide)
 have h1 := h 1 (by decide)
 have h2 := h 2 (by decide)
 have h3 := h 3 (by decide)
 obtain ⟨a, b, c, d⟩ := C
 obtain ⟨a', b', c', d'⟩ := D
 have h0 : a = a' := h0
 have h1 : b = b' := h1
 have h2 : c = c' := h2
 have h3 : d = d' := h3
 rw [h0, h1, h2, h3]
theorem ownE_snoc (r : Int) (es : List EvR) (e : EvR) : ownE r (es ++ [e]) = ownE r es ++ (if e.r = r then [e] else []) := by
 unfold ownE
 rw [List.filter_append]
 congr 1
 by_cases h : e.r = r
 ·rw [if_pos h]; simp [h]
 ·rw [if_neg h]; simp [h]
theorem ownC_snoc (r : Int) (l : List CallR) (c : CallR) : ownC r (l ++ [c]) = ownC r l ++ (if c.r = r then [c] else []) := by
 unfold ownC
 rw [List.filter_append]
 congr 1
 by_cases h : c.r = r
 ·rw [if_pos h]; simp [h]
 ·rw [if_neg h]; simp [h]
theorem histH_snoc {es : List EvR} {e : EvR} {k : Int} {C E : H4} : histH (es ++ [e]) k C = some E ↔ ∃ D, histH es k C = some D ∧ takeH D e (k + es.length) = some E := by
 rw [histH_append]
 refine exists_congr fun D => and_congr_right fun _ => ?_
 unfold histH
 cases takeH D e (k + es.length) with
 | none => simp
 | some x => simp [histH]
theorem pendL_none {l : List CallR} (h : ∀ c ∈ l, c.t ≠ 0) : pendL l = none := by
 rcases snoc_or l with rfl | ⟨m, z, rfl⟩
 ·rfl
 ·rw [pendL_snoc, if_neg (h z (by simp))]
theorem own_hist (r : Int) : ∀ (n : Nat) {es : List EvR} {C : H4}, es.length = n → histH es 1 H4.none = some C → Told es C ∧ histH (ownE r es) 1 H4.none = some ((C.own r).ren (cnt r es))
 | 0, es, C, hn, h => by
  obtain rfl := List.length_eq_zero_iff.1 hn
  injection h with h
  subst h
  exact ⟨fun t ht c hc => (by rw [none_get ht] at hc; cases hc), rfl⟩
 | n + 1, es, C, hn, h => by
  rcases snoc_or es with rfl | ⟨m, e, rfl⟩
  ·simp at hn
  have hmn : m.length = n := by simpa using hn
  obtain ⟨D, h1, h2⟩ := histH_snoc.1 h
  obtain ⟨hT, hO⟩ := own_hist r n hmn h1
  have hS := histH_seq HSeq.none (by decide) h1
  obtain ⟨ht, ho, hr⟩ := takeH_inv h2
  obtain ⟨t, hte⟩ : ∃ t : Nat, e.t = t := ⟨e.t.toNat, by omega⟩
  have ht4 : t < 4 := by omega
  rw [hte] at hr
  have old : ∀ {x : EvR} {i : Nat}, m[i]? = some x → (m ++ [e])[i]? = some x := fun hx => by
   rw [List.getElem?_append_left (List.getElem?_eq_some_iff.1 hx).1]; exact hx
  have new : (m ++ [e])[(1 + (m.length : Int) - 1).toNat]? = some e := by
   rw [show (1 + (m.length : Int) - 1).toNat = m.length by omega]; simp
  have told : ∀ u : Nat, u < 4 → ∀ c, c ∈ D.get (u : Nat) → (∃ e', (m ++ [e])[(c.f - 1).toNat]? = some e' ∧ e'.r = c.r ∧ e'.c = c.c) ∧ (c.t > 0 → ∃ e', (m ++ [e])[(c.t - 1).toNat]? = some e' ∧ e'.r = c.r) := fun u hu c hc =>
   ⟨(hT u hu c hc).1.imp fun x hx => ⟨old hx.1, hx.2⟩, fun h0 => ((hT u hu c hc).2 h0).imp fun x hx => ⟨old hx.1, hx.2⟩⟩
  have same : ∀ u : Nat, u < 4 → ∀ l : List CallR, (∀ c ∈ l, c ∈ D.get (u : Nat)) → l.map (renC (cnt r m)) = l.map (renC (cnt r (m ++ [e]))) := fun u hu l hl => ren_same fun c hc => by
   have := hS.ft u hu c (hl c hc)
   exact ⟨(cnt_append (by omega)).symm, (cnt_append (by omega)).symm⟩
  have mem : ∀ {u : Nat}, ∀ c ∈ ownC r (D.get (u : Nat)), c ∈ D.get (u : Nat) := fun c hc => (List.mem_filter.1 hc).1
  have ck : cnt r (m ++ [e]) (1 + (m.length : Int)) = (ownE r m).length + (if e.r = r then 1 else 0) := by
   have : (1 + (m.length : Int)) = ((m ++ [e]).length : Int) := by simp; omega
   rw [this, cnt_all, ownE_snoc, List.length_append]
   split <;> simp
  rcases hr with ⟨hcl, hp, hx, hCD⟩ | ⟨hcl, l, p, hl, hp, hpo, hCD⟩
  ·refine ⟨fun u hu c hc => ?_, ?_⟩
   ·rw [hCD, put_nat D _ ht4 hu] at hc
    split at hc
    ·rename_i e1
     subst e1
     rcases List.mem_append.1 hc with hc | hc
     ·exact told u hu c hc
     ·rw [List.mem_singleton.1 hc]
      exact ⟨⟨e, new, rfl, rfl⟩, fun h0 => by simp at h0⟩
    ·exact told u hu c hc
   ·have get : ∀ u : Nat, u < 4 → ((C.own r).ren (cnt r (m ++ [e]))).get (u : Nat) = (ownC r (D.get (u : Nat))).map (renC (cnt r m)) ++ (if u = t ∧ e.r = r then [⟨e.c, e.r, e.a, 1 + (ownE r m).length, 0, 0⟩] else []) := fun u hu => by
     rw [ren_get, own_get, hCD, put_nat D _ ht4 hu]
     by_cases e1 : u = t
     ·subst e1
      rw [if_pos rfl, ownC_snoc, List.map_append, same u hu _ mem]
      congr 1
      by_cases e2 : e.r = r
      ·rw [if_pos e2, if_pos ⟨rfl, e2⟩]
       simp only [List.map_cons, List.map_nil, renC, ck, if_pos e2, cnt_zero (Int.le_refl 0), List.cons.injEq, and_true, CallR.mk.injEq, true_and]
       omega
      ·rw [if_neg e2, if_neg (fun q => e2 q.2)]; rfl
     ·rw [if_neg e1, if_neg (fun q => e1 q.1), List.append_nil, same u hu _ mem]
    rw [ownE_snoc]
    by_cases e2 : e.r = r
    ·rw [if_pos e2]
     refine histH_snoc.2 ⟨_, hO, ?_⟩
     rw [takeH_call ht ho hcl ?_ hx]
     ·refine congrArg some (H4.ext_nat fun u hu => ?_)
      rw [get u hu, hte, put_nat _ _ ht4 hu]
      by_cases e1 : u = t
      ·subst e1
       rw [if_pos rfl, if_pos ⟨rfl, e2⟩, ren_get, own_get]
      ·rw [if_neg e1, if_neg (fun q => e1 q.1), ren_get, own_get, List.append_nil]
     ·rw [hte, ren_get, own_get]
      refine pendL_none fun c hc => ?_
      obtain ⟨c', hc', rfl⟩ := List.mem_map.1 hc
      have hcm := mem c' hc'
      have hnz : c'.t ≠ 0 := fun hz => by
       rcases snoc_or (D.get ((t : Nat) : Int)) with hn | ⟨l, z, hl⟩
       ·rw [hn] at hcm; cases hcm
       ·rw [hl, pendL_snoc] at hp
        split at hp
        ·cases hp
        ·rename_i hz2
         rw [hl] at hcm
         rcases List.mem_append.1 hcm with hb | hb
         ·have := hS.pw t ht4
          rw [hl] at this
          have := (pw_snoc.1 this).2 c' hb
          omega
         ·rw [List.mem_singleton.1 hb] at hz; exact hz2 hz
      have hft := hS.ft t ht4 c' hcm
      have hct : c'.t > 0 := by omega
      obtain ⟨x, hx1, hx2⟩ := (hT t ht4 c' hcm).2 hct
      have hrr : c'.r = r := by simpa using (List.mem_filter.1 hc').2
      have := cnt_lt (k := 0) hct hct hx1 (hx2.trans hrr)
      rw [cnt_zero (Int.le_refl 0)] at this
      simp only [renC]
      omega
    ·rw [if_neg e2, List.append_nil, hO]
     refine congrArg some (H4.ext_nat fun u hu => ?_)
     rw [get u hu, if_neg (fun q => e2 q.2), List.append_nil, ren_get, own_get]
  ·have hpr : p.r = e.r := hpo.2.1
   have hpm : p ∈ D.get ((t : Nat) : Int) := by rw [hl]; simp
   have hlm : ∀ c ∈ l, c ∈ D.get ((t : Nat) : Int) := fun c hc => by rw [hl]; exact List.mem_append.2 (.inl hc)
   refine ⟨fun u hu c hc => ?_, ?_⟩
   ·rw [hCD, put_nat D _ ht4 hu] at hc
    split at hc
    ·rename_i e1
     subst e1
     rcases List.mem_append.1 hc with hc | hc
     ·exact told u hu c (hlm c hc)
     ·rw [List.mem_singleton.1 hc]
      exact ⟨(told u hu p hpm).1, fun h0 => ⟨e, new, hpr.symm⟩⟩
    ·exact told u hu c hc
   ·have get : ∀ u : Nat, u < 4 → ((C.own r).ren (cnt r (m ++ [e]))).get (u : Nat) = if u = t then (ownC r l).map (renC (cnt r m)) ++ (if e.r = r then [{ renC (cnt r m) p with t := 1 + (ownE r m).length, x := e.x }] else []) else (ownC r (D.get (u : Nat))).map (renC (cnt r m)) := fun u hu => by
     rw [ren_get, own_get, hCD, put_nat D _ ht4 hu]
     by_cases e1 : u = t
     ·subst e1
      rw [if_pos rfl, if_pos rfl, ownC_snoc, List.map_append, same u hu (ownC r l) (fun c hc => hlm c (List.mem_filter.1 hc).1)]
      congr 1
      by_cases e2 : e.r = r
      ·rw [if_pos e2, if_pos (show p.r = r from hpr.trans e2)]
       have hpf := hS.ft u hu p hpm
       have := cnt_append (r := r) (fs := [e]) (es := m) (k := p.f) (by omega)
       simp only [List.map_cons, List.map_nil, renC, ck, if_pos e2, this, List.cons.injEq, and_true, CallR.mk.injEq, true_and]
       omega
      ·rw [if_neg e2, if_neg (show ¬ p.r = r from fun q => e2 (hpr.symm.trans q))]; rfl
     ·rw [if_neg e1, if_neg e1, same u hu _ mem]
    rw [ownE_snoc]
    by_cases e2 : e.r = r
    ·rw [if_pos e2]
     refine histH_snoc.2 ⟨_, hO, ?_⟩
     have hD : ((D.own r).ren (cnt r m)).get e.t = (ownC r l).map (renC (cnt r m)) ++ [renC (cnt r m) p] := by
      rw [hte, ren_get, own_get, hl, ownC_snoc, if_pos (hpr.trans e2), List.map_append]; rfl
     rw [takeH_ans ht ho hcl hD (by show cnt r m p.t = 0; rw [hp]; exact cnt_zero (Int.le_refl 0)) hpo]
     refine congrArg some (H4.ext_nat fun u hu => ?_)
     rw [get u hu, hte, put_nat _ _ ht4 hu]
     by_cases e1 : u = t
     ·subst e1
      rw [if_pos rfl, if_pos rfl, if_pos e2]
     ·rw [if_neg e1, if_neg e1, ren_get, own_get]
    ·rw [if_neg e2, List.append_nil, hO]
     refine congrArg some (H4.ext_nat fun u hu => ?_)
     rw [get u hu, ren_get, own_get]
     by_cases e1 : u = t
     ·subst e1
      rw [if_pos rfl, if_neg e2, hl, ownC_snoc, if_neg (show ¬ p.r = r from fun q => e2 (hpr.symm.trans q)), List.append_nil, List.append_nil]
     ·rw [if_neg e1]
/-- A history without scans, and its rows. -/
theorem IsL_rows {ob : Int} {es : List EvR} (hok : (IsL ob es).2 = 0) (hc : ∀ e ∈ es, e.c ≠ 3) :
  (∀ r, (IsL ob (ownE r es)).2 = 0) ∧ ((IsL ob es).1 = true ↔ ∀ r, 0 ≤ r ∧ r ≤ 3 → (IsL ob (ownE r es)).1 = true) := by
 have hf : (0 ≤ ob ∧ ob ≤ 2) ∧ es.length ≤ 64 := Classical.byContradiction fun hn => by rw [IsL_form hn] at hok; cases hok
 cases hC : histH es 1 H4.none with
 | none => rw [IsL_none hC] at hok; cases hok
 | some C =>
  have hS := histH_seq HSeq.none (by decide) hC
  have hW : IsL ob es = (@decide (Lin ob C P4.zero S4.none) (Classical.propDecidable _), 0) := IsL_some hf hC (by simp)
  have hsc : ∀ t : Nat, t < 4 → ∀ c, c ∈ C.get (t : Nat) → c.c ≠ 3 := fun t ht c hcm => by
   obtain ⟨e, he1, he2, he3⟩ := ((own_hist 0 _ rfl hC).1 t ht c hcm).1
   rw [← he3]
   exact hc e (List.mem_of_getElem? he1)
  have own : ∀ r, IsL ob (ownE r es) = (@decide (Lin ob (C.own r) P4.zero S4.none) (Classical.propDecidable _), 0) := fun r => by
   obtain ⟨hT, hO⟩ := own_hist r _ rfl hC
   refine IsL_some ⟨hf.1, Nat.le_trans (List.length_filter_le _ _) hf.2⟩ hO ?_
   have hm : ∀ {t : Nat} {c : CallR}, c ∈ (C.own r).get (t : Nat) → c ∈ C.get (t : Nat) ∧ c.r = r := fun {t c} hcm => by
    rw [own_get] at hcm
    have := List.mem_filter.1 hcm
    exact ⟨this.1, by simpa using this.2⟩
   rw [lin_ren (fun t u ht hu c hcm d hdm hdt => ⟨fun hle => Int.not_lt.1 fun hlt => ?_, fun hle => cnt_mono hle⟩) (fun t ht c hcm => ⟨fun h0 => Int.not_le.1 fun hle => ?_, fun h0 => ?_⟩)]
   ·simp
   ·obtain ⟨x, hx1, hx2, _⟩ := (hT t ht c (hm hcm).1).1
    have := cnt_lt hlt (by omega) hx1 (hx2.trans (hm hcm).2)
    omega
   ·rw [cnt_zero hle] at h0; omega
   ·obtain ⟨x, hx1, hx2⟩ := (hT t ht c (hm hcm).1).2 h0
    have := cnt_lt (k := 0) h0 h0 hx1 (hx2.trans (hm hcm).2)
    rw [cnt_zero (Int.le_refl 0)] at this
    omega
  have hz : ∀ r, At C P4.zero r P4.zero := fun r t ht => by
   rw [own_get]
   obtain rfl | rfl | rfl | rfl : t = 0 ∨ t = 1 ∨ t = 2 ∨ t = 3 := by omega
   all_goals rfl
  have hs0 := ObMay_none hf.1
  refine ⟨fun r => by rw [own r], ?_⟩
  rw [hW]
  constructor
  ·intro h r hr
   rw [own r]
   simp only [decide_eq_true_eq] at h ⊢
   exact lin_own hS hsc h hs0 hr (hz r) hs0 rfl
  ·intro h
   simp only [decide_eq_true_eq]
   refine lin_merge hS hsc (left C P4.zero + 1) (q := fun _ => P4.zero) (u := fun _ => S4.none) (by omega) hs0 fun r hr => ⟨hz r, hs0, rfl, ?_⟩
   have := h r hr
   rw [own r] at this
   simpa using this
end Go.Proofs.YtalknjppnkpmmaaDoorW.Ai
