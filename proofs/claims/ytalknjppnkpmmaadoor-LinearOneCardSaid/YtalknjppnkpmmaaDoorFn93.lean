/-
 Histories (chapter 24), plain: a history without scans is linear just if each row's own is.
-/
import Derived.Test.YtalknjppnkpmmaaDoorFn89
import Derived.Test.YtalknjppnkpmmaaDoorFn56
set_option linter.unusedVariables false
set_option linter.unusedSimpArgs false
set_option maxHeartbeats 1000000
set_option maxRecDepth 100000
namespace Go.Proofs.YtalknjppnkpmmaaDoorW.Ai
section
def ownC (r : Int) (l : List CallR) : List CallR := l.filter (fun c => decide (c.r = r))
def H4.own (C : H4) (r : Int) : H4 := ⟨ownC r C.h0, ownC r C.h1, ownC r C.h2, ownC r C.h3⟩
def renC (g : Int → Int) (c : CallR) : CallR := { c with f := g c.f, t := g c.t }
def H4.ren (C : H4) (g : Int → Int) : H4 := ⟨C.h0.map (renC g), C.h1.map (renC g), C.h2.map (renC g), C.h3.map (renC g)⟩
theorem next_head (C : H4) (p : P4) (t : Nat) : nextC C p t = ((C.get (t : Nat)).drop (p.get t)).head? := by
 unfold nextC
 rw [List.head?_drop]
structure HSeq (C : H4) (k : Int) : Prop where
 pw : ∀ t : Nat, t < 4 → (C.get (t : Nat)).Pairwise (fun a b => a.t > 0 ∧ a.t < b.f)
 ft : ∀ t : Nat, t < 4 → ∀ c, c ∈ C.get (t : Nat) → (0 < c.f ∧ c.f < k) ∧ (c.t = 0 ∨ (c.f < c.t ∧ c.t < k))
 op : ∀ t : Nat, t < 4 → ∀ c, c ∈ C.get (t : Nat) → OpOk c.c c.r c.a
theorem HSeq.none : HSeq H4.none 1 := by
 refine ⟨fun t ht => ?_, fun t ht c hc => ?_, fun t ht c hc => ?_⟩
 ·rw [none_get ht]; exact .nil
 ·rw [none_get ht] at hc; cases hc
 ·rw [none_get ht] at hc; cases hc
theorem pw_snoc {α : Type} {R : α → α → Prop} {l : List α} {a : α} : (l ++ [a]).Pairwise R ↔ l.Pairwise R ∧ ∀ b ∈ l, R b a := by
 rw [List.pairwise_append]
 simp
theorem HSeq.take {C D : H4} {e : EvR} {k : Int} (H : HSeq C k) (hk : 0 < k) (h : takeH C e k = some D) : HSeq D (k + 1) := by
 obtain ⟨ht, ho, hr⟩ := takeH_inv h
 obtain ⟨t, hte⟩ : ∃ t : Nat, e.t = t := ⟨e.t.toNat, by omega⟩
 have ht4 : t < 4 := by omega
 rw [hte] at hr
 rcases hr with ⟨_, hp, _, rfl⟩ | ⟨_, m, p, hm, hp0, hpo, rfl⟩
 ·refine ⟨fun u hu => ?_, fun u hu c hc => ?_, fun u hu c hc => ?_⟩
  ·rw [put_nat C _ ht4 hu]
   split
   ·rename_i e1
    subst e1
    refine pw_snoc.2 ⟨H.pw u hu, fun b hb => ?_⟩
    have hf := H.ft u hu b hb
    have : b.t ≠ 0 := fun hz => by
     rcases snoc_or (C.get ((u : Nat) : Int)) with hn | ⟨m, z, hm⟩
     ·rw [hn] at hb; cases hb
     ·rw [hm, pendL_snoc] at hp
      split at hp
      ·cases hp
      ·rename_i hz2
       rw [hm] at hb
       rcases List.mem_append.1 hb with hb | hb
       ·have := H.pw u hu
        rw [hm] at this
        have := (pw_snoc.1 this).2 b hb
        omega
       ·rw [List.mem_singleton.1 hb] at hz; exact hz2 hz
    simp only
    omega
   ·exact H.pw u hu
  ·rw [put_nat C _ ht4 hu] at hc
   split at hc
   ·rename_i e1
    subst e1
    rcases List.mem_append.1 hc with hc | hc
    ·have := H.ft u hu c hc; omega
    ·rw [List.mem_singleton.1 hc]; exact ⟨⟨hk, by simp only; omega⟩, .inl rfl⟩
   ·have := H.ft u hu c hc; omega
  ·rw [put_nat C _ ht4 hu] at hc
   split at hc
   ·rename_i e1
    subst e1
    rcases List.mem_append.1 hc with hc | hc
    ·exact H.op u hu c hc
    ·rw [List.mem_singleton.1 hc]; exact ho
   ·exact H.op u hu c hc
 ·have hpm : p ∈ C.get ((t : Nat) : Int) := by rw [hm]; simp
  have hpf := H.ft t ht4 p hpm
  refine ⟨fun u hu => ?_, fun u hu c hc => ?_, fun u hu c hc => ?_⟩
  ·rw [put_nat C _ ht4 hu]
   split
   ·have := H.pw t ht4
    rw [hm] at this
    obtain ⟨h1, h2⟩ := pw_snoc.1 this
    exact pw_snoc.2 ⟨h1, fun b hb => h2 b hb⟩
   ·exact H.pw u hu
  ·rw [put_nat C _ ht4 hu] at hc
   split at hc
   ·rcases List.mem_append.1 hc with hc | hc
    ·have := H.ft t ht4 c (by rw [hm]; exact List.mem_append.2 (.inl hc)); omega
    ·rw [List.mem_singleton.1 hc]; simp only; omega
   ·have := H.ft u hu c hc; omega
  ·rw [put_nat C _ ht4 hu] at hc
   split at hc
   ·rcases List.mem_append.1 hc with hc | hc
    ·exact H.op t ht4 c (by rw [hm]; exact List.mem_append.2 (.inl hc))
    ·rw [List.mem_singleton.1 hc]; exact H.op t ht4 p hpm
   ·exact H.op u hu c hc
def At (C : H4) (p : P4) (r : Int) (q : P4) : Prop := ∀ t : Nat, t < 4 → ((C.own r).get (t : Nat)).drop (q.get t) = ownC r ((C.get (t : Nat)).drop (p.get t))
theorem At.next {C : H4} {p q : P4} {r : Int} (h : At C p r q) {t : Nat} (ht : t < 4) : nextC (C.own r) q t = (ownC r ((C.get (t : Nat)).drop (p.get t))).head? := by
 rw [next_head, h t ht]
theorem drop_inc {l : List CallR} {n : Nat} {c : CallR} {tl : List CallR} (h : l.drop n = c :: tl) : l.drop (n + 1) = tl := by
 rw [← List.drop_drop, h]; rfl
theorem At.inc {C : H4} {p q : P4} {r : Int} (h : At C p r q) {t : Nat} (ht : t < 4) {c : CallR} (hc : nextC C p t = some c) (hr : c.r = r) : At C (p.inc t) r (q.inc t) := fun u hu => by
 rw [P4.inc_get q ht hu, P4.inc_get p ht hu]
 have hh := h u hu
 by_cases e : u = t
 ·subst e
  rw [if_pos rfl, if_pos rfl]
  rw [next_head] at hc
  cases hd : (C.get ((u : Nat) : Int)).drop (p.get u) with
  | nil => rw [hd] at hc; cases hc
  | cons c' tl =>
   rw [hd] at hc hh
   injection hc with hc
   subst hc
   rw [drop_inc hd]
   have e2 : ownC r (c' :: tl) = c' :: ownC r tl := by unfold ownC; rw [List.filter_cons_of_pos (by simpa using hr)]
   rw [e2] at hh
   exact drop_inc hh
 ·rw [if_neg e, if_neg e]; exact hh
theorem At.other {C : H4} {p q : P4} {r : Int} (h : At C p r q) {t : Nat} (ht : t < 4) {c : CallR} (hc : nextC C p t = some c) (hr : c.r ≠ r) : At C (p.inc t) r q := fun u hu => by
 rw [P4.inc_get p ht hu]
 have hh := h u hu
 by_cases e : u = t
 ·subst e
  rw [if_pos rfl]
  rw [next_head] at hc
  cases hd : (C.get ((u : Nat) : Int)).drop (p.get u) with
  | nil => rw [hd] at hc; cases hc
  | cons c' tl =>
   rw [hd] at hc hh
   injection hc with hc
   subst hc
   rw [drop_inc hd]
   have e2 : ownC r (c' :: tl) = ownC r tl := by unfold ownC; rw [List.filter_cons_of_neg (by simpa using hr)]
   rw [e2] at hh
   exact hh
 ·rw [if_neg e]; exact hh
theorem At.up {C : H4} {k : Int} (H : HSeq C k) {p q : P4} {r : Int} (h : At C p r q) {t : Nat} (ht : t < 4) {d : CallR} (hd : nextC (C.own r) q t = some d) : d.r = r ∧ d ∈ C.get (t : Nat) ∧ ∃ e, nextC C p t = some e ∧ (e = d ∨ (e.r ≠ r ∧ e.t > 0 ∧ e.t < d.f)) := by
 rw [h.next ht] at hd
 have hm : d ∈ ownC r ((C.get ((t : Nat) : Int)).drop (p.get t)) := List.mem_of_mem_head? hd
 have hm2 := List.mem_filter.1 hm
 refine ⟨by simpa using hm2.2, List.mem_of_mem_drop hm2.1, ?_⟩
 rw [next_head]
 have hpw : ((C.get ((t : Nat) : Int)).drop (p.get t)).Pairwise (fun a b => a.t > 0 ∧ a.t < b.f) := (H.pw t ht).sublist (List.drop_sublist _ _)
 cases hl : (C.get ((t : Nat) : Int)).drop (p.get t) with
 | nil => rw [hl] at hd; cases hd
 | cons e tl =>
  rw [hl] at hd hpw hm2
  refine ⟨e, rfl, ?_⟩
  by_cases he : e.r = r
  ·left
   unfold ownC at hd
   rw [List.filter_cons_of_pos (by simpa using he)] at hd
   injection hd
  ·right
   unfold ownC at hd
   rw [List.filter_cons_of_neg (by simpa using he)] at hd
   have hdt : d ∈ tl := (List.mem_filter.1 (List.mem_of_mem_head? hd)).1
   exact ⟨he, (List.pairwise_cons.1 hpw).1 d hdt⟩
theorem At.down {C : H4} {p q : P4} {r : Int} (h : At C p r q) {t : Nat} (ht : t < 4) {e : CallR} (he : nextC C p t = some e) (hr : e.r = r) : nextC (C.own r) q t = some e := by
 rw [h.next ht]
 rw [next_head] at he
 cases hl : (C.get ((t : Nat) : Int)).drop (p.get t) with
 | nil => rw [hl] at he; cases he
 | cons e' tl =>
  rw [hl] at he
  injection he with he
  subst he
  unfold ownC
  rw [List.filter_cons_of_pos (by simpa using hr)]
  rfl
def left (C : H4) (p : P4) : Nat := (C.h0.length - p.p0) + (C.h1.length - p.p1) + (C.h2.length - p.p2) + (C.h3.length - p.p3)
theorem pendL_none {l : List CallR} (h : ∀ c ∈ l, c.t ≠ 0) : pendL l = none := by
 rcases snoc_or l with rfl | ⟨m, z, rfl⟩
 ·rfl
 ·rw [pendL_snoc, if_neg (h z (by simp))]
end
end Go.Proofs.YtalknjppnkpmmaaDoorW.Ai
