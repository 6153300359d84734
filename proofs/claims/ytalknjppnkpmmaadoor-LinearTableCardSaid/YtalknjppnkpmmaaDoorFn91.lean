/-
 Histories (chapter 24), plain: which are linear, told by a search.
-/
import Derived.Test.YtalknjppnkpmmaaDoorFn89
set_option linter.unusedVariables false
set_option linter.unusedSimpArgs false
set_option maxHeartbeats 1000000
set_option maxRecDepth 100000
namespace Go.Proofs.YtalknjppnkpmmaaDoorW.Ai
/-- A step of the search. -/
def goB (k : P4 → S4 → Bool) (ob : Int) (C : H4) (p : P4) (s : S4) (t : Nat) : Bool := match nextC C p t with
 | none => false
 | some c => if c.f ≤ bndN C p 4 ∧ (¬ c.t > 0 ∨ (ObjM 600 ob s c.c c.r c.a).2.1 = c.x) then k (p.inc t) (ObjM 600 ob s c.c c.r c.a).1 else false
/-- The search, so many steps at most. -/
def linB (ob : Int) (C : H4) : Nat → P4 → S4 → Bool
 | 0, _, _ => false
 | n + 1, p, s => if bndN C p 4 > 64 then true else
  if goB (linB ob C n) ob C p s 0 then true else if goB (linB ob C n) ob C p s 1 then true else if goB (linB ob C n) ob C p s 2 then true else goB (linB ob C n) ob C p s 3
theorem linB_iff {ob : Int} {C : H4} (H : HOk C) : ∀ {n : Nat} {p : P4} {s : S4}, InP C p → 256 < p.sum + n → (linB ob C n p s = true ↔ Lin ob C p s)
 | 0, p, s, hp, hn => by have := sum_le H hp; omega
 | n + 1, p, s, hp, hn => by
  unfold linB
  by_cases hd : bndN C p 4 > 64
  ·rw [if_pos hd]
   exact ⟨fun _ => .done ((done_iff H).1 hd), fun _ => rfl⟩
  ·rw [if_neg hd]
   have go : ∀ t, t < 4 → (goB (linB ob C n) ob C p s t = true ↔ Goes ob C p s t) := fun t ht => by
    unfold Goes goB
    cases hc : nextC C p t with
    | none => simp
    | some c =>
     have ih := linB_iff (ob := ob) H (n := n) (p := p.inc t) (s := (ObjM 600 ob s c.c c.r c.a).1) (hp.inc ht hc) (by rw [P4.inc_sum]; omega)
     simp only [Option.some.injEq]
     constructor
     ·intro h
      split at h
      ·rename_i h1
       exact ⟨c, rfl, h1.1, fun ht => h1.2.resolve_left (fun q => q ht), ih.1 h⟩
      ·cases h
     ·rintro ⟨c', rfl, h1, h2, h3⟩
      rw [if_pos ⟨h1, (Classical.em (c.t > 0)).elim (fun q => .inr (h2 q)) .inl⟩]
      exact ih.2 h3
   rw [lin_iff H hd]
   generalize goB (linB ob C n) ob C p s = g at go
   constructor
   ·intro h
    split at h
    ·exact ⟨0, by decide, (go 0 (by decide)).1 (by assumption)⟩
    ·split at h
     ·exact ⟨1, by decide, (go 1 (by decide)).1 (by assumption)⟩
     ·split at h
      ·exact ⟨2, by decide, (go 2 (by decide)).1 (by assumption)⟩
      ·exact ⟨3, by decide, (go 3 (by decide)).1 h⟩
   ·rintro ⟨t, ht, h⟩
    have := (go t ht).2 h
    obtain rfl | rfl | rfl | rfl : t = 0 ∨ t = 1 ∨ t = 2 ∨ t = 3 := by omega
    ·rw [if_pos this]
    ·rw [if_pos this]; split <;> rfl
    ·rw [if_pos this]; split
     ·rfl
     ·split <;> rfl
    ·rw [this]
     split
     ·rfl
     ·split
      ·rfl
      ·split <;> rfl
/-- What linear.Is answers, reckoned. -/
def isB (ob : Int) (es : List EvR) : Bool × Int :=
 if (0 ≤ ob ∧ ob ≤ 2) ∧ es.length ≤ 64 then
  match histH es 1 H4.none with
  | none => (false, 2400)
  | some C => (linB ob C 257 P4.zero S4.none, 0)
 else (false, 2400)
theorem isB_eq (ob : Int) (es : List EvR) : IsL ob es = isB ob es := by
 unfold isB
 by_cases h : (0 ≤ ob ∧ ob ≤ 2) ∧ es.length ≤ 64
 ·rw [if_pos h]
  cases hC : histH es 1 H4.none with
  | none => exact IsL_none hC
  | some C =>
   have hv := (histH_inv HInv.none (by decide) hC).ok (by omega)
   exact IsL_some h hC (linB_iff hv ⟨Nat.zero_le _, Nat.zero_le _, Nat.zero_le _, Nat.zero_le _⟩ (by decide))
 ·rw [if_neg h]
  exact IsL_form h
end Go.Proofs.YtalknjppnkpmmaaDoorW.Ai
