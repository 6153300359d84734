/-
 Histories (chapter 24), plain: what one thread does alone.
-/
import Derived.Test.YtalknjppnkpmmaaDoorFn93
set_option linter.unusedVariables false
set_option linter.unusedSimpArgs false
set_option maxHeartbeats 1000000
set_option maxRecDepth 100000
namespace Go.Proofs.YtalknjppnkpmmaaDoorW.Ai
section
def evS : List (OpR × Int) → List EvR
 | [] => []
 | (o, x) :: l => ⟨0, true, o.c, o.r, o.a, 0⟩ :: ⟨0, false, o.c, o.r, o.a, x⟩ :: evS l
def caS : Int → List (OpR × Int) → List CallR
 | _, [] => []
 | k, (o, x) :: l => ⟨o.c, o.r, o.a, k, k + 1, x⟩ :: caS (k + 2) l
theorem evS_len : ∀ l : List (OpR × Int), (evS l).length = 2 * l.length
 | [] => rfl
 | (o, x) :: l => by simp only [evS, List.length_cons, evS_len l]; omega
theorem evS_snoc (o : OpR) (x : Int) : ∀ l : List (OpR × Int), evS (l ++ [(o, x)]) = evS l ++ [⟨0, true, o.c, o.r, o.a, 0⟩, ⟨0, false, o.c, o.r, o.a, x⟩]
 | [] => rfl
 | (p, y) :: l => by simp only [List.cons_append, evS, evS_snoc o x l]
theorem hist_evS : ∀ (l : List (OpR × Int)) (k : Int) (m : List CallR), 0 < k → (∀ p ∈ l, OpOk p.1.c p.1.r p.1.a) → (∀ c ∈ m, c.t ≠ 0) → histH (evS l) k ⟨m, [], [], []⟩ = some ⟨m ++ caS k l, [], [], []⟩
 | [], k, m, _, _, _ => by simp only [evS, histH, caS, List.append_nil]
 | (o, x) :: l, k, m, hk, ho, hm => by
  have h1 := ho _ (List.mem_cons_self ..)
  simp only at h1
  simp only [evS]
  unfold histH
  rw [takeH_call (C := ⟨m, [], [], []⟩) (e := ⟨0, true, o.c, o.r, o.a, 0⟩) (⟨Int.le_refl 0, (by decide : (0:Int) < 4)⟩ : (0:Int) ≤ 0 ∧ (0:Int) < 4) h1 rfl (pendL_none hm) rfl]
  simp only
  unfold histH
  rw [show H4.put ⟨m, [], [], []⟩ 0 (H4.get ⟨m, [], [], []⟩ 0 ++ [⟨o.c, o.r, o.a, k, 0, 0⟩]) = ⟨m ++ [⟨o.c, o.r, o.a, k, 0, 0⟩], [], [], []⟩ from rfl]
  rw [takeH_ans (C := ⟨m ++ [(⟨o.c, o.r, o.a, k, 0, 0⟩ : CallR)], [], [], []⟩) (e := ⟨0, false, o.c, o.r, o.a, x⟩) (k := k + 1) (m := m) (p := ⟨o.c, o.r, o.a, k, 0, 0⟩) (⟨Int.le_refl 0, (by decide : (0:Int) < 4)⟩ : (0:Int) ≤ 0 ∧ (0:Int) < 4) h1 rfl rfl rfl ⟨rfl, rfl, rfl⟩]
  simp only
  rw [show H4.put ⟨m ++ [⟨o.c, o.r, o.a, k, 0, 0⟩], [], [], []⟩ 0 (m ++ [⟨o.c, o.r, o.a, k, k + 1, x⟩]) = ⟨m ++ [⟨o.c, o.r, o.a, k, k + 1, x⟩], [], [], []⟩ from rfl]
  rw [hist_evS l (k + 1 + 1) _ (by omega) (fun p hp => ho p (List.mem_cons_of_mem _ hp)) (fun c hc => by
   rcases List.mem_append.1 hc with hc | hc
   ·exact hm c hc
   ·rw [List.mem_singleton.1 hc]; simp only; omega)]
  simp only [caS, List.append_assoc, List.cons_append, List.nil_append]
  rw [show k + 1 + 1 = k + 2 by omega]
def Leg (ob : Int) : S4 → List (OpR × Int) → Prop
 | _, [] => True
 | s, (o, x) :: l => (ObjM 600 ob s o.c o.r o.a).2.1 = x ∧ Leg ob (ObjM 600 ob s o.c o.r o.a).1 l
def stS (ob : Int) : S4 → List (OpR × Int) → S4
 | s, [] => s
 | s, (o, x) :: l => stS ob (ObjM 600 ob s o.c o.r o.a).1 l
theorem stS_snoc (ob : Int) (o : OpR) (x : Int) : ∀ (l : List (OpR × Int)) (s : S4), stS ob s (l ++ [(o, x)]) = (ObjM 600 ob (stS ob s l) o.c o.r o.a).1
 | [], s => rfl
 | (p, y) :: l, s => stS_snoc ob o x l _
theorem Leg_snoc (ob : Int) (o : OpR) (x : Int) : ∀ (l : List (OpR × Int)) (s : S4), Leg ob s (l ++ [(o, x)]) ↔ Leg ob s l ∧ (ObjM 600 ob (stS ob s l) o.c o.r o.a).2.1 = x
 | [], s => by simp [Leg, stS]
 | (p, y) :: l, s => by
  simp only [List.cons_append, Leg, stS]
  rw [Leg_snoc ob o x l, and_assoc]
theorem Leg_other {ob : Int} : ∀ {l : List (OpR × Int)} {s : S4} {j : Nat} {o : OpR} {x y : Int}, Leg ob s l → l[j]? = some (o, x) → Leg ob s (l.set j (o, y)) → y = x
 | [], s, j, o, x, y, _, h, _ => by simp at h
 | (p, z) :: l, s, 0, o, x, y, h1, h2, h3 => by
  simp only [List.getElem?_cons_zero, Option.some.injEq, Prod.mk.injEq] at h2
  obtain ⟨rfl, rfl⟩ := h2
  simp only [List.set_cons_zero, Leg] at h1 h3
  rw [← h3.1, h1.1]
 | (p, z) :: l, s, j + 1, o, x, y, h1, h2, h3 => by
  rw [List.getElem?_cons_succ] at h2
  simp only [List.set_cons_succ, Leg] at h1 h3
  exact Leg_other h1.2 h2 h3.2
theorem evS_set : ∀ {l : List (OpR × Int)} {j : Nat} {o : OpR} {x y : Int}, l[j]? = some (o, x) → (evS l).set (2 * j + 1) ⟨0, false, o.c, o.r, o.a, y⟩ = evS (l.set j (o, y))
 | [], j, o, x, y, h => by simp at h
 | (p, z) :: l, 0, o, x, y, h => by
  simp only [List.getElem?_cons_zero, Option.some.injEq, Prod.mk.injEq] at h
  obtain ⟨rfl, rfl⟩ := h
  rfl
 | (p, z) :: l, j + 1, o, x, y, h => by
  rw [List.getElem?_cons_succ] at h
  have := evS_set (y := y) h
  simp only [evS, List.set_cons_succ]
  rw [← this, show 2 * (j + 1) = 2 * j + 1 + 1 by omega, List.set_cons_succ]
theorem evS_get : ∀ {l : List (OpR × Int)} {j : Nat} {o : OpR} {x : Int}, l[j]? = some (o, x) → (evS l)[2 * j + 1]? = some ⟨0, false, o.c, o.r, o.a, x⟩
 | [], j, o, x, h => by simp at h
 | (p, z) :: l, 0, o, x, h => by
  simp only [List.getElem?_cons_zero, Option.some.injEq, Prod.mk.injEq] at h
  obtain ⟨rfl, rfl⟩ := h
  rfl
 | (p, z) :: l, j + 1, o, x, h => by
  rw [List.getElem?_cons_succ] at h
  have := evS_get h
  simp only [evS]
  rw [List.getElem?_cons_succ, show 2 * (j + 1) = 2 * j + 1 + 1 by omega, List.getElem?_cons_succ, this]
theorem one_next {m : List CallR} {n t : Nat} {c : CallR} (ht : t < 4) (h : nextC ⟨m, [], [], []⟩ ⟨n, 0, 0, 0⟩ t = some c) : t = 0 ∧ m[n]? = some c := by
 obtain rfl | rfl | rfl | rfl : t = 0 ∨ t = 1 ∨ t = 2 ∨ t = 3 := by omega
 ·exact ⟨rfl, h⟩
 all_goals exact absurd h (by simp [nextC, H4.get])
theorem lin_one {ob : Int} : ∀ (l : List (OpR × Int)) (k : Int) (m : List CallR) (s : S4), 0 < k → (Lin ob ⟨m ++ caS k l, [], [], []⟩ ⟨m.length, 0, 0, 0⟩ s ↔ Leg ob s l)
 | [], k, m, s, hk => by
  simp only [caS, Leg, iff_true, List.append_nil]
  refine .done fun t ht d hd hdt => ?_
  have := (one_next ht hd).2
  simp at this
 | (o, x) :: l, k, m, s, hk => by
  have hn : (m ++ caS k ((o, x) :: l))[m.length]? = some ⟨o.c, o.r, o.a, k, k + 1, x⟩ := by simp [caS]
  have e : m ++ caS k ((o, x) :: l) = (m ++ [⟨o.c, o.r, o.a, k, k + 1, x⟩]) ++ caS (k + 2) l := by simp [caS]
  have ih := lin_one (ob := ob) l (k + 2) (m ++ [⟨o.c, o.r, o.a, k, k + 1, x⟩]) (ObjM 600 ob s o.c o.r o.a).1 (by omega)
  rw [← e, List.length_append] at ih
  simp only [Leg]
  constructor
  ·intro h
   cases h with
   | done h => exact absurd (show (k + 1 : Int) > 0 by omega) (h 0 (by decide) _ hn)
   | step t c ht hc hm hx hk' =>
    obtain ⟨rfl, hc'⟩ := one_next ht hc
    rw [hn] at hc'
    injection hc' with hc'
    subst hc'
    exact ⟨hx (by simp only; omega), ih.1 hk'⟩
  ·rintro ⟨h1, h2⟩
   refine .step 0 ⟨o.c, o.r, o.a, k, k + 1, x⟩ (by decide) hn (fun t ht d hd hdt => ?_) (fun _ => h1) (ih.2 h2)
   obtain ⟨rfl, hd'⟩ := one_next ht hd
   rw [hn] at hd'
   injection hd' with hd'
   subst hd'
   simp only
   omega
theorem IsL_one {ob : Int} (hob : 0 ≤ ob ∧ ob ≤ 2) {l : List (OpR × Int)} (hl : l.length ≤ 20) (ho : ∀ p ∈ l, OpOk p.1.c p.1.r p.1.a) {b : Bool} (hb : b = true ↔ Leg ob S4.none l) : IsL ob (evS l) = (b, 0) :=
 IsL_some ⟨hob, by rw [evS_len]; omega⟩ (hist_evS l 1 [] (by decide) ho (fun c hc => by cases hc)) (by rw [hb]; exact (lin_one l 1 [] S4.none (by decide)).symm)
theorem over_evX {l : List EvR} {j : Nat} (hj : j < l.length) (v : Int) : over (recs evC l) (j * 6 + 5) [.int .i64 v] = recs evC (l.set j { l[j] with x := v }) := by
 rw [← over_recs evC_len l j _ hj]
 have hl := recs_len evC_len l
 apply List.ext_getElem?
 intro i
 rw [overC_get (by simp; omega), overC_get (by rw [evC_len]; omega), evC_len]
 have key : ∀ f, f < 6 → (recs evC l)[j * 6 + f]? = (evC l[j])[f]? := fun f hf => recs_get evC_len hj hf
 simp only [List.length_cons, List.length_nil]
 by_cases h1 : i < j * 6
 ·rw [if_pos (by omega), if_pos h1]
 ·rw [if_neg h1]
  by_cases h2 : i < j * 6 + 6
  ·rw [if_pos h2]
   obtain ⟨f, rfl⟩ : ∃ f, i = j * 6 + f := ⟨i - j * 6, by omega⟩
   have hf : f < 6 := by omega
   have e := key f hf
   rw [show j * 6 + f - j * 6 = f by omega, show j * 6 + f - (j * 6 + 5) = f - 5 by omega]
   match f, hf with
   | 0, _ => simpa [evC] using e
   | 1, _ => simp [e, evC]
   | 2, _ => simp [e, evC]
   | 3, _ => simp [e, evC]
   | 4, _ => simp [e, evC]
   | 5, _ => simp [evC]
  ·rw [if_neg h2, if_neg (by omega), if_neg (by omega)]
end
end Go.Proofs.YtalknjppnkpmmaaDoorW.Ai
