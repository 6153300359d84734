/-
  Histories (chapter 24): whether they could have been one by one.
-/
import Derived.Test.YtalknjppnkpmmaaDoorFnE
import Derived.Test.YtalknjppnkpmmaaDoorMj
set_option linter.unusedVariables false
set_option linter.unusedSimpArgs false
set_option maxHeartbeats 4000000
set_option maxRecDepth 100000
namespace Go.Proofs.YtalknjppnkpmmaaDoorW.Ai
section
structure EvR where
  t : Int
  call : Bool
  c : Int
  r : Int
  a : Int
  x : Int
deriving DecidableEq
def evC (e : EvR) : List Value := [.int .i64 e.t, .bool e.call, .int .i64 e.c, .int .i64 e.r, .int .i64 e.a, .int .i64 e.x]
theorem evC_len (e : EvR) : (evC e).length = 6 := rfl
structure CallR where
  c : Int
  r : Int
  a : Int
  f : Int
  t : Int
  x : Int
deriving DecidableEq
def caC (e : CallR) : List Value := [.int .i64 e.c, .int .i64 e.r, .int .i64 e.a, .int .i64 e.f, .int .i64 e.t, .int .i64 e.x]
theorem caC_len (e : CallR) : (caC e).length = 6 := rfl
structure H4 where
  h0 : List CallR
  h1 : List CallR
  h2 : List CallR
  h3 : List CallR
deriving DecidableEq
abbrev H4.none : H4 := ⟨[], [], [], []⟩
def H4.get (C : H4) (t : Int) : List CallR := if t = 0 then C.h0 else if t = 1 then C.h1 else if t = 2 then C.h2 else C.h3
def H4.put (C : H4) (t : Int) (l : List CallR) : H4 := if t = 0 then { C with h0 := l } else if t = 1 then { C with h1 := l } else if t = 2 then { C with h2 := l } else { C with h3 := l }
def pendL (l : List CallR) : Option CallR := match l[l.length - 1]? with
  | none => none
  | some c => if c.t = 0 then some c else none
def ansL (k x : Int) (l : List CallR) : List CallR := match l[l.length - 1]? with
  | none => l
  | some c => l.set (l.length - 1) { c with t := k, x := x }
def takeH (C : H4) (e : EvR) (k : Int) : Option H4 :=
  if (0 ≤ e.t ∧ e.t < 4) ∧ OpOk e.c e.r e.a then
    if e.call then (if pendL (C.get e.t) = none ∧ e.x = 0 then some (C.put e.t (C.get e.t ++ [⟨e.c, e.r, e.a, k, 0, 0⟩])) else none)
    else match pendL (C.get e.t) with
      | none => none
      | some p => if p.c = e.c ∧ p.r = e.r ∧ p.a = e.a then some (C.put e.t (ansL k e.x (C.get e.t))) else none
  else none
def histH : List EvR → Int → H4 → Option H4
  | [], _, C => some C
  | e :: es, k, C => match takeH C e k with
    | none => none
    | some D => histH es (k + 1) D
structure P4 where
  p0 : Nat
  p1 : Nat
  p2 : Nat
  p3 : Nat
deriving DecidableEq
def P4.get (p : P4) (t : Nat) : Nat := if t = 0 then p.p0 else if t = 1 then p.p1 else if t = 2 then p.p2 else p.p3
def P4.inc (p : P4) (t : Nat) : P4 := if t = 0 then { p with p0 := p.p0 + 1 } else if t = 1 then { p with p1 := p.p1 + 1 } else if t = 2 then { p with p2 := p.p2 + 1 } else { p with p3 := p.p3 + 1 }
abbrev P4.zero : P4 := ⟨0, 0, 0, 0⟩
def P4.sum (p : P4) : Nat := p.p0 + p.p1 + p.p2 + p.p3
def nextC (C : H4) (p : P4) (t : Nat) : Option CallR := (C.get t)[p.get t]?
def mayC (C : H4) (p : P4) (c : CallR) : Prop := ∀ t, t < 4 → ∀ d, nextC C p t = some d → d.t > 0 → c.f ≤ d.t
def doneC (C : H4) (p : P4) : Prop := ∀ t, t < 4 → ∀ d, nextC C p t = some d → ¬ d.t > 0
inductive Lin (ob : Int) (C : H4) : P4 → S4 → Prop
  | done {p s} (h : doneC C p) : Lin ob C p s
  | step {p s} (t : Nat) (c : CallR) (ht : t < 4) (hc : nextC C p t = some c) (hm : mayC C p c) (hx : c.t > 0 → (ObjM 600 ob s c.c c.r c.a).2.1 = c.x) (k : Lin ob C (p.inc t) (ObjM 600 ob s c.c c.r c.a).1) : Lin ob C p s
noncomputable def IsL (ob : Int) (es : List EvR) : Bool × Int :=
  if (0 ≤ ob ∧ ob ≤ 2) ∧ es.length ≤ 64 then
    match histH es 1 H4.none with
    | none => (false, 2400)
    | some C => (@decide (Lin ob C P4.zero S4.none) (Classical.propDecidable _), 0)
  else (false, 2400)
theorem H4.put_get (C : H4) {t : Int} {l : List CallR} (ht : 0 ≤ t ∧ t < 4) (u : Int) (hu : 0 ≤ u ∧ u < 4) : (C.put t l).get u = if u = t then l else C.get u := by
  obtain h | h | h | h : t = 0 ∨ t = 1 ∨ t = 2 ∨ t = 3 := by omega
  all_goals obtain g | g | g | g : u = 0 ∨ u = 1 ∨ u = 2 ∨ u = 3 := by omega
  all_goals (subst h; subst g; rfl)
theorem P4.inc_get (p : P4) {t u : Nat} (ht : t < 4) (hu : u < 4) : (p.inc t).get u = if u = t then p.get u + 1 else p.get u := by
  obtain h | h | h | h : t = 0 ∨ t = 1 ∨ t = 2 ∨ t = 3 := by omega
  all_goals obtain g | g | g | g : u = 0 ∨ u = 1 ∨ u = 2 ∨ u = 3 := by omega
  all_goals (subst h; subst g; rfl)
theorem P4.inc_sum (p : P4) {t : Nat} : (p.inc t).sum = p.sum + 1 := by
  unfold P4.inc P4.sum
  repeat' split
  all_goals (simp only; omega)
end
section
theorem digit_nat {d : Nat} (h : d < 10) : (UInt8.ofNat (48 + d)).toNat = 48 + d := by
  rw [UInt8.toNat_ofNat']
  exact Nat.mod_eq_of_lt (by omega)
theorem dig_range : ∀ (f u : Nat), u < 10 ^ (f + 1) → ∀ c ∈ dig f u, 48 ≤ c.toNat ∧ c.toNat ≤ 57
  | 0, u, h, c, hc => by
    simp only [dig, List.mem_singleton] at hc
    subst hc
    rw [digit_nat (by simpa using h)]
    have : u < 10 := by simpa using h
    omega
  | f + 1, u, h, c, hc => by
    simp only [dig] at hc
    split at hc
    · rename_i hu
      rw [List.mem_singleton] at hc
      subst hc
      rw [digit_nat hu]; omega
    · rcases List.mem_append.1 hc with hc | hc
      · exact dig_range f (u / 10) (by rw [Nat.pow_succ] at h; omega) c hc
      · rw [List.mem_singleton] at hc
        subst hc
        rw [digit_nat (Nat.mod_lt _ (by decide))]; omega
def valD (l : List UInt8) : Nat := l.foldl (fun a c => 10 * a + (c.toNat - 48)) 0
theorem valD_snoc (l : List UInt8) (c : UInt8) : valD (l ++ [c]) = 10 * valD l + (c.toNat - 48) := by simp [valD]
theorem valD_dig : ∀ (f u : Nat), u < 10 ^ (f + 1) → valD (dig f u) = u
  | 0, u, h => by
    have hu : u < 10 := by simpa using h
    simp only [dig, valD, List.foldl_cons, List.foldl_nil]
    rw [digit_nat hu]; omega
  | f + 1, u, h => by
    simp only [dig]
    split
    · rename_i hu
      simp only [valD, List.foldl_cons, List.foldl_nil]
      rw [digit_nat hu]; omega
    · rw [valD_snoc, valD_dig f (u / 10) (by rw [Nat.pow_succ] at h; omega), digit_nat (Nat.mod_lt _ (by decide))]
      omega
theorem num7_inj {n m : Int} (hn : 0 ≤ n ∧ n ≤ 1000000) (hm : 0 ≤ m ∧ m ≤ 1000000) (h : num7 n = num7 m) : n = m := by
  have h1 := valD_dig 7 n.toNat (by omega)
  have h2 := valD_dig 7 m.toNat (by omega)
  unfold num7 at h
  rw [h] at h1
  omega
theorem num7_range {n : Int} (hn : 0 ≤ n ∧ n ≤ 1000000) : ∀ c ∈ num7 n, 48 ≤ c.toNat ∧ c.toNat ≤ 57 := dig_range 7 n.toNat (by omega)
theorem cut_eq : ∀ {l1 l2 : List UInt8} {c d : UInt8} {r1 r2 : List UInt8}, (∀ x ∈ l1, 48 ≤ x.toNat ∧ x.toNat ≤ 57) → (∀ x ∈ l2, 48 ≤ x.toNat ∧ x.toNat ≤ 57) → ¬ (48 ≤ c.toNat ∧ c.toNat ≤ 57) → ¬ (48 ≤ d.toNat ∧ d.toNat ≤ 57) → l1 ++ c :: r1 = l2 ++ d :: r2 → l1 = l2 ∧ c = d ∧ r1 = r2
  | [], [], c, d, r1, r2, _, _, _, _, h => by
    simp only [List.nil_append, List.cons.injEq] at h
    exact ⟨rfl, h.1, h.2⟩
  | [], y :: ys, c, d, r1, r2, _, h2, hc, _, h => by
    simp only [List.nil_append, List.cons_append, List.cons.injEq] at h
    exact absurd (h.1 ▸ h2 y (by simp)) hc
  | x :: xs, [], c, d, r1, r2, h1, _, _, hd, h => by
    simp only [List.nil_append, List.cons_append, List.cons.injEq] at h
    exact absurd (h.1 ▸ h1 x (by simp)) hd
  | x :: xs, y :: ys, c, d, r1, r2, h1, h2, hc, hd, h => by
    simp only [List.cons_append, List.cons.injEq] at h
    obtain ⟨e1, e2, e3⟩ := cut_eq (fun z hz => h1 z (by simp [hz])) (fun z hz => h2 z (by simp [hz])) hc hd h.2
    exact ⟨by rw [h.1, e1], e2, e3⟩
abbrev Small (xs : List Int) : Prop := ∀ x ∈ xs, 0 ≤ x ∧ x ≤ 1000000
theorem row7_cut : ∀ {xs ys : List Int} {n m : Int} {r1 r2 : List UInt8}, Small xs → Small ys → (0 ≤ n ∧ n ≤ 1000000) → (0 ≤ m ∧ m ≤ 1000000) → row7 xs ++ (num7 n ++ 58 :: r1) = row7 ys ++ (num7 m ++ 58 :: r2) → xs = ys ∧ n = m ∧ r1 = r2
  | [], [], n, m, r1, r2, _, _, hn, hm, h => by
    simp only [row7, List.nil_append] at h
    obtain ⟨e1, _, e3⟩ := cut_eq (num7_range hn) (num7_range hm) (by decide) (by decide) h
    exact ⟨rfl, num7_inj hn hm e1, e3⟩
  | [], y :: ys, n, m, r1, r2, _, h2, hn, hm, h => by
    simp only [row7, List.nil_append, List.append_assoc, List.cons_append] at h
    obtain ⟨_, e2, _⟩ := cut_eq (num7_range hn) (num7_range (h2 y (by simp))) (by decide) (by decide) h
    cases e2
  | x :: xs, [], n, m, r1, r2, h1, _, hn, hm, h => by
    simp only [row7, List.nil_append, List.append_assoc, List.cons_append] at h
    obtain ⟨_, e2, _⟩ := cut_eq (num7_range (h1 x (by simp))) (num7_range hm) (by decide) (by decide) h
    cases e2
  | x :: xs, y :: ys, n, m, r1, r2, h1, h2, hn, hm, h => by
    simp only [row7, List.append_assoc, List.cons_append] at h
    obtain ⟨e1, _, e3⟩ := cut_eq (num7_range (h1 x (by simp))) (num7_range (h2 y (by simp))) (by decide) (by decide) h
    obtain ⟨g1, g2, g3⟩ := row7_cut (fun z hz => h1 z (by simp [hz])) (fun z hz => h2 z (by simp [hz])) hn hm e3
    exact ⟨by rw [num7_inj (h1 x (by simp)) (h2 y (by simp)) e1, g1], g2, g3⟩
theorem row7_inj : ∀ {xs ys : List Int}, Small xs → Small ys → row7 xs = row7 ys → xs = ys
  | [], [], _, _, _ => rfl
  | [], y :: ys, _, _, h => by
    simp only [row7] at h
    exact absurd (congrArg List.length h) (by simp)
  | x :: xs, [], _, _, h => by
    simp only [row7] at h
    exact absurd (congrArg List.length h) (by simp)
  | x :: xs, y :: ys, h1, h2, h => by
    simp only [row7] at h
    obtain ⟨e1, _, e3⟩ := cut_eq (num7_range (h1 x (by simp))) (num7_range (h2 y (by simp))) (by decide) (by decide) h
    rw [num7_inj (h1 x (by simp)) (h2 y (by simp)) e1, row7_inj (fun z hz => h1 z (by simp [hz])) (fun z hz => h2 z (by simp [hz])) e3]
abbrev SmallS (s : S4) : Prop := Small s.x0 ∧ Small s.x1 ∧ Small s.x2 ∧ Small s.x3
abbrev SmallP (p : P4) : Prop := p.p0 ≤ 1000000 ∧ p.p1 ≤ 1000000 ∧ p.p2 ≤ 1000000 ∧ p.p3 ≤ 1000000
def keyOf (p : P4) (s : S4) : ByteArray := ⟨(key7 p.p0 s.x0 p.p1 s.x1 p.p2 s.x2 p.p3 s.x3).toArray⟩
theorem keyOf_inj {p q : P4} {s u : S4} (hp : SmallP p) (hq : SmallP q) (hs : SmallS s) (hu : SmallS u) (h : keyOf p s = keyOf q u) : p = q ∧ s = u := by
  unfold keyOf at h
  injection h with h
  have h := congrArg Array.toList h
  simp only [key7, List.append_assoc, List.cons_append] at h
  obtain ⟨p0, p1, p2, p3⟩ := p
  obtain ⟨q0, q1, q2, q3⟩ := q
  obtain ⟨s0, s1, s2, s3⟩ := s
  obtain ⟨u0, u1, u2, u3⟩ := u
  simp only at h
  obtain ⟨a0, a1, a2, a3⟩ : p0 ≤ 1000000 ∧ p1 ≤ 1000000 ∧ p2 ≤ 1000000 ∧ p3 ≤ 1000000 := hp
  obtain ⟨b0, b1, b2, b3⟩ : q0 ≤ 1000000 ∧ q1 ≤ 1000000 ∧ q2 ≤ 1000000 ∧ q3 ≤ 1000000 := hq
  obtain ⟨e0, _, h⟩ := cut_eq (num7_range (by omega)) (num7_range (by omega)) (by decide) (by decide) h
  obtain ⟨f0, e1, h⟩ := row7_cut hs.1 hu.1 (by omega) (by omega) h
  obtain ⟨f1, e2, h⟩ := row7_cut hs.2.1 hu.2.1 (by omega) (by omega) h
  obtain ⟨f2, e3, h⟩ := row7_cut hs.2.2.1 hu.2.2.1 (by omega) (by omega) h
  have f3 := row7_inj hs.2.2.2 hu.2.2.2 h
  have e0 := num7_inj (n := (p0 : Int)) (m := (q0 : Int)) (by omega) (by omega) e0
  subst f0 f1 f2 f3
  have g0 : p0 = q0 := by omega
  have g1 : p1 = q1 := by omega
  have g2 : p2 = q2 := by omega
  have g3 : p3 = q3 := by omega
  subst g0 g1 g2 g3
  exact ⟨rfl, rfl⟩
end
section
def rf_lNext : RFunc :=
  ⟨28, [(.tmp 6)], (.seq (.ops [rO 4 (.box (.tmp 1)), rO 6 (.mv (.const (.pointer .none)))]) (.seq (.seq (.ops [⟨(.some 7), (.mv (.tmp 2)), .none, true, []⟩, ⟨(.some 8), (.idxAddrArr 4 1 (.tmp 4) (.tmp 7)), .none, true, []⟩, ⟨(.some 9), (.load .none (.tmp 8)), .none, true, []⟩, ⟨(.some 10), (.mv (.tmp 0)), .none, true, []⟩, ⟨(.some 11), (.mv (.tmp 2)), .none, true, []⟩, ⟨(.some 12), (.nilCheck (.tmp 10)), .none, true, []⟩, ⟨(.some 13), (.fieldAddr 0 (.tmp 12)), .none, true, []⟩, ⟨(.some 14), (.idxAddrArr 4 1 (.tmp 13) (.tmp 11)), .none, true, []⟩, ⟨(.some 15), (.load .none (.tmp 14)), .none, true, []⟩, ⟨(.some 16), (.len 1 (.tmp 15)), .none, true, []⟩, rO 17 (.bin .eql (.tmp 9) (.tmp 16))]) (.cond (.tmp 17) (.seq (.ops [rO 6 (.mv (.const (.pointer .none)))]) .ret) .skip)) (.seq (.ops [⟨(.some 18), (.mv (.tmp 0)), .none, true, []⟩, ⟨(.some 19), (.mv (.tmp 2)), .none, true, []⟩, ⟨(.some 20), (.nilCheck (.tmp 18)), .none, true, []⟩, ⟨(.some 21), (.fieldAddr 0 (.tmp 20)), .none, true, []⟩, ⟨(.some 22), (.idxAddrArr 4 1 (.tmp 21) (.tmp 19)), .none, true, []⟩, ⟨(.some 23), (.load .none (.tmp 22)), .none, true, []⟩, ⟨(.some 24), (.mv (.tmp 2)), .none, true, []⟩, ⟨(.some 25), (.idxAddrArr 4 1 (.tmp 4) (.tmp 24)), .none, true, []⟩, ⟨(.some 26), (.load .none (.tmp 25)), .none, true, []⟩, rO 27 (.idxAddr 6 (.tmp 23) (.tmp 26)), rO 6 (.mv (.tmp 27))]) .ret)))⟩
def rf_lBound (g0 : Nat) : RFunc :=
  ⟨35, [(.tmp 4), (.tmp 5)], (.seq (.ops [rO 3 (.box (.tmp 1)), rO 4 (.mv (.const (.int .i64 0))), rO 5 (.mv (.const (.bool false)))]) (.seq (.ops [rO 6 (.mv (.const (.int .i64 65)))]) (.seq (.seq (.ops [rO 9 (.mv (.const (.int .i64 0)))]) (.block 0 (.loop (.seq (.ops [rO 10 (.bin .lss (.tmp 9) (.const (.int .i64 4)))]) (.seq (.cond (.tmp 10) .skip (.exit 0)) (.seq (.block 1 (.seq (.ops [rO 11 (.mv (.tmp 9)), rO 7 (.mv (.tmp 11))]) (.seq (.ops [rO 12 (.mv (.tmp 0)), rO 13 (.load (.some 4) (.tmp 3)), rO 14 (.mv (.tmp 7)), rO 15 (.call (.func g0) [(.tmp 12), (.tmp 13), (.tmp 14)]), rO 8 (.mv (.tmp 15))]) (.seq (.ops [rO 16 (.mv (.tmp 8)), rO 17 (.isNil true 1 (.tmp 16)), rO 18 (.mv (.tmp 17)), ⟨(.some 19), (.mv (.tmp 8)), (.some (18, true)), false, []⟩, ⟨(.some 20), (.nilCheck (.tmp 19)), (.some (18, true)), false, []⟩, ⟨(.some 21), (.fieldAddr 4 (.tmp 20)), (.some (18, true)), false, []⟩, ⟨(.some 22), (.load .none (.tmp 21)), (.some (18, true)), false, []⟩, ⟨(.some 23), (.bin .gtr (.tmp 22) (.const (.int .i64 0))), (.some (18, true)), false, []⟩, rO 24 (.pick (.tmp 18) (.tmp 23) (.const (.bool false)))]) (.cond (.tmp 24) (.ops [rO 25 (.mv (.tmp 6)), rO 26 (.mv (.tmp 8)), rO 27 (.nilCheck (.tmp 26)), rO 28 (.fieldAddr 4 (.tmp 27)), rO 29 (.load .none (.tmp 28)), rO 30 (.minmax false [(.tmp 25), (.tmp 29)]), rO 6 (.mv (.tmp 30))]) .skip))))) (.ops [rO 31 (.bin .add (.tmp 9) (.const (.int .i64 1))), rO 9 (.mv (.tmp 31))]))))))) (.seq (.ops [rO 32 (.mv (.tmp 6)), rO 33 (.mv (.tmp 6)), rO 34 (.bin .gtr (.tmp 33) (.const (.int .i64 64))), rO 4 (.mv (.tmp 32)), rO 5 (.mv (.tmp 34))]) .ret))))⟩
def nxV (a : Option Addr) (p n : Nat) : Value := if p = n then .pointer none else eptr 6 a p
structure HistR (h : AH) (hb mb : Nat) (ob : Int) (a0 a1 a2 a3 : Option Addr) (C : H4) : Prop where
  cell : h[hb]? = some (.cells [.slice a0 C.h0.length C.h0.length, .slice a1 C.h1.length C.h1.length, .slice a2 C.h2.length C.h2.length, .slice a3 C.h3.length C.h3.length, .int .i64 ob, .map (some mb)])
  s0 : Sl 6 h a0 C.h0.length C.h0.length (recs caC C.h0)
  s1 : Sl 6 h a1 C.h1.length C.h1.length (recs caC C.h1)
  s2 : Sl 6 h a2 C.h2.length C.h2.length (recs caC C.h2)
  s3 : Sl 6 h a3 C.h3.length C.h3.length (recs caC C.h3)
def aG (a0 a1 a2 a3 : Option Addr) (t : Nat) : Option Addr := if t = 0 then a0 else if t = 1 then a1 else if t = 2 then a2 else a3
abbrev pV (p : P4) : Value := .agg #[.int .i64 (p.p0 : Int), .int .i64 (p.p1 : Int), .int .i64 (p.p2 : Int), .int .i64 (p.p3 : Int)]
abbrev InP (C : H4) (p : P4) : Prop := p.p0 ≤ C.h0.length ∧ p.p1 ≤ C.h1.length ∧ p.p2 ≤ C.h2.length ∧ p.p3 ≤ C.h3.length
theorem HistR.pfx {h h' : AH} {hb mb : Nat} {ob : Int} {a0 a1 a2 a3 : Option Addr} {C : H4} (H : HistR h hb mb ob a0 a1 a2 a3 C) (hp : Pfx h h') : HistR h' hb mb ob a0 a1 a2 a3 C :=
  ⟨(hp.2 _ (List.getElem?_eq_some_iff.1 H.cell).1).trans H.cell, H.s0.pfx hp, H.s1.pfx hp, H.s2.pfx hp, H.s3.pfx hp⟩
theorem HistR.kx {h h' : AH} {hb mb mb' : Nat} {ob : Int} {es : List (Value × Value)} {a0 a1 a2 a3 : Option Addr} {C : H4} (H : HistR h hb mb ob a0 a1 a2 a3 C) (hk : Kx mb' h h') (hm : h[mb']? = some (.map es)) : HistR h' hb mb ob a0 a1 a2 a3 C :=
  ⟨hk.cells hm H.cell, hk.sl hm H.s0, hk.sl hm H.s1, hk.sl hm H.s2, hk.sl hm H.s3⟩
def Lf (cs : List Value) (o : Nat) (c : CallR) : Prop := ∀ f v, (caC c)[f]? = some v → cs[o + f]? = some v
theorem Lf.op {cs : List Value} {o : Nat} {c : CallR} (h : Lf cs o c) : loadAt (some 3) cs (o + 0) = some (.agg #[.int .i64 c.c, .int .i64 c.r, .int .i64 c.a]) := by
  have h0 := h 0 _ rfl
  have h1 := h 1 _ rfl
  have h2 := h 2 _ rfl
  have hl := (List.getElem?_eq_some_iff.1 h2).1
  simp only [loadAt]
  rw [if_pos (by omega)]
  congr 3
  apply List.ext_getElem?
  intro j
  by_cases hj : j < 3
  · rw [List.getElem?_take_of_lt hj, List.getElem?_drop]
    obtain rfl | rfl | rfl : j = 0 ∨ j = 1 ∨ j = 2 := by omega
    · exact h0
    · exact h1
    · exact h2
  · rw [List.getElem?_eq_none (by rw [List.length_take]; omega), List.getElem?_eq_none (by simp; omega)]
theorem slot_call {h : AH} {a : Option Addr} {l : List CallR} {q : Nat} (hs : Sl 6 h a l.length l.length (recs caC l)) (hq : q < l.length) : ∃ b o cs, eptr 6 a q = .pointer (some ⟨b, o, none⟩) ∧ h[b]? = some (.cells cs) ∧ Lf cs o l[q] := by
  obtain ⟨b, o, m, ds, rfl, h1, h2, h3⟩ := hs.cells (by decide) (by omega)
  refine ⟨b, o + q * 6, ds, rfl, h1, fun f v hv => ?_⟩
  have hf : f < 6 := (List.getElem?_eq_some_iff.1 hv).1
  have := recs_get caC_len hq hf
  rw [hv, h3, List.getElem?_take_of_lt (by omega), List.getElem?_drop] at this
  rw [← this]
  congr 1
  omega
theorem HistR.next {h : AH} {hb mb : Nat} {ob : Int} {a0 a1 a2 a3 : Option Addr} {C : H4} {p : P4} {t : Nat} (H : HistR h hb mb ob a0 a1 a2 a3 C) (hp : InP C p) (ht : t < 4) :
    (nextC C p t = none ∧ nxV (aG a0 a1 a2 a3 t) (p.get t) (C.get t).length = .pointer none) ∨ ∃ c b o cs, nextC C p t = some c ∧ nxV (aG a0 a1 a2 a3 t) (p.get t) (C.get t).length = .pointer (some ⟨b, o, none⟩) ∧ h[b]? = some (.cells cs) ∧ Lf cs o c := by
  have key : ∀ {a : Option Addr} {l : List CallR} {q : Nat}, Sl 6 h a l.length l.length (recs caC l) → q ≤ l.length → (l[q]? = none ∧ nxV a q l.length = .pointer none) ∨ ∃ c b o cs, l[q]? = some c ∧ nxV a q l.length = .pointer (some ⟨b, o, none⟩) ∧ h[b]? = some (.cells cs) ∧ Lf cs o c := fun {a l q} hs hq => by
    by_cases e : q = l.length
    · exact .inl ⟨List.getElem?_eq_none (by omega), if_pos e⟩
    · obtain ⟨b, o, cs, h1, h2, h3⟩ := slot_call hs (show q < l.length by omega)
      exact .inr ⟨l[q], b, o, cs, List.getElem?_eq_getElem (by omega), (if_neg e).trans h1, h2, h3⟩
  obtain rfl | rfl | rfl | rfl : t = 0 ∨ t = 1 ∨ t = 2 ∨ t = 3 := by omega
  · exact key H.s0 hp.1
  · exact key H.s1 hp.2.1
  · exact key H.s2 hp.2.2.1
  · exact key H.s3 hp.2.2.2
def stepB (o : Int) : Option CallR → Int
  | none => o
  | some c => if c.t > 0 then (if c.t < o then c.t else o) else o
def bndN (C : H4) (p : P4) : Nat → Int
  | 0 => 65
  | i + 1 => stepB (bndN C p i) (nextC C p i)
section
variable (X : Ext) (F : FuncId → Option RFunc) (g : FuncId)
abbrev S_lNext : Prop := ∀ (lim : Nat) (h : AH) {hb mb : Nat} {ob : Int} {a0 a1 a2 a3 : Option Addr} {C : H4} {p : P4} {t : Nat}, HistR h hb mb ob a0 a1 a2 a3 C → InP C p → t < 4 → Ret X F lim g [.pointer (some ⟨hb, 0, none⟩), pV p, .int .i64 (t : Int)] h fun v h' => Pfx h h' ∧ v = nxV (aG a0 a1 a2 a3 t) (p.get t) (C.get t).length
abbrev S_lBound : Prop := ∀ (lim : Nat) (h : AH) {hb mb : Nat} {ob : Int} {a0 a1 a2 a3 : Option Addr} {C : H4} {p : P4}, HistR h hb mb ob a0 a1 a2 a3 C → InP C p → Ret X F lim g [.pointer (some ⟨hb, 0, none⟩), pV p] h fun v h' => Pfx h h' ∧ v = .tuple #[.int .i64 (bndN C p 4), .bool (decide (bndN C p 4 > 64))]
end
section
variable {X : Ext} {F : FuncId → Option RFunc} {f : FuncId}
theorem s_lNext (hX : X f = none) (hF : F f = some rf_lNext) : S_lNext X F f := by
  intro lim h hb mb ob a0 a1 a2 a3 C p t H hp ht
  obtain ⟨hc, s0, s1, s2, s3⟩ := id H
  have hL := Loc.start h
  obtain ⟨q0, q1, q2, q3⟩ : p.p0 ≤ C.h0.length ∧ p.p1 ≤ C.h1.length ∧ p.p2 ≤ C.h2.length ∧ p.p3 ≤ C.h3.length := hp
  refine Ret.body hX hF rfl ?_
  simp only [argL, rf_lNext, pV]
  obtain rfl | rfl | rfl | rfl : t = 0 ∨ t = 1 ∨ t = 2 ∨ t = 3 := by omega
  · show WC X F lim _ _ _ _
    simp only [aG, P4.get, H4.get]
    by_cases hq : p.p0 = C.h0.length
    · (refine Cs (Co (Wc ?_)); refine OL.boxA hL rfl rfl (fun b h' hL => (Wm rfl (Wn ?_))); dsimp only [zn, zr, zx, yn, yr]; refine Cs (Cs (Co (WO.consQ (OP.mv rfl (WO.consQ (OP.idxArrZ rfl rfl (by decide) (by simp only [Int.reduceToNat, Nat.mul_one, Nat.zero_add, Nat.reduceMul, Nat.reduceAdd]; rfl) ?_)))))); refine WO.consQ (OL.load1 (k := 0) hL rfl rfl rfl (WO.consQ (OP.mv rfl (WO.consQ (OP.mv rfl (WO.consQ (OP.nilP rfl (WO.consQ (OP.fieldAddr0 rfl (WO.consQ (OP.idxArrZ rfl rfl (by decide) (by simp only [Int.reduceToNat, Nat.mul_one, Nat.zero_add, Nat.reduceMul, Nat.reduceAdd]; rfl) ?_))))))))))))
      (refine WO.consQ ?_)
      refine OP.load rfl (H.pfx hL.pfx).cell rfl ?_
      (refine WO.consQ (OP.lenS rfl (Wc (OP.eqlT rfl rfl (by omega) ?_))); refine Wn ?_; dsimp only [zn, zr, zx, yn, yr]; refine WC.condT rfl (Cs (Co (Wm rfl (Wn ?_)))); dsimp only [zn, zr, zx, yn, yr]; refine WC.ret ?_; dsimp only [zn, zr, zx, yn, yr])
      exact Fin.ret rfl ⟨hL.pfx, (if_pos hq).symm⟩
    · (refine Cs (Co (Wc ?_)); refine OL.boxA hL rfl rfl (fun b h' hL => (Wm rfl (Wn ?_))); dsimp only [zn, zr, zx, yn, yr]; refine Cs (Cs (Co (WO.consQ (OP.mv rfl (WO.consQ (OP.idxArrZ rfl rfl (by decide) (by simp only [Int.reduceToNat, Nat.mul_one, Nat.zero_add, Nat.reduceMul, Nat.reduceAdd]; rfl) ?_)))))); refine WO.consQ (OL.load1 (k := 0) hL rfl rfl rfl (WO.consQ (OP.mv rfl (WO.consQ (OP.mv rfl (WO.consQ (OP.nilP rfl (WO.consQ (OP.fieldAddr0 rfl (WO.consQ (OP.idxArrZ rfl rfl (by decide) (by simp only [Int.reduceToNat, Nat.mul_one, Nat.zero_add, Nat.reduceMul, Nat.reduceAdd]; rfl) ?_))))))))))))
      (refine WO.consQ ?_)
      refine OP.load rfl (H.pfx hL.pfx).cell rfl ?_
      (refine WO.consQ (OP.lenS rfl (Wc (OP.eqlF rfl rfl (by omega) ?_))); refine Wn ?_; dsimp only [zn, zr, zx, yn, yr]; refine WC.condF rfl (WC.skip ?_); dsimp only [zn, zr, zx, yn, yr]; refine Cs (Co (WO.consQ (OP.mv rfl (WO.consQ (OP.mv rfl (WO.consQ (OP.nilP rfl (WO.consQ (OP.fieldAddr0 rfl (WO.consQ (OP.idxArrZ rfl rfl (by decide) (by simp only [Int.reduceToNat, Nat.mul_one, Nat.zero_add, Nat.reduceMul, Nat.reduceAdd]; rfl) ?_))))))))))))
      (refine WO.consQ ?_)
      refine OP.load rfl (H.pfx hL.pfx).cell rfl ?_
      (refine WO.consQ (OP.mv rfl (WO.consQ (OP.idxArrZ rfl rfl (by decide) (by simp only [Int.reduceToNat, Nat.mul_one, Nat.zero_add, Nat.reduceMul, Nat.reduceAdd]; rfl) ?_))); refine WO.consQ (OL.load1 (k := 0) hL rfl rfl rfl (Wc (OP.idxS (Sl.pfx (by assumption) (Loc.pfx hL)) rfl rfl (by omega) ?_))); refine Wm rfl (Wn ?_); dsimp only [zn, zr, zx, yn, yr]; refine WC.ret ?_)
      exact Fin.ret rfl ⟨hL.pfx, (if_neg hq).symm⟩
  · show WC X F lim _ _ _ _
    simp only [aG, P4.get, H4.get]
    by_cases hq : p.p1 = C.h1.length
    · (refine Cs (Co (Wc ?_)); refine OL.boxA hL rfl rfl (fun b h' hL => (Wm rfl (Wn ?_))); dsimp only [zn, zr, zx, yn, yr]; refine Cs (Cs (Co (WO.consQ (OP.mv rfl (WO.consQ (OP.idxArrZ rfl rfl (by decide) (by simp only [Int.reduceToNat, Nat.mul_one, Nat.zero_add, Nat.reduceMul, Nat.reduceAdd]; rfl) ?_)))))); refine WO.consQ (OL.load1 (k := 0) hL rfl rfl rfl (WO.consQ (OP.mv rfl (WO.consQ (OP.mv rfl (WO.consQ (OP.nilP rfl (WO.consQ (OP.fieldAddr0 rfl (WO.consQ (OP.idxArrZ rfl rfl (by decide) (by simp only [Int.reduceToNat, Nat.mul_one, Nat.zero_add, Nat.reduceMul, Nat.reduceAdd]; rfl) ?_))))))))))))
      (refine WO.consQ ?_)
      refine OP.load rfl (H.pfx hL.pfx).cell rfl ?_
      (refine WO.consQ (OP.lenS rfl (Wc (OP.eqlT rfl rfl (by omega) ?_))); refine Wn ?_; dsimp only [zn, zr, zx, yn, yr]; refine WC.condT rfl (Cs (Co (Wm rfl (Wn ?_)))); dsimp only [zn, zr, zx, yn, yr]; refine WC.ret ?_; dsimp only [zn, zr, zx, yn, yr])
      exact Fin.ret rfl ⟨hL.pfx, (if_pos hq).symm⟩
    · (refine Cs (Co (Wc ?_)); refine OL.boxA hL rfl rfl (fun b h' hL => (Wm rfl (Wn ?_))); dsimp only [zn, zr, zx, yn, yr]; refine Cs (Cs (Co (WO.consQ (OP.mv rfl (WO.consQ (OP.idxArrZ rfl rfl (by decide) (by simp only [Int.reduceToNat, Nat.mul_one, Nat.zero_add, Nat.reduceMul, Nat.reduceAdd]; rfl) ?_)))))); refine WO.consQ (OL.load1 (k := 0) hL rfl rfl rfl (WO.consQ (OP.mv rfl (WO.consQ (OP.mv rfl (WO.consQ (OP.nilP rfl (WO.consQ (OP.fieldAddr0 rfl (WO.consQ (OP.idxArrZ rfl rfl (by decide) (by simp only [Int.reduceToNat, Nat.mul_one, Nat.zero_add, Nat.reduceMul, Nat.reduceAdd]; rfl) ?_))))))))))))
      (refine WO.consQ ?_)
      refine OP.load rfl (H.pfx hL.pfx).cell rfl ?_
      (refine WO.consQ (OP.lenS rfl (Wc (OP.eqlF rfl rfl (by omega) ?_))); refine Wn ?_; dsimp only [zn, zr, zx, yn, yr]; refine WC.condF rfl (WC.skip ?_); dsimp only [zn, zr, zx, yn, yr]; refine Cs (Co (WO.consQ (OP.mv rfl (WO.consQ (OP.mv rfl (WO.consQ (OP.nilP rfl (WO.consQ (OP.fieldAddr0 rfl (WO.consQ (OP.idxArrZ rfl rfl (by decide) (by simp only [Int.reduceToNat, Nat.mul_one, Nat.zero_add, Nat.reduceMul, Nat.reduceAdd]; rfl) ?_))))))))))))
      (refine WO.consQ ?_)
      refine OP.load rfl (H.pfx hL.pfx).cell rfl ?_
      (refine WO.consQ (OP.mv rfl (WO.consQ (OP.idxArrZ rfl rfl (by decide) (by simp only [Int.reduceToNat, Nat.mul_one, Nat.zero_add, Nat.reduceMul, Nat.reduceAdd]; rfl) ?_))); refine WO.consQ (OL.load1 (k := 0) hL rfl rfl rfl (Wc (OP.idxS (Sl.pfx (by assumption) (Loc.pfx hL)) rfl rfl (by omega) ?_))); refine Wm rfl (Wn ?_); dsimp only [zn, zr, zx, yn, yr]; refine WC.ret ?_)
      exact Fin.ret rfl ⟨hL.pfx, (if_neg hq).symm⟩
  · show WC X F lim _ _ _ _
    simp only [aG, P4.get, H4.get]
    by_cases hq : p.p2 = C.h2.length
    · (refine Cs (Co (Wc ?_)); refine OL.boxA hL rfl rfl (fun b h' hL => (Wm rfl (Wn ?_))); dsimp only [zn, zr, zx, yn, yr]; refine Cs (Cs (Co (WO.consQ (OP.mv rfl (WO.consQ (OP.idxArrZ rfl rfl (by decide) (by simp only [Int.reduceToNat, Nat.mul_one, Nat.zero_add, Nat.reduceMul, Nat.reduceAdd]; rfl) ?_)))))); refine WO.consQ (OL.load1 (k := 0) hL rfl rfl rfl (WO.consQ (OP.mv rfl (WO.consQ (OP.mv rfl (WO.consQ (OP.nilP rfl (WO.consQ (OP.fieldAddr0 rfl (WO.consQ (OP.idxArrZ rfl rfl (by decide) (by simp only [Int.reduceToNat, Nat.mul_one, Nat.zero_add, Nat.reduceMul, Nat.reduceAdd]; rfl) ?_))))))))))))
      (refine WO.consQ ?_)
      refine OP.load rfl (H.pfx hL.pfx).cell rfl ?_
      (refine WO.consQ (OP.lenS rfl (Wc (OP.eqlT rfl rfl (by omega) ?_))); refine Wn ?_; dsimp only [zn, zr, zx, yn, yr]; refine WC.condT rfl (Cs (Co (Wm rfl (Wn ?_)))); dsimp only [zn, zr, zx, yn, yr]; refine WC.ret ?_; dsimp only [zn, zr, zx, yn, yr])
      exact Fin.ret rfl ⟨hL.pfx, (if_pos hq).symm⟩
    · (refine Cs (Co (Wc ?_)); refine OL.boxA hL rfl rfl (fun b h' hL => (Wm rfl (Wn ?_))); dsimp only [zn, zr, zx, yn, yr]; refine Cs (Cs (Co (WO.consQ (OP.mv rfl (WO.consQ (OP.idxArrZ rfl rfl (by decide) (by simp only [Int.reduceToNat, Nat.mul_one, Nat.zero_add, Nat.reduceMul, Nat.reduceAdd]; rfl) ?_)))))); refine WO.consQ (OL.load1 (k := 0) hL rfl rfl rfl (WO.consQ (OP.mv rfl (WO.consQ (OP.mv rfl (WO.consQ (OP.nilP rfl (WO.consQ (OP.fieldAddr0 rfl (WO.consQ (OP.idxArrZ rfl rfl (by decide) (by simp only [Int.reduceToNat, Nat.mul_one, Nat.zero_add, Nat.reduceMul, Nat.reduceAdd]; rfl) ?_))))))))))))
      (refine WO.consQ ?_)
      refine OP.load rfl (H.pfx hL.pfx).cell rfl ?_
      (refine WO.consQ (OP.lenS rfl (Wc (OP.eqlF rfl rfl (by omega) ?_))); refine Wn ?_; dsimp only [zn, zr, zx, yn, yr]; refine WC.condF rfl (WC.skip ?_); dsimp only [zn, zr, zx, yn, yr]; refine Cs (Co (WO.consQ (OP.mv rfl (WO.consQ (OP.mv rfl (WO.consQ (OP.nilP rfl (WO.consQ (OP.fieldAddr0 rfl (WO.consQ (OP.idxArrZ rfl rfl (by decide) (by simp only [Int.reduceToNat, Nat.mul_one, Nat.zero_add, Nat.reduceMul, Nat.reduceAdd]; rfl) ?_))))))))))))
      (refine WO.consQ ?_)
      refine OP.load rfl (H.pfx hL.pfx).cell rfl ?_
      (refine WO.consQ (OP.mv rfl (WO.consQ (OP.idxArrZ rfl rfl (by decide) (by simp only [Int.reduceToNat, Nat.mul_one, Nat.zero_add, Nat.reduceMul, Nat.reduceAdd]; rfl) ?_))); refine WO.consQ (OL.load1 (k := 0) hL rfl rfl rfl (Wc (OP.idxS (Sl.pfx (by assumption) (Loc.pfx hL)) rfl rfl (by omega) ?_))); refine Wm rfl (Wn ?_); dsimp only [zn, zr, zx, yn, yr]; refine WC.ret ?_)
      exact Fin.ret rfl ⟨hL.pfx, (if_neg hq).symm⟩
  · show WC X F lim _ _ _ _
    simp only [aG, P4.get, H4.get]
    by_cases hq : p.p3 = C.h3.length
    · (refine Cs (Co (Wc ?_)); refine OL.boxA hL rfl rfl (fun b h' hL => (Wm rfl (Wn ?_))); dsimp only [zn, zr, zx, yn, yr]; refine Cs (Cs (Co (WO.consQ (OP.mv rfl (WO.consQ (OP.idxArrZ rfl rfl (by decide) (by simp only [Int.reduceToNat, Nat.mul_one, Nat.zero_add, Nat.reduceMul, Nat.reduceAdd]; rfl) ?_)))))); refine WO.consQ (OL.load1 (k := 0) hL rfl rfl rfl (WO.consQ (OP.mv rfl (WO.consQ (OP.mv rfl (WO.consQ (OP.nilP rfl (WO.consQ (OP.fieldAddr0 rfl (WO.consQ (OP.idxArrZ rfl rfl (by decide) (by simp only [Int.reduceToNat, Nat.mul_one, Nat.zero_add, Nat.reduceMul, Nat.reduceAdd]; rfl) ?_))))))))))))
      (refine WO.consQ ?_)
      refine OP.load rfl (H.pfx hL.pfx).cell rfl ?_
      (refine WO.consQ (OP.lenS rfl (Wc (OP.eqlT rfl rfl (by omega) ?_))); refine Wn ?_; dsimp only [zn, zr, zx, yn, yr]; refine WC.condT rfl (Cs (Co (Wm rfl (Wn ?_)))); dsimp only [zn, zr, zx, yn, yr]; refine WC.ret ?_; dsimp only [zn, zr, zx, yn, yr])
      exact Fin.ret rfl ⟨hL.pfx, (if_pos hq).symm⟩
    · (refine Cs (Co (Wc ?_)); refine OL.boxA hL rfl rfl (fun b h' hL => (Wm rfl (Wn ?_))); dsimp only [zn, zr, zx, yn, yr]; refine Cs (Cs (Co (WO.consQ (OP.mv rfl (WO.consQ (OP.idxArrZ rfl rfl (by decide) (by simp only [Int.reduceToNat, Nat.mul_one, Nat.zero_add, Nat.reduceMul, Nat.reduceAdd]; rfl) ?_)))))); refine WO.consQ (OL.load1 (k := 0) hL rfl rfl rfl (WO.consQ (OP.mv rfl (WO.consQ (OP.mv rfl (WO.consQ (OP.nilP rfl (WO.consQ (OP.fieldAddr0 rfl (WO.consQ (OP.idxArrZ rfl rfl (by decide) (by simp only [Int.reduceToNat, Nat.mul_one, Nat.zero_add, Nat.reduceMul, Nat.reduceAdd]; rfl) ?_))))))))))))
      (refine WO.consQ ?_)
      refine OP.load rfl (H.pfx hL.pfx).cell rfl ?_
      (refine WO.consQ (OP.lenS rfl (Wc (OP.eqlF rfl rfl (by omega) ?_))); refine Wn ?_; dsimp only [zn, zr, zx, yn, yr]; refine WC.condF rfl (WC.skip ?_); dsimp only [zn, zr, zx, yn, yr]; refine Cs (Co (WO.consQ (OP.mv rfl (WO.consQ (OP.mv rfl (WO.consQ (OP.nilP rfl (WO.consQ (OP.fieldAddr0 rfl (WO.consQ (OP.idxArrZ rfl rfl (by decide) (by simp only [Int.reduceToNat, Nat.mul_one, Nat.zero_add, Nat.reduceMul, Nat.reduceAdd]; rfl) ?_))))))))))))
      (refine WO.consQ ?_)
      refine OP.load rfl (H.pfx hL.pfx).cell rfl ?_
      (refine WO.consQ (OP.mv rfl (WO.consQ (OP.idxArrZ rfl rfl (by decide) (by simp only [Int.reduceToNat, Nat.mul_one, Nat.zero_add, Nat.reduceMul, Nat.reduceAdd]; rfl) ?_))); refine WO.consQ (OL.load1 (k := 0) hL rfl rfl rfl (Wc (OP.idxS (Sl.pfx (by assumption) (Loc.pfx hL)) rfl rfl (by omega) ?_))); refine Wm rfl (Wn ?_); dsimp only [zn, zr, zx, yn, yr]; refine WC.ret ?_)
      exact Fin.ret rfl ⟨hL.pfx, (if_neg hq).symm⟩
theorem s_lBound {g0 : Nat} (hX : X f = none) (hF : F f = some (rf_lBound g0)) (c0' : S_lNext X F g0) : S_lBound X F f := by
  intro lim h hb mb ob a0 a1 a2 a3 C p H hp
  have hL := Loc.start h
  refine Ret.body hX hF rfl ?_
  simp only [argL, rf_lBound, pV]
  (refine Cs (Co (Wc ?_)); refine OL.boxA hL rfl rfl (fun b h' hL => (Wm rfl (Wm rfl (Wn ?_)))); dsimp only [zn, zr, zx, yn, yr]; refine Cs (Co (Wm rfl (Wn ?_))); dsimp only [zn, zr, zx, yn, yr]; refine Cs (Cs (Co (Wm rfl (Wn ?_)))); dsimp only [zn, zr, zx, yn, yr]; refine WC.block ?_)
  refine WC.loop (fun q : Nat × AH => q.1 ≤ 4 ∧ Loc h q.2 [bx b [.int .i64 (p.p0 : Int), .int .i64 (p.p1 : Int), .int .i64 (p.p2 : Int), .int .i64 (p.p3 : Int)]]) (fun q => [(0, .pointer (some ⟨hb, 0, none⟩)), (3, .pointer (some ⟨b, 0, none⟩)), (6, .int .i64 (bndN C p q.1)), (9, .int .i64 (q.1 : Int))]) (fun q => q.2) (fun q => 4 - q.1) ?_ (0, _) ⟨Nat.zero_le _, hL⟩ (by (refine Sub.cons rfl (Sub.cons rfl (Sub.cons rfl (Sub.cons rfl ?_))); exact Sub.nil _)) rfl
  clear hL
  intro ⟨i, h2⟩ ⟨hi, hL⟩
  simp only at hi hL ⊢
  by_cases h4 : i < 4
  · obtain rfl | rfl | rfl | rfl : i = 0 ∨ i = 1 ∨ i = 2 ∨ i = 3 := by omega
    · rcases H.next hp (t := 0) (by decide) with ⟨hn, hv⟩ | ⟨c, bb, o, cs, hn, hv, hbb, hl⟩
      · have c5 : ∀ lim h', Pfx h h' → Ret X F lim g0 [.pointer (some ⟨hb, 0, none⟩), .agg #[.int .i64 (p.p0 : Int), .int .i64 (p.p1 : Int), .int .i64 (p.p2 : Int), .int .i64 (p.p3 : Int)], .int .i64 0] h' fun v h'' => Pfx h' h'' ∧ v = .pointer none := fun lim h' hp' => hv ▸ c0' lim h' (t := 0) (H.pfx hp') hp (by decide)
        have e1 : bndN C p 1 = bndN C p 0 := by show stepB (bndN C p 0) (nextC C p 0) = _; rw [hn]; rfl
        (refine Cs (Co (Wc (OP.lssT rfl rfl (by omega) ?_))); refine Wn ?_; dsimp only [zn, zr, zx, yn, yr]; refine Cs (WC.condT rfl (WC.skip ?_)); dsimp only [zn, zr, zx, yn, yr]; refine Cs (WC.block (Cs (Co (Wm rfl (Wm rfl (Wn ?_)))))); dsimp only [zn, zr, zx, yn, yr]; refine Cs (Co (Wm rfl (Wc (OL.loadAll (k := 0) hL rfl rfl rfl (Wm rfl (Wc ?_)))))); refine OL.callV hL rfl rfl (c5 _ _ hL.pfx) (fun h' hp hL => (Wm rfl (Wn ?_))); dsimp only [zn, zr, zx, yn, yr]; refine Cs (Co (Wm rfl (Wc (OP.isNilNT rfl rfl (Wm rfl (WO.no rfl (WO.no rfl (WO.no rfl (WO.no rfl (WO.no rfl (Wc (OP.pickF rfl rfl (Wn ?_))))))))))))); dsimp only [zn, zr, zx, yn, yr]; refine WC.condF rfl (WC.skip ?_); dsimp only [zn, zr, zx, yn, yr]; refine Co (Wc (OP.add rfl rfl (by omega) ?_)); refine Wm rfl (Wn ?_); dsimp only [zn, zr, zx, yn, yr])
        exact ⟨(1, _), ⟨by simp only; omega, hL⟩, by rw [e1]; (refine Sub.cons rfl (Sub.cons rfl (Sub.cons rfl (Sub.cons rfl ?_))); exact Sub.nil _), rfl, by simp only; omega⟩
      · have c5 : ∀ lim h', Pfx h h' → Ret X F lim g0 [.pointer (some ⟨hb, 0, none⟩), .agg #[.int .i64 (p.p0 : Int), .int .i64 (p.p1 : Int), .int .i64 (p.p2 : Int), .int .i64 (p.p3 : Int)], .int .i64 0] h' fun v h'' => Pfx h' h'' ∧ v = .pointer (some ⟨bb, o, none⟩) := fun lim h' hp' => hv ▸ c0' lim h' (t := 0) (H.pfx hp') hp (by decide)
        have e1 : bndN C p 1 = if c.t > 0 then (if c.t < bndN C p 0 then c.t else bndN C p 0) else bndN C p 0 := by show stepB (bndN C p 0) (nextC C p 0) = _; rw [hn]; rfl
        (refine Cs (Co (Wc (OP.lssT rfl rfl (by omega) ?_))); refine Wn ?_; dsimp only [zn, zr, zx, yn, yr]; refine Cs (WC.condT rfl (WC.skip ?_)); dsimp only [zn, zr, zx, yn, yr]; refine Cs (WC.block (Cs (Co (Wm rfl (Wm rfl (Wn ?_)))))); dsimp only [zn, zr, zx, yn, yr]; refine Cs (Co (Wm rfl (Wc (OL.loadAll (k := 0) hL rfl rfl rfl (Wm rfl (Wc ?_)))))); refine OL.callV hL rfl rfl (c5 _ _ hL.pfx) (fun h' hp hL => (Wm rfl (Wn ?_))); dsimp only [zn, zr, zx, yn, yr]; refine Cs (Co (Wm rfl (Wc (OP.isNilNF rfl rfl (Wm rfl (WO.yes rfl (Wm rfl (WO.yes rfl (Wc (OP.nilP rfl (WO.yes rfl (Wc (OP.fieldAddr rfl (WO.yes rfl ?_)))))))))))))))
        (refine Wc ?_)
        refine OP.load rfl ((hL.pfx.2 _ (List.getElem?_eq_some_iff.1 hbb).1).trans hbb) (hl 4 _ rfl) ?_
        by_cases hct : c.t > 0
        · rw [if_pos hct] at e1
          (refine WO.yes rfl (Wc (OP.gtrT rfl rfl (by omega) ?_)); refine Wc (OP.pickT rfl rfl (Wn ?_)); dsimp only [zn, zr, zx, yn, yr]; refine WC.condT rfl (Co (Wm rfl (Wm rfl (Wc (OP.nilP rfl (Wc (OP.fieldAddr rfl ?_))))))))
          (refine Wc ?_)
          refine OP.load rfl ((hL.pfx.2 _ (List.getElem?_eq_some_iff.1 hbb).1).trans hbb) (hl 4 _ rfl) ?_
          (refine Wc ?_; refine OP.minC rfl rfl (fun m hm => (Wm rfl (Wn ?_))); dsimp only [zn, zr, zx, yn, yr]; refine Co (Wc (OP.add rfl rfl (by omega) ?_)); refine Wm rfl (Wn ?_); dsimp only [zn, zr, zx, yn, yr])
          have e2 : bndN C p 1 = m := by rw [e1]; split <;> omega
          exact ⟨(1, _), ⟨by simp only; omega, hL⟩, by rw [e2]; (refine Sub.cons rfl (Sub.cons rfl (Sub.cons rfl (Sub.cons rfl ?_))); exact Sub.nil _), rfl, by simp only; omega⟩
        · rw [if_neg hct] at e1
          (refine WO.yes rfl (Wc (OP.gtrF rfl rfl (by omega) ?_)); refine Wc (OP.pickT rfl rfl (Wn ?_)); dsimp only [zn, zr, zx, yn, yr]; refine WC.condF rfl (WC.skip ?_); dsimp only [zn, zr, zx, yn, yr]; refine Co (Wc (OP.add rfl rfl (by omega) ?_)); refine Wm rfl (Wn ?_); dsimp only [zn, zr, zx, yn, yr])
          exact ⟨(1, _), ⟨by simp only; omega, hL⟩, by rw [e1]; (refine Sub.cons rfl (Sub.cons rfl (Sub.cons rfl (Sub.cons rfl ?_))); exact Sub.nil _), rfl, by simp only; omega⟩
    · rcases H.next hp (t := 1) (by decide) with ⟨hn, hv⟩ | ⟨c, bb, o, cs, hn, hv, hbb, hl⟩
      · have c5 : ∀ lim h', Pfx h h' → Ret X F lim g0 [.pointer (some ⟨hb, 0, none⟩), .agg #[.int .i64 (p.p0 : Int), .int .i64 (p.p1 : Int), .int .i64 (p.p2 : Int), .int .i64 (p.p3 : Int)], .int .i64 1] h' fun v h'' => Pfx h' h'' ∧ v = .pointer none := fun lim h' hp' => hv ▸ c0' lim h' (t := 1) (H.pfx hp') hp (by decide)
        have e1 : bndN C p 2 = bndN C p 1 := by show stepB (bndN C p 1) (nextC C p 1) = _; rw [hn]; rfl
        (refine Cs (Co (Wc (OP.lssT rfl rfl (by omega) ?_))); refine Wn ?_; dsimp only [zn, zr, zx, yn, yr]; refine Cs (WC.condT rfl (WC.skip ?_)); dsimp only [zn, zr, zx, yn, yr]; refine Cs (WC.block (Cs (Co (Wm rfl (Wm rfl (Wn ?_)))))); dsimp only [zn, zr, zx, yn, yr]; refine Cs (Co (Wm rfl (Wc (OL.loadAll (k := 0) hL rfl rfl rfl (Wm rfl (Wc ?_)))))); refine OL.callV hL rfl rfl (c5 _ _ hL.pfx) (fun h' hp hL => (Wm rfl (Wn ?_))); dsimp only [zn, zr, zx, yn, yr]; refine Cs (Co (Wm rfl (Wc (OP.isNilNT rfl rfl (Wm rfl (WO.no rfl (WO.no rfl (WO.no rfl (WO.no rfl (WO.no rfl (Wc (OP.pickF rfl rfl (Wn ?_))))))))))))); dsimp only [zn, zr, zx, yn, yr]; refine WC.condF rfl (WC.skip ?_); dsimp only [zn, zr, zx, yn, yr]; refine Co (Wc (OP.add rfl rfl (by omega) ?_)); refine Wm rfl (Wn ?_); dsimp only [zn, zr, zx, yn, yr])
        exact ⟨(2, _), ⟨by simp only; omega, hL⟩, by rw [e1]; (refine Sub.cons rfl (Sub.cons rfl (Sub.cons rfl (Sub.cons rfl ?_))); exact Sub.nil _), rfl, by simp only; omega⟩
      · have c5 : ∀ lim h', Pfx h h' → Ret X F lim g0 [.pointer (some ⟨hb, 0, none⟩), .agg #[.int .i64 (p.p0 : Int), .int .i64 (p.p1 : Int), .int .i64 (p.p2 : Int), .int .i64 (p.p3 : Int)], .int .i64 1] h' fun v h'' => Pfx h' h'' ∧ v = .pointer (some ⟨bb, o, none⟩) := fun lim h' hp' => hv ▸ c0' lim h' (t := 1) (H.pfx hp') hp (by decide)
        have e1 : bndN C p 2 = if c.t > 0 then (if c.t < bndN C p 1 then c.t else bndN C p 1) else bndN C p 1 := by show stepB (bndN C p 1) (nextC C p 1) = _; rw [hn]; rfl
        (refine Cs (Co (Wc (OP.lssT rfl rfl (by omega) ?_))); refine Wn ?_; dsimp only [zn, zr, zx, yn, yr]; refine Cs (WC.condT rfl (WC.skip ?_)); dsimp only [zn, zr, zx, yn, yr]; refine Cs (WC.block (Cs (Co (Wm rfl (Wm rfl (Wn ?_)))))); dsimp only [zn, zr, zx, yn, yr]; refine Cs (Co (Wm rfl (Wc (OL.loadAll (k := 0) hL rfl rfl rfl (Wm rfl (Wc ?_)))))); refine OL.callV hL rfl rfl (c5 _ _ hL.pfx) (fun h' hp hL => (Wm rfl (Wn ?_))); dsimp only [zn, zr, zx, yn, yr]; refine Cs (Co (Wm rfl (Wc (OP.isNilNF rfl rfl (Wm rfl (WO.yes rfl (Wm rfl (WO.yes rfl (Wc (OP.nilP rfl (WO.yes rfl (Wc (OP.fieldAddr rfl (WO.yes rfl ?_)))))))))))))))
        (refine Wc ?_)
        refine OP.load rfl ((hL.pfx.2 _ (List.getElem?_eq_some_iff.1 hbb).1).trans hbb) (hl 4 _ rfl) ?_
        by_cases hct : c.t > 0
        · rw [if_pos hct] at e1
          (refine WO.yes rfl (Wc (OP.gtrT rfl rfl (by omega) ?_)); refine Wc (OP.pickT rfl rfl (Wn ?_)); dsimp only [zn, zr, zx, yn, yr]; refine WC.condT rfl (Co (Wm rfl (Wm rfl (Wc (OP.nilP rfl (Wc (OP.fieldAddr rfl ?_))))))))
          (refine Wc ?_)
          refine OP.load rfl ((hL.pfx.2 _ (List.getElem?_eq_some_iff.1 hbb).1).trans hbb) (hl 4 _ rfl) ?_
          (refine Wc ?_; refine OP.minC rfl rfl (fun m hm => (Wm rfl (Wn ?_))); dsimp only [zn, zr, zx, yn, yr]; refine Co (Wc (OP.add rfl rfl (by omega) ?_)); refine Wm rfl (Wn ?_); dsimp only [zn, zr, zx, yn, yr])
          have e2 : bndN C p 2 = m := by rw [e1]; split <;> omega
          exact ⟨(2, _), ⟨by simp only; omega, hL⟩, by rw [e2]; (refine Sub.cons rfl (Sub.cons rfl (Sub.cons rfl (Sub.cons rfl ?_))); exact Sub.nil _), rfl, by simp only; omega⟩
        · rw [if_neg hct] at e1
          (refine WO.yes rfl (Wc (OP.gtrF rfl rfl (by omega) ?_)); refine Wc (OP.pickT rfl rfl (Wn ?_)); dsimp only [zn, zr, zx, yn, yr]; refine WC.condF rfl (WC.skip ?_); dsimp only [zn, zr, zx, yn, yr]; refine Co (Wc (OP.add rfl rfl (by omega) ?_)); refine Wm rfl (Wn ?_); dsimp only [zn, zr, zx, yn, yr])
          exact ⟨(2, _), ⟨by simp only; omega, hL⟩, by rw [e1]; (refine Sub.cons rfl (Sub.cons rfl (Sub.cons rfl (Sub.cons rfl ?_))); exact Sub.nil _), rfl, by simp only; omega⟩
    · rcases H.next hp (t := 2) (by decide) with ⟨hn, hv⟩ | ⟨c, bb, o, cs, hn, hv, hbb, hl⟩
      · have c5 : ∀ lim h', Pfx h h' → Ret X F lim g0 [.pointer (some ⟨hb, 0, none⟩), .agg #[.int .i64 (p.p0 : Int), .int .i64 (p.p1 : Int), .int .i64 (p.p2 : Int), .int .i64 (p.p3 : Int)], .int .i64 2] h' fun v h'' => Pfx h' h'' ∧ v = .pointer none := fun lim h' hp' => hv ▸ c0' lim h' (t := 2) (H.pfx hp') hp (by decide)
        have e1 : bndN C p 3 = bndN C p 2 := by show stepB (bndN C p 2) (nextC C p 2) = _; rw [hn]; rfl
        (refine Cs (Co (Wc (OP.lssT rfl rfl (by omega) ?_))); refine Wn ?_; dsimp only [zn, zr, zx, yn, yr]; refine Cs (WC.condT rfl (WC.skip ?_)); dsimp only [zn, zr, zx, yn, yr]; refine Cs (WC.block (Cs (Co (Wm rfl (Wm rfl (Wn ?_)))))); dsimp only [zn, zr, zx, yn, yr]; refine Cs (Co (Wm rfl (Wc (OL.loadAll (k := 0) hL rfl rfl rfl (Wm rfl (Wc ?_)))))); refine OL.callV hL rfl rfl (c5 _ _ hL.pfx) (fun h' hp hL => (Wm rfl (Wn ?_))); dsimp only [zn, zr, zx, yn, yr]; refine Cs (Co (Wm rfl (Wc (OP.isNilNT rfl rfl (Wm rfl (WO.no rfl (WO.no rfl (WO.no rfl (WO.no rfl (WO.no rfl (Wc (OP.pickF rfl rfl (Wn ?_))))))))))))); dsimp only [zn, zr, zx, yn, yr]; refine WC.condF rfl (WC.skip ?_); dsimp only [zn, zr, zx, yn, yr]; refine Co (Wc (OP.add rfl rfl (by omega) ?_)); refine Wm rfl (Wn ?_); dsimp only [zn, zr, zx, yn, yr])
        exact ⟨(3, _), ⟨by simp only; omega, hL⟩, by rw [e1]; (refine Sub.cons rfl (Sub.cons rfl (Sub.cons rfl (Sub.cons rfl ?_))); exact Sub.nil _), rfl, by simp only; omega⟩
      · have c5 : ∀ lim h', Pfx h h' → Ret X F lim g0 [.pointer (some ⟨hb, 0, none⟩), .agg #[.int .i64 (p.p0 : Int), .int .i64 (p.p1 : Int), .int .i64 (p.p2 : Int), .int .i64 (p.p3 : Int)], .int .i64 2] h' fun v h'' => Pfx h' h'' ∧ v = .pointer (some ⟨bb, o, none⟩) := fun lim h' hp' => hv ▸ c0' lim h' (t := 2) (H.pfx hp') hp (by decide)
        have e1 : bndN C p 3 = if c.t > 0 then (if c.t < bndN C p 2 then c.t else bndN C p 2) else bndN C p 2 := by show stepB (bndN C p 2) (nextC C p 2) = _; rw [hn]; rfl
        (refine Cs (Co (Wc (OP.lssT rfl rfl (by omega) ?_))); refine Wn ?_; dsimp only [zn, zr, zx, yn, yr]; refine Cs (WC.condT rfl (WC.skip ?_)); dsimp only [zn, zr, zx, yn, yr]; refine Cs (WC.block (Cs (Co (Wm rfl (Wm rfl (Wn ?_)))))); dsimp only [zn, zr, zx, yn, yr]; refine Cs (Co (Wm rfl (Wc (OL.loadAll (k := 0) hL rfl rfl rfl (Wm rfl (Wc ?_)))))); refine OL.callV hL rfl rfl (c5 _ _ hL.pfx) (fun h' hp hL => (Wm rfl (Wn ?_))); dsimp only [zn, zr, zx, yn, yr]; refine Cs (Co (Wm rfl (Wc (OP.isNilNF rfl rfl (Wm rfl (WO.yes rfl (Wm rfl (WO.yes rfl (Wc (OP.nilP rfl (WO.yes rfl (Wc (OP.fieldAddr rfl (WO.yes rfl ?_)))))))))))))))
        (refine Wc ?_)
        refine OP.load rfl ((hL.pfx.2 _ (List.getElem?_eq_some_iff.1 hbb).1).trans hbb) (hl 4 _ rfl) ?_
        by_cases hct : c.t > 0
        · rw [if_pos hct] at e1
          (refine WO.yes rfl (Wc (OP.gtrT rfl rfl (by omega) ?_)); refine Wc (OP.pickT rfl rfl (Wn ?_)); dsimp only [zn, zr, zx, yn, yr]; refine WC.condT rfl (Co (Wm rfl (Wm rfl (Wc (OP.nilP rfl (Wc (OP.fieldAddr rfl ?_))))))))
          (refine Wc ?_)
          refine OP.load rfl ((hL.pfx.2 _ (List.getElem?_eq_some_iff.1 hbb).1).trans hbb) (hl 4 _ rfl) ?_
          (refine Wc ?_; refine OP.minC rfl rfl (fun m hm => (Wm rfl (Wn ?_))); dsimp only [zn, zr, zx, yn, yr]; refine Co (Wc (OP.add rfl rfl (by omega) ?_)); refine Wm rfl (Wn ?_); dsimp only [zn, zr, zx, yn, yr])
          have e2 : bndN C p 3 = m := by rw [e1]; split <;> omega
          exact ⟨(3, _), ⟨by simp only; omega, hL⟩, by rw [e2]; (refine Sub.cons rfl (Sub.cons rfl (Sub.cons rfl (Sub.cons rfl ?_))); exact Sub.nil _), rfl, by simp only; omega⟩
        · rw [if_neg hct] at e1
          (refine WO.yes rfl (Wc (OP.gtrF rfl rfl (by omega) ?_)); refine Wc (OP.pickT rfl rfl (Wn ?_)); dsimp only [zn, zr, zx, yn, yr]; refine WC.condF rfl (WC.skip ?_); dsimp only [zn, zr, zx, yn, yr]; refine Co (Wc (OP.add rfl rfl (by omega) ?_)); refine Wm rfl (Wn ?_); dsimp only [zn, zr, zx, yn, yr])
          exact ⟨(3, _), ⟨by simp only; omega, hL⟩, by rw [e1]; (refine Sub.cons rfl (Sub.cons rfl (Sub.cons rfl (Sub.cons rfl ?_))); exact Sub.nil _), rfl, by simp only; omega⟩
    · rcases H.next hp (t := 3) (by decide) with ⟨hn, hv⟩ | ⟨c, bb, o, cs, hn, hv, hbb, hl⟩
      · have c5 : ∀ lim h', Pfx h h' → Ret X F lim g0 [.pointer (some ⟨hb, 0, none⟩), .agg #[.int .i64 (p.p0 : Int), .int .i64 (p.p1 : Int), .int .i64 (p.p2 : Int), .int .i64 (p.p3 : Int)], .int .i64 3] h' fun v h'' => Pfx h' h'' ∧ v = .pointer none := fun lim h' hp' => hv ▸ c0' lim h' (t := 3) (H.pfx hp') hp (by decide)
        have e1 : bndN C p 4 = bndN C p 3 := by show stepB (bndN C p 3) (nextC C p 3) = _; rw [hn]; rfl
        (refine Cs (Co (Wc (OP.lssT rfl rfl (by omega) ?_))); refine Wn ?_; dsimp only [zn, zr, zx, yn, yr]; refine Cs (WC.condT rfl (WC.skip ?_)); dsimp only [zn, zr, zx, yn, yr]; refine Cs (WC.block (Cs (Co (Wm rfl (Wm rfl (Wn ?_)))))); dsimp only [zn, zr, zx, yn, yr]; refine Cs (Co (Wm rfl (Wc (OL.loadAll (k := 0) hL rfl rfl rfl (Wm rfl (Wc ?_)))))); refine OL.callV hL rfl rfl (c5 _ _ hL.pfx) (fun h' hp hL => (Wm rfl (Wn ?_))); dsimp only [zn, zr, zx, yn, yr]; refine Cs (Co (Wm rfl (Wc (OP.isNilNT rfl rfl (Wm rfl (WO.no rfl (WO.no rfl (WO.no rfl (WO.no rfl (WO.no rfl (Wc (OP.pickF rfl rfl (Wn ?_))))))))))))); dsimp only [zn, zr, zx, yn, yr]; refine WC.condF rfl (WC.skip ?_); dsimp only [zn, zr, zx, yn, yr]; refine Co (Wc (OP.add rfl rfl (by omega) ?_)); refine Wm rfl (Wn ?_); dsimp only [zn, zr, zx, yn, yr])
        exact ⟨(4, _), ⟨by simp only; omega, hL⟩, by rw [e1]; (refine Sub.cons rfl (Sub.cons rfl (Sub.cons rfl (Sub.cons rfl ?_))); exact Sub.nil _), rfl, by simp only; omega⟩
      · have c5 : ∀ lim h', Pfx h h' → Ret X F lim g0 [.pointer (some ⟨hb, 0, none⟩), .agg #[.int .i64 (p.p0 : Int), .int .i64 (p.p1 : Int), .int .i64 (p.p2 : Int), .int .i64 (p.p3 : Int)], .int .i64 3] h' fun v h'' => Pfx h' h'' ∧ v = .pointer (some ⟨bb, o, none⟩) := fun lim h' hp' => hv ▸ c0' lim h' (t := 3) (H.pfx hp') hp (by decide)
        have e1 : bndN C p 4 = if c.t > 0 then (if c.t < bndN C p 3 then c.t else bndN C p 3) else bndN C p 3 := by show stepB (bndN C p 3) (nextC C p 3) = _; rw [hn]; rfl
        (refine Cs (Co (Wc (OP.lssT rfl rfl (by omega) ?_))); refine Wn ?_; dsimp only [zn, zr, zx, yn, yr]; refine Cs (WC.condT rfl (WC.skip ?_)); dsimp only [zn, zr, zx, yn, yr]; refine Cs (WC.block (Cs (Co (Wm rfl (Wm rfl (Wn ?_)))))); dsimp only [zn, zr, zx, yn, yr]; refine Cs (Co (Wm rfl (Wc (OL.loadAll (k := 0) hL rfl rfl rfl (Wm rfl (Wc ?_)))))); refine OL.callV hL rfl rfl (c5 _ _ hL.pfx) (fun h' hp hL => (Wm rfl (Wn ?_))); dsimp only [zn, zr, zx, yn, yr]; refine Cs (Co (Wm rfl (Wc (OP.isNilNF rfl rfl (Wm rfl (WO.yes rfl (Wm rfl (WO.yes rfl (Wc (OP.nilP rfl (WO.yes rfl (Wc (OP.fieldAddr rfl (WO.yes rfl ?_)))))))))))))))
        (refine Wc ?_)
        refine OP.load rfl ((hL.pfx.2 _ (List.getElem?_eq_some_iff.1 hbb).1).trans hbb) (hl 4 _ rfl) ?_
        by_cases hct : c.t > 0
        · rw [if_pos hct] at e1
          (refine WO.yes rfl (Wc (OP.gtrT rfl rfl (by omega) ?_)); refine Wc (OP.pickT rfl rfl (Wn ?_)); dsimp only [zn, zr, zx, yn, yr]; refine WC.condT rfl (Co (Wm rfl (Wm rfl (Wc (OP.nilP rfl (Wc (OP.fieldAddr rfl ?_))))))))
          (refine Wc ?_)
          refine OP.load rfl ((hL.pfx.2 _ (List.getElem?_eq_some_iff.1 hbb).1).trans hbb) (hl 4 _ rfl) ?_
          (refine Wc ?_; refine OP.minC rfl rfl (fun m hm => (Wm rfl (Wn ?_))); dsimp only [zn, zr, zx, yn, yr]; refine Co (Wc (OP.add rfl rfl (by omega) ?_)); refine Wm rfl (Wn ?_); dsimp only [zn, zr, zx, yn, yr])
          have e2 : bndN C p 4 = m := by rw [e1]; split <;> omega
          exact ⟨(4, _), ⟨by simp only; omega, hL⟩, by rw [e2]; (refine Sub.cons rfl (Sub.cons rfl (Sub.cons rfl (Sub.cons rfl ?_))); exact Sub.nil _), rfl, by simp only; omega⟩
        · rw [if_neg hct] at e1
          (refine WO.yes rfl (Wc (OP.gtrF rfl rfl (by omega) ?_)); refine Wc (OP.pickT rfl rfl (Wn ?_)); dsimp only [zn, zr, zx, yn, yr]; refine WC.condF rfl (WC.skip ?_); dsimp only [zn, zr, zx, yn, yr]; refine Co (Wc (OP.add rfl rfl (by omega) ?_)); refine Wm rfl (Wn ?_); dsimp only [zn, zr, zx, yn, yr])
          exact ⟨(4, _), ⟨by simp only; omega, hL⟩, by rw [e1]; (refine Sub.cons rfl (Sub.cons rfl (Sub.cons rfl (Sub.cons rfl ?_))); exact Sub.nil _), rfl, by simp only; omega⟩
  · obtain rfl : i = 4 := by omega
    (refine Cs (Co (Wc (OP.lssF rfl rfl (by omega) ?_))); refine Wn ?_; dsimp only [zn, zr, zx, yn, yr]; refine Cs (WC.condF rfl (WC.exit ?_)); dsimp only [zn, zr, zx, yn, yr]; rw [yx, if_pos rfl]; dsimp only [zn, zr, zx, yn, yr]; refine Cs (Co (Wm rfl (Wm rfl (Wc ?_)))); refine OP.gtrC rfl rfl (fun hc => ?_) (fun hc => ?_); refine Wm rfl (Wm rfl (Wn ?_)); dsimp only [zn, zr, zx, yn, yr]; refine WC.ret ?_)
    · exact Fin.ret rfl ⟨hL.pfx, by rw [decide_eq_true (by assumption)]; rfl⟩
    · (refine Wm rfl (Wm rfl (Wn ?_)); dsimp only [zn, zr, zx, yn, yr]; refine WC.ret ?_)
      exact Fin.ret rfl ⟨hL.pfx, by rw [decide_eq_false (by assumption)]; rfl⟩
end
end
section
structure HOk (C : H4) : Prop where
  op : ∀ t, t < 4 → ∀ c, c ∈ C.get (t : Nat) → OpOk c.c c.r c.a ∧ c.t ≤ 64
  len : C.h0.length ≤ 64 ∧ C.h1.length ≤ 64 ∧ C.h2.length ≤ 64 ∧ C.h3.length ≤ 64
theorem nextC_mem {C : H4} {p : P4} {t : Nat} {c : CallR} (h : nextC C p t = some c) : c ∈ C.get t := List.mem_of_getElem? h
theorem nextC_lt {C : H4} {p : P4} {t : Nat} {c : CallR} (h : nextC C p t = some c) : p.get t < (C.get t).length := (List.getElem?_eq_some_iff.1 h).1
theorem stepB_le {o : Int} {x : Option CallR} : stepB o x ≤ o ∧ ∀ c, x = some c → c.t > 0 → stepB o x ≤ c.t := by
  cases x with
  | none => exact ⟨Int.le_refl _, fun c h => by cases h⟩
  | some c =>
    simp only [stepB]
    refine ⟨by split <;> (try split) <;> omega, fun d hd ht => ?_⟩
    cases hd
    rw [if_pos ht]
    split <;> omega
theorem stepB_or {o : Int} {x : Option CallR} : stepB o x = o ∨ ∃ c, x = some c ∧ c.t > 0 ∧ stepB o x = c.t := by
  cases x with
  | none => exact .inl rfl
  | some c =>
    simp only [stepB]
    by_cases h1 : c.t > 0
    · by_cases h2 : c.t < o
      · exact .inr ⟨c, rfl, h1, by rw [if_pos h1, if_pos h2]⟩
      · exact .inl (by rw [if_pos h1, if_neg h2])
    · exact .inl (by rw [if_neg h1])
theorem bndN_le {C : H4} {p : P4} : ∀ {n t : Nat}, t < n → ∀ c, nextC C p t = some c → c.t > 0 → bndN C p n ≤ c.t
  | n + 1, t, h, c, hc, ht => by
    have h1 := stepB_le (o := bndN C p n) (x := nextC C p n)
    by_cases e : t = n
    · subst e; exact h1.2 c hc ht
    · exact Int.le_trans h1.1 (bndN_le (by omega) c hc ht)
theorem bndN_or {C : H4} {p : P4} : ∀ n : Nat, bndN C p n = 65 ∨ ∃ t c, t < n ∧ nextC C p t = some c ∧ c.t > 0 ∧ bndN C p n = c.t
  | 0 => .inl rfl
  | n + 1 => by
    rcases stepB_or (o := bndN C p n) (x := nextC C p n) with h | ⟨c, h1, h2, h3⟩
    · rcases bndN_or (C := C) (p := p) n with g | ⟨t, c, g1, g2, g3, g4⟩
      · exact .inl (h.trans g)
      · exact .inr ⟨t, c, by omega, g2, g3, h.trans g4⟩
    · exact .inr ⟨n, c, by omega, h1, h2, h3⟩
theorem done_iff {C : H4} {p : P4} (H : HOk C) : bndN C p 4 > 64 ↔ doneC C p := by
  constructor
  · intro h t ht d hd hdt
    have := bndN_le (n := 4) ht d hd hdt
    have := (H.op t ht d (nextC_mem hd)).2
    omega
  · intro h
    rcases bndN_or (C := C) (p := p) 4 with g | ⟨t, c, g1, g2, g3, g4⟩
    · omega
    · exact absurd g3 (h t g1 c g2)
theorem may_iff {C : H4} {p : P4} {c : CallR} (hd : ¬ bndN C p 4 > 64) : c.f ≤ bndN C p 4 ↔ mayC C p c := by
  constructor
  · intro h t ht d hn hdt
    have := bndN_le (n := 4) ht d hn hdt
    omega
  · intro h
    rcases bndN_or (C := C) (p := p) 4 with g | ⟨t, d, g1, g2, g3, g4⟩
    · omega
    · rw [g4]; exact h t g1 d g2 g3
def Goes (ob : Int) (C : H4) (p : P4) (s : S4) (t : Nat) : Prop := ∃ c, nextC C p t = some c ∧ c.f ≤ bndN C p 4 ∧ (c.t > 0 → (ObjM 600 ob s c.c c.r c.a).2.1 = c.x) ∧ Lin ob C (p.inc t) (ObjM 600 ob s c.c c.r c.a).1
theorem lin_iff {ob : Int} {C : H4} {p : P4} {s : S4} (H : HOk C) (hd : ¬ bndN C p 4 > 64) : Lin ob C p s ↔ ∃ t, t < 4 ∧ Goes ob C p s t := by
  constructor
  · intro h
    cases h with
    | done h => exact absurd ((done_iff H).2 h) hd
    | step t c ht hc hm hx k => exact ⟨t, ht, c, hc, (may_iff hd).2 hm, hx, k⟩
  · rintro ⟨t, ht, c, hc, hf, hx, k⟩
    exact .step t c ht hc ((may_iff hd).1 hf) hx k
def ValidN (ob : Int) (C : H4) (p : P4) (s : S4) : Prop := InP C p ∧ ObMay ob s
def Known (ob : Int) (C : H4) (S : List ByteArray) (n : Nat) : Prop := ∀ q u, ValidN ob C q u → n ≤ q.sum → keyOf q u ∈ S → ¬ Lin ob C q u
def More (ob : Int) (C : H4) (S S' : List ByteArray) (n : Nat) : Prop := ∀ k ∈ S', k ∈ S ∨ ∃ q u, ValidN ob C q u ∧ n ≤ q.sum ∧ k = keyOf q u ∧ ¬ Lin ob C q u
theorem TabRow_ge {xs : List Int} (h : TabRow xs) : ∀ (i : Nat) (hi : i < xs.length), (i : Int) ≤ xs[i]
  | 0, hi => by have := (h 0 hi).1.1; simpa using this
  | i + 1, hi => by
    have h1 := TabRow_ge h i (by omega)
    have h2 := (h (i + 1) hi).2 (by omega)
    simp only [Nat.add_sub_cancel] at h2
    omega
theorem RowMay_small {ob : Int} {xs : List Int} (h : RowMay ob xs) : Small xs ∧ xs.length ≤ 1000 := by
  unfold RowMay at h
  split at h
  · exact ⟨fun x hx => by have := h.2 x hx; omega, by omega⟩
  · split at h
    · refine ⟨fun x hx => ?_, ?_⟩
      · obtain ⟨i, hi, rfl⟩ := List.getElem_of_mem hx
        have := (h i hi).1
        omega
      · rcases Nat.lt_or_ge xs.length 1001 with g | g
        · omega
        · have h1 := TabRow_ge h 1000 (by omega)
          have h2 := (h 1000 (by omega)).1
          omega
    · exact ⟨fun x hx => by have := h.2 x hx; omega, by omega⟩
theorem ObMay_small {ob : Int} {s : S4} (h : ObMay ob s) : SmallS s ∧ s.x0.length ≤ 1000 ∧ s.x1.length ≤ 1000 ∧ s.x2.length ≤ 1000 ∧ s.x3.length ≤ 1000 := by
  obtain ⟨_, h0, h1, h2, h3⟩ := ObMay_rows.1 h
  exact ⟨⟨(RowMay_small h0).1, (RowMay_small h1).1, (RowMay_small h2).1, (RowMay_small h3).1⟩, (RowMay_small h0).2, (RowMay_small h1).2, (RowMay_small h2).2, (RowMay_small h3).2⟩
theorem InP_small {C : H4} {p : P4} (H : HOk C) (h : InP C p) : SmallP p := by
  obtain ⟨h0, h1, h2, h3⟩ := h
  obtain ⟨g0, g1, g2, g3⟩ := H.len
  exact ⟨by omega, by omega, by omega, by omega⟩
theorem key_eq {ob : Int} {C : H4} {p q : P4} {s u : S4} (H : HOk C) (hp : ValidN ob C p s) (hq : ValidN ob C q u) (h : keyOf p s = keyOf q u) : p = q ∧ s = u :=
  keyOf_inj (InP_small H hp.1) (InP_small H hq.1) (ObMay_small hp.2).1 (ObMay_small hq.2).1 h
theorem Known.seen {ob : Int} {C : H4} {S : List ByteArray} {p : P4} {s : S4} (h : Known ob C S p.sum) (hv : ValidN ob C p s) (hk : keyOf p s ∈ S) : ¬ Lin ob C p s := h p s hv (Nat.le_refl _) hk
theorem Known.next {ob : Int} {C : H4} {S S' : List ByteArray} {p : P4} {s : S4} (H : HOk C) (h : Known ob C S p.sum) (hv : ValidN ob C p s) (hm : More ob C (S ++ [keyOf p s]) S' (p.sum + 1)) : Known ob C S' (p.sum + 1) := by
  intro q u hq hn hk
  rcases hm _ hk with h1 | ⟨q', u', hq', _, he, hl⟩
  · rcases List.mem_append.1 h1 with h2 | h2
    · exact h q u hq (by omega) h2
    · obtain ⟨rfl, rfl⟩ := key_eq H hq hv (List.mem_singleton.1 h2)
      omega
  · obtain ⟨rfl, rfl⟩ := key_eq H hq hq' he
    exact hl
theorem More.refl (ob : Int) (C : H4) (S : List ByteArray) (n : Nat) : More ob C S S n := fun k hk => .inl hk
theorem More.trans {ob : Int} {C : H4} {S1 S2 S3 : List ByteArray} {n : Nat} (h : More ob C S1 S2 n) (g : More ob C S2 S3 n) : More ob C S1 S3 n := fun k hk => by
  rcases g k hk with h1 | h1
  · exact h k h1
  · exact .inr h1
theorem More.shut {ob : Int} {C : H4} {S S' : List ByteArray} {p : P4} {s : S4} (hv : ValidN ob C p s) (hm : More ob C (S ++ [keyOf p s]) S' (p.sum + 1)) (hl : ¬ Lin ob C p s) : More ob C S S' p.sum := fun k hk => by
  rcases hm k hk with h1 | ⟨q, u, hq, hn, he, hl'⟩
  · rcases List.mem_append.1 h1 with h2 | h2
    · exact .inl h2
    · exact .inr ⟨p, s, hv, Nat.le_refl _, List.mem_singleton.1 h2, hl⟩
  · exact .inr ⟨q, u, hq, by omega, he, hl'⟩
theorem InP.inc {C : H4} {p : P4} {t : Nat} {c : CallR} (h : InP C p) (ht : t < 4) (hc : nextC C p t = some c) : InP C (p.inc t) := by
  have h1 := nextC_lt hc
  obtain ⟨h0, g1, g2, g3⟩ := h
  obtain rfl | rfl | rfl | rfl : t = 0 ∨ t = 1 ∨ t = 2 ∨ t = 3 := by omega
  · exact ⟨h1, g1, g2, g3⟩
  · exact ⟨h0, h1, g2, g3⟩
  · exact ⟨h0, g1, h1, g3⟩
  · exact ⟨h0, g1, g2, h1⟩
theorem ObjM_next {ob : Int} {C : H4} {p : P4} {s : S4} {t : Nat} {c : CallR} (H : HOk C) (hs : ObMay ob s) (ht : t < 4) (hc : nextC C p t = some c) : ∃ s' x, ObjM 600 ob s c.c c.r c.a = (s', x, 0) ∧ ObMay ob s' := by
  obtain ⟨s', x, h1, h2⟩ := ObjM_fine hs (H.op t ht c (nextC_mem hc)).1
  exact ⟨s', x, h1 600, h2⟩
end
end Go.Proofs.YtalknjppnkpmmaaDoorW.Ai
