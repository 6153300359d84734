/-
 The small machine: more rounds change no answer; rules by which one walks through its code. Of no program.
-/
import Derived.Test.YtalknjppnkpmmaaDoorMc
set_option linter.unusedVariables false
set_option linter.unusedSimpArgs false
namespace Go.Proofs.YtalknjppnkpmmaaDoorW.Ai
section
/-! ### more rounds -/
def CLe (c d : Callee) : Prop := ∀ lim f args h x, c lim f args h = some x → d lim f args h = some x
theorem aop_mono {c d : Callee} (hc : CLe c d) {lim : Nat} {e : Env} {h : AH} {p : ROp} {x : Value × AH} (ha : aop c lim e h p = some x) : aop d lim e h p = some x := by
 cases p <;> first | exact ha | skip
 simp only [aop] at ha ⊢
 split at ha
 ·exact hc _ _ _ _ _ ha
 ·cases ha
theorem aops_mono {c d : Callee} (hc : CLe c d) {lim : Nat} : ∀ {l : List RO} {e : Env} {h : AH} {x : Env × AH}, aops c lim l e h = some x → aops d lim l e h = some x
 | [], e, h, x, ha => ha
 | o :: l, e, h, x, ha => by
  simp only [aops] at ha ⊢
  split at ha
  ·rename_i hw
   rw [if_pos hw]
   obtain ⟨r, h1, h2⟩ := Option.bind_eq_some_iff.1 ha
   obtain ⟨h3, h4⟩ := aopc_inv h1
   refine Option.bind_eq_some_iff.2 ⟨r, ?_, aops_mono hc h2⟩
   unfold aopc
   rw [if_pos h3]
   exact aop_mono hc h4
  ·rename_i hw
   rw [if_neg hw]
   exact aops_mono hc ha
theorem aloop_mono {b d : Env → AH → Out} (hb : ∀ e h x, b e h = some x → d e h = some x) : ∀ {n m : Nat}, n ≤ m → ∀ {e : Env} {h : AH} {x}, aloop b n e h = some x → aloop d m e h = some x
 | 0, m, _, e, h, x, ha => by simp [aloop] at ha
 | n + 1, 0, hm, _, _, _, _ => by omega
 | n + 1, m + 1, hm, e, h, x, ha => by
  simp only [aloop] at ha ⊢
  obtain ⟨r, h1, h2⟩ := Option.bind_eq_some_iff.1 ha
  refine Option.bind_eq_some_iff.2 ⟨r, hb _ _ _ h1, ?_⟩
  split at h2
  ·exact aloop_mono hb (by omega) h2
  ·exact h2
theorem acode_mono {c d : Callee} (hc : CLe c d) {n m : Nat} (hn : n ≤ m) {lim : Nat} : ∀ {rc : RC} {e : Env} {h : AH} {x}, acode c n lim rc e h = some x → acode d m lim rc e h = some x
 | .skip, e, h, x, ha => ha
 | .ops l, e, h, x, ha => by
  simp only [acode] at ha ⊢
  obtain ⟨r, h1, h2⟩ := Option.map_eq_some_iff.1 ha
  exact Option.map_eq_some_iff.2 ⟨r, aops_mono hc h1, h2⟩
 | .seq a b, e, h, x, ha => by
  simp only [acode] at ha ⊢
  obtain ⟨r, h1, h2⟩ := Option.bind_eq_some_iff.1 ha
  refine Option.bind_eq_some_iff.2 ⟨r, acode_mono hc hn h1, ?_⟩
  split at h2
  ·exact acode_mono hc hn h2
  ·exact h2
 | .cond c' a b, e, h, x, ha => by
  simp only [acode] at ha ⊢
  split at ha
  ·rename_i t ht
   cases t with
   | true => simp only [if_true] at ha ⊢; exact acode_mono hc hn ha
   | false => simp only [Bool.false_eq_true, if_false] at ha ⊢; exact acode_mono hc hn ha
  ·cases ha
 | .block id a, e, h, x, ha => by
  simp only [acode] at ha ⊢
  obtain ⟨r, h1, h2⟩ := Option.map_eq_some_iff.1 ha
  exact Option.map_eq_some_iff.2 ⟨r, acode_mono hc hn h1, h2⟩
 | .loop a, e, h, x, ha => by
  simp only [acode] at ha ⊢
  exact aloop_mono (fun e h x hx => acode_mono hc hn hx) hn ha
 | .exit id, e, h, x, ha => ha
 | .ret, e, h, x, ha => ha
 | .fail, e, h, x, ha => ha
section
variable {X : Ext} {F : FuncId → Option RFunc}
theorem acall_step : ∀ k, CLe (acall X F k) (acall X F (k + 1))
 | 0, lim, f, args, h, x, ha => by simp [acall] at ha
 | k + 1, lim, f, args, h, x, ha => by
  simp only [acall] at ha ⊢
  cases hg : X f with
  | some g => rw [hg] at ha; exact ha
  | none =>
   rw [hg] at ha
   cases hf : F f with
   | none => rw [hf] at ha; cases ha
   | some rf =>
    rw [hf] at ha
    simp only at ha ⊢
    split at ha
    ·rename_i hl
     rw [if_pos hl]
     obtain ⟨r, h1, h2⟩ := Option.bind_eq_some_iff.1 ha
     exact Option.bind_eq_some_iff.2 ⟨r, acode_mono (acall_step k) (by omega) h1, h2⟩
    ·cases ha
theorem acall_mono {k m : Nat} (hkm : k ≤ m) : CLe (acall X F k) (acall X F m) := by
 induction hkm with
 | refl => exact fun _ _ _ _ _ h => h
 | step _ ih => exact fun lim f args h x hx => acall_step _ _ _ _ _ _ (ih _ _ _ _ _ hx)
/-! ### what the temporaries hold -/
abbrev Al := List (Nat × Value)
def look : Al → Nat → Option Value
 | [], _ => none
 | (s, v) :: l, t => bif Nat.beq s t then some v else look l t
def lev (L : Al) : Operand → Option Value
 | .tmp t => look L t
 | .const v => some v
 | .func f => some (.func (.func f) #[] #[])
 | .global _ => none
def Agr (e : Env) (L : Al) : Prop := ∀ t v, look L t = some v → e t = v
theorem Agr.nil (e : Env) : Agr e [] := fun t v h => by simp [look] at h
theorem Agr.cons {e : Env} {L : Al} {t : Nat} {v : Value} (h : Agr e L) (hv : e t = v) : Agr e ((t, v) :: L) := fun s u hs => by
 simp only [look] at hs
 cases hb : Nat.beq t s with
 | true => rw [hb] at hs; simp only [cond_true, Option.some.injEq] at hs; rw [← Nat.eq_of_beq_eq_true hb, hv, hs]
 | false => rw [hb] at hs; exact h s u hs
theorem Agr.upd {e : Env} {L : Al} (h : Agr e L) (t : Nat) (v : Value) : Agr (Ai.upd e (some t) v) ((t, v) :: L) := fun s u hs => by
 simp only [look] at hs
 simp only [Ai.upd, Option.some.injEq]
 cases hb : Nat.beq t s with
 | true => rw [hb] at hs; simp only [cond_true, Option.some.injEq] at hs; rw [if_pos (Nat.eq_of_beq_eq_true hb).symm, hs]
 | false => rw [hb] at hs; rw [if_neg (fun hx => by rw [hx, Nat.beq_refl] at hb; cases hb)]; exact h s u hs
theorem Agr.ev {e : Env} {L : Al} (h : Agr e L) {x : Operand} {v : Value} (hx : lev L x = some v) : Ai.ev e x = v := by
 cases x with
 | tmp t => exact h t v hx
 | const u => simp only [lev, Option.some.injEq] at hx; exact hx
 | func f => simp only [lev, Option.some.injEq] at hx; exact hx
 | global g => simp [lev] at hx
def Sub (L M : Al) : Prop := ∀ t v, look L t = some v → look M t = some v
theorem Sub.nil (M : Al) : Sub [] M := fun t v h => by simp [look] at h
theorem Sub.cons {L M : Al} {t : Nat} {v : Value} (hv : look M t = some v) (h : Sub L M) : Sub ((t, v) :: L) M := fun s u hs => by
 simp only [look] at hs
 cases hb : Nat.beq t s with
 | true => rw [hb] at hs; simp only [cond_true, Option.some.injEq] at hs; rw [← Nat.eq_of_beq_eq_true hb, hv, hs]
 | false => rw [hb] at hs; exact h s u hs
theorem Agr.sub {e : Env} {L M : Al} (h : Agr e M) (hs : Sub L M) : Agr e L := fun t v hv => h t v (hs t v hv)
/-! ### the rules -/
def Ret (X : Ext) (F : FuncId → Option RFunc) (lim : Nat) (f : FuncId) (args : List Value) (h : AH) (Q : Value → AH → Prop) : Prop := ∃ k v h', acall X F k lim f args h = some (v, h') ∧ Q v h'
def OP (X : Ext) (F : FuncId → Option RFunc) (lim : Nat) (p : ROp) (L : Al) (h : AH) (K : Value → AH → Prop) : Prop := ∀ e, Agr e L → ∃ k v h', aop (acall X F k) lim e h p = some (v, h') ∧ K v h'
def WO (X : Ext) (F : FuncId → Option RFunc) (lim : Nat) (l : List RO) (L : Al) (h : AH) (Q : Al → AH → Prop) : Prop := ∀ e, Agr e L → ∃ k e' h' L', aops (acall X F k) lim l e h = some (e', h') ∧ Agr e' L' ∧ Q L' h'
def WC (X : Ext) (F : FuncId → Option RFunc) (lim : Nat) (c : RC) (L : Al) (h : AH) (Q : XT → Al → AH → Prop) : Prop := ∀ e, Agr e L → ∃ k x e' h' L', acode (acall X F k) k lim c e h = some (x, e', h') ∧ Agr e' L' ∧ Q x L' h'
variable {lim : Nat} {L : Al} {h : AH} {K : Value → AH → Prop} {Q : Al → AH → Prop} {R : XT → Al → AH → Prop}
theorem Ret.mono {f : FuncId} {args : List Value} {K' : Value → AH → Prop} (hr : Ret X F lim f args h K) (hk : ∀ v h', K v h' → K' v h') : Ret X F lim f args h K' := let ⟨k, v, h', h1, h2⟩ := hr; ⟨k, v, h', h1, hk v h' h2⟩
theorem Wn (hq : Q L h) : WO X F lim [] L h Q := fun e he => ⟨0, e, h, L, rfl, he, hq⟩
theorem wo_run {o : RO} {l : List RO} {e : Env} {k : Nat} {v : Value} {h' : AH} {L' : Al} (hav : o.av.all (apart e o.op) = true) (hw : wanted e o = true) (ha : aop (acall X F k) (if o.q then h.length else lim) e h o.op = some (v, h')) (he : Agr (upd e o.dst v) L') (W : WO X F lim l L' h' Q) : ∃ k e' h' L', aops (acall X F k) lim (o :: l) e h = some (e', h') ∧ Agr e' L' ∧ Q L' h' := by
 obtain ⟨k2, e2, h2, L2, h3, h4, h5⟩ := W _ he
 refine ⟨max k k2, e2, h2, L2, ?_, h4, h5⟩
 simp only [aops]
 rw [if_pos hw]
 refine Option.bind_eq_some_iff.2 ⟨(v, h'), ?_, aops_mono (acall_mono (Nat.le_max_right _ _)) h3⟩
 unfold aopc
 rw [if_pos hav]
 exact aop_mono (acall_mono (Nat.le_max_left _ _)) ha
theorem agr_dst {e : Env} (he : Agr e L) (d : Option Nat) (v : Value) : Agr (upd e d v) (match d with | none => L | some t => (t, v) :: L) := by
 cases d with
 | none => intro t u hu; simpa [upd] using he t u hu
 | some t => exact he.upd t v
theorem Wc {l : List RO} {d : Nat} {p : ROp} (W : OP X F lim p L h fun v h' => WO X F lim l ((d, v) :: L) h' Q) : WO X F lim (⟨some d, p, none, false, []⟩ :: l) L h Q := fun e he => by
 obtain ⟨k, v, h', h1, h2⟩ := W e he
 exact wo_run rfl rfl h1 (he.upd d v) h2
theorem WO.consQ {l : List RO} {d : Nat} {p : ROp} (W : OP X F h.length p L h fun v h' => WO X F lim l ((d, v) :: L) h' Q) : WO X F lim (⟨some d, p, none, true, []⟩ :: l) L h Q := fun e he => by
 obtain ⟨k, v, h', h1, h2⟩ := W e he
 exact wo_run rfl rfl h1 (he.upd d v) h2
theorem WO.cons0 {l : List RO} {p : ROp} (W : OP X F lim p L h fun v h' => WO X F lim l L h' Q) : WO X F lim (⟨none, p, none, false, []⟩ :: l) L h Q := fun e he => by
 obtain ⟨k, v, h', h1, h2⟩ := W e he
 exact wo_run rfl rfl h1 (agr_dst he none v) h2
theorem WO.yes {l : List RO} {d : Option Nat} {p : ROp} {t : Nat} {b : Bool} {q : Bool} {av : List Operand} (ht : look L t = some (.bool b)) (W : WO X F lim (⟨d, p, none, q, av⟩ :: l) L h Q) : WO X F lim (⟨d, p, some (t, b), q, av⟩ :: l) L h Q := fun e he => by
 obtain ⟨k, e2, h2, L2, h3, h4, h5⟩ := W e he
 refine ⟨k, e2, h2, L2, ?_, h4, h5⟩
 simp only [aops, wanted, if_true] at h3
 simp only [aops, wanted, he t _ ht, isBool, beq_self_eq_true, if_true]
 exact h3
theorem WO.no {l : List RO} {d : Nat} {p : ROp} {t : Nat} {b : Bool} {q : Bool} {av : List Operand} (ht : look L t = some (.bool (!b))) (W : WO X F lim l ((d, undef) :: L) h Q) : WO X F lim (⟨some d, p, some (t, b), q, av⟩ :: l) L h Q := fun e he => by
 obtain ⟨k, e2, h2, L2, h3, h4, h5⟩ := W _ (he.upd d undef)
 refine ⟨k, e2, h2, L2, ?_, h4, h5⟩
 simp only [aops, wanted, he t _ ht, isBool]
 rw [if_neg (by cases b <;> simp)]
 exact h3
theorem WC.skip (hq : R .normal L h) : WC X F lim .skip L h R := fun e he => ⟨0, .normal, e, h, L, rfl, he, hq⟩
theorem WC.ret (hq : R .ret L h) : WC X F lim .ret L h R := fun e he => ⟨0, .ret, e, h, L, rfl, he, hq⟩
theorem WC.exit {id : Nat} (hq : R (.exit id) L h) : WC X F lim (.exit id) L h R := fun e he => ⟨0, .exit id, e, h, L, rfl, he, hq⟩
theorem Co {l : List RO} (W : WO X F lim l L h (R .normal)) : WC X F lim (.ops l) L h R := fun e he => by
 obtain ⟨k, e2, h2, L2, h3, h4, h5⟩ := W e he
 exact ⟨k, .normal, e2, h2, L2, by simp only [acode, h3, Option.map_some], h4, h5⟩
def thn (S : Al → AH → Prop) (R : XT → Al → AH → Prop) : XT → Al → AH → Prop
 | .normal => S
 | x => R x
def blk (id : Nat) (R : XT → Al → AH → Prop) : XT → Al → AH → Prop
 | .exit i => if i = id then R .normal else R (.exit i)
 | x => R x
@[simp] theorem zn (S : Al → AH → Prop) : thn S R .normal = S := rfl
@[simp] theorem zr (S : Al → AH → Prop) : thn S R .ret = R .ret := rfl
@[simp] theorem zx (S : Al → AH → Prop) (id : Nat) : thn S R (.exit id) = R (.exit id) := rfl
@[simp] theorem yn (id : Nat) : blk id R .normal = R .normal := rfl
@[simp] theorem yr (id : Nat) : blk id R .ret = R .ret := rfl
theorem yx (id i : Nat) : blk id R (.exit i) = if i = id then R .normal else R (.exit i) := rfl
theorem Cs {a b : RC} (W : WC X F lim a L h (thn (fun L' h' => WC X F lim b L' h' R) R)) : WC X F lim (.seq a b) L h R := fun e he => by
 obtain ⟨k, x, e2, h2, L2, h3, h4, h5⟩ := W e he
 cases x with
 | normal =>
  obtain ⟨k', x', e3, h3', L3, g1, g2, g3⟩ := h5 e2 h4
  refine ⟨max k k', x', e3, h3', L3, ?_, g2, g3⟩
  simp only [acode]
  exact Option.bind_eq_some_iff.2 ⟨_, acode_mono (acall_mono (Nat.le_max_left _ _)) (Nat.le_max_left _ _) h3, acode_mono (acall_mono (Nat.le_max_right _ _)) (Nat.le_max_right _ _) g1⟩
 | exit id => exact ⟨k, _, e2, h2, L2, by simp only [acode, h3, Option.bind_some], h4, h5⟩
 | ret => exact ⟨k, _, e2, h2, L2, by simp only [acode, h3, Option.bind_some], h4, h5⟩
theorem WC.cond {c : Operand} {a b : RC} {t : Bool} (hc : lev L c = some (.bool t)) (W : if t then WC X F lim a L h R else WC X F lim b L h R) : WC X F lim (.cond c a b) L h R := fun e he => by
 cases t with
 | true =>
  obtain ⟨k, x, e2, h2, L2, h3, h4, h5⟩ := W e he
  exact ⟨k, x, e2, h2, L2, by simp only [acode, he.ev hc, if_true]; exact h3, h4, h5⟩
 | false =>
  obtain ⟨k, x, e2, h2, L2, h3, h4, h5⟩ := W e he
  exact ⟨k, x, e2, h2, L2, by simp only [acode, he.ev hc, Bool.false_eq_true, if_false]; exact h3, h4, h5⟩
theorem WC.condT {c : Operand} {a b : RC} (hc : lev L c = some (.bool true)) (W : WC X F lim a L h R) : WC X F lim (.cond c a b) L h R := .cond hc (by rw [if_pos rfl]; exact W)
theorem WC.condF {c : Operand} {a b : RC} (hc : lev L c = some (.bool false)) (W : WC X F lim b L h R) : WC X F lim (.cond c a b) L h R := .cond hc (by rw [if_neg (by simp)]; exact W)
theorem WC.block {id : Nat} {a : RC} (W : WC X F lim a L h (blk id R)) : WC X F lim (.block id a) L h R := fun e he => by
 obtain ⟨k, x, e2, h2, L2, h3, h4, h5⟩ := W e he
 cases x with
 | normal => exact ⟨k, .normal, e2, h2, L2, by simp only [acode, h3, Option.map_some], h4, h5⟩
 | ret => exact ⟨k, .ret, e2, h2, L2, by simp only [acode, h3, Option.map_some], h4, h5⟩
 | exit i =>
  rw [yx] at h5
  by_cases hi : i = id
  ·rw [if_pos hi] at h5
   exact ⟨k, .normal, e2, h2, L2, by simp only [acode, h3, Option.map_some, if_pos hi], h4, h5⟩
  ·rw [if_neg hi] at h5
   exact ⟨k, .exit i, e2, h2, L2, by simp only [acode, h3, Option.map_some, if_neg hi], h4, h5⟩
theorem WC.sub {c : RC} {L' : Al} (hs : Sub L' L) (W : WC X F lim c L' h R) : WC X F lim c L h R := fun e he => W e (he.sub hs)
theorem WC.mono {c : RC} {R' : XT → Al → AH → Prop} (W : WC X F lim c L h R') (hq : ∀ x L' h', R' x L' h' → R x L' h') : WC X F lim c L h R := fun e he => by
 obtain ⟨k, x, e2, h2, L2, h3, h4, h5⟩ := W e he
 exact ⟨k, x, e2, h2, L2, h3, h4, hq _ _ _ h5⟩
theorem WC.loop {α : Type} (I : α → Prop) (Lf : α → Al) (Hf : α → AH) (μ : α → Nat) {body : RC}
  (step : ∀ a, I a → WC X F lim body (Lf a) (Hf a) (thn (fun L' h' => ∃ a', I a' ∧ Sub (Lf a') L' ∧ Hf a' = h' ∧ μ a' < μ a) R)) (a0 : α) (h0 : I a0) (hL : Sub (Lf a0) L) (hH : Hf a0 = h) : WC X F lim (.loop body) L h R := by
 have key : ∀ (n : Nat) (a : α), μ a < n → I a → ∀ e, Agr e (Lf a) → ∃ k n x e' h' L', aloop (acode (acall X F k) k lim body) n e (Hf a) = some (x, e', h') ∧ Agr e' L' ∧ R x L' h' := by
  intro n
  induction n with
  | zero => intro a hm; omega
  | succ n ih =>
   intro a hm hi e he
   obtain ⟨k, x, e2, h2, L2, h3, h4, h5⟩ := step a hi e he
   cases x with
   | normal =>
    obtain ⟨a', i1, i2, i3, i4⟩ := h5
    obtain ⟨k', m, x', e3, h3', L3, g1, g2, g3⟩ := ih a' (by omega) i1 e2 (h4.sub i2)
    refine ⟨max k k', m + 1, x', e3, h3', L3, ?_, g2, g3⟩
    simp only [aloop]
    refine Option.bind_eq_some_iff.2 ⟨_, acode_mono (acall_mono (Nat.le_max_left _ _)) (Nat.le_max_left _ _) h3, ?_⟩
    simp only
    rw [← i3]
    exact aloop_mono (fun e h x hx => acode_mono (acall_mono (Nat.le_max_right _ _)) (Nat.le_max_right _ _) hx) (Nat.le_refl _) g1
   | exit id => exact ⟨k, 1, _, e2, h2, L2, by simp only [aloop, h3, Option.bind_some], h4, h5⟩
   | ret => exact ⟨k, 1, _, e2, h2, L2, by simp only [aloop, h3, Option.bind_some], h4, h5⟩
 intro e he
 subst hH
 obtain ⟨k, n, x, e', h', L', h1, h2, h3⟩ := key (μ a0 + 1) a0 (by omega) h0 e (he.sub hL)
 refine ⟨max k n, x, e', h', L', ?_, h2, h3⟩
 simp only [acode]
 exact aloop_mono (fun e h x hx => acode_mono (acall_mono (Nat.le_max_left _ _)) (Nat.le_max_left _ _) hx) (Nat.le_max_right _ _) h1
def resL (L : Al) (h : AH) : List RRes → Option (List Value)
 | [] => some []
 | .tmp t :: r => (look L t).bind fun v => (resL L h r).map fun l => v :: l
 | .cell t n :: r => (look L t).bind fun p => (aLoad n h p).bind fun v => (resL L h r).map fun l => v :: l
theorem Agr.results {e : Env} (he : Agr e L) : ∀ {rs : List RRes} {vs : List Value}, resL L h rs = some vs → aresults e h rs = some vs
 | [], vs, hr => hr
 | .tmp t :: r, vs, hr => by
  simp only [resL] at hr
  obtain ⟨v, h1, hr⟩ := Option.bind_eq_some_iff.1 hr
  obtain ⟨l, h2, rfl⟩ := Option.map_eq_some_iff.1 hr
  simp only [aresults, he.results h2, Option.map_some, he t v h1]
 | .cell t n :: r, vs, hr => by
  simp only [resL] at hr
  obtain ⟨p, h1, hr⟩ := Option.bind_eq_some_iff.1 hr
  obtain ⟨v, h2, hr⟩ := Option.bind_eq_some_iff.1 hr
  obtain ⟨l, h3, rfl⟩ := Option.map_eq_some_iff.1 hr
  simp only [aresults, he t p h1, h2, Option.bind_some, he.results h3, Option.map_some]
def Fin (rs : List RRes) (K : Value → AH → Prop) : XT → Al → AH → Prop := fun x L h => (∀ id, x ≠ .exit id) ∧ ∃ vs, resL L h rs = some vs ∧ K (resultOf vs) h
theorem Fin.ret {rs : List RRes} {vs : List Value} (hr : resL L h rs = some vs) (hk : K (resultOf vs) h) : Fin rs K .ret L h := ⟨fun _ h => (by cases h), vs, hr, hk⟩
theorem Fin.normal {rs : List RRes} {vs : List Value} (hr : resL L h rs = some vs) (hk : K (resultOf vs) h) : Fin rs K .normal L h := ⟨fun _ h => (by cases h), vs, hr, hk⟩
def argL : Nat → List Value → Al
 | _, [] => []
 | i, v :: l => (i, v) :: argL (i + 1) l
theorem look_argL : ∀ (l : List Value) (i t : Nat) (v : Value), look (argL i l) t = some v → i ≤ t ∧ l[t - i]? = some v
 | [], i, t, v, h => by simp [argL, look] at h
 | u :: l, i, t, v, h => by
  simp only [argL, look] at h
  cases hb : Nat.beq i t with
  | true =>
   rw [hb] at h
   simp only [cond_true, Option.some.injEq] at h
   have := Nat.eq_of_beq_eq_true hb
   subst this; subst h
   exact ⟨Nat.le_refl _, by simp⟩
  | false =>
   rw [hb] at h
   obtain ⟨h1, h2⟩ := look_argL l (i + 1) t v h
   exact ⟨by omega, by rw [show t - i = (t - (i + 1)) + 1 by omega]; exact h2⟩
theorem Ret.body {f : FuncId} {rf : RFunc} {args : List Value} (hX : X f = none) (hF : F f = some rf) (hl : decide (args.length ≤ rf.ntmps) = true) (W : WC X F lim rf.body (argL 0 args) h (Fin rf.results K)) : Ret X F lim f args h K := by
 obtain ⟨k, x, e2, h2, L2, h3, h4, h5, vs, h6, h7⟩ := W (envOf args) (fun t v hv => by
  obtain ⟨_, h1⟩ := look_argL args 0 t v hv
  unfold envOf
  rw [Nat.sub_zero] at h1
  rw [h1]; rfl)
 refine ⟨k + 1, resultOf vs, h2, ?_, h7⟩
 unfold acall
 simp only [hX, hF, if_pos (of_decide_eq_true hl), h3, Option.bind_some]
 cases x with
 | normal => simp only [h4.results h6, Option.map_some]
 | ret => simp only [h4.results h6, Option.map_some]
 | exit id => exact absurd rfl (h5 id)
end
end
section
/-! ### what one knows of a heap -/
structure Item where
 lo : Nat
 hi : Nat
 P : AH → Prop
 dep : ∀ h h', (∀ b, lo ≤ b → b < hi → h'[b]? = h[b]?) → P h → P h'
def bx (b : Nat) (cs : List Value) : Item := ⟨b, b + 1, fun h => h[b]? = some (.cells cs), fun h h' hh hp => by rw [hh b (Nat.le_refl _) (by omega)]; exact hp⟩
def Sl (sz : Nat) (h : AH) (a : Option Addr) (n c : Nat) (cs : List Value) : Prop := aElems sz h n (.slice a n c) = some cs ∧ n ≤ c ∧ cs.length = n * sz ∧ (a = none → c = 0)
def Within (lo hi : Nat) (sz : Nat) (a : Option Addr) (n : Nat) : Prop := ∀ x, a = some x → 0 < n * sz → lo ≤ x.block ∧ x.block < hi
theorem aElems_at {sz n : Nat} {h h' : AH} {a : Option Addr} {c : Nat} {cs : List Value} (hs : aElems sz h n (.slice a n c) = some cs) (hb : ∀ x, a = some x → 0 < n * sz → x.block < h.length → h'[x.block]? = h[x.block]?) : aElems sz h' n (.slice a n c) = some cs := by
 cases a with
 | none => exact hs
 | some x =>
  obtain ⟨b, o, m⟩ := x
  simp only [aElems] at hs ⊢
  split at hs
  ·rename_i hn
   rw [if_pos hn]
   split at hs
   ·rename_i h0; rw [if_pos h0]; exact hs
   ·rename_i h0
    rw [if_neg h0]
    obtain ⟨ds, h1, h2⟩ := Option.bind_eq_some_iff.1 hs
    refine Option.bind_eq_some_iff.2 ⟨ds, ?_, h2⟩
    unfold cellsOf at h1 ⊢
    have hlt : b < h.length := by
     split at h1
     ·rename_i h3; exact (List.getElem?_eq_some_iff.1 h3).1
     ·cases h1
    rw [hb ⟨b, o, m⟩ rfl (by omega) hlt]
    exact h1
  ·cases hs
theorem Sl.same {sz n c : Nat} {h h' : AH} {a : Option Addr} {cs : List Value} (hs : Sl sz h a n c cs) (hb : ∀ x, a = some x → 0 < n * sz → x.block < h.length → h'[x.block]? = h[x.block]?) : Sl sz h' a n c cs := ⟨aElems_at hs.1 hb, hs.2⟩
theorem Sl.pfx {sz n c : Nat} {h h' : AH} {a : Option Addr} {cs : List Value} (hs : Sl sz h a n c cs) (hp : Pfx h h') : Sl sz h' a n c cs := hs.same fun x _ _ hb => hp.2 _ hb
def sl (lo hi sz : Nat) (a : Option Addr) (n c : Nat) (cs : List Value) : Item := ⟨lo, hi, fun h => Sl sz h a n c cs ∧ Within lo hi sz a n, fun h h' hh hp => ⟨hp.1.same fun x hx h0 _ => hh _ (hp.2 x hx h0).1 (hp.2 x hx h0).2, hp.2⟩⟩
def LocB (h0 h : AH) : Nat → List Item → Prop
 | top, [] => h0.length ≤ top ∧ Pfx h0 h
 | top, i :: l => i.lo ≤ i.hi ∧ i.hi ≤ top ∧ i.P h ∧ LocB h0 h i.lo l
def Loc (h0 h : AH) (l : List Item) : Prop := LocB h0 h h.length l
theorem LocB.up {h0 h : AH} : ∀ {l : List Item} {t u : Nat}, LocB h0 h t l → t ≤ u → LocB h0 h u l
 | [], t, u, h1, h2 => ⟨Nat.le_trans h1.1 h2, h1.2⟩
 | i :: l, t, u, h1, h2 => ⟨h1.1, Nat.le_trans h1.2.1 h2, h1.2.2⟩
theorem LocB.pfx {h0 h : AH} : ∀ {l : List Item} {t : Nat}, LocB h0 h t l → Pfx h0 h ∧ h0.length ≤ t
 | [], t, h1 => ⟨h1.2, h1.1⟩
 | i :: l, t, h1 => ⟨(LocB.pfx h1.2.2.2).1, by have := (LocB.pfx h1.2.2.2).2; have := h1.1; have := h1.2.1; omega⟩
theorem LocB.same {h0 h h' : AH} : ∀ {l : List Item} {t : Nat}, LocB h0 h t l → t ≤ h.length → h.length ≤ h'.length → (∀ b, b < t → h'[b]? = h[b]?) → LocB h0 h' t l
 | [], t, h1, ht, hl, hh => ⟨h1.1, Nat.le_trans h1.2.1 hl, fun b hb => by rw [hh b (by have := h1.1; omega)]; exact h1.2.2 b hb⟩
 | i :: l, t, h1, ht, hl, hh => ⟨h1.1, h1.2.1, i.dep h h' (fun b _ hb => hh b (by have := h1.2.1; omega)) h1.2.2.1, LocB.same h1.2.2.2 (by have := h1.1; have := h1.2.1; omega) hl fun b hb => hh b (by have := h1.1; have := h1.2.1; omega)⟩
theorem LocB.get {h0 h : AH} : ∀ {l : List Item} {t : Nat}, LocB h0 h t l → ∀ {k : Nat} {i : Item}, l[k]? = some i → i.P h ∧ h0.length ≤ i.lo ∧ i.lo ≤ i.hi ∧ i.hi ≤ t
 | [], t, h1, k, i, hk => by simp at hk
 | j :: l, t, h1, 0, i, hk => by simp at hk; subst hk; exact ⟨h1.2.2.1, (LocB.pfx h1.2.2.2).2, h1.1, h1.2.1⟩
 | j :: l, t, h1, k + 1, i, hk => by
  obtain ⟨a, b, c, d⟩ := LocB.get h1.2.2.2 (k := k) (by simpa using hk)
  exact ⟨a, b, c, by have := h1.1; have := h1.2.1; omega⟩
theorem LocB.put {h0 h h' : AH} : ∀ {l : List Item} {t : Nat}, LocB h0 h t l → t ≤ h.length → h.length ≤ h'.length → ∀ {k : Nat} {i i' : Item}, l[k]? = some i → i'.lo = i.lo → i'.hi = i.hi → i'.P h' → (∀ b, b < i.lo ∨ i.hi ≤ b → b < h.length → h'[b]? = h[b]?) → LocB h0 h' t (l.set k i')
 | [], t, h1, ht, hl, k, i, i', hk, _, _, _, _ => by simp at hk
 | j :: l, t, h1, ht, hl, 0, i, i', hk, e1, e2, hp, hh => by
  simp at hk; subst hk
  refine ⟨by rw [e1, e2]; exact h1.1, by rw [e2]; exact h1.2.1, hp, ?_⟩
  rw [e1]
  have := h1.1; have := h1.2.1
  exact LocB.same h1.2.2.2 (by omega) hl fun b hb => hh b (.inl hb) (by omega)
 | j :: l, t, h1, ht, hl, k + 1, i, i', hk, e1, e2, hp, hh => by
  have g := LocB.get h1.2.2.2 (k := k) (by simpa using hk)
  have := h1.1; have := h1.2.1
  exact ⟨h1.1, h1.2.1, j.dep h h' (fun b hb hb2 => hh b (.inr (by omega)) (by omega)) h1.2.2.1, LocB.put h1.2.2.2 (by omega) hl (k := k) (by simpa using hk) e1 e2 hp hh⟩
theorem LocB.erase {h0 h h' : AH} : ∀ {l : List Item} {t : Nat}, LocB h0 h t l → t ≤ h.length → h.length ≤ h'.length → ∀ {k : Nat} {i : Item}, l[k]? = some i → (∀ b, b < i.lo ∨ i.hi ≤ b → h'[b]? = h[b]?) → LocB h0 h' t (l.eraseIdx k)
 | [], t, h1, ht, hl, k, i, hk, _ => by simp at hk
 | j :: l, t, h1, ht, hl, 0, i, hk, hh => by
  simp at hk; subst hk
  have := h1.1; have := h1.2.1
  exact (LocB.same h1.2.2.2 (by omega) hl fun b hb => hh b (.inl hb)).up (by omega)
 | j :: l, t, h1, ht, hl, k + 1, i, hk, hh => by
  have g := LocB.get h1.2.2.2 (k := k) (by simpa using hk)
  have := h1.1; have := h1.2.1
  exact ⟨h1.1, h1.2.1, j.dep h h' (fun b hb hb2 => hh b (.inr (by omega))) h1.2.2.1, LocB.erase h1.2.2.2 (by omega) hl (k := k) (by simpa using hk) hh⟩
section
variable {h0 h h' : AH} {l : List Item}
theorem Loc.start (h : AH) : Loc h h [] := ⟨Nat.le_refl _, Pfx.refl h⟩
theorem Loc.pfx (hl : Loc h0 h l) : Pfx h0 h := (LocB.pfx hl).1
theorem Loc.len (hl : Loc h0 h l) : h0.length ≤ h.length := hl.pfx.1
theorem Loc.grow (hl : Loc h0 h l) (hp : Pfx h h') : Loc h0 h' l := (LocB.same hl (Nat.le_refl _) hp.1 hp.2).up hp.1
theorem Pfx.push (x : Blk) : Pfx h (h ++ [x]) := ⟨by simp, fun b hb => List.getElem?_append_left hb⟩
theorem Loc.new (hl : Loc h0 h l) (cs : List Value) : Loc h0 (h ++ [.cells cs]) (bx h.length cs :: l) :=
 ⟨by simp [bx], by simp [bx], by simp [bx], LocB.same hl (Nat.le_refl _) (by simp) fun b hb => List.getElem?_append_left hb⟩
theorem Loc.add (hl : Loc h0 h l) (hp : Pfx h h') (i : Item) (h1 : i.lo = h.length) (h2 : i.hi = h'.length) (h3 : i.P h') : Loc h0 h' (i :: l) :=
 ⟨by rw [h1, h2]; exact hp.1, by omega, h3, by rw [h1]; exact LocB.same hl (Nat.le_refl _) hp.1 hp.2⟩
theorem Loc.get (hl : Loc h0 h l) {k : Nat} {i : Item} (hk : l[k]? = some i) : i.P h := (LocB.get hl hk).1
theorem Loc.lo (hl : Loc h0 h l) {k : Nat} {i : Item} (hk : l[k]? = some i) : h0.length ≤ i.lo := (LocB.get hl hk).2.1
theorem Loc.put (hl : Loc h0 h l) (hle : h.length ≤ h'.length) {k : Nat} {i : Item} (hk : l[k]? = some i) (i' : Item) (e1 : i'.lo = i.lo) (e2 : i'.hi = i.hi) (hp : i'.P h') (hh : ∀ b, b < i.lo ∨ i.hi ≤ b → b < h.length → h'[b]? = h[b]?) : Loc h0 h' (l.set k i') :=
 (LocB.put hl (Nat.le_refl _) hle hk e1 e2 hp hh).up hle
theorem Loc.cell (hl : Loc h0 h l) {k b : Nat} {cs : List Value} (hk : l[k]? = some (bx b cs)) : h[b]? = some (.cells cs) := hl.get hk
theorem Loc.set (hl : Loc h0 h l) {k b : Nat} {cs : List Value} (hk : l[k]? = some (bx b cs)) (cs' : List Value) : Loc h0 (h.set b (.cells cs')) (l.set k (bx b cs')) := by
 have hc := hl.cell hk
 have hb := (List.getElem?_eq_some_iff.1 hc).1
 refine hl.put (by simp) hk (bx b cs') rfl rfl ?_ fun c hc _ => ?_
 ·show (h.set b (.cells cs'))[b]? = some (.cells cs')
  rw [List.getElem?_set_self hb]
 ·have hne : b ≠ c := by
   simp only [bx] at hc
   omega
  exact List.getElem?_set_ne hne
theorem Loc.own (hl : Loc h0 h l) {k b : Nat} {cs : List Value} (hk : l[k]? = some (bx b cs)) {lim : Nat} (hlim : lim ≤ h0.length) : lim ≤ b := Nat.le_trans hlim (hl.lo hk)
theorem Loc.tail {i : Item} (hl : Loc h0 h (i :: l)) : Loc h0 h l := LocB.up hl.2.2.2 (Nat.le_trans hl.1 hl.2.1)
end
/-! ### the operations -/
section
variable {X : Ext} {F : FuncId → Option RFunc} {lim : Nat} {L : Al} {h : AH} {K : Value → AH → Prop}
theorem OP.of {p : ROp} {v : Value} {h' : AH} (hp : ∀ call e, Agr e L → aop call lim e h p = some (v, h')) (hk : K v h') : OP X F lim p L h K := fun e he => ⟨0, v, h', hp _ e he, hk⟩
theorem OP.mv {x : Operand} {v : Value} (hx : lev L x = some v) (hk : K v h) : OP X F lim (.mv x) L h K := .of (fun c e he => by simp only [aop, he.ev hx]) hk
theorem Wm {l : List RO} {d : Nat} {x : Operand} {v : Value} {Q : Al → AH → Prop} (hx : lev L x = some v) (W : WO X F lim l ((d, v) :: L) h Q) : WO X F lim (⟨some d, .mv x, none, false, []⟩ :: l) L h Q := Wc (OP.mv hx W)
theorem Wt {S : Al → AH → Prop} (hq : S L h) : WO X F lim [] L h (thn S (fun _ _ _ => True) .normal) := Wn hq
theorem Ks {S : Al → AH → Prop} {R : XT → Al → AH → Prop} (hq : S L h) : WC X F lim .skip L h (thn S R) := WC.skip hq
theorem mh {α : Type _} {a : α} {l : List α} : a ∈ a :: l := List.Mem.head _
theorem mt {α : Type _} {a b : α} {l : List α} (h : a ∈ l) : a ∈ b :: l := List.Mem.tail _ h
theorem OP.pickT {c x y : Operand} {v : Value} (hc : lev L c = some (.bool true)) (hx : lev L x = some v) (hk : K v h) : OP X F lim (.pick c x y) L h K := .of (fun _ e he => by simp only [aop, he.ev hc, he.ev hx, if_true]) hk
theorem OP.pickF {c x y : Operand} {v : Value} (hc : lev L c = some (.bool false)) (hy : lev L y = some v) (hk : K v h) : OP X F lim (.pick c x y) L h K := .of (fun _ e he => by simp only [aop, he.ev hc, he.ev hy]; rfl) hk
theorem OP.new {cs : List Value} (hk : K (.pointer (some ⟨h.length, 0, none⟩)) (h ++ [.cells cs])) : OP X F lim (.new cs) L h K := .of (fun _ e he => rfl) hk
theorem OP.box {x : Operand} {v : Value} {cs : List Value} (hx : lev L x = some v) (hv : v.cells.toList = cs) (hok : cs.all cellOk = true) (hk : K (.pointer (some ⟨h.length, 0, none⟩)) (h ++ [.cells cs])) : OP X F lim (.box x) L h K := .of (fun _ e he => by simp only [aop, aBox, he.ev hx, hv, if_pos hok]) hk
theorem OP.load {n : Option Nat} {x : Operand} {b o : Nat} {cs : List Value} {v : Value} (hx : lev L x = some (.pointer (some ⟨b, o, none⟩))) (hc : h[b]? = some (.cells cs)) (hv : loadAt n cs o = some v) (hk : K v h) : OP X F lim (.load n x) L h K :=
 .of (fun _ e he => by simp only [aop, he.ev hx, aLoad, cellsOf, hc, Option.bind_some, hv, Option.map_some]) hk
theorem OP.loadAll {n : Nat} {x : Operand} {b : Nat} {cs : List Value} (hx : lev L x = some (.pointer (some ⟨b, 0, none⟩))) (hc : h[b]? = some (.cells cs)) (hn : cs.length = n) (hk : K (.agg cs.toArray) h) : OP X F lim (.load (some n) x) L h K :=
 .load hx hc (by unfold loadAt; simp [hn, List.take_of_length_le]) hk
theorem OP.loadV {n : Option Nat} {x : Operand} {p v : Value} (hx : lev L x = some p) (hv : aLoad n h p = some v) (hk : K v h) : OP X F lim (.load n x) L h K := .of (fun _ e he => by simp only [aop, he.ev hx, hv, Option.map_some]) hk
theorem OP.store {n : Nat} {x y : Operand} {b o : Nat} {cs vs : List Value} {v : Value} (hx : lev L x = some (.pointer (some ⟨b, o, none⟩))) (hy : lev L y = some v) (hvs : v.cells.toList = vs) (hn : vs.length = n) (hc : h[b]? = some (.cells cs)) (hb : lim ≤ b) (hok : vs.all cellOk = true) (ho : o + n ≤ cs.length) (hpos : 0 < n)
  (hk : K undef (h.set b (.cells (over cs o vs)))) : OP X F lim (.store n x y) L h K := .of (fun _ e he => by
 have h1 : v.cells.size = n := by rw [← hn, ← hvs]; simp
 have h2 : vs ≠ [] := by intro h2; rw [h2] at hn; simp at hn; omega
 simp only [aop, aStore, he.ev hx, he.ev hy, if_pos h1, aWrite, hvs, if_neg h2, if_pos (And.intro hb hok), cellsOf, hc, Option.bind_some, hn, if_pos ho, Option.map_some]) hk
theorem OP.nilP {x : Operand} {a : Addr} (hx : lev L x = some (.pointer (some a))) (hk : K (.pointer (some a)) h) : OP X F lim (.nilCheck x) L h K := .of (fun _ e he => by simp only [aop, he.ev hx]) hk
theorem OP.bin {op : BinOp} {x y : Operand} {a b v : Value} (hx : lev L x = some a) (hy : lev L y = some b) (hv : aBin op a b = some v) (hk : K v h) : OP X F lim (.bin op x y) L h K := .of (fun _ e he => by simp only [aop, he.ev hx, he.ev hy, hv, Option.map_some]) hk
theorem wrap64 {x : Int} (hl : -9223372036854775808 ≤ x) (hu : x ≤ 9223372036854775807) : IntKind.i64.wrap x = x := by
 simp only [IntKind.wrap]
 simp [IntKind.bits, IntKind.signed]
 omega
theorem OP.add {x y : Operand} {a b : Int} (hx : lev L x = some (.int .i64 a)) (hy : lev L y = some (.int .i64 b)) (hr : -9223372036854775808 ≤ a + b ∧ a + b ≤ 9223372036854775807) (hk : K (.int .i64 (a + b)) h) : OP X F lim (.bin .add x y) L h K :=
 .bin hx hy (by simp only [aBin, if_true]; rw [wrap64 hr.1 hr.2]) hk
theorem OP.sub {x y : Operand} {a b : Int} (hx : lev L x = some (.int .i64 a)) (hy : lev L y = some (.int .i64 b)) (hr : -9223372036854775808 ≤ a - b ∧ a - b ≤ 9223372036854775807) (hk : K (.int .i64 (a - b)) h) : OP X F lim (.bin .sub x y) L h K :=
 .bin hx hy (by simp only [aBin, if_true]; rw [wrap64 hr.1 hr.2]) hk
theorem OP.eql {x y : Operand} {k : IntKind} {a b : Int} (hx : lev L x = some (.int k a)) (hy : lev L y = some (.int k b)) (hk : K (.bool (decide (a = b))) h) : OP X F lim (.bin .eql x y) L h K := .bin hx hy (by simp only [aBin, if_true]; rfl) hk
theorem OP.neq {x y : Operand} {k : IntKind} {a b : Int} (hx : lev L x = some (.int k a)) (hy : lev L y = some (.int k b)) (hk : K (.bool (decide (a ≠ b))) h) : OP X F lim (.bin .neq x y) L h K := .bin hx hy (by
 simp only [aBin, if_true, ne_eq, decide_not, Option.some.injEq, Value.bool.injEq]; rfl) hk
theorem OP.eq {neg : Bool} {ks : Option (List Nat)} {x y : Operand} {a b : Value} {t : Bool} (hx : lev L x = some a) (hy : lev L y = some b) (hv : aEq ks a b = some t) (hk : K (.bool (if neg then !t else t)) h) : OP X F lim (.eq neg ks x y) L h K := .of (fun _ e he => by simp only [aop, he.ev hx, he.ev hy, hv, Option.map_some]) hk
theorem OP.isNil {neg : Bool} {k : Nat} {x : Operand} {a : Value} {t : Bool} (hx : lev L x = some a) (hv : aIsNil k a = some t) (hk : K (.bool (if neg then !t else t)) h) : OP X F lim (.isNil neg k x) L h K := .of (fun _ e he => by simp only [aop, he.ev hx, hv, Option.map_some]) hk
theorem OP.not {x : Operand} {t : Bool} (hx : lev L x = some (.bool t)) (hk : K (.bool (!t)) h) : OP X F lim (.un .not x) L h K := .of (fun _ e he => by simp only [aop, he.ev hx, aUn, Option.map_some]) hk
theorem OP.neg {x : Operand} {a : Int} (hx : lev L x = some (.int .i64 a)) (hr : -9223372036854775808 ≤ 0 - a ∧ 0 - a ≤ 9223372036854775807) (hk : K (.int .i64 (0 - a)) h) : OP X F lim (.un .neg x) L h K := .of (fun _ e he => by simp only [aop, he.ev hx, aUn, Option.map_some]; rw [wrap64 hr.1 hr.2]) hk
theorem OP.conv {k k' : IntKind} {x : Operand} {a : Int} (hx : lev L x = some (.int k' a)) (hk : K (.int k (k.wrap a)) h) : OP X F lim (.conv k x) L h K := .of (fun _ e he => by simp only [aop, he.ev hx]) hk
theorem OP.iface {t : TypeId} {x : Operand} {v : Value} (hx : lev L x = some v) (hk : K (.iface t v) h) : OP X F lim (.iface t x) L h K := .of (fun _ e he => by simp only [aop, he.ev hx]) hk
theorem OP.fieldAddr {off : Nat} {x : Operand} {b o : Nat} (hx : lev L x = some (.pointer (some ⟨b, o, none⟩))) (hk : K (.pointer (some ⟨b, o + off, none⟩)) h) : OP X F lim (.fieldAddr off x) L h K := .of (fun _ e he => by simp only [aop, he.ev hx]) hk
theorem OP.field {off : Nat} {n : Option Nat} {x : Operand} {cs : Array Value} {v : Value} (hx : lev L x = some (.agg cs)) (hv : loadAt n cs.toList off = some v) (hk : K v h) : OP X F lim (.field off n x) L h K := .of (fun _ e he => by simp only [aop, he.ev hx, hv, Option.map_some]) hk
theorem OP.idxArrAddr {n sz : Nat} {x i : Operand} {b o j : Nat} {k : IntKind} (hx : lev L x = some (.pointer (some ⟨b, o, none⟩))) (hi : lev L i = some (.int k (j : Int))) (hj : j < n) (hk : K (.pointer (some ⟨b, o + j * sz, none⟩)) h) : OP X F lim (.idxAddrArr n sz x i) L h K :=
 .of (fun _ e he => by simp only [aop, he.ev hx, he.ev hi]; rw [if_pos (by omega)]; simp) hk
def eptr (sz : Nat) (a : Option Addr) (j : Nat) : Value :=
 match a with
 | some x => .pointer (some ⟨x.block, x.off + j * sz, none⟩)
 | none => .pointer none
theorem OP.idx {sz : Nat} {x i : Operand} {a : Option Addr} {n c j : Nat} {k : IntKind} (hx : lev L x = some (.slice a n c)) (hi : lev L i = some (.int k (j : Int))) (hj : j < n) (ha : a = none → c = 0) (hc : n ≤ c) (hk : K (eptr sz a j) h) : OP X F lim (.idxAddr sz x i) L h K :=
 .of (fun _ e he => by
  cases a with
  | none => have := ha rfl; omega
  | some a =>
   obtain ⟨b, o, m⟩ := a
   simp only [aop, he.ev hx, he.ev hi]; rw [if_pos (by omega)]; simp [eptr]) hk
theorem OP.lenS {x : Operand} {a : Option Addr} {n c : Nat} (hx : lev L x = some (.slice a n c)) (hk : K (.int .i64 n) h) : OP X F lim (.len 1 x) L h K := .of (fun _ e he => by simp only [aop, he.ev hx]) hk
theorem OP.lenArr {n : Nat} (hk : K (.int .i64 n) h) : OP X F lim (.lenArr n) L h K := .of (fun _ e he => rfl) hk
def nth : List Value → Nat → Option Value
 | [], _ => none
 | v :: _, 0 => some v
 | _ :: l, n + 1 => nth l n
theorem nth_get : ∀ {l : List Value} {i : Nat} {v : Value}, nth l i = some v → l[i]? = some v
 | [], i, v, h => by cases h
 | u :: l, 0, v, h => by simpa [nth] using h
 | u :: l, i + 1, v, h => by simpa using nth_get (l := l) (i := i) h
theorem OP.extract {x : Operand} {i : Nat} {vs : Array Value} {v : Value} (hx : lev L x = some (.tuple vs)) (hv : nth vs.toList i = some v) (hk : K v h) : OP X F lim (.extract x i) L h K := .of (fun _ e he => by
 have := nth_get hv
 rw [Array.getElem?_toList] at this
 simp only [aop, he.ev hx, this, Option.map_some]) hk
theorem OP.sliceS {sz : Nat} {x : Operand} {lo hi : Option Operand} {b o : Nat} {m : Option Nat} {n c : Nat} {i j : Nat} (hx : lev L x = some (.slice (some ⟨b, o, m⟩) n c)) (hm : m = none ∨ m = some sz) (hlo : match lo with | none => i = 0 | some y => ∃ k, lev L y = some (.int k (i : Int))) (hhi : match hi with | none => j = n | some y => ∃ k, lev L y = some (.int k (j : Int))) (hij : i ≤ j) (hjc : j ≤ c)
  (hk : K (.slice (some ⟨b, o + i * sz, m⟩) (j - i) (c - i)) h) : OP X F lim (.slice sz x lo hi none) L h K := .of (fun _ e he => by
 have h1 : bound (hi.map (Ai.ev e)) n c = some j := by
  cases hi with
  | none => simp only at hhi; subst hhi; rfl
  | some y => obtain ⟨k, hk⟩ := hhi; simp only [Option.map_some, he.ev hk, bound]; rw [if_pos (by omega)]; simp
 have h2 : bound (lo.map (Ai.ev e)) 0 j = some i := by
  cases lo with
  | none => simp only at hlo; subst hlo; rfl
  | some y => obtain ⟨k, hk⟩ := hlo; simp only [Option.map_some, he.ev hk, bound]; rw [if_pos (by omega)]; simp
 simp only [aop, he.ev hx, aSlice, if_pos hm, aCut, Option.map_none, h1, Option.bind_some, h2, Option.map_some]) hk
def levs (L : Al) : List Operand → Option (List Value)
 | [] => some []
 | x :: xs => match lev L x, levs L xs with
  | some v, some vs => some (v :: vs)
  | _, _ => none
theorem Agr.evs {e : Env} (he : Agr e L) : ∀ {xs : List Operand} {vs : List Value}, levs L xs = some vs → xs.map (Ai.ev e) = vs
 | [], vs, hx => by simp only [levs, Option.some.injEq] at hx; subst hx; rfl
 | x :: xs, vs, hx => by
  simp only [levs] at hx
  split at hx
  ·rename_i v us h1 h2
   injection hx with hx; subst hx
   rw [List.map_cons, he.ev h1, he.evs h2]
  ·cases hx
theorem OP.call {f : Operand} {g : FuncId} {xs : List Operand} {vs : List Value} (hf : lev L f = some (.func (.func g) #[] #[])) (ha : levs L xs = some vs) (hr : Ret X F lim g vs h K) : OP X F lim (.call f xs) L h K := fun e he => by
 obtain ⟨k, v, h', h1, h2⟩ := hr
 exact ⟨k, v, h', by simp only [aop, he.ev hf, he.evs ha, List.nil_append, List.append_nil]; exact h1, h2⟩
theorem OP.callC {f : Operand} {g : FuncId} {xs : List Operand} {vs : List Value} {cs : Array Value} (hf : lev L f = some (.func (.func g) #[] cs)) (ha : levs L xs = some vs) (hr : Ret X F lim g (vs ++ cs.toList) h K) : OP X F lim (.call f xs) L h K := fun e he => by
 obtain ⟨k, v, h', h1, h2⟩ := hr
 exact ⟨k, v, h', by simp only [aop, he.ev hf, he.evs ha, List.nil_append]; exact h1, h2⟩
def fillL (L : Al) (cells : List Value) : List (Nat × Nat × Operand) → Option (List Value)
 | [] => some cells
 | (off, size, x) :: rest => match lev L x with
  | some v => if v.cells.size ≠ size ∨ off + size > cells.length then none else fillL L (over cells off v.cells.toList) rest
  | none => none
theorem Agr.fill {e : Env} (he : Agr e L) : ∀ {ps : List (Nat × Nat × Operand)} {z cs : List Value}, fillL L z ps = some cs → aFill e z ps = some cs
 | [], z, cs, hf => hf
 | (off, size, x) :: ps, z, cs, hf => by
  simp only [fillL] at hf
  split at hf
  ·rename_i v hv
   simp only [aFill, he.ev hv]
   split at hf
   ·cases hf
   ·rename_i h1
    rw [if_neg h1]
    exact he.fill hf
  ·cases hf
theorem OP.build {z cs : List Value} {ps : List (Nat × Nat × Operand)} (hf : fillL L z ps = some cs) (hk : K (.agg cs.toArray) h) : OP X F lim (.build z ps) L h K := .of (fun _ e he => by simp only [aop, he.fill hf, Option.map_some]) hk
theorem OP.buildSlice {z cs : List Value} {n : Nat} {ps : List (Nat × Nat × Operand)} (hf : fillL L z ps = some cs) (hok : cs.all cellOk = true) (hk : K (.slice (some ⟨h.length, 0, none⟩) n n) (h ++ [.cells cs])) : OP X F lim (.buildSlice z n ps) L h K :=
 .of (fun _ e he => by simp only [aop, he.fill hf, Option.bind_some, if_pos hok]) hk
theorem OP.minI {x y : Operand} {k : IntKind} {a b : Int} (hx : lev L x = some (.int k a)) (hy : lev L y = some (.int k b)) (hk : K (.int k (if b < a then b else a)) h) : OP X F lim (.minmax false [x, y]) L h K := .of (fun _ e he => by
 simp only [aop, List.map_cons, List.map_nil, he.ev hx, he.ev hy, List.foldlM_cons, List.foldlM_nil, minmax2, Option.bind_eq_bind, Option.bind_some, Option.pure_def, Option.map_some]; rfl) hk
/-! ### slices -/
theorem Sl.none_iff {sz n c : Nat} {a : Option Addr} {cs : List Value} (hs : Sl sz h a n c cs) (hn : 0 < n) : ∃ b o m, a = some ⟨b, o, m⟩ := by
 cases a with
 | none => have := hs.2.2.2 rfl; have := hs.2.1; omega
 | some x => exact ⟨x.block, x.off, x.spot, rfl⟩
theorem Sl.cells {sz n c : Nat} {a : Option Addr} {cs : List Value} (hs : Sl sz h a n c cs) (hz : 0 < sz) (hn : 0 < n) : ∃ b o m ds, a = some ⟨b, o, m⟩ ∧ h[b]? = some (.cells ds) ∧ o + n * sz ≤ ds.length ∧ cs = (ds.drop o).take (n * sz) := by
 obtain ⟨b, o, m, rfl⟩ := hs.none_iff hn
 have h1 := hs.1
 have hpos : 0 < n * sz := Nat.mul_pos hn hz
 simp only [aElems] at h1
 rw [if_pos hs.2.1, if_neg (by omega)] at h1
 obtain ⟨ds, h2, h3⟩ := Option.bind_eq_some_iff.1 h1
 split at h3
 ·rename_i h4
  injection h3 with h3
  unfold cellsOf at h2
  split at h2
  ·rename_i cs' h5
   injection h2 with h2
   subst h2
   exact ⟨b, o, m, cs', rfl, h5, h4, h3.symm⟩
  ·cases h2
 ·cases h3
theorem Sl.load1 {n c j : Nat} {a : Option Addr} {cs : List Value} {v : Value} (hs : Sl 1 h a n c cs) (hj : cs[j]? = some v) : aLoad none h (eptr 1 a j) = some v := by
 have hjn : j < n := by have := hs.2.2.1; have := (List.getElem?_eq_some_iff.1 hj).1; omega
 obtain ⟨b, o, m, ds, rfl, h1, h2, rfl⟩ := hs.cells (by omega) (by omega)
 simp only [eptr, aLoad, cellsOf, h1, Option.bind_some, loadAt]
 rw [List.getElem?_take, if_pos (by omega), List.getElem?_drop] at hj
 rw [Nat.mul_one]; exact hj
theorem Sl.loadF {sz n c j f : Nat} {a : Option Addr} {cs : List Value} {v : Value} (hs : Sl sz h a n c cs) (hf : f < sz) (hj : cs[j * sz + f]? = some v) : ∀ {b o : Nat}, eptr sz a j = .pointer (some ⟨b, o, none⟩) → aLoad none h (.pointer (some ⟨b, o + f, none⟩)) = some v := by
 intro b' o' he
 have hlt := (List.getElem?_eq_some_iff.1 hj).1
 have hn : 0 < n := by
  rcases Nat.eq_zero_or_pos n with h0 | h0
  ·have := hs.2.2.1; rw [h0] at this; omega
  ·exact h0
 obtain ⟨b, o, m, ds, rfl, h1, h2, rfl⟩ := hs.cells (by omega) hn
 simp only [eptr, Value.pointer.injEq, Option.some.injEq, Addr.mk.injEq, and_true] at he
 obtain ⟨rfl, rfl⟩ := he
 simp only [aLoad, cellsOf, h1, Option.bind_some, loadAt]
 have hlen : ((ds.drop o).take (n * sz)).length = n * sz := by simp; omega
 rw [List.getElem?_take, if_pos (by omega), List.getElem?_drop] at hj
 rw [Nat.add_assoc]; exact hj
theorem Sl.loadN {sz n c j : Nat} {a : Option Addr} {cs : List Value} (hs : Sl sz h a n c cs) (hz : 0 < sz) (hj : j < n) : aLoad (some sz) h (eptr sz a j) = some (.agg ((cs.drop (j * sz)).take sz).toArray) := by
 obtain ⟨b, o, m, ds, rfl, h1, h2, rfl⟩ := hs.cells hz (by omega)
 have h3 : (j + 1) * sz ≤ n * sz := Nat.mul_le_mul_right _ hj
 rw [Nat.succ_mul] at h3
 simp only [eptr, aLoad, cellsOf, h1, Option.bind_some, loadAt]
 rw [if_pos (by omega), List.drop_take, List.drop_drop, List.take_take, Nat.min_eq_left (by omega)]
inductive Own (sz : Nat) (h : AH) : Value → Nat → List Value → Prop where
 | nil : Own sz h (.slice none 0 0) 0 []
 | empty (b o : Nat) (m : Option Nat) (hm : m = none ∨ m = some sz) (hl : h[b]? = some (.cells [])) : Own sz h (.slice (some ⟨b, o, m⟩) 0 0) 0 []
 | mk (b n : Nat) (cs : List Value) (hl : h[b]? = some (.cells cs)) (hn : cs.length = n * sz) : Own sz h (.slice (some ⟨b, 0, some sz⟩) n n) n cs
end
end
section
def Ap (lo hi sz : Nat) (h : AH) (a : Option Addr) (n : Nat) (cs : List Value) : Prop :=
 cs.length = n * sz ∧ ((n = 0 ∧ ∀ x, a = some x → x.spot = none) ∨ 0 < n ∧ ∃ b, a = some ⟨b, 0, some sz⟩ ∧ h[b]? = some (.cells cs) ∧ lo ≤ b ∧ b < hi)
def ap (lo hi sz : Nat) (a : Option Addr) (n : Nat) (cs : List Value) : Item := ⟨lo, hi, fun h => Ap lo hi sz h a n cs, fun h h' hh hp => ⟨hp.1, hp.2.imp id fun ⟨h0, b, h1, h2, h3, h4⟩ => ⟨h0, b, h1, by rw [hh b h3 h4]; exact h2, h3, h4⟩⟩⟩
section
variable {h h' : AH} {lo hi sz n : Nat} {a : Option Addr} {cs : List Value}
theorem Ap.sl (hp : Ap lo hi sz h a n cs) : Sl sz h a n n cs ∧ Within lo hi sz a n := by
 obtain ⟨h1, h2⟩ := hp
 rcases h2 with ⟨rfl, h3⟩ | ⟨hnp, b, rfl, h3, h4, h5⟩
 ·have hcs : cs = [] := List.eq_nil_of_length_eq_zero (by simpa using h1)
  subst hcs
  refine ⟨⟨?_, Nat.le_refl _, h1, fun _ => rfl⟩, fun x _ h0 => by simp at h0⟩
  cases a with
  | none => rfl
  | some x => obtain ⟨b, o, m⟩ := x; simp [aElems]
 ·refine ⟨⟨?_, Nat.le_refl _, h1, fun h0 => by cases h0⟩, fun x hx _ => by injection hx with hx; subst hx; exact ⟨h4, h5⟩⟩
  simp only [aElems, Nat.le_refl, if_true]
  split
  ·rename_i h0
   rw [h0] at h1
   rw [List.eq_nil_of_length_eq_zero h1]
  ·simp only [cellsOf, h3, Option.bind_some, List.drop_zero]
   rw [if_pos (by omega), ← h1, List.take_length]
theorem Ap.widen {lo' hi' : Nat} (hp : Ap lo hi sz h a n cs) (h1 : lo' ≤ lo) (h2 : hi ≤ hi') : Ap lo' hi' sz h a n cs := ⟨hp.1, hp.2.imp id fun ⟨g0, b, g1, g2, g3, g4⟩ => ⟨g0, b, g1, g2, by omega, by omega⟩⟩
theorem Ap.nil (lo hi sz : Nat) (h : AH) : Ap lo hi sz h none 0 [] := ⟨by simp, .inl ⟨rfl, fun x hx => by cases hx⟩⟩
theorem Ap.empty (lo hi sz : Nat) (h : AH) (b o : Nat) : Ap lo hi sz h (some ⟨b, o, none⟩) 0 [] := ⟨by simp, .inl ⟨rfl, fun x hx => by injection hx with hx; subst hx; rfl⟩⟩
def Room (k bytes : Nat) : Prop := (k + k / 4 + 768) * bytes ≤ 2 ^ 48 ∧ k < 2 ^ 62 ∧ 0 < bytes
theorem append_some {lim bytes m : Nat} {news : List Value} (hp : Ap lo hi sz h a n cs) (hm : 0 < m) (hb : Room (n + m) bytes) (hok : news.all cellOk = true) (hlim : lim ≤ lo ∨ n = 0) :
  ∃ h2, aAppend lim sz bytes h (.slice a n n) m news = some (.slice (some ⟨h.length, 0, some sz⟩) (n + m) (n + m), h2 ++ [.cells (cs ++ news)]) ∧ h2.length = h.length ∧ (∀ b, (b < lo ∨ hi ≤ b) → h2[b]? = h[b]?) ∧ (n = 0 → h2 = h) := by
 have he := hp.sl.1.1
 obtain ⟨h1, h2⟩ := hp
 simp only [aAppend]
 rw [if_neg (by omega), if_pos ⟨hb.1, hb.2.1, hb.2.2, hok⟩, he]
 simp only [Option.bind_some]
 rcases h2 with ⟨rfl, h3⟩ | ⟨hnp, b, rfl, h3, h4, h5⟩
 ·refine ⟨h, ?_, rfl, fun _ _ => rfl, fun _ => rfl⟩
  cases a with
  | none => rfl
  | some x =>
   obtain ⟨b, o, m'⟩ := x
   have := h3 _ rfl
   simp only at this
   subst this
   rfl
 ·have hlb : lim ≤ b := by omega
  refine ⟨h.set b .dead, ?_, by simp, fun c hc => List.getElem?_set_ne (by omega), fun h0 => by omega⟩
  simp only [hlb, true_and, if_true, cellsOf, h3, Option.bind_some, Nat.zero_add]
  rw [if_pos (by omega)]
theorem append_none {lim bytes : Nat} (hp : Ap lo hi sz h a n cs) : aAppend lim sz bytes h (.slice a n n) 0 [] = some (.slice a n n, h) := by
 simp only [aAppend, Nat.add_zero, Nat.le_refl, if_true]
 cases a with
 | none =>
  rcases hp.2 with ⟨rfl, _⟩ | ⟨_, b, h1, _⟩
  ·rfl
  ·cases h1
 | some x => obtain ⟨b, o, m⟩ := x; simp [aWrite]
end
theorem over_one {cs : List Value} {p : Nat} (v : Value) (hp : p < cs.length) : over cs p [v] = cs.set p v := by
 unfold over
 rw [List.set_eq_take_append_cons_drop, if_pos hp]
 simp
theorem cells_one {v : Value} (hv : cellOk v = true) : v.cells.toList = [v] := by cases v <;> first | rfl | (simp [cellOk] at hv)
theorem Sl.store1 {h : AH} {lim lo hi n c j : Nat} {a : Option Addr} {cs : List Value} {v : Value} (hs : Sl 1 h a n c cs) (hj : j < n) (hw : Within lo hi 1 a n) (hlim : lim ≤ lo) (hv : cellOk v = true) :
  ∃ h', aStore lim 1 h (eptr 1 a j) v = some h' ∧ Sl 1 h' a n c (cs.set j v) ∧ h'.length = h.length ∧ ∀ b, (b < lo ∨ hi ≤ b) → h'[b]? = h[b]? := by
 have hs0 := hs
 obtain ⟨b, o, m, ds, rfl, h1, h2, rfl⟩ := hs.cells (by omega) (by omega)
 have hwb := hw _ rfl (by omega)
 simp only at hwb
 have hc := cells_one hv
 have hsz : v.cells.size = 1 := by rw [← Array.length_toList, hc]; rfl
 have hbl := (List.getElem?_eq_some_iff.1 h1).1
 refine ⟨h.set b (.cells (ds.set (o + j) v)), ?_, ⟨?_, hs0.2.1, by simp only [List.length_set]; exact hs0.2.2.1, fun h0 => by cases h0⟩, by simp, fun d hd => List.getElem?_set_ne (by omega)⟩
 ·simp only [eptr, aStore, Nat.mul_one, hsz, if_true, hc, aWrite, List.all_cons, List.all_nil, hv, Bool.and_true, and_true, cellsOf, h1, Option.bind_some, List.length_cons, List.length_nil]
  rw [if_neg (by simp), if_pos (by omega), if_pos (by omega), over_one v (by omega)]
 ·simp only [aElems]
  rw [if_pos hs0.2.1, if_neg (by omega)]
  simp only [cellsOf, List.getElem?_set_self hbl, Option.bind_some, List.length_set]
  rw [if_pos h2, List.drop_set, if_neg (by omega), List.take_set, show o + j - o = j by omega]
section
variable {X : Ext} {F : FuncId → Option RFunc} {lim : Nat} {L : Al} {h0 h : AH} {K : Value → AH → Prop} {l : List Item}
theorem OL.new {cs : List Value} (hL : Loc h0 h l) (hk : ∀ b h', Loc h0 h' (bx b cs :: l) → K (.pointer (some ⟨b, 0, none⟩)) h') : OP X F lim (.new cs) L h K := .new (hk _ _ (hL.new cs))
theorem OL.box {x : Operand} {v : Value} {cs : List Value} (hL : Loc h0 h l) (hx : lev L x = some v) (hv : v.cells.toList = cs) (hok : cs.all cellOk = true) (hk : ∀ b h', Loc h0 h' (bx b cs :: l) → K (.pointer (some ⟨b, 0, none⟩)) h') : OP X F lim (.box x) L h K := .box hx hv hok (hk _ _ (hL.new cs))
theorem OL.boxA {x : Operand} {cs : List Value} (hL : Loc h0 h l) (hx : lev L x = some (.agg cs.toArray)) (hok : cs.all cellOk = true) (hk : ∀ b h', Loc h0 h' (bx b cs :: l) → K (.pointer (some ⟨b, 0, none⟩)) h') : OP X F lim (.box x) L h K := .box hx (by simp [Value.cells]) hok (hk _ _ (hL.new cs))
theorem OL.load1 {x : Operand} {b o k : Nat} {cs : List Value} {v : Value} (hL : Loc h0 h l) (hx : lev L x = some (.pointer (some ⟨b, o, none⟩))) (hc : l[k]? = some (bx b cs)) (hv : nth cs o = some v) (hk : K v h) : OP X F lim (.load none x) L h K := .load hx (hL.cell hc) (by unfold loadAt; exact nth_get hv) hk
theorem OL.buildSlice {z cs cs' : List Value} {n : Nat} {ps : List (Nat × Nat × Operand)} (hL : Loc h0 h l) (hf : fillL L z ps = some cs) (hcs : cs = cs') (hok : cs'.all cellOk = true) (hk : ∀ b h', Loc h0 h' (bx b cs' :: l) → K (.slice (some ⟨b, 0, none⟩) n n) h') : OP X F lim (.buildSlice z n ps) L h K := .buildSlice hf (hcs ▸ hok) (by subst hcs; exact hk _ _ (hL.new cs))
theorem OP.buildN {z cs cs' : List Value} {ps : List (Nat × Nat × Operand)} (hf : fillL L z ps = some cs) (hcs : cs = cs') (hk : K (.agg cs'.toArray) h) : OP X F lim (.build z ps) L h K := .build hf (by subst hcs; exact hk)
theorem OL.load {n : Option Nat} {x : Operand} {b o k : Nat} {cs : List Value} {v : Value} (hL : Loc h0 h l) (hx : lev L x = some (.pointer (some ⟨b, o, none⟩))) (hc : l[k]? = some (bx b cs)) (hv : loadAt n cs o = some v) (hk : K v h) : OP X F lim (.load n x) L h K := .load hx (hL.cell hc) hv hk
theorem OL.loadAll {n : Nat} {x : Operand} {b k : Nat} {cs : List Value} (hL : Loc h0 h l) (hx : lev L x = some (.pointer (some ⟨b, 0, none⟩))) (hc : l[k]? = some (bx b cs)) (hn : cs.length = n) (hk : K (.agg cs.toArray) h) : OP X F lim (.load (some n) x) L h K := .loadAll hx (hL.cell hc) hn hk
theorem OL.store {n : Nat} {x y : Operand} {b o k : Nat} {cs vs cs' : List Value} {v : Value} {l' : List Item} (hL : Loc h0 h l) (hlim : lim ≤ h0.length) (hx : lev L x = some (.pointer (some ⟨b, o, none⟩))) (hy : lev L y = some v) (hvs : v.cells.toList = vs) (hn : vs.length = n) (hc : l[k]? = some (bx b cs)) (hok : vs.all cellOk = true) (ho : o + n ≤ cs.length) (hpos : 0 < n)
  (hcs : over cs o vs = cs') (hl' : l.set k (bx b cs') = l') (hk : ∀ h', Loc h0 h' l' → K undef h') : OP X F lim (.store n x y) L h K :=
 .store hx hy hvs hn (hL.cell hc) (hL.own hc hlim) hok ho hpos (by rw [hcs]; exact hk _ (hl' ▸ hL.set hc cs'))
theorem OL.call {f : Operand} {g : FuncId} {xs : List Operand} {vs : List Value} {S : Value → AH → Prop} (hL : Loc h0 h l) (hf : lev L f = some (.func (.func g) #[] #[])) (ha : levs L xs = some vs) (hr : Ret X F lim g vs h fun v h' => Pfx h h' ∧ S v h') (hk : ∀ v h', Pfx h h' → Loc h0 h' l → S v h' → K v h') : OP X F lim (.call f xs) L h K :=
 .call hf ha (hr.mono fun v h' hs => hk v h' hs.1 (hL.grow hs.1) hs.2)
theorem Loc.apOut (hL : Loc h0 h l) {k lo hi sz n : Nat} {a : Option Addr} {cs : List Value} (hk : l[k]? = some (ap lo hi sz a n cs)) : Ap h0.length h.length sz h a n cs := Ap.widen (hL.get hk) (hL.lo hk) (LocB.get hL hk).2.2.2
theorem Ap.pos {lo hi sz n : Nat} {a : Option Addr} {cs : List Value} (hp : Ap lo hi sz h a n cs) (hn : 0 < n) : ∃ b, a = some ⟨b, 0, some sz⟩ ∧ h[b]? = some (.cells cs) ∧ lo ≤ b ∧ b < hi := by
 rcases hp.2 with ⟨h1, _⟩ | ⟨_, h1⟩
 ·omega
 ·exact h1
theorem OL.callAp {f : Operand} {g : FuncId} {xs : List Operand} {vs : List Value} {sz n : Nat} {cs : List Value} (hL : Loc h0 h l) (hf : lev L f = some (.func (.func g) #[] #[])) (ha : levs L xs = some vs) (hr : Ret X F lim g vs h fun v h' => Pfx h h' ∧ ∃ a', v = .slice a' n n ∧ Ap h.length h'.length sz h' a' n cs) (hk : ∀ a' h', Pfx h h' → Loc h0 h' (ap h.length h'.length sz a' n cs :: l) → K (.slice a' n n) h') : OP X F lim (.call f xs) L h K :=
 .call hf ha (hr.mono fun v h' hs => by
  obtain ⟨hp, a', rfl, hA⟩ := hs
  exact hk a' h' hp (hL.add hp (ap h.length h'.length sz a' n cs) rfl rfl hA))
theorem aLen_slice (a : Option Addr) (n c : Nat) : aLen (.slice a n c) = some n := rfl
theorem OL.copy {sz bytes : Nat} {s x : Operand} {a a2 : Option Addr} {m c : Nat} {news : List Value} (hL : Loc h0 h l) (hs : lev L s = some (.slice a 0 0)) (hsp : ∀ x, a = some x → x.spot = none) (hx : lev L x = some (.slice a2 m c)) (hn : Sl sz h a2 m c news) (hb : Room m bytes) (hok : news.all cellOk = true)
  (hk : ∀ a' h', Pfx h h' → Loc h0 h' (ap h.length h'.length sz a' m news :: l) → K (.slice a' m m) h') : OP X F lim (.append sz bytes s x) L h K := fun e he => by
 have hA : Ap 0 0 sz h a 0 [] := ⟨by simp, .inl ⟨rfl, hsp⟩⟩
 simp only [aop, he.ev hx, he.ev hs, aLen_slice, Option.bind_some, hn.1]
 rcases Nat.eq_zero_or_pos m with h1 | h1
 ·subst h1
  have : news = [] := List.eq_nil_of_length_eq_zero (by rw [hn.2.2.1]; simp)
  subst this
  refine ⟨0, _, _, append_none hA, hk a h (Pfx.refl h) (hL.add (Pfx.refl h) (ap h.length h.length sz a 0 []) rfl rfl ⟨by simp, .inl ⟨rfl, hsp⟩⟩)⟩
 ·obtain ⟨h2, h3, _, _, h4⟩ := append_some (lim := lim) (m := m) hA h1 (by rw [Nat.zero_add]; exact hb) hok (.inr rfl)
  obtain rfl := h4 rfl
  rw [Nat.zero_add, List.nil_append] at h3
  refine ⟨0, _, _, h3, hk _ _ (Pfx.push _) (hL.add (Pfx.push _) (ap h2.length (h2 ++ [Blk.cells news]).length sz _ m news) rfl rfl ⟨hn.2.2.1, .inr ⟨h1, h2.length, rfl, by simp, Nat.le_refl _, by simp⟩⟩)⟩
theorem OL.append {sz bytes lo hi k : Nat} {s x : Operand} {a a2 : Option Addr} {n m c : Nat} {cs news : List Value} (hL : Loc h0 h l) (hlim : lim ≤ h0.length) (hs : lev L s = some (.slice a n n)) (hi : l[k]? = some (ap lo hi sz a n cs)) (hx : lev L x = some (.slice a2 m c)) (hn : Sl sz h a2 m c news) (hm : 0 < m) (hb : Room (n + m) bytes) (hok : news.all cellOk = true)
  (hk : ∀ a' h', Loc h0 h' (ap h.length h'.length sz a' (n + m) (cs ++ news) :: l.eraseIdx k) → K (.slice a' (n + m) (n + m)) h') : OP X F lim (.append sz bytes s x) L h K := fun e he => by
 have hA := hL.get hi
 have hlo := hL.lo hi
 obtain ⟨h2, h3, h4, h5, _⟩ := append_some (lim := lim) (m := m) hA hm hb hok (.inl (Nat.le_trans hlim hlo))
 refine ⟨0, _, _, by simp only [aop, he.ev hx, he.ev hs, aLen_slice, Option.bind_some, hn.1]; exact h3, hk _ _ ?_⟩
 have e1 : Loc h0 h2 (l.eraseIdx k) := LocB.erase hL (Nat.le_refl _) (by omega) hi h5 |>.up (by omega)
 have e2 := e1.add (Pfx.push (.cells (cs ++ news))) (ap h2.length (h2 ++ [Blk.cells (cs ++ news)]).length sz (some ⟨h.length, 0, some sz⟩) (n + m) (cs ++ news)) rfl rfl ⟨by rw [List.length_append, hA.1, hn.2.2.1, Nat.add_mul], .inr ⟨by omega, h.length, rfl, by rw [← h4]; simp, by omega, by simp; omega⟩⟩
 rw [h4] at e2
 exact e2
theorem Ap.store1 {h : AH} {lim lo hi n j : Nat} {a : Option Addr} {cs : List Value} {v : Value} (hp : Ap lo hi 1 h a n cs) (hj : j < n) (hlim : lim ≤ lo) (hv : cellOk v = true) :
  ∃ h', aStore lim 1 h (eptr 1 a j) v = some h' ∧ Ap lo hi 1 h' a n (cs.set j v) ∧ h'.length = h.length ∧ ∀ b, (b < lo ∨ hi ≤ b) → h'[b]? = h[b]? := by
 obtain ⟨b, rfl, hb, h1, h2⟩ := hp.pos (by omega)
 have hlen := hp.1
 have hbl := (List.getElem?_eq_some_iff.1 hb).1
 have hc := cells_one hv
 have hsz : v.cells.size = 1 := by rw [← Array.length_toList, hc]; rfl
 refine ⟨h.set b (.cells (cs.set j v)), ?_, ⟨by rw [List.length_set]; exact hlen, .inr ⟨by omega, b, rfl, List.getElem?_set_self hbl, h1, h2⟩⟩, by simp, fun d hd => List.getElem?_set_ne (by omega)⟩
 simp only [eptr, aStore, Nat.mul_one, hsz, if_true, hc, aWrite, List.all_cons, List.all_nil, hv, Bool.and_true, and_true, cellsOf, hb, Option.bind_some, List.length_cons, List.length_nil]
 rw [if_neg (by simp), if_pos (by omega), if_pos (by omega), over_one v (by omega), Nat.zero_add]
def junk (lo hi : Nat) : Item := ⟨lo, hi, fun _ => True, fun _ _ _ _ => trivial⟩
theorem Sl.front {h : AH} {b n c sz : Nat} {m : Option Nat} {cs ds : List Value} (hb : h[b]? = some (.cells (cs ++ ds))) (hn : cs.length = n * sz) (hc : n ≤ c) : Sl sz h (some ⟨b, 0, m⟩) n c cs := by
 refine ⟨?_, hc, hn, fun h => by cases h⟩
 simp only [aElems]
 rw [if_pos hc]
 split
 ·rename_i h0; rw [h0] at hn; rw [List.eq_nil_of_length_eq_zero hn]
 ·simp only [cellsOf, hb, Option.bind_some, List.drop_zero]
  rw [if_pos (by simp; omega), List.take_append_of_le_length (by omega), ← hn, List.take_length]
end
end
section
def ints (xs : List Int) : List Value := xs.map (Value.int .i64)
theorem ints_len (xs : List Int) : (ints xs).length = xs.length := by simp [ints]
theorem ints_get {xs : List Int} {i : Nat} (hi : i < xs.length) : (ints xs)[i]? = some (.int .i64 xs[i]) := by simp [ints, hi]
theorem ints_set (xs : List Int) (i : Nat) (x : Int) : (ints xs).set i (.int .i64 x) = ints (xs.set i x) := by simp [ints, List.map_set]
theorem ints_ok (xs : List Int) : (ints xs).all cellOk = true := by simp [ints, cellOk]
section
variable {X : Ext} {F : FuncId → Option RFunc} {lim : Nat} {L : Al} {h : AH} {K : Value → AH → Prop}
theorem OP.idxS {sz : Nat} {x i : Operand} {a : Option Addr} {n c j : Nat} {k : IntKind} {cs : List Value} (hs : Sl sz h a n c cs) (hx : lev L x = some (.slice a n c)) (hi : lev L i = some (.int k (j : Int))) (hj : j < n) (hk : K (eptr sz a j) h) : OP X F lim (.idxAddr sz x i) L h K := .idx hx hi hj hs.2.2.2 hs.2.1 hk
theorem OP.idxZ {sz : Nat} {x i : Operand} {a : Option Addr} {n c : Nat} {z : Int} {k : IntKind} {cs : List Value} (hs : Sl sz h a n c cs) (hx : lev L x = some (.slice a n c)) (hi : lev L i = some (.int k z)) (hj : 0 ≤ z ∧ z < n) (hk : K (eptr sz a z.toNat) h) : OP X F lim (.idxAddr sz x i) L h K :=
 .idx hx (j := z.toNat) (by rw [hi]; congr 2; omega) (by omega) hs.2.2.2 hs.2.1 hk
theorem OP.ldI {x : Operand} {a : Option Addr} {n c j : Nat} {xs : List Int} (hs : Sl 1 h a n c (ints xs)) (hx : lev L x = some (eptr 1 a j)) (hj : j < xs.length) (hk : K (.int .i64 xs[j]) h) : OP X F lim (.load none x) L h K := .loadV hx (hs.load1 (ints_get hj)) hk
theorem OP.lssT {x y : Operand} {k : IntKind} {a b : Int} (hx : lev L x = some (.int k a)) (hy : lev L y = some (.int k b)) (hr : a < b) (hk : K (.bool true) h) : OP X F lim (.bin .lss x y) L h K := .bin hx hy (by simp only [aBin, if_true, decide_eq_true hr]) hk
theorem OP.lssF {x y : Operand} {k : IntKind} {a b : Int} (hx : lev L x = some (.int k a)) (hy : lev L y = some (.int k b)) (hr : ¬ a < b) (hk : K (.bool false) h) : OP X F lim (.bin .lss x y) L h K := .bin hx hy (by simp only [aBin, if_true, decide_eq_false hr]) hk
theorem OP.leqT {x y : Operand} {k : IntKind} {a b : Int} (hx : lev L x = some (.int k a)) (hy : lev L y = some (.int k b)) (hr : a ≤ b) (hk : K (.bool true) h) : OP X F lim (.bin .leq x y) L h K := .bin hx hy (by simp only [aBin, if_true, decide_eq_true hr]) hk
theorem OP.leqF {x y : Operand} {k : IntKind} {a b : Int} (hx : lev L x = some (.int k a)) (hy : lev L y = some (.int k b)) (hr : ¬ a ≤ b) (hk : K (.bool false) h) : OP X F lim (.bin .leq x y) L h K := .bin hx hy (by simp only [aBin, if_true, decide_eq_false hr]) hk
theorem OP.gtrT {x y : Operand} {k : IntKind} {a b : Int} (hx : lev L x = some (.int k a)) (hy : lev L y = some (.int k b)) (hr : a > b) (hk : K (.bool true) h) : OP X F lim (.bin .gtr x y) L h K := .bin hx hy (by simp only [aBin, if_true, decide_eq_true hr]) hk
theorem OP.gtrF {x y : Operand} {k : IntKind} {a b : Int} (hx : lev L x = some (.int k a)) (hy : lev L y = some (.int k b)) (hr : ¬ a > b) (hk : K (.bool false) h) : OP X F lim (.bin .gtr x y) L h K := .bin hx hy (by simp only [aBin, if_true, decide_eq_false hr]) hk
theorem OP.geqT {x y : Operand} {k : IntKind} {a b : Int} (hx : lev L x = some (.int k a)) (hy : lev L y = some (.int k b)) (hr : a ≥ b) (hk : K (.bool true) h) : OP X F lim (.bin .geq x y) L h K := .bin hx hy (by simp only [aBin, if_true, decide_eq_true hr]) hk
theorem OP.geqF {x y : Operand} {k : IntKind} {a b : Int} (hx : lev L x = some (.int k a)) (hy : lev L y = some (.int k b)) (hr : ¬ a ≥ b) (hk : K (.bool false) h) : OP X F lim (.bin .geq x y) L h K := .bin hx hy (by simp only [aBin, if_true, decide_eq_false hr]) hk
theorem OP.eqlT {x y : Operand} {k : IntKind} {a b : Int} (hx : lev L x = some (.int k a)) (hy : lev L y = some (.int k b)) (hr : a = b) (hk : K (.bool true) h) : OP X F lim (.bin .eql x y) L h K := .eql hx hy (by rw [decide_eq_true hr]; exact hk)
theorem OP.eqlF {x y : Operand} {k : IntKind} {a b : Int} (hx : lev L x = some (.int k a)) (hy : lev L y = some (.int k b)) (hr : ¬ a = b) (hk : K (.bool false) h) : OP X F lim (.bin .eql x y) L h K := .eql hx hy (by rw [decide_eq_false hr]; exact hk)
theorem OP.neqT {x y : Operand} {k : IntKind} {a b : Int} (hx : lev L x = some (.int k a)) (hy : lev L y = some (.int k b)) (hr : ¬ a = b) (hk : K (.bool true) h) : OP X F lim (.bin .neq x y) L h K := .neq hx hy (by rw [decide_eq_true (p := a ≠ b) hr]; exact hk)
theorem OP.neqF {x y : Operand} {k : IntKind} {a b : Int} (hx : lev L x = some (.int k a)) (hy : lev L y = some (.int k b)) (hr : a = b) (hk : K (.bool false) h) : OP X F lim (.bin .neq x y) L h K := .neq hx hy (by rw [decide_eq_false (p := a ≠ b) (fun h => h hr)]; exact hk)
theorem OP.isNilT {k : Nat} {x : Operand} {a : Value} (hx : lev L x = some a) (hv : aIsNil k a = some true) (hk : K (.bool true) h) : OP X F lim (.isNil false k x) L h K := .isNil hx hv hk
theorem OP.isNilF {k : Nat} {x : Operand} {a : Value} (hx : lev L x = some a) (hv : aIsNil k a = some false) (hk : K (.bool false) h) : OP X F lim (.isNil false k x) L h K := .isNil hx hv hk
theorem OP.isNilNT {k : Nat} {x : Operand} {a : Value} (hx : lev L x = some a) (hv : aIsNil k a = some true) (hk : K (.bool false) h) : OP X F lim (.isNil true k x) L h K := .isNil hx hv hk
theorem OP.isNilNF {k : Nat} {x : Operand} {a : Value} (hx : lev L x = some a) (hv : aIsNil k a = some false) (hk : K (.bool true) h) : OP X F lim (.isNil true k x) L h K := .isNil hx hv hk
theorem Sl.ilen {a : Option Addr} {n c : Nat} {xs : List Int} (hs : Sl 1 h a n c (ints xs)) : xs.length = n := by have := hs.2.2.1; rw [ints_len] at this; omega
end
section
variable {h0 h : AH} {l : List Item}
theorem Loc.apAt (hL : Loc h0 h l) {k lo hi sz n : Nat} {a : Option Addr} {cs : List Value} (hk : l[k]? = some (ap lo hi sz a n cs)) : Sl sz h a n n cs := (Ap.sl (hL.get hk)).1
theorem Loc.slAt (hL : Loc h0 h l) {k lo hi sz n c : Nat} {a : Option Addr} {cs : List Value} (hk : l[k]? = some (sl lo hi sz a n c cs)) : Sl sz h a n c cs := (hL.get hk).1
theorem Sl.of_block {b n sz : Nat} {cs : List Value} (hb : h[b]? = some (.cells cs)) (hn : cs.length = n * sz) : Sl sz h (some ⟨b, 0, none⟩) n n cs := by
 refine ⟨?_, Nat.le_refl _, hn, fun h => by cases h⟩
 simp only [aElems, Nat.le_refl, if_true]
 split
 ·rename_i h0; rw [h0] at hn; rw [List.eq_nil_of_length_eq_zero hn]
 ·simp only [cellsOf, hb, Option.bind_some, List.drop_zero]
  rw [if_pos (by omega), ← hn, List.take_length]
theorem Loc.bxAt (hL : Loc h0 h l) {k b n sz : Nat} {cs : List Value} (hk : l[k]? = some (bx b cs)) (hn : cs.length = n * sz) : Sl sz h (some ⟨b, 0, none⟩) n n cs := Sl.of_block (hL.cell hk) hn
end
end
end Go.Proofs.YtalknjppnkpmmaaDoorW.Ai
