/-
  The small machine: more rounds change no answer; rules by which one walks through its code. Of no program.
-/
import Derived.Test.YtmikcpgkppkmiaaAi21
set_option linter.unusedVariables false
set_option linter.unusedSimpArgs false
namespace Go.Proofs.YtmikcpgkppkmiaaW.Ai

/-! ### more rounds -/
def CLe (c d : Callee) : Prop := ∀ lim f args h x, c lim f args h = some x → d lim f args h = some x
theorem aop_mono {c d : Callee} (hc : CLe c d) {lim : Nat} {e : Env} {h : AH} {p : ROp} {x : Value × AH} (ha : aop c lim e h p = some x) : aop d lim e h p = some x := by
  cases p <;> first | exact ha | skip
  simp only [aop] at ha ⊢
  split at ha
  · exact hc _ _ _ _ _ ha
  · cases ha
theorem aops_mono {c d : Callee} (hc : CLe c d) {lim : Nat} : ∀ {l : List RO} {e : Env} {h : AH} {x : Env × AH}, aops c lim l e h = some x → aops d lim l e h = some x
  | [], e, h, x, ha => ha
  | o :: l, e, h, x, ha => by
    simp only [aops] at ha ⊢
    split at ha
    · rename_i hw
      rw [if_pos hw]
      obtain ⟨r, h1, h2⟩ := Option.bind_eq_some_iff.1 ha
      obtain ⟨h3, h4⟩ := aopc_inv h1
      refine Option.bind_eq_some_iff.2 ⟨r, ?_, aops_mono hc h2⟩
      unfold aopc
      rw [if_pos h3]
      exact aop_mono hc h4
    · rename_i hw
      rw [if_neg hw]
      exact aops_mono hc ha
theorem aloop_mono {b d : Env → AH → Out} (hb : ∀ e h x, b e h = some x → d e h = some x) : ∀ {n m : Nat}, n ≤ m → ∀ {e : Env} {h : AH} {x}, aloop b n e h = some x → aloop d m e h = some x
  | 0, m, _, e, h, x, ha => by simp [aloop] at ha
  | n + 1, 0, hm, _, _, _, _ => by omega
  | n + 1, m + 1, hm, e, h, x, ha => by
    simp only [aloop] at ha ⊢
    obtain ⟨r, h1, h2⟩ := Option.bind_eq_some_iff.1 ha
    refine Option.bind_eq_some_iff.2 ⟨r, hb _ _ _ h1, ?_⟩
    split at h2
    · exact aloop_mono hb (by omega) h2
    · exact h2
theorem acode_mono {c d : Callee} (hc : CLe c d) {n m : Nat} (hn : n ≤ m) {lim : Nat} : ∀ {rc : RC} {e : Env} {h : AH} {x}, acode c n lim rc e h = some x → acode d m lim rc e h = some x
  | .skip, e, h, x, ha => ha
  | .ops l, e, h, x, ha => by
    simp only [acode] at ha ⊢
    obtain ⟨r, h1, h2⟩ := Option.map_eq_some_iff.1 ha
    exact Option.map_eq_some_iff.2 ⟨r, aops_mono hc h1, h2⟩
  | .seq a b, e, h, x, ha => by
    simp only [acode] at ha ⊢
    obtain ⟨r, h1, h2⟩ := Option.bind_eq_some_iff.1 ha
    refine Option.bind_eq_some_iff.2 ⟨r, acode_mono hc hn h1, ?_⟩
    split at h2
    · exact acode_mono hc hn h2
    · exact h2
  | .cond c' a b, e, h, x, ha => by
    simp only [acode] at ha ⊢
    split at ha
    · rename_i t ht
      cases t with
      | true => simp only [if_true] at ha ⊢; exact acode_mono hc hn ha
      | false => simp only [Bool.false_eq_true, if_false] at ha ⊢; exact acode_mono hc hn ha
    · cases ha
  | .block id a, e, h, x, ha => by
    simp only [acode] at ha ⊢
    obtain ⟨r, h1, h2⟩ := Option.map_eq_some_iff.1 ha
    exact Option.map_eq_some_iff.2 ⟨r, acode_mono hc hn h1, h2⟩
  | .loop a, e, h, x, ha => by
    simp only [acode] at ha ⊢
    exact aloop_mono (fun e h x hx => acode_mono hc hn hx) hn ha
  | .exit id, e, h, x, ha => ha
  | .ret, e, h, x, ha => ha
  | .fail, e, h, x, ha => ha
section
variable {X : Ext} {F : FuncId → Option RFunc}
theorem acall_step : ∀ k, CLe (acall X F k) (acall X F (k + 1))
  | 0, lim, f, args, h, x, ha => by simp [acall] at ha
  | k + 1, lim, f, args, h, x, ha => by
    simp only [acall] at ha ⊢
    cases hg : X f with
    | some g => rw [hg] at ha; exact ha
    | none =>
      rw [hg] at ha
      cases hf : F f with
      | none => rw [hf] at ha; cases ha
      | some rf =>
        rw [hf] at ha
        simp only at ha ⊢
        split at ha
        · rename_i hl
          rw [if_pos hl]
          obtain ⟨r, h1, h2⟩ := Option.bind_eq_some_iff.1 ha
          exact Option.bind_eq_some_iff.2 ⟨r, acode_mono (acall_step k) (by omega) h1, h2⟩
        · cases ha
theorem acall_mono {k m : Nat} (hkm : k ≤ m) : CLe (acall X F k) (acall X F m) := by
  induction hkm with
  | refl => exact fun _ _ _ _ _ h => h
  | step _ ih => exact fun lim f args h x hx => acall_step _ _ _ _ _ _ (ih _ _ _ _ _ hx)

/-! ### what the temporaries hold -/
abbrev Al := List (Nat × Value)
def look : Al → Nat → Option Value
  | [], _ => none
  | (s, v) :: l, t => bif Nat.beq s t then some v else look l t
def lev (L : Al) : Operand → Option Value
  | .tmp t => look L t
  | .const v => some v
  | .func f => some (.func (.func f) #[] #[])
  | .global _ => none
def Agr (e : Env) (L : Al) : Prop := ∀ t v, look L t = some v → e t = v
theorem Agr.nil (e : Env) : Agr e [] := fun t v h => by simp [look] at h
theorem Agr.cons {e : Env} {L : Al} {t : Nat} {v : Value} (h : Agr e L) (hv : e t = v) : Agr e ((t, v) :: L) := fun s u hs => by
  simp only [look] at hs
  cases hb : Nat.beq t s with
  | true => rw [hb] at hs; simp only [cond_true, Option.some.injEq] at hs; rw [← Nat.eq_of_beq_eq_true hb, hv, hs]
  | false => rw [hb] at hs; exact h s u hs
theorem Agr.upd {e : Env} {L : Al} (h : Agr e L) (t : Nat) (v : Value) : Agr (Ai.upd e (some t) v) ((t, v) :: L) := fun s u hs => by
  simp only [look] at hs
  simp only [Ai.upd, Option.some.injEq]
  cases hb : Nat.beq t s with
  | true => rw [hb] at hs; simp only [cond_true, Option.some.injEq] at hs; rw [if_pos (Nat.eq_of_beq_eq_true hb).symm, hs]
  | false => rw [hb] at hs; rw [if_neg (fun hx => by rw [hx, Nat.beq_refl] at hb; cases hb)]; exact h s u hs
theorem Agr.ev {e : Env} {L : Al} (h : Agr e L) {x : Operand} {v : Value} (hx : lev L x = some v) : Ai.ev e x = v := by
  cases x with
  | tmp t => exact h t v hx
  | const u => simp only [lev, Option.some.injEq] at hx; exact hx
  | func f => simp only [lev, Option.some.injEq] at hx; exact hx
  | global g => simp [lev] at hx
def Sub (L M : Al) : Prop := ∀ t v, look L t = some v → look M t = some v
theorem Sub.nil (M : Al) : Sub [] M := fun t v h => by simp [look] at h
theorem Sub.cons {L M : Al} {t : Nat} {v : Value} (hv : look M t = some v) (h : Sub L M) : Sub ((t, v) :: L) M := fun s u hs => by
  simp only [look] at hs
  cases hb : Nat.beq t s with
  | true => rw [hb] at hs; simp only [cond_true, Option.some.injEq] at hs; rw [← Nat.eq_of_beq_eq_true hb, hv, hs]
  | false => rw [hb] at hs; exact h s u hs
theorem Agr.sub {e : Env} {L M : Al} (h : Agr e M) (hs : Sub L M) : Agr e L := fun t v hv => h t v (hs t v hv)

/-! ### the rules -/
def Ret (X : Ext) (F : FuncId → Option RFunc) (lim : Nat) (f : FuncId) (args : List Value) (h : AH) (Q : Value → AH → Prop) : Prop := ∃ k v h', acall X F k lim f args h = some (v, h') ∧ Q v h'
def OP (X : Ext) (F : FuncId → Option RFunc) (lim : Nat) (p : ROp) (L : Al) (h : AH) (K : Value → AH → Prop) : Prop := ∀ e, Agr e L → ∃ k v h', aop (acall X F k) lim e h p = some (v, h') ∧ K v h'
def WO (X : Ext) (F : FuncId → Option RFunc) (lim : Nat) (l : List RO) (L : Al) (h : AH) (Q : Al → AH → Prop) : Prop := ∀ e, Agr e L → ∃ k e' h' L', aops (acall X F k) lim l e h = some (e', h') ∧ Agr e' L' ∧ Q L' h'
def WC (X : Ext) (F : FuncId → Option RFunc) (lim : Nat) (c : RC) (L : Al) (h : AH) (Q : XT → Al → AH → Prop) : Prop := ∀ e, Agr e L → ∃ k x e' h' L', acode (acall X F k) k lim c e h = some (x, e', h') ∧ Agr e' L' ∧ Q x L' h'

variable {lim : Nat} {L : Al} {h : AH} {K : Value → AH → Prop} {Q : Al → AH → Prop} {R : XT → Al → AH → Prop}

theorem Ret.mono {f : FuncId} {args : List Value} {K' : Value → AH → Prop} (hr : Ret X F lim f args h K) (hk : ∀ v h', K v h' → K' v h') : Ret X F lim f args h K' := let ⟨k, v, h', h1, h2⟩ := hr; ⟨k, v, h', h1, hk v h' h2⟩

theorem WO.nil (hq : Q L h) : WO X F lim [] L h Q := fun e he => ⟨0, e, h, L, rfl, he, hq⟩
theorem wo_run {o : RO} {l : List RO} {e : Env} {k : Nat} {v : Value} {h' : AH} {L' : Al} (hav : o.av.all (apart e o.op) = true) (hw : wanted e o = true) (ha : aop (acall X F k) (if o.q then h.length else lim) e h o.op = some (v, h')) (he : Agr (upd e o.dst v) L') (W : WO X F lim l L' h' Q) : ∃ k e' h' L', aops (acall X F k) lim (o :: l) e h = some (e', h') ∧ Agr e' L' ∧ Q L' h' := by
  obtain ⟨k2, e2, h2, L2, h3, h4, h5⟩ := W _ he
  refine ⟨max k k2, e2, h2, L2, ?_, h4, h5⟩
  simp only [aops]
  rw [if_pos hw]
  refine Option.bind_eq_some_iff.2 ⟨(v, h'), ?_, aops_mono (acall_mono (Nat.le_max_right _ _)) h3⟩
  unfold aopc
  rw [if_pos hav]
  exact aop_mono (acall_mono (Nat.le_max_left _ _)) ha
theorem agr_dst {e : Env} (he : Agr e L) (d : Option Nat) (v : Value) : Agr (upd e d v) (match d with | none => L | some t => (t, v) :: L) := by
  cases d with
  | none => intro t u hu; simpa [upd] using he t u hu
  | some t => exact he.upd t v
theorem WO.cons {l : List RO} {d : Nat} {p : ROp} (W : OP X F lim p L h fun v h' => WO X F lim l ((d, v) :: L) h' Q) : WO X F lim (⟨some d, p, none, false, []⟩ :: l) L h Q := fun e he => by
  obtain ⟨k, v, h', h1, h2⟩ := W e he
  exact wo_run rfl rfl h1 (he.upd d v) h2
theorem WO.consQ {l : List RO} {d : Nat} {p : ROp} (W : OP X F h.length p L h fun v h' => WO X F lim l ((d, v) :: L) h' Q) : WO X F lim (⟨some d, p, none, true, []⟩ :: l) L h Q := fun e he => by
  obtain ⟨k, v, h', h1, h2⟩ := W e he
  exact wo_run rfl rfl h1 (he.upd d v) h2
theorem WO.cons0 {l : List RO} {p : ROp} (W : OP X F lim p L h fun v h' => WO X F lim l L h' Q) : WO X F lim (⟨none, p, none, false, []⟩ :: l) L h Q := fun e he => by
  obtain ⟨k, v, h', h1, h2⟩ := W e he
  exact wo_run rfl rfl h1 (agr_dst he none v) h2
theorem WO.consQ0 {l : List RO} {p : ROp} (W : OP X F h.length p L h fun v h' => WO X F lim l L h' Q) : WO X F lim (⟨none, p, none, true, []⟩ :: l) L h Q := fun e he => by
  obtain ⟨k, v, h', h1, h2⟩ := W e he
  exact wo_run rfl rfl h1 (agr_dst he none v) h2
/-- A guard that holds goes away. -/
theorem WO.yes {l : List RO} {d : Option Nat} {p : ROp} {t : Nat} {b : Bool} {q : Bool} {av : List Operand} (ht : look L t = some (.bool b)) (W : WO X F lim (⟨d, p, none, q, av⟩ :: l) L h Q) : WO X F lim (⟨d, p, some (t, b), q, av⟩ :: l) L h Q := fun e he => by
  obtain ⟨k, e2, h2, L2, h3, h4, h5⟩ := W e he
  refine ⟨k, e2, h2, L2, ?_, h4, h5⟩
  simp only [aops, wanted, if_true] at h3
  simp only [aops, wanted, he t _ ht, isBool, beq_self_eq_true, if_true]
  exact h3
theorem WO.no {l : List RO} {d : Nat} {p : ROp} {t : Nat} {b : Bool} {q : Bool} {av : List Operand} (ht : look L t = some (.bool (!b))) (W : WO X F lim l ((d, undef) :: L) h Q) : WO X F lim (⟨some d, p, some (t, b), q, av⟩ :: l) L h Q := fun e he => by
  obtain ⟨k, e2, h2, L2, h3, h4, h5⟩ := W _ (he.upd d undef)
  refine ⟨k, e2, h2, L2, ?_, h4, h5⟩
  simp only [aops, wanted, he t _ ht, isBool]
  rw [if_neg (by cases b <;> simp)]
  exact h3
theorem WO.no0 {l : List RO} {p : ROp} {t : Nat} {b : Bool} {q : Bool} {av : List Operand} (ht : look L t = some (.bool (!b))) (W : WO X F lim l L h Q) : WO X F lim (⟨none, p, some (t, b), q, av⟩ :: l) L h Q := fun e he => by
  obtain ⟨k, e2, h2, L2, h3, h4, h5⟩ := W _ (agr_dst he none undef)
  refine ⟨k, e2, h2, L2, ?_, h4, h5⟩
  simp only [aops, wanted, he t _ ht, isBool]
  rw [if_neg (by cases b <;> simp)]
  exact h3

theorem WC.skip (hq : R .normal L h) : WC X F lim .skip L h R := fun e he => ⟨0, .normal, e, h, L, rfl, he, hq⟩
theorem WC.ret (hq : R .ret L h) : WC X F lim .ret L h R := fun e he => ⟨0, .ret, e, h, L, rfl, he, hq⟩
theorem WC.exit {id : Nat} (hq : R (.exit id) L h) : WC X F lim (.exit id) L h R := fun e he => ⟨0, .exit id, e, h, L, rfl, he, hq⟩
theorem WC.ops {l : List RO} (W : WO X F lim l L h (R .normal)) : WC X F lim (.ops l) L h R := fun e he => by
  obtain ⟨k, e2, h2, L2, h3, h4, h5⟩ := W e he
  exact ⟨k, .normal, e2, h2, L2, by simp only [acode, h3, Option.map_some], h4, h5⟩
def thn (S : Al → AH → Prop) (R : XT → Al → AH → Prop) : XT → Al → AH → Prop
  | .normal => S
  | x => R x
def blk (id : Nat) (R : XT → Al → AH → Prop) : XT → Al → AH → Prop
  | .exit i => if i = id then R .normal else R (.exit i)
  | x => R x
@[simp] theorem thn_normal (S : Al → AH → Prop) : thn S R .normal = S := rfl
@[simp] theorem thn_ret (S : Al → AH → Prop) : thn S R .ret = R .ret := rfl
@[simp] theorem thn_exit (S : Al → AH → Prop) (id : Nat) : thn S R (.exit id) = R (.exit id) := rfl
@[simp] theorem blk_normal (id : Nat) : blk id R .normal = R .normal := rfl
@[simp] theorem blk_ret (id : Nat) : blk id R .ret = R .ret := rfl
theorem blk_exit (id i : Nat) : blk id R (.exit i) = if i = id then R .normal else R (.exit i) := rfl
theorem WC.seq {a b : RC} (W : WC X F lim a L h (thn (fun L' h' => WC X F lim b L' h' R) R)) : WC X F lim (.seq a b) L h R := fun e he => by
  obtain ⟨k, x, e2, h2, L2, h3, h4, h5⟩ := W e he
  cases x with
  | normal =>
    obtain ⟨k', x', e3, h3', L3, g1, g2, g3⟩ := h5 e2 h4
    refine ⟨max k k', x', e3, h3', L3, ?_, g2, g3⟩
    simp only [acode]
    exact Option.bind_eq_some_iff.2 ⟨_, acode_mono (acall_mono (Nat.le_max_left _ _)) (Nat.le_max_left _ _) h3, acode_mono (acall_mono (Nat.le_max_right _ _)) (Nat.le_max_right _ _) g1⟩
  | exit id => exact ⟨k, _, e2, h2, L2, by simp only [acode, h3, Option.bind_some], h4, h5⟩
  | ret => exact ⟨k, _, e2, h2, L2, by simp only [acode, h3, Option.bind_some], h4, h5⟩
theorem WC.cond {c : Operand} {a b : RC} {t : Bool} (hc : lev L c = some (.bool t)) (W : if t then WC X F lim a L h R else WC X F lim b L h R) : WC X F lim (.cond c a b) L h R := fun e he => by
  cases t with
  | true =>
    obtain ⟨k, x, e2, h2, L2, h3, h4, h5⟩ := W e he
    exact ⟨k, x, e2, h2, L2, by simp only [acode, he.ev hc, if_true]; exact h3, h4, h5⟩
  | false =>
    obtain ⟨k, x, e2, h2, L2, h3, h4, h5⟩ := W e he
    exact ⟨k, x, e2, h2, L2, by simp only [acode, he.ev hc, Bool.false_eq_true, if_false]; exact h3, h4, h5⟩
theorem WC.condT {c : Operand} {a b : RC} (hc : lev L c = some (.bool true)) (W : WC X F lim a L h R) : WC X F lim (.cond c a b) L h R := .cond hc (by rw [if_pos rfl]; exact W)
theorem WC.condF {c : Operand} {a b : RC} (hc : lev L c = some (.bool false)) (W : WC X F lim b L h R) : WC X F lim (.cond c a b) L h R := .cond hc (by rw [if_neg (by simp)]; exact W)
theorem WC.condP {c : Operand} {a b : RC} {p : Prop} [Decidable p] (hc : lev L c = some (.bool (decide p))) (W1 : p → WC X F lim a L h R) (W2 : ¬ p → WC X F lim b L h R) : WC X F lim (.cond c a b) L h R :=
  .cond hc (by
    by_cases hp : p
    · simp only [hp, decide_true, if_true]; exact W1 hp
    · simp only [hp, decide_false, Bool.false_eq_true, if_false]; exact W2 hp)
theorem WC.condB {c : Operand} {a b : RC} {t : Bool} (hc : lev L c = some (.bool t)) (W1 : t = true → WC X F lim a L h R) (W2 : t = false → WC X F lim b L h R) : WC X F lim (.cond c a b) L h R :=
  .cond hc (by cases t with
    | true => exact W1 rfl
    | false => exact W2 rfl)
theorem WC.block {id : Nat} {a : RC} (W : WC X F lim a L h (blk id R)) : WC X F lim (.block id a) L h R := fun e he => by
  obtain ⟨k, x, e2, h2, L2, h3, h4, h5⟩ := W e he
  cases x with
  | normal => exact ⟨k, .normal, e2, h2, L2, by simp only [acode, h3, Option.map_some], h4, h5⟩
  | ret => exact ⟨k, .ret, e2, h2, L2, by simp only [acode, h3, Option.map_some], h4, h5⟩
  | exit i =>
    rw [blk_exit] at h5
    by_cases hi : i = id
    · rw [if_pos hi] at h5
      exact ⟨k, .normal, e2, h2, L2, by simp only [acode, h3, Option.map_some, if_pos hi], h4, h5⟩
    · rw [if_neg hi] at h5
      exact ⟨k, .exit i, e2, h2, L2, by simp only [acode, h3, Option.map_some, if_neg hi], h4, h5⟩
theorem WC.sub {c : RC} {L' : Al} (hs : Sub L' L) (W : WC X F lim c L' h R) : WC X F lim c L h R := fun e he => W e (he.sub hs)
theorem WC.mono {c : RC} {R' : XT → Al → AH → Prop} (W : WC X F lim c L h R') (hq : ∀ x L' h', R' x L' h' → R x L' h') : WC X F lim c L h R := fun e he => by
  obtain ⟨k, x, e2, h2, L2, h3, h4, h5⟩ := W e he
  exact ⟨k, x, e2, h2, L2, h3, h4, hq _ _ _ h5⟩
/-- A loop: the state at a round's begin is told by an `α`; a measure goes down. -/
theorem WC.loop {α : Type} (I : α → Prop) (Lf : α → Al) (Hf : α → AH) (μ : α → Nat) {body : RC}
    (step : ∀ a, I a → WC X F lim body (Lf a) (Hf a) (thn (fun L' h' => ∃ a', I a' ∧ Sub (Lf a') L' ∧ Hf a' = h' ∧ μ a' < μ a) R)) (a0 : α) (h0 : I a0) (hL : Sub (Lf a0) L) (hH : Hf a0 = h) : WC X F lim (.loop body) L h R := by
  have key : ∀ (n : Nat) (a : α), μ a < n → I a → ∀ e, Agr e (Lf a) → ∃ k n x e' h' L', aloop (acode (acall X F k) k lim body) n e (Hf a) = some (x, e', h') ∧ Agr e' L' ∧ R x L' h' := by
    intro n
    induction n with
    | zero => intro a hm; omega
    | succ n ih =>
      intro a hm hi e he
      obtain ⟨k, x, e2, h2, L2, h3, h4, h5⟩ := step a hi e he
      cases x with
      | normal =>
        obtain ⟨a', i1, i2, i3, i4⟩ := h5
        obtain ⟨k', m, x', e3, h3', L3, g1, g2, g3⟩ := ih a' (by omega) i1 e2 (h4.sub i2)
        refine ⟨max k k', m + 1, x', e3, h3', L3, ?_, g2, g3⟩
        simp only [aloop]
        refine Option.bind_eq_some_iff.2 ⟨_, acode_mono (acall_mono (Nat.le_max_left _ _)) (Nat.le_max_left _ _) h3, ?_⟩
        simp only
        rw [← i3]
        exact aloop_mono (fun e h x hx => acode_mono (acall_mono (Nat.le_max_right _ _)) (Nat.le_max_right _ _) hx) (Nat.le_refl _) g1
      | exit id => exact ⟨k, 1, _, e2, h2, L2, by simp only [aloop, h3, Option.bind_some], h4, h5⟩
      | ret => exact ⟨k, 1, _, e2, h2, L2, by simp only [aloop, h3, Option.bind_some], h4, h5⟩
  intro e he
  subst hH
  obtain ⟨k, n, x, e', h', L', h1, h2, h3⟩ := key (μ a0 + 1) a0 (by omega) h0 e (he.sub hL)
  refine ⟨max k n, x, e', h', L', ?_, h2, h3⟩
  simp only [acode]
  exact aloop_mono (fun e h x hx => acode_mono (acall_mono (Nat.le_max_left _ _)) (Nat.le_max_left _ _) hx) (Nat.le_max_right _ _) h1

def resL (L : Al) (h : AH) : List RRes → Option (List Value)
  | [] => some []
  | .tmp t :: r => (look L t).bind fun v => (resL L h r).map fun l => v :: l
  | .cell t n :: r => (look L t).bind fun p => (aLoad n h p).bind fun v => (resL L h r).map fun l => v :: l
theorem Agr.results {e : Env} (he : Agr e L) : ∀ {rs : List RRes} {vs : List Value}, resL L h rs = some vs → aresults e h rs = some vs
  | [], vs, hr => hr
  | .tmp t :: r, vs, hr => by
    simp only [resL] at hr
    obtain ⟨v, h1, hr⟩ := Option.bind_eq_some_iff.1 hr
    obtain ⟨l, h2, rfl⟩ := Option.map_eq_some_iff.1 hr
    simp only [aresults, he.results h2, Option.map_some, he t v h1]
  | .cell t n :: r, vs, hr => by
    simp only [resL] at hr
    obtain ⟨p, h1, hr⟩ := Option.bind_eq_some_iff.1 hr
    obtain ⟨v, h2, hr⟩ := Option.bind_eq_some_iff.1 hr
    obtain ⟨l, h3, rfl⟩ := Option.map_eq_some_iff.1 hr
    simp only [aresults, he t p h1, h2, Option.bind_some, he.results h3, Option.map_some]
/-- What a body must come to. -/
def Fin (rs : List RRes) (K : Value → AH → Prop) : XT → Al → AH → Prop := fun x L h => (∀ id, x ≠ .exit id) ∧ ∃ vs, resL L h rs = some vs ∧ K (resultOf vs) h
theorem Fin.ret {rs : List RRes} {vs : List Value} (hr : resL L h rs = some vs) (hk : K (resultOf vs) h) : Fin rs K .ret L h := ⟨fun _ h => (by cases h), vs, hr, hk⟩
theorem Fin.normal {rs : List RRes} {vs : List Value} (hr : resL L h rs = some vs) (hk : K (resultOf vs) h) : Fin rs K .normal L h := ⟨fun _ h => (by cases h), vs, hr, hk⟩
def argL : Nat → List Value → Al
  | _, [] => []
  | i, v :: l => (i, v) :: argL (i + 1) l
theorem look_argL : ∀ (l : List Value) (i t : Nat) (v : Value), look (argL i l) t = some v → i ≤ t ∧ l[t - i]? = some v
  | [], i, t, v, h => by simp [argL, look] at h
  | u :: l, i, t, v, h => by
    simp only [argL, look] at h
    cases hb : Nat.beq i t with
    | true =>
      rw [hb] at h
      simp only [cond_true, Option.some.injEq] at h
      have := Nat.eq_of_beq_eq_true hb
      subst this; subst h
      exact ⟨Nat.le_refl _, by simp⟩
    | false =>
      rw [hb] at h
      obtain ⟨h1, h2⟩ := look_argL l (i + 1) t v h
      exact ⟨by omega, by rw [show t - i = (t - (i + 1)) + 1 by omega]; exact h2⟩
theorem Ret.body {f : FuncId} {rf : RFunc} {args : List Value} (hX : X f = none) (hF : F f = some rf) (hl : decide (args.length ≤ rf.ntmps) = true) (W : WC X F lim rf.body (argL 0 args) h (Fin rf.results K)) : Ret X F lim f args h K := by
  obtain ⟨k, x, e2, h2, L2, h3, h4, h5, vs, h6, h7⟩ := W (envOf args) (fun t v hv => by
    obtain ⟨_, h1⟩ := look_argL args 0 t v hv
    unfold envOf
    rw [Nat.sub_zero] at h1
    rw [h1]; rfl)
  refine ⟨k + 1, resultOf vs, h2, ?_, h7⟩
  unfold acall
  simp only [hX, hF, if_pos (of_decide_eq_true hl), h3, Option.bind_some]
  cases x with
  | normal => simp only [h4.results h6, Option.map_some]
  | ret => simp only [h4.results h6, Option.map_some]
  | exit id => exact absurd rfl (h5 id)
end

end Go.Proofs.YtmikcpgkppkmiaaW.Ai
