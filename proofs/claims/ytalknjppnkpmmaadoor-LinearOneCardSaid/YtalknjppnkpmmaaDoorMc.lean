/-
 The small machine and Go's: a statement whose order is open. Of no program.
-/
import Derived.Test.YtalknjppnkpmmaaDoorMb
import Derived.SizedLaws
import Derived.ChangeArms
import Derived.OpenShut
import Derived.WideShapes
import Derived.ChangeSame
import Derived.Below
set_option linter.unusedVariables false
set_option linter.unusedSimpArgs false
namespace Go.Proofs.YtalknjppnkpmmaaDoorW.Ai
section
variable {P : Program} {nb lim : Nat} {r : Rho} {h h' : AH} {w : World} {e : Env} {a : Act} {v : Value} {o : Oper}
theorem ropers_get {nt : Nat} {ops : Array Oper} {q : Nat → Bool} {av : Nat → List Operand} : ∀ {pairs : List (Oper × Nat)} {l : List RO}, Rs.ropers P nt ops q av pairs = some l →
  l.length = pairs.length ∧ ∀ (k : Nat) o i, pairs[k]? = some (o, i) → ∃ p g, l[k]? = some ⟨o.dst, p, g, q i, av i⟩ ∧ Rs.ropT P o.op = p ∧ Rs.rguard ops o = some g ∧ ∀ x, o.dst = some x → x < nt
 | [], l, h => by simp only [Rs.ropers] at h; injection h with h; subst h; exact ⟨rfl, fun k o i hk => by simp at hk⟩
 | (o, i) :: pairs, l, h => by
  obtain ⟨p, g, l', h1, h2, h3, h4, rfl⟩ := ropers_cons h
  obtain ⟨h5, h6⟩ := ropers_get h4
  refine ⟨by simp [h5], fun k o' i' hk => ?_⟩
  cases k with
  | zero => simp at hk; obtain ⟨rfl, rfl⟩ := hk; exact ⟨p, g, rfl, h1, h2, h3⟩
  | succ k => exact h6 k o' i' (by simpa using hk)
structure Trace (call : Callee) (lim : Nat) (l : List RO) (E : Nat → Env) (H : Nat → AH) (V : Nat → Value) : Prop where
 step : ∀ (i : Nat) o, l[i]? = some o → E (i + 1) = upd (E i) o.dst (V i) ∧
  ((Ai.wanted (E i) o = true ∧ aopc call lim (E i) (H i) o = some (V i, H (i + 1))) ∨ (Ai.wanted (E i) o = false ∧ H (i + 1) = H i ∧ V i = undef))
theorem trace_of {call : Callee} {lim : Nat} : ∀ {l : List RO} {e : Env} {h : AH} {e' : Env} {h' : AH}, aops call lim l e h = some (e', h') →
  ∃ E H V, Trace call lim l E H V ∧ E 0 = e ∧ H 0 = h ∧ E l.length = e' ∧ H l.length = h'
 | [], e, h, e', h', ha => by
  simp only [aops] at ha
  injection ha with ha
  injection ha with e1 e2
  exact ⟨fun _ => e, fun _ => h, fun _ => undef, ⟨fun i o ho => by simp at ho⟩, rfl, rfl, e1, e2⟩
 | o :: l, e, h, e', h', ha => by
  simp only [aops] at ha
  split at ha
  ·rename_i hw
   obtain ⟨⟨v, h1⟩, ha1, ha2⟩ := Option.bind_eq_some_iff.1 ha
   obtain ⟨E, H, V, ht, e1, e2, e3, e4⟩ := trace_of ha2
   refine ⟨fun i => match i with | 0 => e | i + 1 => E i, fun i => match i with | 0 => h | i + 1 => H i, fun i => match i with | 0 => v | i + 1 => V i, ⟨fun i o' ho => ?_⟩, rfl, rfl, e3, e4⟩
   cases i with
   | zero =>
    simp at ho
    subst ho
    exact ⟨e1, .inl ⟨hw, by simp only [e2]; exact ha1⟩⟩
   | succ i => exact ht.step i o' (by simpa using ho)
  ·rename_i hw
   obtain ⟨E, H, V, ht, e1, e2, e3, e4⟩ := trace_of ha
   refine ⟨fun i => match i with | 0 => e | i + 1 => E i, fun i => match i with | 0 => h | i + 1 => H i, fun i => match i with | 0 => undef | i + 1 => V i, ⟨fun i o' ho => ?_⟩, rfl, rfl, e3, e4⟩
   cases i with
   | zero =>
    simp at ho
    subst ho
    exact ⟨e1, .inr ⟨by simpa using hw, e2, rfl⟩⟩
   | succ i => exact ht.step i o' (by simpa using ho)
def Pfx (h h' : AH) : Prop := h.length ≤ h'.length ∧ ∀ b, b < h.length → h'[b]? = h[b]?
theorem Pfx.refl (h : AH) : Pfx h h := ⟨Nat.le_refl _, fun _ _ => rfl⟩
theorem Pfx.trans {h1 h2 h3 : AH} (p : Pfx h1 h2) (q : Pfx h2 h3) : Pfx h1 h3 := ⟨Nat.le_trans p.1 q.1, fun b hb => (q.2 b (Nat.lt_of_lt_of_le hb p.1)).trans (p.2 b hb)⟩
theorem HR.sub {h1 h2 : AH} (hr : HR nb r h1 w) (hs : ∀ b i x, r b = some i → h2[b]? = some x → h1[b]? = some x) : HR nb r h2 w where
 cells := fun hb hh => hr.cells hb (hs _ _ _ hb hh)
 own := fun hb ho hh => hr.own hb ho (hs _ _ _ hb hh)
 inj := fun {b b' i i'} hb hb' ho hl hl' he => by
  have lv : ∀ {b : Nat} {i : Im}, r b = some i → live h2[b]? = true → live h1[b]? = true := fun {b i} hb hl => by
   cases hx : h2[b]? with
   | none => rw [hx] at hl; cases hl
   | some x => rw [hx] at hl; rw [hs _ _ _ hb hx]; exact hl
  exact hr.inj hb hb' ho (lv hb hl) (lv hb' hl') he
 map := fun hb hh => hr.map hb (hs _ _ _ hb hh)
 bd := fun {b i} hb hl => hr.bd hb (by
  cases hx : h2[b]? with
  | none => rw [hx] at hl; cases hl
  | some x => rw [hx] at hl; rw [hs _ _ _ hb hx]; exact hl)
 mine := hr.mine
 glob := hr.glob
section
variable {call : Callee} {nt : Nat} {ops : Array Oper} {A : List (List Nat)} {l : List RO} {E : Nat → Env} {H : Nat → AH} {V : Nat → Value} {Q : Exit → Act → World → Prop}
def Lst (listed : Array Bool) (i : Nat) : Prop := listed.getD i false = true
structure RegOk (P : Program) (ops : Array Oper) (A : List (List Nat)) (hv : List Nat) (av : Nat → List Operand) : Prop where
 light : ∀ i o, ops[i]? = some o → i ∉ hv → (Rs.ropT P o.op).pure = true ∨ ∃ n x, Rs.ropT P o.op = .load n x ∧
  ∀ k, k ∈ hv → Rs.barrier A hv k = true → (k < i → Rs.isAnc A k i = true) ∧ (i < k → Rs.isAnc A i k = true ∨ (x ∈ av k ∧ Rs.unwritten ops i k x = true))
 lt : ∀ i, i ∈ hv → i < ops.size
structure Inv (ops : Array Oper) (A : List (List Nat)) (hv : List Nat) (nb lim nt : Nat) (r : Rho) (h : AH) (w : World) (df : List Deferred) (E : Nat → Env) (H : Nat → AH) (V : Nat → Value) (listed : Array Bool) (a : Act) (w' : World) (p q : Nat) (s : Rho) : Prop where
 size : listed.size = ops.size
 hpq : p ≤ q
 hlen : h.length ≤ (H p).length
 hq : q ≤ ops.size
 low : ∀ i, i ∈ hv → i < p → Lst listed i
 high : ∀ i, i ∈ hv → q ≤ i → ¬ Lst listed i
 quiet : ∀ i, i ∈ hv → p ≤ i → i < q → Rs.barrier A hv i = false
 top : q = ops.size ∨ (q ∈ hv ∧ Rs.barrier A hv q = true)
 closed : ∀ i j, Lst listed i → Rs.isAnc A j i = true → Lst listed j
 post : Post nb lim r h w s (H q) w'
 dom : ∀ i, i ∈ hv → p ≤ i → i < q → ¬ Lst listed i → ∀ b, (H i).length ≤ b → b < (H (i + 1)).length → s b = none
 tin : ∀ t i o, Lst listed i → ops[i]? = some o → o.dst = some t → VR s (V i) (a.tmps.getD t undef)
 tout : ∀ t, (∀ i o, Lst listed i → ops[i]? = some o → o.dst ≠ some t) → VR s (E 0 t) (a.tmps.getD t undef)
 tsize : a.tmps.size = nt
 tdef : a.defers = df
theorem ancsOk_inv (hA : Rs.ancsOk A ops = true) {i : Nat} {o : Oper} (ho : ops[i]? = some o) : (∀ x ∈ o.after, Region.binds .any x = true → x.on < i) ∧ ∀ j, Rs.isAnc A j i = true → ∃ x ∈ o.after, Region.binds .any x = true ∧ (x.on = j ∨ Rs.isAnc A j x.on = true) := by
 unfold Rs.ancsOk at hA
 simp only [Bool.and_eq_true, List.all_eq_true, List.mem_range] at hA
 have hi : i < ops.size := (Array.getElem?_eq_some_iff.1 ho).1
 have h2 := hA.2 i hi
 rw [ho] at h2
 simp only [Bool.and_eq_true, List.all_eq_true, Bool.or_eq_true, Bool.not_eq_true', decide_eq_true_eq, List.any_eq_true, beq_iff_eq] at h2
 refine ⟨fun x hx hb => ?_, fun j hj => ?_⟩
 ·rcases h2.1 x (by simpa using hx) with h3 | h3
  ·rw [hb] at h3; cases h3
  ·exact h3
 ·unfold Rs.isAnc at hj
  obtain ⟨x, h3, h4, h5⟩ := h2.2 j (by simpa using hj)
  exact ⟨x, by simpa using h3, h4, h5⟩
theorem dataOk_inv (hD : Rs.dataOk A ops = true) {i j : Nat} {oi oj : Oper} (hi : ops[i]? = some oi) (hj : ops[j]? = some oj) {t : Nat} (ht : oj.dst = some t) : (i = j ∨ oi.dst ≠ some t) ∧ (t ∈ oi.looksAt ops → Rs.isAnc A j i = true ∨ Rs.isAnc A i j = true ∨ i = j) := by
 unfold Rs.dataOk at hD
 simp only [List.all_eq_true, List.mem_range] at hD
 have h1 : i < ops.size := (Array.getElem?_eq_some_iff.1 hi).1
 have h2 : j < ops.size := (Array.getElem?_eq_some_iff.1 hj).1
 have h3 := hD i h1 j h2
 rw [hi, hj] at h3
 simp only [ht, Bool.and_eq_true, Bool.or_eq_true, beq_iff_eq, bne_iff_ne, Bool.not_eq_true'] at h3
 refine ⟨h3.1, fun hm => ?_⟩
 rcases h3.2 with ((h4 | h4) | h4) | h4
 ·rw [List.contains_eq_mem] at h4
  simp [hm] at h4
 ·exact .inl h4
 ·exact .inr (.inl h4)
 ·exact .inr (.inr h4)
theorem barrier_inv {hv : List Nat} {i : Nat} (hb : Rs.barrier A hv i = true) {j : Nat} (hj : j ∈ hv) : (j < i → Rs.isAnc A j i = true) ∧ (i < j → Rs.isAnc A i j = true) := by
 unfold Rs.barrier at hb
 simp only [List.all_eq_true] at hb
 have := hb j hj
 refine ⟨fun h1 => by rw [if_pos h1] at this; exact this, fun h1 => ?_⟩
 rw [if_neg (by omega), if_pos h1] at this
 exact this
theorem ready_anc (hA : Rs.ancsOk A ops = true) {listed : Array Bool} (hcl : ∀ i j, Lst listed i → Rs.isAnc A j i = true → Lst listed j) {i : Nat} (hi : i ∈ Region.ready .any ops listed) {j : Nat} (hj : Rs.isAnc A j i = true) : Lst listed j := by
 obtain ⟨h1, o, h2, h3⟩ := mem_ready.1 hi
 obtain ⟨x, h4, h5, h6⟩ := (ancsOk_inv hA h2).2 j hj
 have h7 : Lst listed x.on := h3 x h4 h5
 rcases h6 with h6 | h6
 ·rw [← h6]; exact h7
 ·exact hcl _ _ h7 h6
theorem all_listed (hA : Rs.ancsOk A ops = true) {listed : Array Bool} (hsz : listed.size = ops.size) (hr : Region.ready .any ops listed = []) : ∀ i, i < ops.size → Lst listed i := by
 intro i
 induction i using Nat.strongRecOn with
 | _ i ih =>
  intro hi
  apply Classical.byContradiction
  intro hn
  have ho : ops[i]? = some ops[i] := Array.getElem?_eq_getElem hi
  have : i ∈ Region.ready .any ops listed := by
   refine mem_ready.2 ⟨?_, ops[i], ho, fun x hx hb => ?_⟩
   ·unfold Lst at hn
    have hl : i < listed.size := by omega
    simp [hl] at hn ⊢
    exact hn
   ·have hlt := (ancsOk_inv hA ho).1 x hx hb
    exact ih _ hlt (by omega)
  rw [hr] at this
  cases this
theorem aop_pure {call : Callee} {p : ROp} (hp : p.pure = true) {x : Value × AH} (ha : aop call lim e h p = some x) : x.2 = h ∧ ∀ (l2 : Nat) (h2 : AH), aop call l2 e h2 p = some (x.1, h2) := by
 have key : ∀ (l2 : Nat) (h2 : AH), aop call l2 e h2 p = (aop call lim e h p).map fun r => (r.1, h2) := by
  intro l2 h2
  cases p <;> simp only [ROp.pure, bne_iff_ne, Bool.false_eq_true] at hp <;> simp only [aop]
  all_goals (try (repeat' split) <;> simp_all [Option.map_map, Function.comp_def, Option.map_bind, Option.bind_map] <;> done)
 refine ⟨?_, fun l2 h2 => by rw [key l2 h2, ha]; rfl⟩
 have := key lim h
 rw [ha] at this
 simp only [Option.map_some, Option.some.injEq] at this
 exact congrArg Prod.snd this
theorem aLoad_block {n : Option Nat} {x v : Value} {h2 : AH} (hl : aLoad n h x = some v) : ∃ ad, x = .pointer (some ad) ∧ ad.block < h.length ∧ (h2[ad.block]? = h[ad.block]? → aLoad n h2 x = some v) := by
 obtain ⟨b, o, cs, rfl, hc, hl2⟩ := aLoad_inv hl
 refine ⟨_, rfl, ?_, fun he => ?_⟩
 ·unfold cellsOf at hc
  split at hc
  ·rename_i h0
   exact (List.getElem?_eq_some_iff.1 h0).1
  ·cases hc
 ·simp only [aLoad] at hl ⊢
  unfold cellsOf at hl ⊢
  rw [he]
  exact hl
theorem apart_keep {call : Callee} (hcp : CallP call) {p : ROp} {x : Operand} {ad : Addr} (hx : apart e p x = true) (he : ev e x = .pointer (some ad)) (ha : aop call lim e h p = some (v, h')) (hb : ad.block < h.length) : h'[ad.block]? = h[ad.block]? := by
 have wr : ∀ {l b q : Nat} {us : List Value} {h'' : AH}, aWrite l h b q us = some h'' → b ≠ ad.block → h''[ad.block]? = h[ad.block]? := fun {l b q us h''} hw hne => by
  rcases aWrite_inv hw with ⟨_, rfl⟩ | ⟨_, hl, _, cs, _, _, rfl⟩
  ·rfl
  ·exact List.getElem?_set_ne hne
 unfold apart at hx
 rw [he] at hx
 have rest : ∀ {p : ROp}, aop call lim e h p = some (v, h') → aop call h.length e h p = aop call lim e h p → h'[ad.block]? = h[ad.block]? := fun h0 h1 => (aop_pre hcp (Nat.le_refl _) (h1.trans h0)).2 _ hb hb
 cases p <;> first | (simp only [Bool.false_eq_true] at hx; done) | exact rest ha rfl | skip
 all_goals simp only at hx
 case store n y z =>
  simp only [aop] at ha
  obtain ⟨h2, hw, hv⟩ := Option.map_eq_some_iff.1 ha
  injection hv with e1 e2; subst e2
  obtain ⟨b, q, hye, _, hw⟩ := aStore_inv hw
  rw [hye] at hx
  simp only [bne_iff_ne] at hx
  exact wr hw hx
 case append size bytes sl z =>
  simp only [aop] at ha
  obtain ⟨n, _, ha⟩ := Option.bind_eq_some_iff.1 ha
  obtain ⟨cs, _, ha⟩ := Option.bind_eq_some_iff.1 ha
  generalize ev e sl = sv at hx ha
  have push : ∀ {u : Blk}, (h ++ [u])[ad.block]? = h[ad.block]? := fun {u} => List.getElem?_append_left hb
  unfold aAppend at ha
  split at ha
  ·rename_i am len cap
   split at ha
   ·cases am with
    | none => simp only at ha; injection ha with ha; injection ha with e1 e2; subst e2; rfl
    | some am =>
     simp only [bne_iff_ne] at hx
     simp only at ha
     obtain ⟨h2, hw, hv⟩ := Option.map_eq_some_iff.1 ha
     injection hv with e1 e2; subst e2
     exact wr hw hx
   ·split at ha
    ·obtain ⟨old, _, ha⟩ := Option.bind_eq_some_iff.1 ha
     split at ha
     ·injection ha with ha; injection ha with e1 e2; subst e2; exact push
     ·injection ha with ha; injection ha with e1 e2; subst e2; exact push
     ·simp only [bne_iff_ne] at hx
      split at ha
      ·rename_i hc
       obtain ⟨cs, _, ha⟩ := Option.bind_eq_some_iff.1 ha
       split at ha
       ·injection ha with ha; injection ha with e1 e2; subst e2
        rw [List.getElem?_append_left (by simpa using hb), List.getElem?_set_ne hx]
       ·cases ha
      ·cases ha
    ·cases ha
  ·cases ha
theorem aWrite_len {b o : Nat} {us : List Value} (hw : aWrite lim h b o us = some h') : h'.length = h.length := by
 rcases aWrite_inv hw with ⟨_, rfl⟩ | ⟨_, hl, _, cs, _, _, rfl⟩
 ·rfl
 ·simp
theorem apart_len {call : Callee} (hcp : CallP call) {p : ROp} {x : Operand} (hx : apart e p x = true) (ha : aop call lim e h p = some (v, h')) : h.length ≤ h'.length := by
 unfold apart at hx
 split at hx
 ·have rest : ∀ {p : ROp}, aop call lim e h p = some (v, h') → aop call h.length e h p = aop call lim e h p → h.length ≤ h'.length := fun h0 h1 => (aop_pre hcp (Nat.le_refl _) (h1.trans h0)).1
  cases p <;> first | (simp only [Bool.false_eq_true] at hx; done) | exact rest ha rfl | skip
  all_goals simp only at hx
  case store n y z =>
   simp only [aop] at ha
   obtain ⟨h2, hw, hv⟩ := Option.map_eq_some_iff.1 ha
   injection hv with e1 e2; subst e2
   obtain ⟨b, q, hye, _, hw⟩ := aStore_inv hw
   exact Nat.le_of_eq (aWrite_len hw).symm
  case append size bytes sl z =>
   simp only [aop] at ha
   obtain ⟨n, _, ha⟩ := Option.bind_eq_some_iff.1 ha
   obtain ⟨cs, _, ha⟩ := Option.bind_eq_some_iff.1 ha
   unfold aAppend at ha
   split at ha
   ·split at ha
    ·split at ha
     ·injection ha with ha; injection ha with e1 e2; subst e2; exact Nat.le_refl _
     ·obtain ⟨h2, hw, hv⟩ := Option.map_eq_some_iff.1 ha
      injection hv with e1 e2; subst e2
      exact Nat.le_of_eq (aWrite_len hw).symm
    ·split at ha
     ·obtain ⟨old, _, ha⟩ := Option.bind_eq_some_iff.1 ha
      split at ha
      ·injection ha with ha; injection ha with e1 e2; subst e2; simp
      ·injection ha with ha; injection ha with e1 e2; subst e2; simp
      ·split at ha
       ·obtain ⟨cs, _, ha⟩ := Option.bind_eq_some_iff.1 ha
        split at ha
        ·injection ha with ha; injection ha with e1 e2; subst e2; simp
        ·cases ha
       ·cases ha
     ·cases ha
   ·cases ha
 ·cases hx
def Lof (P : Program) (nt : Nat) (ops : Array Oper) (A : List (List Nat)) (hv : List Nat) (av : Nat → List Operand) (l : List RO) : Prop :=
 ∀ (i : Nat) o, ops[i]? = some o → ∃ p g, l[i]? = some ⟨o.dst, p, g, !Rs.barrier A hv i, av i⟩ ∧ Rs.ropT P o.op = p ∧ Rs.rguard ops o = some g ∧ ∀ x, o.dst = some x → x < nt
variable {hv : List Nat} {av : Nat → List Operand}
theorem light_step (hR : RegOk P ops A hv av) (hl : Lof P nt ops A hv av l) (ht : Trace call lim l E H V) {i : Nat} (hi : i < ops.size) (hn : i ∉ hv) : H (i + 1) = H i := by
 obtain ⟨p, g, h1, h2, _⟩ := hl i _ (Array.getElem?_eq_getElem hi)
 rcases (ht.step _ _ h1).2 with ⟨_, h4⟩ | ⟨_, h4, _⟩
 ·have h5 := (aopc_inv h4).2
  simp only at h5
  rcases hR.light i _ (Array.getElem?_eq_getElem hi) hn with h6 | ⟨n, x, h6, _⟩
  ·rw [h2] at h6
   exact (aop_pure h6 h5).1
  ·rw [h2] at h6
   subst h6
   simp only [aop] at h5
   obtain ⟨y, _, hv⟩ := Option.map_eq_some_iff.1 h5
   injection hv with e1 e2
   exact e2.symm
 ·exact h4
theorem pfx_range (hR : RegOk P ops A hv av) (hp : CallP call) (hl : Lof P nt ops A hv av l) (ht : Trace call lim l E H V) : ∀ (d i : Nat), (∀ k, i ≤ k → k < i + d → k < ops.size ∧ (k ∈ hv → Rs.barrier A hv k = false)) → Pfx (H i) (H (i + d))
 | 0, i, _ => Pfx.refl _
 | d + 1, i, hq => by
  obtain ⟨h1, h2⟩ := hq (i + d) (by omega) (by omega)
  have ih := pfx_range hR hp hl ht d i (fun k a b => hq k a (by omega))
  refine ih.trans ?_
  by_cases hm : i + d ∈ hv
  ·obtain ⟨p, g, h3, _⟩ := hl (i + d) _ (Array.getElem?_eq_getElem h1)
   rcases (ht.step _ _ h3).2 with ⟨_, h4⟩ | ⟨_, h4, _⟩
   ·have h4 := (aopc_inv h4).2
    rw [h2 hm] at h4
    simp only [Bool.not_false, if_true] at h4
    have := aop_pre hp (Nat.le_refl _) h4
    exact ⟨this.1, fun b hb => this.2 b hb hb⟩
   ·rw [show i + (d + 1) = i + d + 1 by omega, h4]; exact Pfx.refl _
  ·rw [show i + (d + 1) = i + d + 1 by omega, light_step hR hl ht h1 hm]; exact Pfx.refl _
theorem env_range (hl : Lof P nt ops A hv av l) (ht : Trace call lim l E H V) (t : Nat) : ∀ (d i : Nat), (∀ k, i ≤ k → k < i + d → ∃ o, ops[k]? = some o ∧ o.dst ≠ some t) → E (i + d) t = E i t
 | 0, i, _ => rfl
 | d + 1, i, hq => by
  obtain ⟨o, h1, h2⟩ := hq (i + d) (by omega) (by omega)
  obtain ⟨p, g, h3, _⟩ := hl (i + d) _ h1
  rw [show i + (d + 1) = i + d + 1 by omega, (ht.step _ _ h3).1, ← env_range hl ht t d i (fun k a b => hq k a (by omega))]
  cases hd : o.dst with
  | none => rfl
  | some x =>
   simp only [upd]
   rw [if_neg (fun h => h2 (by rw [hd, h]))]
end
end
section
section
variable {P : Program} {nb lim : Nat} {r : Rho} {h : AH} {w : World} {df : List Deferred}
variable {call : Callee} {nt : Nat} {ops : Array Oper} {A : List (List Nat)} {l : List RO} {E : Nat → Env} {H : Nat → AH} {V : Nat → Value} {Q : Exit → Act → World → Prop}
variable {hv : List Nat} {av : Nat → List Operand}
theorem anc_lt (hA : Rs.ancsOk A ops = true) : ∀ (i : Nat), i < ops.size → ∀ j, Rs.isAnc A j i = true → j < i := by
 intro i
 induction i using Nat.strongRecOn with
 | _ i ih =>
  intro hi j hj
  have ho : ops[i]? = some ops[i] := Array.getElem?_eq_getElem hi
  obtain ⟨x, h4, h5, h6⟩ := (ancsOk_inv hA ho).2 j hj
  have hlt := (ancsOk_inv hA ho).1 x h4 h5
  rcases h6 with h6 | h6
  ·omega
  ·have := ih _ hlt (by omega) j h6
   omega
variable {listed : Array Bool} {a : Act} {w' : World} {p q : Nat} {s : Rho}
theorem env_none (hl : Lof P nt ops A hv av l) (ht : Trace call lim l E H V) {t : Nat} (hn : ∀ (k : Nat) (o : Oper), ops[k]? = some o → o.dst ≠ some t) {i : Nat} (hi : i ≤ ops.size) : E i t = E 0 t := by
 have := env_range hl ht t i 0 (fun k a b => ⟨_, Array.getElem?_eq_getElem (by omega), hn k _ (Array.getElem?_eq_getElem (by omega))⟩)
 rwa [Nat.zero_add] at this
theorem env_early (hD : Rs.dataOk A ops = true) (hl : Lof P nt ops A hv av l) (ht : Trace call lim l E H V) {t j : Nat} {oj : Oper} (hj : ops[j]? = some oj) (hjt : oj.dst = some t) {i : Nat} (hi : i ≤ j) : E i t = E 0 t := by
 have hjn : j < ops.size := (Array.getElem?_eq_some_iff.1 hj).1
 have := env_range hl ht t i 0 (fun k a b => ⟨_, Array.getElem?_eq_getElem (by omega), by
  rcases (dataOk_inv hD (Array.getElem?_eq_getElem (show k < ops.size by omega)) hj hjt).1 with h1 | h1
  ·omega
  ·exact h1⟩)
 rwa [Nat.zero_add] at this
theorem env_late (hD : Rs.dataOk A ops = true) (hl : Lof P nt ops A hv av l) (ht : Trace call lim l E H V) {t j : Nat} {oj : Oper} (hj : ops[j]? = some oj) (hjt : oj.dst = some t) {i : Nat} (hi : j < i) (hin : i ≤ ops.size) : E i t = V j := by
 have h1 := env_range hl ht t (i - (j + 1)) (j + 1) (fun k a b => ⟨_, Array.getElem?_eq_getElem (by omega), by
  rcases (dataOk_inv hD (Array.getElem?_eq_getElem (show k < ops.size by omega)) hj hjt).1 with h1 | h1
  ·omega
  ·exact h1⟩)
 rw [show j + 1 + (i - (j + 1)) = i by omega] at h1
 obtain ⟨p, g, h3, _⟩ := hl j _ hj
 rw [h1, (ht.step _ _ h3).1, hjt]
 simp [upd]
theorem val_at (hD : Rs.dataOk A ops = true) (hl : Lof P nt ops A hv av l) (ht : Trace call lim l E H V) (I : Inv ops A hv nb lim nt r h w df E H V listed a w' p q s) {i : Nat} (hin : i ≤ ops.size) {t : Nat}
  (hw : ∀ j oj, ops[j]? = some oj → oj.dst = some t → (j < i ∧ Lst listed j) ∨ (i ≤ j ∧ ¬ Lst listed j)) : VR s (E i t) (a.tmps.getD t undef) := by
 by_cases hex : ∃ (j : Nat) (oj : Oper), ops[j]? = some oj ∧ oj.dst = some t
 ·obtain ⟨j, oj, hj, hjt⟩ := hex
  rcases hw j oj hj hjt with ⟨hji, hlj⟩ | ⟨hij, hnlj⟩
  ·rw [env_late hD hl ht hj hjt hji hin]
   exact I.tin t j oj hlj hj hjt
  ·rw [env_early hD hl ht hj hjt hij]
   refine I.tout t fun k o hk1 hk2 hk3 => ?_
   rcases (dataOk_inv hD hk2 hj hjt).1 with h1 | h1
   ·exact hnlj (h1 ▸ hk1)
   ·exact h1 hk3
 ·have none_ : ∀ (k : Nat) (o : Oper), ops[k]? = some o → o.dst ≠ some t := fun k o hk hd => hex ⟨k, o, hk, hd⟩
  rw [env_none hl ht none_ hin]
  exact I.tout t fun k o _ hk => none_ k o hk
theorem lst_set {i k : Nat} (hi : i < listed.size) : Lst (listed.setIfInBounds i true) k ↔ (k = i ∨ Lst listed k) := by
 unfold Lst
 simp only [Array.getD_eq_getD_getElem?, Array.getElem?_setIfInBounds]
 by_cases h0 : i = k
 ·subst h0; simp [hi]
 ·simp [h0, Ne.symm h0]
theorem pfx_of (hR : RegOk P ops A hv av) (hp : CallP call) (hl : Lof P nt ops A hv av l) (ht : Trace call lim l E H V) (I : Inv ops A hv nb lim nt r h w df E H V listed a w' p q s) {i j : Nat} (h1 : p ≤ i) (h2 : i ≤ j) (h3 : j ≤ q) : Pfx (H i) (H j) := by
 have := pfx_range hR hp hl ht (j - i) i (fun k a b => ⟨by have := I.hq; omega, fun hm => I.quiet k hm (by omega) (by omega)⟩)
 rwa [show i + (j - i) = j by omega] at this
theorem not_lst (hs : listed.size = ops.size) {i : Nat} (hi : i ∈ Region.ready .any ops listed) : ¬ Lst listed i := by
 obtain ⟨h1, o, ho, _⟩ := mem_ready.1 hi
 have hsz : i < listed.size := by rw [hs]; exact (Array.getElem?_eq_some_iff.1 ho).1
 unfold Lst
 simp [hsz] at h1 ⊢
 exact h1
theorem put_tin (hD : Rs.dataOk A ops = true) (hl : Lof P nt ops A hv av l) (I : Inv ops A hv nb lim nt r h w df E H V listed a w' p q s) {i : Nat} {o : Oper} (ho : ops[i]? = some o) {s' : Rho} {u : Value} (hle : s.Le s') (hu : VR s' (V i) u) :
  (∀ t k o', Lst (listed.setIfInBounds i true) k → ops[k]? = some o' → o'.dst = some t → VR s' (V k) ((a.put o.dst u).tmps.getD t undef)) ∧
  (∀ t, (∀ k o', Lst (listed.setIfInBounds i true) k → ops[k]? = some o' → o'.dst ≠ some t) → VR s' (E 0 t) ((a.put o.dst u).tmps.getD t undef)) := by
 have hin : i < ops.size := (Array.getElem?_eq_some_iff.1 ho).1
 have hsz : i < listed.size := by rw [I.size]; exact hin
 obtain ⟨p0, g0, hli, hr1, hr2, hr3⟩ := hl i o ho
 have hdst : ∀ x, o.dst = some x → x < a.tmps.size := fun x hx => by rw [I.tsize]; exact hr3 x hx
 refine ⟨fun t k o' hk hko hkt => ?_, fun t hk => ?_⟩
 ·rw [getD_put a o.dst u t hdst]
  by_cases hki : k = i
  ·subst hki
   rw [ho] at hko
   injection hko with hko
   subst hko
   rw [if_pos hkt]
   exact hu
  ·have hlk := ((lst_set hsz).1 hk).resolve_left hki
   rw [if_neg (fun hx => by
    rcases (dataOk_inv hD hko ho hx).1 with h1 | h1
    ·exact hki h1
    ·exact h1 hkt)]
   exact (I.tin t k o' hlk hko hkt).mono hle
 ·have hne : o.dst ≠ some t := hk i o ((lst_set hsz).2 (.inl rfl)) ho
  rw [getD_put a o.dst u t hdst, if_neg hne]
  exact (I.tout t (fun k o' h1 h2 => hk k o' ((lst_set hsz).2 (.inr h1)) h2)).mono hle
theorem closed_set (hA : Rs.ancsOk A ops = true) (hcl : ∀ i j, Lst listed i → Rs.isAnc A j i = true → Lst listed j) {i : Nat} (hi : i ∈ Region.ready .any ops listed) (hsz : i < listed.size) : ∀ k j, Lst (listed.setIfInBounds i true) k → Rs.isAnc A j k = true → Lst (listed.setIfInBounds i true) j := fun k j hk hj => by
 rcases (lst_set hsz).1 hk with rfl | h1
 ·exact (lst_set hsz).2 (.inr (ready_anc hA hcl hi hj))
 ·exact (lst_set hsz).2 (.inr (hcl k j h1 hj))
theorem finish_light (hA : Rs.ancsOk A ops = true) (hD : Rs.dataOk A ops = true) (hl : Lof P nt ops A hv av l) (hfr : Fresh r h (H q)) (I : Inv ops A hv nb lim nt r h w df E H V listed a w' p q s) {i : Nat} (hi : i ∈ Region.ready .any ops listed) (hm : i ∉ hv) {o : Oper} (ho : ops[i]? = some o)
  {s' : Rho} {w2 : World} {u : Value} (P2 : Post nb lim s (H q) w' s' (H q) w2) (hu : VR s' (V i) u) : Inv ops A hv nb lim nt r h w df E H V (listed.setIfInBounds i true) (a.put o.dst u) w2 p q s' := by
 have hin : i < ops.size := (Array.getElem?_eq_some_iff.1 ho).1
 have hsz : i < listed.size := by rw [I.size]; exact hin
 obtain ⟨t1, t2⟩ := put_tin hD hl I ho P2.le hu
 refine ⟨by simp [I.size], I.hpq, I.hlen, I.hq, fun k hk1 hk => (lst_set hsz).2 (.inr (I.low k hk1 hk)), fun k hk1 hk hx => ?_, I.quiet, I.top, closed_set hA I.closed hi hsz, I.post.trans P2 hfr, ?_, t1, t2, by rw [put_size]; exact I.tsize, by rw [put_defers]; exact I.tdef⟩
 ·rcases (lst_set hsz).1 hx with rfl | h1
  ·exact hm hk1
  ·exact I.high k hk1 hk h1
 ·intro k hk0 hk1 hk2 hk3 b hb1 hb2
  have hkl : ¬ Lst listed k := fun hx => hk3 ((lst_set hsz).2 (.inr hx))
  cases hb : s' b with
  | none => rfl
  | some im =>
   exfalso
   rcases P2.new hb with h1 | ⟨h1, h2, _⟩
   ·rw [I.dom k hk0 hk1 hk2 hkl b hb1 hb2] at h1; cases h1
   ·omega
theorem finish_quiet (hA : Rs.ancsOk A ops = true) (hD : Rs.dataOk A ops = true) (hR : RegOk P ops A hv av) (hp : CallP call) (hl : Lof P nt ops A hv av l) (ht : Trace call lim l E H V) (I : Inv ops A hv nb lim nt r h w df E H V listed a w' p q s) {i : Nat} (hi : i ∈ Region.ready .any ops listed) (hm : i ∈ hv) (hpi : p ≤ i) (hiq : i < q) {o : Oper} (ho : ops[i]? = some o)
  {s' : Rho} {w2 : World} {u : Value} (P2 : Post nb (H i).length s (H i) w' s' (H (i + 1)) w2) (hu : VR s' (V i) u) : Inv ops A hv nb lim nt r h w df E H V (listed.setIfInBounds i true) (a.put o.dst u) w2 p q s' := by
 have hin : i < ops.size := (Array.getElem?_eq_some_iff.1 ho).1
 have hnl : ¬ Lst listed i := not_lst I.size hi
 obtain ⟨p0, g0, hli, hr1, hr2, hr3⟩ := hl i o ho
 have x1 : Pfx (H i) (H (i + 1)) := pfx_of hR hp hl ht I hpi (by omega) (by omega)
 have x2 : Pfx (H (i + 1)) (H q) := pfx_of hR hp hl ht I (by omega) (by omega) (Nat.le_refl _)
 have x3 : Pfx (H i) (H q) := x1.trans x2
 have keep : ∀ c, c < w'.heap.size → w2.heap[c]? = w'.heap[c]? := fun c hc => P2.keep c hc fun hx => by
  obtain ⟨b, im, h0, h1, _⟩ := hx
  omega
 have noChg : ∀ c, ¬ Chg (H i).length s (H i) c := fun c hx => by
  obtain ⟨b, im, h0, h1, _⟩ := hx
  omega
 have parts : ∀ {b : Nat} {im : Im}, s' b = some im → s b = some im ∨ ((H i).length ≤ b ∧ b < (H (i + 1)).length ∧ w'.heap.size ≤ im.blk) := fun {b im} hb => by
  rcases P2.new hb with h1 | ⟨h1, h2, _, h3⟩
  ·exact .inl h1
  ·exact .inr ⟨h1, h2, h3.resolve_right (noChg _)⟩
 have hsz : i < listed.size := by rw [I.size]; exact hin
 have get1 : ∀ {b : Nat} {x : Blk}, b < (H (i + 1)).length → (H q)[b]? = some x → (H (i + 1))[b]? = some x := fun {b x} hb hx => by rw [← x2.2 b hb]; exact hx
 obtain ⟨t1, t2⟩ := put_tin hD hl I ho P2.le hu
 have HI := I.post.hr
 refine ⟨by simp [I.size], I.hpq, I.hlen, I.hq, fun k hk1 hk => (lst_set hsz).2 (.inr (I.low k hk1 hk)), fun k hk1 hk hx => ?_, I.quiet, I.top, closed_set hA I.closed hi hsz, ⟨⟨?_, ?_, ?_, ?_, ?_, ?_, ?_⟩, I.post.le.trans P2.le, ?_, I.post.len, P2.os.trans I.post.os, P2.tape.trans I.post.tape, P2.output.trans I.post.output, Nat.le_trans I.post.size P2.size, fun c hc hn => ?_⟩, ?_, t1, t2, by rw [put_size]; exact I.tsize, by rw [put_defers]; exact I.tdef⟩
 ·rcases (lst_set hsz).1 hx with rfl | h1
  ·omega
  ·exact I.high k hk1 hk h1
 ·-- cells
  intro b im cs hb hh j x hx
  rcases parts hb with h1 | ⟨h1, h2, h3⟩
  ·obtain ⟨y, hy, k⟩ := HI.cells h1 hh j x hx
   refine ⟨y, ?_, k.mono P2.le⟩
   unfold World.cell? at *
   rw [keep _ (HI.bd h1 (by rw [hh]; rfl))]
   exact hy
  ·exact P2.hr.cells hb (get1 h2 hh) j x hx
 ·intro b im cs hb hown hh
  rcases parts hb with h1 | ⟨h1, h2, h3⟩
  ·rw [keep _ (HI.bd h1 (by rw [hh]; rfl))]
   exact HI.own h1 hown hh
  ·exact P2.hr.own hb hown (get1 h2 hh)
 ·intro b b' im im' hb hb' hown hlv hlv' he
  have lv : ∀ {b : Nat}, b < (H (i + 1)).length → live (H q)[b]? = true → live (H (i + 1))[b]? = true := fun {b} hb hl => by rw [← x2.2 b hb]; exact hl
  rcases parts hb with h1 | ⟨h1, h2, h3⟩ <;> rcases parts hb' with h1' | ⟨h1', h2', h3'⟩
  ·exact HI.inj h1 h1' hown hlv hlv' he
  ·have := HI.bd h1 hlv; omega
  ·have := HI.bd h1' hlv'; omega
  ·exact P2.hr.inj hb hb' hown (lv h2 hlv) (lv h2' hlv') he
 ·intro b im es hb hh
  rcases parts hb with h1 | ⟨h1, h2, h3⟩
  ·obtain ⟨ces, clk, k1, k2⟩ := HI.map h1 hh
   exact ⟨ces, clk, by rw [keep _ (HI.bd h1 (by rw [hh]; rfl))]; exact k1, k2.mono P2.le⟩
  ·exact P2.hr.map hb (get1 h2 hh)
 ·intro b im hb hlv
  rcases parts hb with h1 | ⟨h1, h2, h3⟩
  ·exact Nat.lt_of_lt_of_le (HI.bd h1 hlv) P2.size
  ·exact P2.hr.bd hb (by rw [← x2.2 b h2]; exact hlv)
 ·intro b im hb hn
  exact P2.hr.mine hb hn
 ·exact P2.hr.glob
 ·intro b im hb
  rcases P2.new hb with h1 | ⟨h1, h2, h3, h4⟩
  ·exact I.post.new h1
  ·have hple : h.length ≤ (H i).length := Nat.le_trans I.hlen (pfx_of hR hp hl ht I (Nat.le_refl _) hpi (by omega)).1
   exact .inr ⟨by omega, by have := x2.1; omega, h3, .inl (by have := h4.resolve_right (noChg _); have := I.post.size; omega)⟩
 ·rw [keep c (by have := I.post.size; omega)]
  exact I.post.keep c hc hn
 ·intro k hk0 hk1 hk2 hk3 b hb1 hb2
  have hki : k ≠ i := fun he => hk3 ((lst_set hsz).2 (.inl he))
  have hkl : ¬ Lst listed k := fun hx => hk3 ((lst_set hsz).2 (.inr hx))
  cases hb : s' b with
  | none => rfl
  | some im =>
   exfalso
   rcases parts hb with h1 | ⟨h1, h2, _⟩
   ·rw [I.dom k hk0 hk1 hk2 hkl b hb1 hb2] at h1; cases h1
   ·rcases Nat.lt_or_ge k i with h5 | h5
    ·have := (pfx_of hR hp hl ht I (i := k + 1) (j := i) (by omega) (by omega) (by omega)).1
     omega
    ·have := (pfx_of hR hp hl ht I (i := i + 1) (j := k) (by omega) (by omega) (by omega)).1
     omega
end
end
section
section
variable {P : Program} {nb lim : Nat} {r : Rho} {h : AH} {w : World} {df : List Deferred}
variable {call : Callee} {nt : Nat} {ops : Array Oper} {A : List (List Nat)} {l : List RO} {E : Nat → Env} {H : Nat → AH} {V : Nat → Value} {Q : Exit → Act → World → Prop}
variable {listed : Array Bool} {a : Act} {w' : World} {p q : Nat} {s : Rho} {hv : List Nat} {av : Nat → List Operand}
theorem next_barrier (A : List (List Nat)) (hv : List Nat) (n : Nat) : ∀ (d m : Nat), m + d = n → ∃ q, m ≤ q ∧ q ≤ n ∧ (∀ k, k ∈ hv → m ≤ k → k < q → Rs.barrier A hv k = false) ∧ (q = n ∨ (q ∈ hv ∧ Rs.barrier A hv q = true))
 | 0, m, h => ⟨m, Nat.le_refl _, by omega, fun k _ h1 h2 => by omega, .inl (by omega)⟩
 | d + 1, m, h => by
  by_cases hb : m ∈ hv ∧ Rs.barrier A hv m = true
  ·exact ⟨m, Nat.le_refl _, by omega, fun k _ h1 h2 => by omega, .inr hb⟩
  ·obtain ⟨q, h1, h2, h3, h4⟩ := next_barrier A hv n d (m + 1) (by omega)
   refine ⟨q, by omega, h2, fun k hk h5 h6 => ?_, h4⟩
   by_cases hkm : k = m
   ·subst hkm
    cases hx : Rs.barrier A hv k with
    | false => rfl
    | true => exact absurd ⟨hk, hx⟩ hb
   ·exact h3 k hk (by omega) h6
theorem start_seg (hR : RegOk P ops A hv av) (hp : CallP call) (hl : Lof P nt ops A hv av l) (ht : Trace call lim l E H V) {m : Nat} (hm : m ≤ ops.size) (hsz : listed.size = ops.size) (hlen : h.length ≤ (H m).length) (low : ∀ i, i ∈ hv → i < m → Lst listed i) (high : ∀ i, i ∈ hv → m ≤ i → ¬ Lst listed i)
  (closed : ∀ i j, Lst listed i → Rs.isAnc A j i = true → Lst listed j) (post : Post nb lim r h w s (H m) w') (hf : Fresh r h (H ops.size)) (hall : ∀ i, m ≤ i → i ≤ ops.size → (H m).length ≤ (H i).length ∧ (H i).length ≤ (H ops.size).length)
  (tin : ∀ t i o, Lst listed i → ops[i]? = some o → o.dst = some t → VR s (V i) (a.tmps.getD t undef)) (tout : ∀ t, (∀ i o, Lst listed i → ops[i]? = some o → o.dst ≠ some t) → VR s (E 0 t) (a.tmps.getD t undef))
  (tsize : a.tmps.size = nt) (tdef : a.defers = df) : ∃ q, Inv ops A hv nb lim nt r h w df E H V listed a w' m q s := by
 obtain ⟨q, h1, h2, h3, h4⟩ := next_barrier A hv ops.size (ops.size - m) m (by omega)
 have hpf : ∀ i, m ≤ i → i ≤ q → Pfx (H m) (H i) := fun i a b => by
  have := pfx_range hR hp hl ht (i - m) m (fun k c d => ⟨by omega, fun hk => h3 k hk (by omega) (by omega)⟩)
  rwa [show m + (i - m) = i by omega] at this
 have hsub : ∀ b i x, s b = some i → (H q)[b]? = some x → (H m)[b]? = some x := fun b i x hb hx => by
  have hlt := (List.getElem?_eq_some_iff.1 hx).1
  have : b < (H m).length := by
   rcases post.new hb with h5 | ⟨_, h5, _⟩
   ·rcases Nat.lt_or_ge b h.length with h6 | h6
    ·omega
    ·rw [hf b h6 (Nat.lt_of_lt_of_le hlt (hall q h1 h2).2)] at h5; cases h5
   ·exact h5
  rw [← (hpf q h1 (Nat.le_refl _)).2 b this]
  exact hx
 refine ⟨q, hsz, h1, hlen, h2, low, fun i hk hi => high i hk (by omega), h3, h4, closed, ⟨post.hr.sub hsub, post.le, fun hb => ?_, by have := (hpf q h1 (Nat.le_refl _)).1; have := post.len; omega, post.os, post.tape, post.output, post.size, post.keep⟩, ?_, tin, tout, tsize, tdef⟩
 ·rcases post.new hb with h5 | ⟨h5, h6, h7⟩
  ·exact .inl h5
  ·exact .inr ⟨h5, by have := (hpf q h1 (Nat.le_refl _)).1; omega, h7⟩
 ·intro i _ hi1 hi2 _ b hb1 hb2
  cases hb : s b with
  | none => rfl
  | some im =>
   exfalso
   have h9 := (hall i hi1 (by omega)).1
   have h10 := (hall (i + 1) (by omega) (by omega)).2
   rcases post.new hb with h5 | ⟨_, h5, _⟩
   ·rw [hf b (by omega) (by omega)] at h5; cases h5
   ·omega
theorem heaps_mono (hp : CallP call) (hlim : lim ≤ (H 0).length) (ht : Trace call lim l E H V) (hl : Lof P nt ops A hv av l) : ∀ (d i : Nat), i + d ≤ ops.size → (H 0).length ≤ (H i).length → (H i).length ≤ (H (i + d)).length
 | 0, i, _, _ => Nat.le_refl _
 | d + 1, i, h1, h2 => by
  have ih := heaps_mono hp hlim ht hl d i (by omega) h2
  obtain ⟨p, g, h3, _⟩ := hl (i + d) _ (Array.getElem?_eq_getElem (by omega))
  refine Nat.le_trans ih ?_
  rcases (ht.step _ _ h3).2 with ⟨_, h4⟩ | ⟨_, h4, _⟩
  ·exact (aop_pre hp (lim_ge (Nat.le_trans hlim (Nat.le_trans h2 ih))) (aopc_inv h4).2).1
  ·rw [show i + (d + 1) = i + d + 1 by omega, h4]; exact Nat.le_refl _
theorem block_range (hR : RegOk P ops A hv av) (hp : CallP call) (hl : Lof P nt ops A hv av l) (ht : Trace call lim l E H V) (I : Inv ops A hv nb lim nt r h w df E H V listed a w' p q s) {i : Nat} (hm : i ∉ hv) (hnl : ¬ Lst listed i) {x : Operand} {ad : Addr} (he : ev (E i) x = .pointer (some ad)) (hb : ad.block < (H i).length)
  (hx : ∀ k, k ∈ hv → Rs.barrier A hv k = true → i < k → Rs.isAnc A i k = true ∨ (x ∈ av k ∧ Rs.unwritten ops i k x = true)) : ∀ (d : Nat), i + d ≤ q → (H i).length ≤ (H (i + d)).length ∧ (H (i + d))[ad.block]? = (H i)[ad.block]?
 | 0, _ => ⟨Nat.le_refl _, rfl⟩
 | d + 1, hd => by
  obtain ⟨i1, i2⟩ := block_range hR hp hl ht I hm hnl he hb hx d (by omega)
  have hkn : i + d < ops.size := by have := I.hq; omega
  have hb2 : ad.block < (H (i + d)).length := by omega
  rw [show i + (d + 1) = i + d + 1 by omega]
  by_cases hk : i + d ∈ hv
  ·cases hbar : Rs.barrier A hv (i + d) with
   | false =>
    have := pfx_range hR hp hl ht 1 (i + d) (fun k h1 h2 => ⟨by omega, fun _ => by rw [show k = i + d by omega]; exact hbar⟩)
    exact ⟨by have := this.1; omega, by rw [this.2 _ hb2]; exact i2⟩
   | true =>
    have hlst : Lst listed (i + d) := by
     rcases Nat.lt_or_ge (i + d) p with h1 | h1
     ·exact I.low _ hk h1
     ·have := I.quiet _ hk h1 (by omega)
      rw [hbar] at this; cases this
    have hne : i < i + d := by
     cases d with
     | zero => exact absurd hk hm
     | succ d => omega
    rcases hx _ hk hbar hne with h1 | ⟨h1, h2⟩
    ·exact absurd (I.closed _ _ hlst h1) hnl
    ·obtain ⟨p0, g0, h3, _⟩ := hl (i + d) _ (Array.getElem?_eq_getElem hkn)
     rcases (ht.step _ _ h3).2 with ⟨_, h4⟩ | ⟨_, h4, _⟩
     ·obtain ⟨h5, h6⟩ := aopc_inv h4
      rw [List.all_eq_true] at h5
      have h7 := h5 x h1
      have hex : ev (E (i + d)) x = .pointer (some ad) := by
       rw [← he]
       cases x with
       | tmp t =>
        simp only [ev]
        refine env_range hl ht t d i fun k k1 k2 => ⟨_, Array.getElem?_eq_getElem (by omega), ?_⟩
        unfold Rs.unwritten at h2
        simp only [List.all_eq_true, List.mem_range] at h2
        have := h2 k (by omega)
        rw [Array.getElem?_eq_getElem (by omega)] at this
        simp only [Bool.or_eq_true, Bool.not_eq_true', Bool.and_eq_false_iff, decide_eq_false_iff_not, bne_iff_ne] at this
        rcases this with (h8 | h8) | h8
        ·omega
        ·omega
        ·exact h8
       | const v => rfl
       | global g => rfl
       | func f => rfl
      have hle : (H (i + d)).length ≤ (H (i + d + 1)).length := by
       have : (if (!Rs.barrier A hv (i + d)) = true then (H (i + d)).length else lim) = lim := by rw [hbar]; rfl
       have h8 : lim ≤ (H (i + d)).length ∨ ¬ lim ≤ (H (i + d)).length := Classical.em _
       rcases h8 with h8 | h8
       ·exact (aop_pre hp (lim_ge h8) h6).1
       ·-- a write below a mark above the heap: nothing is written
        exact (apart_len hp h7 h6)
      exact ⟨by omega, by rw [apart_keep hp h7 hex h6 hb2]; exact i2⟩
     ·rw [h4]; exact ⟨i1, i2⟩
  ·rw [light_step hR hl ht hkn hk]; exact ⟨i1, i2⟩
theorem draw_all (hc : CallS P nb call) (hR : RegOk P ops A hv av) (hp : CallP call) (hA : Rs.ancsOk A ops = true) (hD : Rs.dataOk A ops = true) (hl : Lof P nt ops A hv av l) (ht : Trace call lim l E H V) (hnb : nb ≤ lim) (hH0 : (H 0).length = h.length) (hlim : lim ≤ h.length) (hf : Fresh r h (H ops.size))
  (hQ : ∀ s a w', Post nb lim r h w s (H ops.size) w' → ER s (E ops.size) a nt → a.defers = df → Q .normal a w') :
  ∀ (fuel : Nat) (listed : Array Bool) (a : Act) (w' : World) (p q : Nat) (s : Rho), listed.toList.countP (fun b => b == false) = fuel → Inv ops A hv nb lim nt r h w df E H V listed a w' p q s → wpAny P .any ops Q fuel listed a w' := by
 have mono0 : ∀ i, i ≤ ops.size → (H 0).length ≤ (H i).length := fun i hi => by
  have := heaps_mono hp (by rw [hH0]; exact hlim) ht hl i 0 (by omega) (Nat.le_refl _)
  rwa [Nat.zero_add] at this
 have mono : ∀ i j, i ≤ j → j ≤ ops.size → (H i).length ≤ (H j).length := fun i j hij hj => by
  have := heaps_mono hp (by rw [hH0]; exact hlim) ht hl (j - i) i (by omega) (mono0 i (by omega))
  rwa [show i + (j - i) = j by omega] at this
 have fin : ∀ (listed : Array Bool) (a : Act) (w' : World) (p q : Nat) (s : Rho), Inv ops A hv nb lim nt r h w df E H V listed a w' p q s → (∀ i, i < ops.size → Lst listed i) → Q .normal a w' := by
  intro listed a w' p q s I hall
  have hq : q = ops.size := by
   rcases I.top with h1 | ⟨h1, _⟩
   ·exact h1
   ·exact absurd (hall q (hR.lt q h1)) (I.high q h1 (Nat.le_refl _))
  subst hq
  exact hQ s a w' I.post ⟨fun t => val_at hD hl ht I (Nat.le_refl _) fun j oj hj _ => .inl ⟨(Array.getElem?_eq_some_iff.1 hj).1, hall j (Array.getElem?_eq_some_iff.1 hj).1⟩, I.tsize⟩ I.tdef
 have lstOf : ∀ (listed : Array Bool), listed.size = ops.size → ∀ i, i < ops.size → (Lst listed i ∨ listed.getD i true = false) := fun listed hs i hi => by
  unfold Lst
  have : i < listed.size := by omega
  simp [this]
 intro fuel
 induction fuel with
 | zero =>
  intro listed a w' p q s hcnt I
  have hall : ∀ i, i < ops.size → Lst listed i := fun i hi => by
   rw [List.countP_eq_zero] at hcnt
   have hs : i < listed.size := by rw [I.size]; exact hi
   have := hcnt listed[i] (by simp)
   unfold Lst
   simp [hs] at this ⊢
   exact this
  refine ⟨?_, fin _ _ _ _ _ _ I hall⟩
  cases hr : Region.ready .any ops listed with
  | nil => rfl
  | cons j js =>
   obtain ⟨h1, o, h2, _⟩ := mem_ready.1 (show j ∈ Region.ready .any ops listed by rw [hr]; simp)
   have hjn := (Array.getElem?_eq_some_iff.1 h2).1
   have h3 := hall j hjn
   unfold Lst at h3
   have hs : j < listed.size := by rw [I.size]; exact hjn
   simp [hs] at h1 h3
   rw [h1] at h3; cases h3
 | succ fuel ih =>
  intro listed a w' p q s hcnt I
  refine ⟨fun hr => fin _ _ _ _ _ _ I (all_listed hA I.size hr), fun i hi => ?_⟩
  obtain ⟨hi1, o, ho, hi2⟩ := mem_ready.1 hi
  have hin : i < ops.size := (Array.getElem?_eq_some_iff.1 ho).1
  have hsz : i < listed.size := by rw [I.size]; exact hin
  have hnl : ¬ Lst listed i := by
   unfold Lst
   simp [hsz] at hi1 ⊢
   exact hi1
  have hcnt' : (listed.setIfInBounds i true).toList.countP (fun b => b == false) = fuel := by
   have hv : listed[i] = false := by simpa [hsz] using hi1
   rw [Array.toList_setIfInBounds, List.countP_set (by simpa using hsz), hcnt]
   simp [hv]
  obtain ⟨p0, g0, hli, hr1, hr2, hr3⟩ := hl i o ho
  have hval : ∀ t, t ∈ o.looksAt ops → VR s (E i t) (a.tmps.getD t undef) := fun t hm => val_at hD hl ht I (Nat.le_of_lt hin) fun j oj hj hjt => by
   rcases (dataOk_inv hD ho hj hjt).2 hm with this | this | this
   ·exact .inl ⟨anc_lt hA i hin j this, ready_anc hA I.closed hi this⟩
   ·exact .inr ⟨Nat.le_of_lt (anc_lt hA j (Array.getElem?_eq_some_iff.1 hj).1 i this), fun hx => hnl (I.closed j i hx this)⟩
   ·subst this
    exact .inr ⟨Nat.le_refl _, hnl⟩
  have hwant := wanted_of (e := E i) (a := a) hr2 (ro := ⟨o.dst, p0, g0, !Rs.barrier A hv i, av i⟩) rfl (fun t b hg => by
   refine hval t (List.mem_append_right _ ?_)
   unfold Rs.rguard at hr2
   split at hr2
   ·injection hr2 with hr2; rw [← hr2] at hg; cases hg
   ·rename_i j b' hgd
    split at hr2
    ·rename_i t' ht'
     injection hr2 with hr2
     rw [← hr2] at hg
     injection hg with hg
     injection hg with e1 e2
     subst e1
     rw [hgd]
     simp [ht']
    ·cases hr2)
  have hops : Rs.rop P o.op = some p0 → ∀ x ∈ o.op.operands.toList, VR s (ev (E i) x) (a.eval x) := fun hr1 x hx => by
   have hok := rop_ok hr1
   rw [List.all_eq_true] at hok
   refine opd_of (hok x hx) fun t hxt => hval t (List.mem_append_left _ ?_)
   subst hxt
   exact List.mem_filterMap.2 ⟨.tmp t, hx, rfl⟩
  have HI := I.post.hr
  have hfq : Fresh r h (H q) := hf.left (mono q ops.size I.hq (Nat.le_refl _))
  have hlimq : ∀ j, j ≤ ops.size → lim ≤ (H j).length := fun j hj => Nat.le_trans hlim (by rw [← hH0]; exact mono0 j hj)
  by_cases hm : i ∈ hv
  ·-- an operation with a place in the row
   have hpi : p ≤ i := by
    rcases Nat.lt_or_ge i p with h1 | h1
    ·exact absurd (I.low i hm h1) hnl
    ·exact h1
   have hiq : i ≤ q := by
    rcases Nat.lt_or_ge q i with h1 | h1
    ·exfalso
     rcases I.top with h2 | ⟨h2, h3⟩
     ·omega
     ·exact I.high q h2 (Nat.le_refl _) (ready_anc hA I.closed hi ((barrier_inv h3 hm).2 h1))
    ·exact h1
   have hHi : HR nb s (H i) w' := by
    have hpf := pfx_of hR hp hl ht I hpi hiq (Nat.le_refl _)
    exact HI.sub fun b im x hb hx => by rw [hpf.2 b (List.getElem?_eq_some_iff.1 hx).1]; exact hx
   have hlimi := hlimq i (by omega)
   have step : ∀ (s' : Rho) (w2 : World) (u : Value), Post nb (if (!Rs.barrier A hv i) then (H i).length else lim) s (H i) w' s' (H (i + 1)) w2 → VR s' (V i) u → wpAny P .any ops Q fuel (listed.setIfInBounds i true) (a.put o.dst u) w2 := by
    intro s' w2 u P2 hu
    by_cases hlt : i < q
    ·have hb := I.quiet i hm hpi hlt
     rw [hb] at P2
     simp only [Bool.not_false, if_true] at P2
     exact ih _ _ _ p q s' hcnt' (finish_quiet hA hD hR hp hl ht I hi hm hpi hlt ho P2 hu)
    ·have hqe : i = q := by omega
     subst hqe
     have hb : Rs.barrier A hv i = true := by
      rcases I.top with h1 | ⟨_, h1⟩
      ·omega
      ·exact h1
     rw [hb] at P2
     simp only [Bool.not_true, Bool.false_eq_true, if_false] at P2
     have hlow : ∀ j, j ∈ hv → j < i → Lst listed j := fun j hj1 hj => ready_anc hA I.closed hi ((barrier_inv hb hj1).1 hj)
     have post' := I.post.trans P2 hfq
     obtain ⟨t1, t2⟩ := put_tin hD hl I ho P2.le hu
     obtain ⟨q2, I2⟩ := start_seg (listed := listed.setIfInBounds i true) (a := a.put o.dst u) (w' := w2) (s := s') (m := i + 1) hR hp hl ht (by omega) (by simp [I.size]) (by have := mono0 (i + 1) (by omega); omega)
      (fun j hj1 hj => (lst_set hsz).2 (by rcases Nat.lt_or_ge j i with h1 | h1; exact .inr (hlow j hj1 h1); exact .inl (by omega)))
      (fun j hj1 hj hx => by
       rcases (lst_set hsz).1 hx with h1 | h1
       ·omega
       ·exact I.high j hj1 (by omega) h1)
      (closed_set hA I.closed hi hsz)
      post' hf (fun j h1 h2 => ⟨mono _ _ h1 h2, mono _ _ h2 (Nat.le_refl _)⟩) t1 t2 (by rw [put_size]; exact I.tsize) (df := df) (by rw [put_defers]; exact I.tdef)
     exact ih _ _ _ _ _ _ hcnt' I2
   unfold wpOp
   rw [ho]
   simp only
   rw [hwant]
   rcases (ht.step i _ hli).2 with ⟨h1, h2⟩ | ⟨h1, h2, h3⟩
   ·rw [if_pos h1]
    replace h2 := (aopc_inv h2).2
    simp only at h2
    have hfr : Fresh s (H i) (H (i + 1)) := by
     by_cases hlt : i < q
     ·exact I.dom i hm hpi hlt hnl
     ·have hqe : i = q := by omega
      subst hqe
      exact (I.post.fresh hf).left (mono _ _ (by omega) (Nat.le_refl _))
    have hlq : nb ≤ (if (!Rs.barrier A hv i) then (H i).length else lim) := by split <;> omega
    have hrp : Rs.rop P o.op = some p0 := by rw [← hr1] at h2 ⊢; exact ropT_some (P := P) h2
    exact .inl (rop_good hc hHi hlq (lim_ge hlimi) hrp (hops hrp) h2 hfr _ _ fun s' u w2 q1 q2 => step s' w2 u q1 q2)
   ·rw [if_neg (by rw [h1]; simp)]
    exact step s w' undef (by rw [h2]; exact Post.refl hHi) (by rw [h3]; exact VR.undef _)
  ·-- one that may be done at any time
   have step : ∀ (s' : Rho) (w2 : World) (u : Value), Post nb lim s (H q) w' s' (H q) w2 → VR s' (V i) u → wpAny P .any ops Q fuel (listed.setIfInBounds i true) (a.put o.dst u) w2 := by
    intro s' w2 u P2 hu
    exact ih _ _ _ p q s' hcnt' (finish_light hA hD hl hfq I hi hm ho P2 hu)
   unfold wpOp
   rw [ho]
   simp only
   rw [hwant]
   rcases (ht.step i _ hli).2 with ⟨h1, h2⟩ | ⟨h1, h2, h3⟩
   ·rw [if_pos h1]
    replace h2 := (aopc_inv h2).2
    simp only at h2
    have hrp : Rs.rop P o.op = some p0 := by rw [← hr1] at h2 ⊢; exact ropT_some (P := P) h2
    have h4 : aop call lim (E i) (H q) p0 = some (V i, H q) := by
     rcases hR.light i o ho hm with h5 | ⟨n, x, h5, h6⟩
     ·rw [hr1] at h5
      exact (aop_pure h5 h2).2 lim (H q)
     ·rw [hr1] at h5
      subst h5
      simp only [aop] at h2 ⊢
      obtain ⟨v, h7, h8⟩ := Option.map_eq_some_iff.1 h2
      injection h8 with e1 e2
      rw [← e1]
      have hlt : i ≤ q := by
       rcases I.top with h9 | ⟨h9, h10⟩
       ·omega
       ·rcases Nat.lt_or_ge q i with h11 | h11
        ·exact absurd (ready_anc hA I.closed hi ((h6 q h9 h10).1 h11)) (I.high q h9 (Nat.le_refl _))
        ·exact h11
      obtain ⟨ad, h9, h10, h11⟩ := aLoad_block (h2 := H q) h7
      have h12 := block_range hR hp hl ht I hm hnl h9 h10 (fun k k1 k2 => (h6 k k1 k2).2) (q - i) (by omega)
      rw [show i + (q - i) = q by omega] at h12
      rw [h11 h12.2]
      rfl
    exact .inl (rop_good hc HI hnb (hlimq q I.hq) hrp (hops hrp) h4 (fun b h5 h6 => by omega) _ _ fun s' u w2 q1 q2 => step s' w2 u q1 q2)
   ·rw [if_neg (by rw [h1]; simp)]
    exact step s w' undef (Post.refl HI) (by rw [h3]; exact VR.undef _)
end
end
section
section
variable {P : Program} {nb lim : Nat} {call : Callee} {nt : Nat}
theorem zipIdx_get (ops : Array Oper) (k : Nat) (o : Oper) (i : Nat) : ops.toList.zipIdx[k]? = some (o, i) → i = k ∧ ops[k]? = some o := by
 intro h
 rw [List.getElem?_zipIdx] at h
 simp at h
 obtain ⟨x, h1, h2, h3⟩ := h
 exact ⟨h3.symm, by rw [h1, h2]⟩
theorem regOk_of {ops : Array Oper} {A : List (List Nat)} (h : Rs.floatOk P A ops = true) : RegOk P ops A (Rs.heavies P A ops) (Rs.avoid P A ops) := by
 have hat : ∀ (i : Nat) o, ops[i]? = some o → Rs.opAt P ops i = Rs.ropT P o.op := fun i o ho => by unfold Rs.opAt; rw [ho]
 have hfl : ∀ i, i ∈ Rs.floats P A ops → i < ops.size := fun i hi => by
  unfold Rs.floats Rs.npures at hi
  dsimp only at hi
  split at hi
  ·cases hi
  ·simp only [List.mem_filter, List.mem_range] at hi
   exact hi.1.1
 refine ⟨fun i o ho hn => ?_, fun i hi => ?_⟩
 ·have hi : i < ops.size := (Array.getElem?_eq_some_iff.1 ho).1
  unfold Rs.heavies at hn
  simp only [List.mem_filter, Bool.not_eq_true', not_and, Bool.not_eq_false] at hn
  cases hp : (Rs.ropT P o.op).pure with
  | true => exact .inl rfl
  | false =>
   have hnp : i ∈ Rs.npures P ops := by
    unfold Rs.npures
    simp only [List.mem_filter, List.mem_range, hat i o ho, hp]
    exact ⟨hi, rfl⟩
   have hf : i ∈ Rs.floats P A ops := by
    have := hn hnp
    rw [List.contains_eq_mem] at this
    simpa using this
   right
   unfold Rs.floatOk at h
   simp only [List.all_eq_true] at h
   have h1 := h i hf
   rw [hat i o ho] at h1
   cases hx : (Rs.ropT P o.op).loadOf with
   | none => rw [hx] at h1; cases h1
   | some x =>
    rw [hx] at h1
    have : ∃ n, Rs.ropT P o.op = .load n x := by
     revert hx
     generalize Rs.ropT P o.op = p
     intro hx
     cases p <;> simp only [ROp.loadOf, Option.some.injEq, reduceCtorEq] at hx
     subst hx
     exact ⟨_, rfl⟩
    obtain ⟨n, hp2⟩ := this
    refine ⟨n, x, hp2, fun k hk hb => ?_⟩
    simp only [List.all_eq_true] at h1
    have h2 := h1 k hk
    rw [hb] at h2
    simp only [Bool.not_true, Bool.false_or] at h2
    refine ⟨fun hlt => by rw [if_pos hlt] at h2; exact h2, fun hlt => ?_⟩
    rw [if_neg (by omega), Bool.or_eq_true] at h2
    rcases h2 with h2 | h2
    ·exact .inl h2
    ·by_cases ha : Rs.isAnc A i k = true
     ·exact .inl ha
     ·refine .inr ⟨?_, h2⟩
      unfold Rs.avoid
      have hk2 : (Rs.heavies P A ops).contains k = true := by rw [List.contains_eq_mem]; simpa using hk
      simp only [hk2, hb, Bool.and_self, if_true]
      refine List.mem_filterMap.2 ⟨i, hf, ?_⟩
      have ha2 : Rs.isAnc A i k = false := by simpa using ha
      simp only [hlt, decide_true, ha2, Bool.not_false, Bool.and_self, if_true, hat i o ho, hx]
 ·unfold Rs.heavies Rs.npures at hi
  simp only [List.mem_filter, List.mem_range] at hi
  exact hi.1.1
theorem region_sound (hc : CallS P nb call) (hp : CallP call) (hm : P.follows .mixedOrders = true) (hnb : nb ≤ lim) {id : Nat} {ops : Array Oper} {draw : Bool} {rc : RC} (hr : Rs.code P nt (.region id ops draw) = some rc) {n : Nat} {e : Env} {h : AH} {x : XT} {e' : Env} {h' : AH} {r : Rho} {a : Act} {w : World} {Q : Exit → Act → World → Prop}
  (ha : acode call n lim rc e h = some (x, e', h')) (hh : HR nb r h w) (he : ER r e a nt) (hf : Fresh r h h') (hl : lim ≤ h.length) (hQ : ∀ r' a' w', Post nb lim r h w r' h' w' → ER r' e' a' nt → a'.defers = a.defers → Q .normal a' w') : (Code.region id ops draw).wp P Q a w ∧ x = .normal := by
 cases draw with
 | false =>
  simp only [Rs.code] at hr
  injection hr with hr
  cases h1 : Rs.ropers P nt ops (fun _ => false) (fun _ => []) ops.toList.zipIdx with
  | none => rw [h1] at hr; simp only [Option.map_none, Option.getD_none] at hr; subst hr; simp [acode] at ha
  | some l =>
  rw [h1] at hr
  simp only [Option.map_some, Option.getD_some] at hr
  subst hr
  simp only [acode] at ha
  obtain ⟨⟨e1, h2⟩, h3, h4⟩ := Option.map_eq_some_iff.1 ha
  injection h4 with h4 h5
  injection h5 with h5 h6
  subst h4; subst h5; subst h6
  refine ⟨wp_region ?_, rfl⟩
  have := aops_seq hc hp hnb ops.toList.zipIdx l e h e1 h2 r a w (Q := Q) (fun x hx => by
   obtain ⟨k, hk, hk2⟩ := List.getElem_of_mem hx
   obtain ⟨o, i⟩ := x
   obtain ⟨g1, g2⟩ := zipIdx_get ops k o i (by rw [List.getElem?_eq_getElem hk, hk2])
   subst g1
   exact g2) h1 h3 hh he hf hl hQ
  have e2 : ops.toList.zipIdx.map (·.2) = List.range ops.size := by
   apply List.ext_getElem?
   intro i
   simp only [List.getElem?_map, List.getElem?_zipIdx, List.getElem?_range]
   by_cases hi : i < ops.size
   ·simp [hi]
   ·simp [hi, List.getElem?_eq_none]
  rw [e2] at this
  exact this
 | true =>
  simp only [Rs.code] at hr
  split at hr
  ·rename_i hok
   rw [Bool.and_eq_true, Bool.and_eq_true] at hok
   obtain ⟨⟨hA, hD⟩, hFl⟩ := hok
   have hR := regOk_of hFl
   injection hr with hr
   cases h1 : Rs.ropers P nt ops (fun i => !Rs.barrier (Rs.ancs ops.toList) (Rs.heavies P (Rs.ancs ops.toList) ops) i) (Rs.avoid P (Rs.ancs ops.toList) ops) ops.toList.zipIdx with
   | none => rw [h1] at hr; simp only [Option.map_none, Option.getD_none] at hr; subst hr; simp [acode] at ha
   | some l =>
   rw [h1] at hr
   simp only [Option.map_some, Option.getD_some] at hr
   subst hr
   simp only [acode] at ha
   obtain ⟨⟨e1, h2⟩, h3, h4⟩ := Option.map_eq_some_iff.1 ha
   injection h4 with h4 h5
   injection h5 with h5 h6
   subst h4; subst h5; subst h6
   refine ⟨wp_region_any hm ?_, rfl⟩
   obtain ⟨g1, g2⟩ := ropers_get h1
   have hll : l.length = ops.size := by rw [g1]; simp
   have hL : Lof P nt ops (Rs.ancs ops.toList) (Rs.heavies P (Rs.ancs ops.toList) ops) (Rs.avoid P (Rs.ancs ops.toList) ops) l := fun i o ho => by
    have hi : i < ops.size := (Array.getElem?_eq_some_iff.1 ho).1
    obtain ⟨p, g, k1, k2⟩ := g2 i o i (by rw [List.getElem?_zipIdx]; simp [ho])
    exact ⟨p, g, k1, k2⟩
   obtain ⟨E, H, V, ht, t1, t2, t3, t4⟩ := trace_of h3
   rw [hll] at t3 t4
   have hmono := fun d i => heaps_mono (lim := lim) (H := H) hp (by rw [t2]; exact hl) ht hL d i
   have mono0 : ∀ i, i ≤ ops.size → (H 0).length ≤ (H i).length := fun i hi => by
    have := hmono i 0 (by omega) (Nat.le_refl _)
    rwa [Nat.zero_add] at this
   have mono : ∀ i j, i ≤ j → j ≤ ops.size → (H i).length ≤ (H j).length := fun i j hij hj => by
    have := hmono (j - i) i (by omega) (mono0 i (by omega))
    rwa [show i + (j - i) = j by omega] at this
   have hfH : Fresh r h (H ops.size) := by rw [t4]; exact hf
   have hno : ∀ i, ¬ Lst (Array.replicate ops.size false) i := fun i hx => by
    unfold Lst at hx
    by_cases hi : i < ops.size
    ·simp [hi] at hx
    ·simp [hi] at hx
   obtain ⟨q, I⟩ := start_seg (nb := nb) (lim := lim) (r := r) (h := h) (w := w.drew) (df := a.defers) (listed := Array.replicate ops.size false) (a := a) (w' := w.drew) (s := r) (m := 0) hR hp hL ht (Nat.zero_le _) (by simp) (by rw [t2]; exact Nat.le_refl _)
    (fun i _ hi => by omega) (fun i _ _ => hno i) (fun i j hi _ => absurd hi (hno i)) (by rw [t2]; exact Post.refl (hh.same rfl)) hfH (fun i _ h2 => ⟨mono0 i h2, mono i _ h2 (Nat.le_refl _)⟩) (fun t i o hx => absurd hx (hno i)) (fun t _ => by rw [t1]; exact he.tmps t) he.size rfl
   refine draw_all hc hR hp hA hD hL ht hnb (by rw [t2]) hl hfH (fun s a' w' p1 p2 p3 => ?_) ops.size _ _ _ _ _ _ (by rw [Array.toList_replicate, List.countP_replicate]; rfl) I
   rw [t4] at p1
   rw [t3] at p2
   exact hQ s a' w' ((drew_post hh).trans p1 (fun b h1 h2 => by omega)) p2 p3
  ·injection hr with hr; subst hr; simp [acode] at ha
theorem aloop_pre {body : Env → AH → Out} (hb : ∀ e h x e' h', lim ≤ h.length → body e h = some (x, e', h') → Pre lim h h') : ∀ (n : Nat) (e : Env) (h : AH) (x : XT) (e' : Env) (h' : AH), lim ≤ h.length → aloop body n e h = some (x, e', h') → Pre lim h h'
 | 0, e, h, x, e', h', _, ha => by simp [aloop] at ha
 | n + 1, e, h, x, e', h', hl, ha => by
  simp only [aloop] at ha
  obtain ⟨⟨y, e1, h1⟩, h2, h3⟩ := Option.bind_eq_some_iff.1 ha
  have p := hb _ _ _ _ _ hl h2
  cases y with
  | normal => exact p.trans (aloop_pre hb n e1 h1 x e' h' (Nat.le_trans hl p.1) h3)
  | exit id => injection h3 with h3; injection h3 with q1 q2; injection q2 with q2 q3; subst q3; exact p
  | ret => injection h3 with h3; injection h3 with q1 q2; injection q2 with q2 q3; subst q3; exact p
theorem acode_pre (hp : CallP call) {n : Nat} : ∀ (rc : RC) (e : Env) (h : AH) (x : XT) (e' : Env) (h' : AH), lim ≤ h.length → acode call n lim rc e h = some (x, e', h') → Pre lim h h'
 | .skip, e, h, x, e', h', hl, ha => by simp only [acode] at ha; injection ha with ha; injection ha with q1 q2; injection q2 with q2 q3; subst q3; exact Pre.refl _ _
 | .ops l, e, h, x, e', h', hl, ha => by
  simp only [acode] at ha
  obtain ⟨⟨e1, h2⟩, h3, h4⟩ := Option.map_eq_some_iff.1 ha
  injection h4 with q1 q2; injection q2 with q2 q3; subst q3
  exact aops_pre hp hl h3
 | .seq a b, e, h, x, e', h', hl, ha => by
  simp only [acode] at ha
  obtain ⟨⟨y, e1, h1⟩, h2, h3⟩ := Option.bind_eq_some_iff.1 ha
  have p := acode_pre hp a _ _ _ _ _ hl h2
  cases y with
  | normal => exact p.trans (acode_pre hp b _ _ _ _ _ (Nat.le_trans hl p.1) h3)
  | exit id => injection h3 with h3; injection h3 with q1 q2; injection q2 with q2 q3; subst q3; exact p
  | ret => injection h3 with h3; injection h3 with q1 q2; injection q2 with q2 q3; subst q3; exact p
 | .cond c a b, e, h, x, e', h', hl, ha => by
  simp only [acode] at ha
  split at ha
  ·split at ha
   ·exact acode_pre hp a _ _ _ _ _ hl ha
   ·exact acode_pre hp b _ _ _ _ _ hl ha
  ·cases ha
 | .block id a, e, h, x, e', h', hl, ha => by
  simp only [acode] at ha
  obtain ⟨⟨y, e1, h1⟩, h2, h3⟩ := Option.map_eq_some_iff.1 ha
  have p := acode_pre hp a _ _ _ _ _ hl h2
  cases y with
  | normal => injection h3 with q1 q2; injection q2 with q2 q3; subst q3; exact p
  | ret => injection h3 with q1 q2; injection q2 with q2 q3; subst q3; exact p
  | exit i =>
   simp only at h3
   split at h3
   ·injection h3 with q1 q2; injection q2 with q2 q3; subst q3; exact p
   ·injection h3 with q1 q2; injection q2 with q2 q3; subst q3; exact p
 | .loop a, e, h, x, e', h', hl, ha => by
  simp only [acode] at ha
  exact aloop_pre (fun e h x e' h' hl ha => acode_pre hp a e h x e' h' hl ha) n e h x e' h' hl ha
 | .fail, e, h, x, e', h', hl, ha => by simp [acode] at ha
 | .exit id, e, h, x, e', h', hl, ha => by simp only [acode] at ha; injection ha with ha; injection ha with q1 q2; injection q2 with q2 q3; subst q3; exact Pre.refl _ _
 | .ret, e, h, x, e', h', hl, ha => by simp only [acode] at ha; injection ha with ha; injection ha with q1 q2; injection q2 with q2 q3; subst q3; exact Pre.refl _ _
def xt : XT → Exit
 | .normal => .normal
 | .exit id => .exit id
 | .ret => .ret
def LW (P : Program) (c : Code) (Q : Exit → Act → World → Prop) (a : Act) (w : World) : Prop :=
 ∀ (b : Frame) (k : List Item) (cs : List Frame), ∃ e a' w', Q e a' w' ∧ Arrives P (lone (b.at a (.code c :: .inLoop c :: k)) cs w) b k cs e a' w'
theorem wp_loop_of {c : Code} {Q : Exit → Act → World → Prop} {a : Act} {w : World} (h : LW P c Q a w) : (Code.loop c).wp P Q a w :=
 fun b k cs => let ⟨e, a', w', q, r⟩ := h b k cs; ⟨e, a', w', q, .of_steps (.one step_loop) r⟩
theorem LW_round {c : Code} {Q : Exit → Act → World → Prop} {a : Act} {w : World} (h : c.wp P (Exit.then (LW P c Q) Q) a w) : LW P c Q a w := by
 intro b k cs
 obtain ⟨e, a₁, w₁, hq, harr⟩ := h b (.inLoop c :: k) cs
 cases e with
 | normal =>
  obtain ⟨e₂, a₂, w₂, hq₂, harr₂⟩ := hq b k cs
  exact ⟨e₂, a₂, w₂, hq₂, .of_steps (Steps.trans harr (.one step_inLoop)) harr₂⟩
 | exit id => exact ⟨_, a₁, w₁, hq, .pass (x := .inLoop c) rfl (fun _ _ => .inl (by simp)) harr⟩
 | goto l => exact ⟨_, a₁, w₁, hq, .pass (x := .inLoop c) rfl (fun _ _ => .inl (by simp)) harr⟩
 | ret => exact ⟨_, a₁, w₁, hq, .pass (x := .inLoop c) rfl (fun _ _ => .inl (by simp)) harr⟩
 | panic ch => exact ⟨_, a₁, w₁, hq, .pass (x := .inLoop c) rfl (fun _ _ => .inl (by simp)) harr⟩
 | outgrown => exact ⟨_, a₁, w₁, hq, .pass (x := .inLoop c) rfl (fun _ _ => .inl (by simp)) harr⟩
theorem code_sound (hc : CallS P nb call) (hp : CallP call) (hm : P.follows .mixedOrders = true) (hnb : nb ≤ lim) {n : Nat} :
  ∀ (c : Code) (rc : RC), Rs.code P nt c = some rc → ∀ (e : Env) (h : AH) (x : XT) (e' : Env) (h' : AH) (r : Rho) (a : Act) (w : World) (Q : Exit → Act → World → Prop),
   acode call n lim rc e h = some (x, e', h') → HR nb r h w → ER r e a nt → Fresh r h h' → lim ≤ h.length →
   (∀ r' a' w', Post nb lim r h w r' h' w' → ER r' e' a' nt → a'.defers = a.defers → Q (xt x) a' w') → c.wp P Q a w
 | .skip, rc, hr, e, h, x, e', h', r, a, w, Q, ha, hh, he, hf, hl, hQ => by
  simp only [Rs.code] at hr
  injection hr with hr; subst hr
  simp only [acode] at ha
  injection ha with ha; injection ha with q1 q2; injection q2 with q2 q3; subst q1; subst q2; subst q3
  exact wp_skip (hQ r a w (Post.refl hh) he rfl)
 | .label _, rc, hr, e, h, x, e', h', r, a, w, Q, ha, hh, he, hf, hl, hQ => by
  simp only [Rs.code] at hr
  injection hr with hr; subst hr
  simp only [acode] at ha
  injection ha with ha; injection ha with q1 q2; injection q2 with q2 q3; subst q1; subst q2; subst q3
  exact wp_label (hQ r a w (Post.refl hh) he rfl)
 | .region id ops draw, rc, hr, e, h, x, e', h', r, a, w, Q, ha, hh, he, hf, hl, hQ => by
  have hx : x = .normal := (region_sound (Q := fun _ _ _ => True) hc hp hm hnb hr ha hh he hf hl (fun _ _ _ _ _ _ => trivial)).2
  subst hx
  exact (region_sound hc hp hm hnb hr ha hh he hf hl hQ).1
 | .seq c1 c2, rc, hr, e, h, x, e', h', r, a, w, Q, ha, hh, he, hf, hl, hQ => by
  simp only [Rs.code] at hr
  obtain ⟨r1, k1, hr⟩ := Option.bind_eq_some_iff.1 hr
  obtain ⟨r2, k2, rfl⟩ := Option.map_eq_some_iff.1 hr
  simp only [acode] at ha
  obtain ⟨⟨y, e1, h1⟩, h2, h3⟩ := Option.bind_eq_some_iff.1 ha
  have p := acode_pre hp r1 _ _ _ _ _ hl h2
  refine wp_seq (code_sound hc hp hm hnb c1 r1 k1 e h y e1 h1 r a w _ h2 hh he ?_ hl fun r' a' w' p1 p2 p3 => ?_)
  ·cases y with
   | normal => exact hf.left (acode_pre hp r2 _ _ _ _ _ (Nat.le_trans hl p.1) h3).1
   | exit id => injection h3 with h3; injection h3 with q1 q2; injection q2 with q2 q3; subst q3; exact hf
   | ret => injection h3 with h3; injection h3 with q1 q2; injection q2 with q2 q3; subst q3; exact hf
  ·cases y with
   | normal =>
    have pp := acode_pre hp r2 _ _ _ _ _ (Nat.le_trans hl p.1) h3
    exact code_sound hc hp hm hnb c2 r2 k2 e1 h1 x e' h' r' a' w' Q h3 p1.hr p2 (p1.fresh hf) (Nat.le_trans hl p.1) fun r2 a2 w2 s1 s2 s3 => hQ r2 a2 w2 (p1.trans s1 (hf.left pp.1)) s2 (s3.trans p3)
   | exit id => injection h3 with h3; injection h3 with q1 q2; injection q2 with q2 q3; subst q1; subst q2; subst q3; exact hQ r' a' w' p1 p2 p3
   | ret => injection h3 with h3; injection h3 with q1 q2; injection q2 with q2 q3; subst q1; subst q2; subst q3; exact hQ r' a' w' p1 p2 p3
 | .cond c c1 c2, rc, hr, e, h, x, e', h', r, a, w, Q, ha, hh, he, hf, hl, hQ => by
  simp only [Rs.code] at hr
  split at hr
  ·rename_i hok
   obtain ⟨r1, k1, hr⟩ := Option.bind_eq_some_iff.1 hr
   obtain ⟨r2, k2, rfl⟩ := Option.map_eq_some_iff.1 hr
   simp only [acode] at ha
   split at ha
   ·rename_i t ht
    have hv := he.opd hok
    rw [ht] at hv
    refine wp_cond hv.bool_inv ?_
    cases t with
    | true => exact code_sound hc hp hm hnb c1 r1 k1 e h x e' h' r a w Q (by simpa using ha) hh he hf hl hQ
    | false => exact code_sound hc hp hm hnb c2 r2 k2 e h x e' h' r a w Q (by simpa using ha) hh he hf hl hQ
   ·cases ha
  ·injection hr with hr; subst hr; simp [acode] at ha
 | .block id c1, rc, hr, e, h, x, e', h', r, a, w, Q, ha, hh, he, hf, hl, hQ => by
  simp only [Rs.code] at hr
  obtain ⟨r1, k1, rfl⟩ := Option.map_eq_some_iff.1 hr
  simp only [acode] at ha
  obtain ⟨⟨y, e1, h1⟩, h2, h3⟩ := Option.map_eq_some_iff.1 ha
  have hh1 : h1 = h' ∧ e1 = e' := by
   cases y with
   | normal => injection h3 with q1 q2; injection q2 with q2 q3; exact ⟨q3, q2⟩
   | ret => injection h3 with q1 q2; injection q2 with q2 q3; exact ⟨q3, q2⟩
   | exit i =>
    simp only at h3
    split at h3
    ·injection h3 with q1 q2; injection q2 with q2 q3; exact ⟨q3, q2⟩
    ·injection h3 with q1 q2; injection q2 with q2 q3; exact ⟨q3, q2⟩
  obtain ⟨rfl, rfl⟩ := hh1
  refine wp_block (code_sound hc hp hm hnb c1 r1 k1 e h y e1 h1 r a w _ h2 hh he hf hl fun r' a' w' p1 p2 p3 => ?_)
  have := hQ r' a' w' p1 p2 p3
  cases y with
  | normal => injection h3 with q1 q2; subst q1; exact this
  | ret => injection h3 with q1 q2; subst q1; exact this
  | exit i =>
   simp only at h3
   simp only [xt, Exit.inBlock]
   split at h3
   ·rename_i hi
    injection h3 with q1 q2
    subst q1
    rw [if_pos hi]
    exact this
   ·rename_i hi
    injection h3 with q1 q2
    subst q1
    rw [if_neg hi]
    exact this
 | .loop c1, rc, hr, e, h, x, e', h', r, a, w, Q, ha, hh, he, hf, hl, hQ => by
  simp only [Rs.code] at hr
  obtain ⟨r1, k1, rfl⟩ := Option.map_eq_some_iff.1 hr
  simp only [acode] at ha
  refine wp_loop_of ?_
  have key : ∀ (m : Nat) (e : Env) (h : AH) (r : Rho) (a : Act) (w : World), aloop (acode call n lim r1) m e h = some (x, e', h') → HR nb r h w → ER r e a nt → Fresh r h h' → lim ≤ h.length →
    (∀ r' a' w', Post nb lim r h w r' h' w' → ER r' e' a' nt → a'.defers = a.defers → Q (xt x) a' w') → LW P c1 Q a w := by
   intro m
   induction m with
   | zero => intro e h r a w ha; simp [aloop] at ha
   | succ m ih =>
    intro e h r a w ha hh he hf hl hQ
    simp only [aloop] at ha
    obtain ⟨⟨y, e1, h1⟩, h2, h3⟩ := Option.bind_eq_some_iff.1 ha
    have p := acode_pre hp r1 _ _ _ _ _ hl h2
    have pre2 : Pre lim h1 h' := by
     cases y with
     | normal => exact aloop_pre (fun e h x e' h' hl ha => acode_pre hp r1 e h x e' h' hl ha) m e1 h1 x e' h' (Nat.le_trans hl p.1) h3
     | exit id => injection h3 with h3; injection h3 with q1 q2; injection q2 with q2 q3; subst q3; exact Pre.refl _ _
     | ret => injection h3 with h3; injection h3 with q1 q2; injection q2 with q2 q3; subst q3; exact Pre.refl _ _
    refine LW_round (code_sound hc hp hm hnb c1 r1 k1 e h y e1 h1 r a w _ h2 hh he (hf.left pre2.1) hl fun r' a' w' p1 p2 p3 => ?_)
    cases y with
    | normal => exact ih e1 h1 r' a' w' h3 p1.hr p2 (p1.fresh hf) (Nat.le_trans hl p.1) fun r2 a2 w2 s1 s2 s3 => hQ r2 a2 w2 (p1.trans s1 (hf.left pre2.1)) s2 (s3.trans p3)
    | exit id => injection h3 with h3; injection h3 with q1 q2; injection q2 with q2 q3; subst q1; subst q2; subst q3; exact hQ r' a' w' p1 p2 p3
    | ret => injection h3 with h3; injection h3 with q1 q2; injection q2 with q2 q3; subst q1; subst q2; subst q3; exact hQ r' a' w' p1 p2 p3
  exact key n e h r a w ha hh he hf hl hQ
 | .exit id, rc, hr, e, h, x, e', h', r, a, w, Q, ha, hh, he, hf, hl, hQ => by
  simp only [Rs.code] at hr
  injection hr with hr; subst hr
  simp only [acode] at ha
  injection ha with ha; injection ha with q1 q2; injection q2 with q2 q3; subst q1; subst q2; subst q3
  exact wp_exit (hQ r a w (Post.refl hh) he rfl)
 | .ret, rc, hr, e, h, x, e', h', r, a, w, Q, ha, hh, he, hf, hl, hQ => by
  simp only [Rs.code] at hr
  injection hr with hr; subst hr
  simp only [acode] at ha
  injection ha with ha; injection ha with q1 q2; injection q2 with q2 q3; subst q1; subst q2; subst q3
  exact wp_ret (hQ r a w (Post.refl hh) he rfl)
 | .scope _, rc, hr, e, h, x, e', h', r, a, w, Q, ha, hh, he, hf, hl, hQ => by simp only [Rs.code] at hr; injection hr with hr; subst hr; simp [acode] at ha
 | .goto _, rc, hr, e, h, x, e', h', r, a, w, Q, ha, hh, he, hf, hl, hQ => by simp only [Rs.code] at hr; injection hr with hr; subst hr; simp [acode] at ha
 | .rangeFunc _ _ _ _, rc, hr, e, h, x, e', h', r, a, w, Q, ha, hh, he, hf, hl, hQ => by simp only [Rs.code] at hr; injection hr with hr; subst hr; simp [acode] at ha
 | .refuse _, rc, hr, e, h, x, e', h', r, a, w, Q, ha, hh, he, hf, hl, hQ => by simp only [Rs.code] at hr; injection hr with hr; subst hr; simp [acode] at ha
end
end
section
section
variable {P : Program} {nb : Nat}
structure XOk (P : Program) (nb : Nat) (X : Ext) : Prop where
 pre : ∀ f g, X f = some g → ∀ (lim : Nat) (args : List Value) (h : AH) (v : Value) (h' : AH), lim ≤ h.length → g lim args h = some (v, h') → Pre lim h h'
 sound : ∀ f g, X f = some g → ∀ (lim : Nat) (args : List Value) (h : AH) (v : Value) (h' : AH) (r : Rho) (w : World) (args' : List Value), nb ≤ lim → lim ≤ h.length → g lim args h = some (v, h') → HR nb r h w → Fresh r h h' → VL r args args' →
  Enters P f ∧ Calls P f args'.toArray w (fun e w' => ∃ r' v', e = .returned v' ∧ Post nb lim r h w r' h' w' ∧ VR r' v v')
def noExt : Ext := fun _ => none
theorem noExt_ok : XOk P nb noExt := ⟨(fun f g h => by cases h), (fun f g h => by cases h)⟩
theorem acall_pre {X : Ext} (hX : XOk P nb X) {F : FuncId → Option RFunc} : ∀ k, CallP (acall X F k)
 | 0, lim, f, args, h, v, h', hl, ha => by cases ha
 | k + 1, lim, f, args, h, v, h', hl, ha => by
  simp only [acall] at ha
  split at ha
  ·exact hX.pre _ _ ‹_› _ _ _ _ _ hl ha
  ·split at ha
   ·cases ha
   ·split at ha
    ·obtain ⟨⟨x, e1, h1⟩, h2, h3⟩ := Option.bind_eq_some_iff.1 ha
     have p := acode_pre (acall_pre hX k) _ _ _ _ _ _ hl h2
     split at h3
     ·cases h3
     ·obtain ⟨l, _, h4⟩ := Option.map_eq_some_iff.1 h3
      injection h4 with q1 q2
      subst q2
      exact p
    ·cases ha
theorem func_inv {f : FuncId} {rf : RFunc} (h : Rs.func P f = some rf) : ∃ fn c, P.funcs[f]? = some fn ∧ (fn.name == "runtime.NumGoroutine") = false ∧ fn.body = some c ∧ rf.ntmps = fn.ntmps ∧ Rs.code P fn.ntmps c = some rf.body ∧ fn.results.toList.mapM (Rs.res P) = some rf.results := by
 unfold Rs.func at h
 split at h
 ·cases h
 ·rename_i fn hfn
  split at h
  ·cases h
  ·rename_i hname
   split at h
   ·cases h
   ·rename_i c hc
    obtain ⟨b, hb, h⟩ := Option.bind_eq_some_iff.1 h
    obtain ⟨rs, hrs, rfl⟩ := Option.map_eq_some_iff.1 h
    exact ⟨fn, c, hfn, by simpa using hname, hc, rfl, hb, hrs⟩
theorem enters_of {f : FuncId} {fn : Func} {c : Code} (h1 : P.funcs[f]? = some fn) (h2 : (fn.name == "runtime.NumGoroutine") = false) (h3 : fn.body = some c) : Enters P f := fun args w => by
 unfold callFunc
 simp only [Sem.run_bind, run_program, Result.andThen_ok, h1, h2, Bool.false_eq_true, if_false, h3, Option.isNone_some, Sem.run_pure]
theorem asAddr_some (ad : Addr) (w : World) : (asAddr (.pointer (some ad))).run P w = .ok ad w := rfl
theorem results_run {nt : Nat} {r : Rho} {e : Env} {h : AH} {a : Act} {w : World} (hr : HR nb r h w) (he : ER r e a nt) : ∀ (rs : List ResultVar) (rr : List RRes) (l : List Value), rs.mapM (Rs.res P) = some rr → aresults e h rr = some l →
  ∃ l', (rs.mapM (m := Sem) fun | .tmp t => pure (a.tmps.getD t undef) | .cell x t => do loadVar t (← asAddr (a.tmps.getD x undef))).run P w = .ok l' w ∧ VL r l l'
 | [], rr, l, h1, h2 => by
  simp at h1
  subst h1
  simp only [aresults] at h2
  injection h2 with h2
  subst h2
  exact ⟨[], by simp, VL.nil r⟩
 | q :: rs, rr, l, h1, h2 => by
  rw [List.mapM_cons] at h1
  cases h3 : Rs.res P q with
  | none => simp [h3] at h1
  | some q' =>
   cases h4 : rs.mapM (Rs.res P) with
   | none => simp [h3, h4] at h1
   | some rr' =>
    simp [h3, h4] at h1
    subst h1
    cases q with
    | tmp t =>
     simp only [Rs.res] at h3
     injection h3 with h3
     subst h3
     simp only [aresults] at h2
     obtain ⟨l2, h5, rfl⟩ := Option.map_eq_some_iff.1 h2
     obtain ⟨l', k1, k2⟩ := results_run hr he rs rr' l2 h4 h5
     refine ⟨a.tmps.getD t undef :: l', ?_, VL.cons (he.tmps t) k2⟩
     rw [List.mapM_cons]
     simp only [Sem.run_bind, Sem.run_pure, Result.andThen_ok, k1]
    | cell t ty =>
     simp only [Rs.res] at h3
     obtain ⟨n, hn, h3⟩ := Option.map_eq_some_iff.1 h3
     subst h3
     simp only [aresults] at h2
     obtain ⟨v, hv, h2⟩ := Option.bind_eq_some_iff.1 h2
     obtain ⟨l2, h5, rfl⟩ := Option.map_eq_some_iff.1 h2
     obtain ⟨l', k1, k2⟩ := results_run hr he rs rr' l2 h4 h5
     obtain ⟨ad, v', g1, g2, g3⟩ := loadVar_run (P := P) hr hn hv (he.tmps t)
     refine ⟨v' :: l', ?_, VL.cons g3 k2⟩
     rw [List.mapM_cons]
     simp only [Sem.run_bind, g1, asAddr_some, Sem.run_pure, Result.andThen_ok, g2, k1]
theorem acall_sound {X : Ext} (hX : XOk P nb X) (hm : P.follows .mixedOrders = true) : ∀ k, CallS P nb (acall X (Rs.func P) k)
 | 0, lim, f, args, h, v, h', r, w, args', _, _, ha, _, _, _ => by cases ha
 | k + 1, lim, f, args, h, v, h', r, w, args', hnb, hl, ha, hh, hf, hv => by
  simp only [acall] at ha
  split at ha
  ·exact hX.sound _ _ ‹_› _ _ _ _ _ _ _ _ hnb hl ha hh hf hv
  ·split at ha
   ·cases ha
   ·rename_i rf hrf
    obtain ⟨fn, c, f1, f2, f3, f4, f5, f6⟩ := func_inv hrf
    refine ⟨enters_of f1 f2 f3, ?_⟩
    split at ha
    ·rename_i hlen
     obtain ⟨⟨x, e1, h1⟩, h2, h3⟩ := Option.bind_eq_some_iff.1 ha
     have hend : (∀ i, x ≠ .exit i) ∧ ∃ l, aresults e1 h1 rf.results = some l ∧ resultOf l = v ∧ h1 = h' := by
      cases x with
      | exit i => simp at h3
      | normal =>
       obtain ⟨l, h4, h5⟩ := Option.map_eq_some_iff.1 h3
       injection h5 with q1 q2
       exact ⟨fun i hx => (by cases hx), l, h4, q1, q2⟩
      | ret =>
       obtain ⟨l, h4, h5⟩ := Option.map_eq_some_iff.1 h3
       injection h5 with q1 q2
       exact ⟨fun i hx => (by cases hx), l, h4, q1, q2⟩
     obtain ⟨hx, l, hl1, rfl, rfl⟩ := hend
     refine calls_of_wp f1 f3 ?_
     have her : ER r (envOf args) { tmps := args'.toArray ++ Array.replicate (fn.ntmps - args'.toArray.size) undef, defers := [] } fn.ntmps := by
      refine ⟨fun t => ?_, by simp; have := hv.1; omega⟩
      unfold envOf
      simp only [Array.getD_eq_getD_getElem?, Array.getElem?_append, List.size_toArray, Array.getElem?_replicate, List.getElem?_toArray]
      by_cases ht : t < args'.length
      ·rw [if_pos ht]
       have ht' : t < args.length := by rw [hv.1]; exact ht
       rw [List.getElem?_eq_getElem ht, List.getElem?_eq_getElem ht']
       exact hv.2 t _ _ (List.getElem?_eq_getElem ht') (List.getElem?_eq_getElem ht)
      ·rw [if_neg ht, List.getElem?_eq_none (by rw [hv.1]; omega)]
       split
       ·exact VR.undef r
       ·exact VR.undef r
     refine code_sound (acall_sound hX hm k) (acall_pre hX k) hm hnb c rf.body f5 (envOf args) h x e1 h1 r _ w _ h2 hh her hf hl fun r' a' w' p1 p2 p3 => ?_
     obtain ⟨l', k1, k2⟩ := results_run (P := P) p1.hr p2 fn.results.toList rf.results l f6 hl1
     have hres : ∃ v', (results fn a'.tmps).run P w' = .ok v' w' ∧ VR r' (resultOf l) v' := by
      unfold results
      rw [Array.mapM_eq_mapM_toList]
      simp only [Sem.run_bind, Sem.run_map]
      erw [k1]
      simp only [Result.andThen_ok, Sem.run_pure]
      cases l with
      | nil => obtain rfl := k2.nil_inv; exact ⟨_, rfl, VR.tupleL (VL.nil _)⟩
      | cons y l =>
       obtain ⟨y', l2, rfl, g1, g2⟩ := k2.cons_inv
       cases l with
       | nil => obtain rfl := g2.nil_inv; exact ⟨_, rfl, g1⟩
       | cons z l =>
        obtain ⟨z', l3, rfl, g3, g4⟩ := g2.cons_inv
        exact ⟨_, rfl, VR.tupleL (VL.cons g1 (VL.cons g3 g4))⟩
     obtain ⟨v', m1, m2⟩ := hres
     cases x with
     | exit i => exact absurd rfl (hx i)
     | normal => exact ⟨p3, v', m1, r', v', rfl, p1, m2⟩
     | ret => exact ⟨p3, v', m1, r', v', rfl, p1, m2⟩
    ·cases ha
end
end
section
open Go.ChangeShapes Go.WideShapes
inductive FK where
 | bool
 | int (k : IntKind)
 | str
inductive CK where
 | f (x : FK)
 | sl (es : List FK) (B : Nat)
def FIs : FK → Value → Prop
 | .bool, v => ∃ b, v = .bool b
 | .int k, v => ∃ n, v = .int k n ∧ (Lit.int k n).wf = true
 | .str, v => ∃ s, v = .string s ∧ s.size ≤ 140737488351232
theorem FIs.flat {k : FK} {v : Value} (h : FIs k v) : Ai.flat v = true ∧ Ai.cellOk v = true := by
 cases k <;> obtain ⟨x, h⟩ := h <;> first | (subst h; exact ⟨rfl, rfl⟩) | (obtain ⟨rfl, _⟩ := h; exact ⟨rfl, rfl⟩)
def FRow (es : List FK) (n : Nat) (cs : List Value) : Prop := cs.length = n * es.length ∧ ∀ i, i < n → ∀ j k v, es[j]? = some k → cs[i * es.length + j]? = some v → FIs k v
def CIs (w : World) : CK → Value → Prop
 | .f x, v => FIs x v
 | .sl es B, v => v = .slice none 0 0 ∨ ∃ a n c cs, v = .slice (some a) n c ∧ n ≤ c ∧ n * B ≤ 140737488351232 ∧ n ≤ maxLen ∧ FRow es n cs ∧ ∀ j u, cs[j]? = some u → w.cell? (a.add j) = some u
def COk (w : World) (ks : List CK) (cs : List Value) : Prop := cs.length = ks.length ∧ ∀ (i : Nat) k c, ks[i]? = some k → cs[i]? = some c → CIs w k c
def allF : List CK → Option (List FK)
 | [] => some []
 | .f x :: r => (allF r).map fun l => x :: l
 | _ => none
section
variable (P : Program)
def ckF (kd : TypeId → Option (List CK)) : List Field → Nat → Option (List CK)
 | [], _ => some []
 | f :: r, o => if f.offset = o then (kd f.type).bind fun ks => if P.cellsOf f.type = ks.length then (ckF kd r (o + ks.length)).map fun l => ks ++ l else none else none
def ckinds : Nat → TypeId → Option (List CK)
 | 0, _ => none
 | d + 1, t =>
  match P.underlying t with
  | some .bool => if P.cellsOf t = 1 then some [.f .bool] else none
  | some (.int k) => if P.cellsOf t = 1 then some [.f (.int k)] else none
  | some .string => if P.cellsOf t = 1 then some [.f .str] else none
  | some (.struct fs) => (ckF P (ckinds d) fs.toList 0).bind fun ks => if P.cellsOf t = ks.length then some ks else none
  | some (.array n e) => (ckinds d e).bind fun ks => if P.cellsOf e = ks.length ∧ P.cellsOf t = n * ks.length then some ((List.replicate n ks).flatten) else none
  | some (.slice e) => (ckinds d e).bind fun ks => (allF ks).bind fun es => if P.cellsOf t = 1 ∧ P.cellsOf e = es.length then some [.sl es (P.bytesOf e)] else none
  | _ => none
end
section
variable {P : Program} {w : World}
theorem addr_add_add (a : Addr) (i j : Nat) : (a.add i).add j = a.add (i + j) := by
 unfold Addr.add
 by_cases hi : i = 0
 ·subst hi; simp
 ·by_cases hj : j = 0
  ·subst hj; simp [hi]
  ·simp [hi, hj, show i + j ≠ 0 by omega, Nat.add_assoc]
theorem COk.append {ks ls : List CK} {cs ds : List Value} (h : COk w ks cs) (k : COk w ls ds) : COk w (ks ++ ls) (cs ++ ds) := by
 refine ⟨by simp [h.1, k.1], fun i x c hx hc => ?_⟩
 rw [List.getElem?_append] at hx hc
 rw [h.1] at hc
 split at hx
 ·rename_i hi; rw [if_pos hi] at hc; exact h.2 i x c hx hc
 ·rename_i hi; rw [if_neg hi] at hc; exact k.2 _ x c hx hc
theorem allF_inv : ∀ {ks : List CK} {es : List FK}, allF ks = some es → ks = es.map .f
 | [], es, h => by simp [allF] at h; subst h; rfl
 | .f x :: r, es, h => by
  simp only [allF] at h
  obtain ⟨l, hl, rfl⟩ := Option.map_eq_some_iff.1 h
  rw [allF_inv hl]; rfl
 | .sl _ _ :: r, es, h => by simp [allF] at h
theorem weightsAll_mem {H : Type} {e : TypeId} {p : Nat → Bool} : ∀ {ds : List (DataW H)}, (DataW.weightsAll P e ds).all p = true → ∀ d ∈ ds, (d.weights P e).all p = true
 | [], _, d, hd => by simp at hd
 | d0 :: ds, h, d, hd => by
  unfold DataW.weightsAll at h
  rw [List.all_append, Bool.and_eq_true] at h
  rcases List.mem_cons.1 hd with rfl | hd
  ·exact h.1
  ·exact weightsAll_mem h.2 d hd
theorem open_fields {H : Type} {enc : TypeId × Value → H} {spare : Nat → Bool} {held : Bool} {m : Nat} {kd : TypeId → Option (List CK)}
  (hkd : ∀ t ks, kd t = some ks → ∀ cs x, DataW.trod enc P w 0 spare held m t cs = some x → (x.1.weights P t).all (· ≤ reachBytes) = true → COk w ks cs) (cs : List Value) :
  ∀ (fs : List Field) (o : Nat) (ks : List CK) (xs : List (DataW H × List MemPlace)), ckF P kd fs o = some ks → xs.length = fs.length → (∀ (i : Nat) f, fs[i]? = some f → DataW.trod enc P w 0 spare held m f.type ((cs.drop f.offset).take (P.cellsOf f.type)) = xs[i]?) →
   (DataW.weightsEach P (fs.map (·.type)) (xs.map (·.1))).all (· ≤ reachBytes) = true → COk w ks ((cs.drop o).take ks.length)
 | [], o, ks, xs, h, _, _, _ => by
  simp only [ckF] at h
  injection h with h
  subst h
  exact ⟨rfl, fun i k c hk => by simp at hk⟩
 | f :: fs, o, ks, xs, h, hl, hx, hz => by
  simp only [ckF] at h
  split at h
  ·rename_i hof
   obtain ⟨k1, h1, h⟩ := Option.bind_eq_some_iff.1 h
   split at h
   ·rename_i hc
    obtain ⟨k2, h2, rfl⟩ := Option.map_eq_some_iff.1 h
    cases xs with
    | nil => simp at hl
    | cons x xs =>
     have h0 := hx 0 f rfl
     simp only [List.getElem?_cons_zero] at h0
     simp only [List.map_cons, DataW.weightsEach, List.all_append, Bool.and_eq_true] at hz
     have g1 := hkd f.type k1 h1 _ x h0 hz.1
     have g2 := open_fields hkd cs fs (o + k1.length) k2 xs h2 (by simpa using hl) (fun i g hg => by simpa using hx (i + 1) g (by simpa using hg)) hz.2
     rw [hof, hc] at g1
     have := g1.append g2
     rw [List.length_append, List.take_add, List.drop_drop]
     exact this
   ·cases h
  ·cases h
theorem open_t {H : Type} {enc : TypeId × Value → H} {spare : Nat → Bool} {held : Bool} :
  ∀ (d : Nat) (t : TypeId) (ks : List CK), ckinds P d t = some ks → ∀ (fuel : Nat) (cs : List Value) (x : DataW H × List MemPlace), DataW.trod enc P w 0 spare held fuel t cs = some x → (x.1.weights P t).all (· ≤ reachBytes) = true → COk w ks cs
 | 0, t, ks, h, _, _, _, _, _ => by simp [ckinds] at h
 | d + 1, t, ks, h, fuel, cs, x, hx, hz => by
  simp only [ckinds] at h
  split at h
  ·rename_i hu
   split at h
   ·injection h with h; subst h
    obtain ⟨b, rfl, _⟩ := DataW.trod_bool hu hx
    exact ⟨rfl, fun i k c hk hc => by
     cases i with
     | zero => simp at hk hc; subst hk; subst hc; exact ⟨b, rfl⟩
     | succ i => simp at hk⟩
   ·cases h
  ·rename_i k0 hu
   split at h
   ·injection h with h; subst h
    obtain ⟨n, rfl, _, hw⟩ := DataW.trod_int hu hx
    exact ⟨rfl, fun i k c hk hc => by
     cases i with
     | zero => simp at hk hc; subst hk; subst hc; exact ⟨n, rfl, hw⟩
     | succ i => simp at hk⟩
   ·cases h
  ·rename_i hu
   split at h
   ·injection h with h; subst h
    obtain ⟨s, rfl, rfl, _⟩ := DataW.trod_string hu hx
    have hs : s.size ≤ 140737488351232 := by
     simp [DataW.weights, reachBytes] at hz
     exact of_decide_eq_true hz
    exact ⟨rfl, fun i k c hk hc => by
     cases i with
     | zero => simp at hk hc; subst hk; subst hc; exact ⟨s, rfl, hs⟩
     | succ i => simp at hk⟩
   ·cases h
  ·rename_i fs hu
   obtain ⟨k1, h1, h⟩ := Option.bind_eq_some_iff.1 h
   split at h
   ·rename_i hc
    injection h with h; subst h
    obtain ⟨xs, n, _, rfl, hcl, hxl, hget⟩ := DataW.trod_struct hu hx
    simp only [DataW.weights, hu] at hz
    have := open_fields (fun t ks hk cs x hx hz => open_t d t ks hk n cs x hx hz) cs fs.toList 0 k1 xs h1 (by simpa using hxl) (fun i f hf => hget i f (by simpa using hf)) hz
    rw [List.drop_zero, List.take_of_length_le (by omega)] at this
    exact this
   ·cases h
  ·rename_i n el hu
   obtain ⟨k1, h1, h⟩ := Option.bind_eq_some_iff.1 h
   split at h
   ·rename_i hc
    injection h with h; subst h
    obtain ⟨xs, m, _, rfl, hcl, hxl, hget⟩ := DataW.trod_array hu hx
    simp only [DataW.weights, hu] at hz
    have key : ∀ q, q ≤ n → COk w ((List.replicate q k1).flatten) (cs.take (q * k1.length)) := by
     intro q
     induction q with
     | zero => intro _; simp [COk]
     | succ q ih =>
      intro hq
      have hg := hget q (by omega)
      have hq2 : q < xs.length := by omega
      rw [List.getElem?_eq_getElem hq2, hc.1] at hg
      have g := open_t d el k1 h1 m _ _ hg (weightsAll_mem hz _ (List.mem_map.2 ⟨_, List.getElem_mem _, rfl⟩))
      have := (ih (by omega)).append g
      rw [List.replicate_succ', List.flatten_append, Nat.succ_mul, List.take_add]
      simpa using this
    have := key n (Nat.le_refl _)
    rw [List.take_of_length_le (by omega)] at this
    exact this
   ·cases h
  ·rename_i el hu
   obtain ⟨k1, h1, h⟩ := Option.bind_eq_some_iff.1 h
   obtain ⟨es, h2, h⟩ := Option.bind_eq_some_iff.1 h
   split at h
   ·rename_i hc
    injection h with h; subst h
    have hk1 := allF_inv h2
    rcases DataW.trod_slice hu hx with ⟨rfl, _⟩ | ⟨a, len, cap, elems, rest, n, _, rfl, rfl, _, hlc, hcm, hel, hget, _, _⟩
    ·exact ⟨rfl, fun i k c hk hc => by
      cases i with
      | zero => simp at hk hc; subst hk; subst hc; exact .inl rfl
      | succ i => simp at hk⟩
    ·simp only [DataW.weights, hu, List.all_cons, List.all_append, Bool.and_eq_true, decide_eq_true_eq, List.length_map] at hz
     obtain ⟨hz1, hz2, _⟩ := hz
     have hall := weightsAll_mem hz2
     have each : ∀ i, i < len → ∃ c, w.cells? 0 (a.add (i * P.cellsOf el)) (P.cellsOf el) = some c ∧ COk w k1 c := fun i hi => by
      have hg := hget i hi
      have : i < elems.length := by omega
      rw [List.getElem?_eq_getElem this, Option.bind_eq_some_iff] at hg
      obtain ⟨c, hc1, hc2⟩ := hg
      exact ⟨c, hc1, open_t d el k1 h1 n c elems[i] hc2 (hall _ (List.mem_map.2 ⟨_, List.getElem_mem _, rfl⟩))⟩
     obtain ⟨css, hl1, hl2⟩ := exists_list len (fun i c => w.cells? 0 (a.add (i * P.cellsOf el)) (P.cellsOf el) = some c ∧ COk w k1 c) each
     have hcl : ∀ (i : Nat) (c : List Value), css[i]? = some c → c.length = es.length := fun i c hi => by rw [(hl2 i c hi).2.1, hk1]; simp
     have flen : ∀ (l : List (List Value)), (∀ (i : Nat) (c : List Value), l[i]? = some c → c.length = es.length) → l.flatten.length = l.length * es.length := by
      intro l
      induction l with
      | nil => intro _; simp
      | cons c l ih =>
       intro hc
       rw [List.flatten_cons, List.length_append, ih (fun i c h => hc (i + 1) c (by simpa using h)), hc 0 c rfl, List.length_cons, Nat.succ_mul, Nat.add_comm]
     have fget : ∀ (l : List (List Value)), (∀ (i : Nat) (c : List Value), l[i]? = some c → c.length = es.length) → ∀ (i : Nat) (c : List Value), l[i]? = some c → ∀ (j : Nat) v, c[j]? = some v → l.flatten[i * es.length + j]? = some v := by
      intro l
      induction l with
      | nil => intro _ i c h; simp at h
      | cons c0 l ih =>
       intro hc i c hi j v hv
       have h0 := hc 0 c0 rfl
       cases i with
       | zero =>
        simp at hi
        subst hi
        rw [List.flatten_cons, List.getElem?_append_left (by have := (List.getElem?_eq_some_iff.1 hv).1; omega)]
        simpa using hv
       | succ i =>
        rw [List.flatten_cons, List.getElem?_append_right (by rw [h0, Nat.succ_mul]; omega)]
        have := ih (fun i c h => hc (i + 1) c (by simpa using h)) i c (by simpa using hi) j v hv
        rw [h0, show (i + 1) * es.length + j - es.length = i * es.length + j by rw [Nat.succ_mul]; omega]
        exact this
     have hfl := flen css hcl
     rw [hl1] at hfl
     refine ⟨rfl, fun i k c hk hc' => ?_⟩
     cases i with
     | succ i => simp at hk
     | zero =>
      simp at hk hc'
      subst hk; subst hc'
      refine .inr ⟨a, len, cap, css.flatten, rfl, by omega, ?_, ?_, ⟨hfl, fun i hi j k v hk hv => ?_⟩, fun j u hj => ?_⟩
      ·simp only [reachBytes] at hz1
       rw [← hel]
       exact Nat.le_trans (Nat.mul_le_mul_right _ (by omega)) hz1
      ·simp only [maxLen] at hcm ⊢
       omega
      ·have hi' : i < css.length := by omega
       have g := hl2 i css[i] (List.getElem?_eq_getElem hi')
       have hcl' := hcl i _ (List.getElem?_eq_getElem hi')
       have hj : j < css[i].length := by rw [hcl']; exact (List.getElem?_eq_some_iff.1 hk).1
       have := fget css hcl i _ (List.getElem?_eq_getElem hi') j _ (List.getElem?_eq_getElem hj)
       rw [this] at hv
       injection hv with hv
       subst hv
       exact g.2.2 j (.f k) _ (by rw [hk1, List.getElem?_map, hk]; rfl) (List.getElem?_eq_getElem hj)
      ·have hjl := (List.getElem?_eq_some_iff.1 hj).1
       rw [hfl] at hjl
       have hes : 0 < es.length := by
        rcases Nat.eq_zero_or_pos es.length with h0 | h0
        ·rw [h0] at hjl; simp at hjl
        ·exact h0
       have hi' : j / es.length < css.length := by rw [hl1]; rwa [Nat.div_lt_iff_lt_mul hes]
       have g := hl2 (j / es.length) css[j / es.length] (List.getElem?_eq_getElem hi')
       have hcl' := hcl _ _ (List.getElem?_eq_getElem hi')
       have hjm : j % es.length < css[j / es.length].length := by rw [hcl']; exact Nat.mod_lt _ hes
       have := fget css hcl (j / es.length) _ (List.getElem?_eq_getElem hi') (j % es.length) _ (List.getElem?_eq_getElem hjm)
       rw [Nat.mul_comm, Nat.div_add_mod, hj] at this
       injection this with this
       subst this
       have g1 := g.1
       rw [hc.2] at g1
       unfold World.cells? at g1
       rw [if_pos (Nat.zero_le _)] at g1
       have hb2 := mapM_some_get g1 (j % es.length) (j % es.length) (by simp [Nat.mod_lt _ hes])
       rw [List.getElem?_eq_getElem hjm, addr_add_add] at hb2
       rw [Nat.mul_comm, Nat.div_add_mod] at hb2
       exact hb2
   ·cases h
  ·cases h
end
end
end Go.Proofs.YtalknjppnkpmmaaDoorW.Ai
