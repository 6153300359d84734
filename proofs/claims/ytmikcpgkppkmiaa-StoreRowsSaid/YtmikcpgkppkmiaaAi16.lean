/-
  The small machine and Go's: a statement whose order is open. Of no program.
-/
import Derived.Test.YtmikcpgkppkmiaaAi15
set_option linter.unusedVariables false
set_option linter.unusedSimpArgs false
namespace Go.Proofs.YtmikcpgkppkmiaaW.Ai
variable {P : Program} {nb lim : Nat} {r : Rho} {h h' : AH} {w : World} {e : Env} {a : Act} {v : Value} {o : Oper}

theorem ropers_get {nt : Nat} {ops : Array Oper} {q : Nat → Bool} {av : Nat → List Operand} : ∀ {pairs : List (Oper × Nat)} {l : List RO}, Rs.ropers P nt ops q av pairs = some l →
    l.length = pairs.length ∧ ∀ (k : Nat) o i, pairs[k]? = some (o, i) → ∃ p g, l[k]? = some ⟨o.dst, p, g, q i, av i⟩ ∧ Rs.ropT P o.op = p ∧ Rs.rguard ops o = some g ∧ ∀ x, o.dst = some x → x < nt
  | [], l, h => by simp only [Rs.ropers] at h; injection h with h; subst h; exact ⟨rfl, fun k o i hk => by simp at hk⟩
  | (o, i) :: pairs, l, h => by
    obtain ⟨p, g, l', h1, h2, h3, h4, rfl⟩ := ropers_cons h
    obtain ⟨h5, h6⟩ := ropers_get h4
    refine ⟨by simp [h5], fun k o' i' hk => ?_⟩
    cases k with
    | zero => simp at hk; obtain ⟨rfl, rfl⟩ := hk; exact ⟨p, g, rfl, h1, h2, h3⟩
    | succ k => exact h6 k o' i' (by simpa using hk)

/-- What the small machine's run in the order of the text went through. -/
structure Trace (call : Callee) (lim : Nat) (l : List RO) (E : Nat → Env) (H : Nat → AH) (V : Nat → Value) : Prop where
  step : ∀ (i : Nat) o, l[i]? = some o → E (i + 1) = upd (E i) o.dst (V i) ∧
    ((Ai.wanted (E i) o = true ∧ aopc call lim (E i) (H i) o = some (V i, H (i + 1))) ∨ (Ai.wanted (E i) o = false ∧ H (i + 1) = H i ∧ V i = undef))
theorem trace_of {call : Callee} {lim : Nat} : ∀ {l : List RO} {e : Env} {h : AH} {e' : Env} {h' : AH}, aops call lim l e h = some (e', h') →
    ∃ E H V, Trace call lim l E H V ∧ E 0 = e ∧ H 0 = h ∧ E l.length = e' ∧ H l.length = h'
  | [], e, h, e', h', ha => by
    simp only [aops] at ha
    injection ha with ha
    injection ha with e1 e2
    exact ⟨fun _ => e, fun _ => h, fun _ => undef, ⟨fun i o ho => by simp at ho⟩, rfl, rfl, e1, e2⟩
  | o :: l, e, h, e', h', ha => by
    simp only [aops] at ha
    split at ha
    · rename_i hw
      obtain ⟨⟨v, h1⟩, ha1, ha2⟩ := Option.bind_eq_some_iff.1 ha
      obtain ⟨E, H, V, ht, e1, e2, e3, e4⟩ := trace_of ha2
      refine ⟨fun i => match i with | 0 => e | i + 1 => E i, fun i => match i with | 0 => h | i + 1 => H i, fun i => match i with | 0 => v | i + 1 => V i, ⟨fun i o' ho => ?_⟩, rfl, rfl, e3, e4⟩
      cases i with
      | zero =>
        simp at ho
        subst ho
        exact ⟨e1, .inl ⟨hw, by simp only [e2]; exact ha1⟩⟩
      | succ i => exact ht.step i o' (by simpa using ho)
    · rename_i hw
      obtain ⟨E, H, V, ht, e1, e2, e3, e4⟩ := trace_of ha
      refine ⟨fun i => match i with | 0 => e | i + 1 => E i, fun i => match i with | 0 => h | i + 1 => H i, fun i => match i with | 0 => undef | i + 1 => V i, ⟨fun i o' ho => ?_⟩, rfl, rfl, e3, e4⟩
      cases i with
      | zero =>
        simp at ho
        subst ho
        exact ⟨e1, .inr ⟨by simpa using hw, e2, rfl⟩⟩
      | succ i => exact ht.step i o' (by simpa using ho)

/-- The one heap is the other's beginning. -/
def Pfx (h h' : AH) : Prop := h.length ≤ h'.length ∧ ∀ b, b < h.length → h'[b]? = h[b]?
theorem Pfx.refl (h : AH) : Pfx h h := ⟨Nat.le_refl _, fun _ _ => rfl⟩
theorem Pfx.trans {h1 h2 h3 : AH} (p : Pfx h1 h2) (q : Pfx h2 h3) : Pfx h1 h3 := ⟨Nat.le_trans p.1 q.1, fun b hb => (q.2 b (Nat.lt_of_lt_of_le hb p.1)).trans (p.2 b hb)⟩
theorem HR.sub {h1 h2 : AH} (hr : HR nb r h1 w) (hs : ∀ b i x, r b = some i → h2[b]? = some x → h1[b]? = some x) : HR nb r h2 w where
  cells := fun hb hh => hr.cells hb (hs _ _ _ hb hh)
  own := fun hb ho hh => hr.own hb ho (hs _ _ _ hb hh)
  inj := fun {b b' i i'} hb hb' ho hl hl' he => by
    have lv : ∀ {b : Nat} {i : Im}, r b = some i → live h2[b]? = true → live h1[b]? = true := fun {b i} hb hl => by
      cases hx : h2[b]? with
      | none => rw [hx] at hl; cases hl
      | some x => rw [hx] at hl; rw [hs _ _ _ hb hx]; exact hl
    exact hr.inj hb hb' ho (lv hb hl) (lv hb' hl') he
  map := fun hb hh => hr.map hb (hs _ _ _ hb hh)
  bd := fun {b i} hb hl => hr.bd hb (by
    cases hx : h2[b]? with
    | none => rw [hx] at hl; cases hl
    | some x => rw [hx] at hl; rw [hs _ _ _ hb hx]; exact hl)
  mine := hr.mine

section
variable {call : Callee} {nt : Nat} {ops : Array Oper} {A : List (List Nat)} {l : List RO} {E : Nat → Env} {H : Nat → AH} {V : Nat → Value} {Q : Exit → Act → World → Prop}

def Lst (listed : Array Bool) (i : Nat) : Prop := listed.getD i false = true

/-- What the resolver has looked at. -/
structure RegOk (P : Program) (ops : Array Oper) (A : List (List Nat)) (hv : List Nat) (av : Nat → List Operand) : Prop where
  light : ∀ i o, ops[i]? = some o → i ∉ hv → (Rs.ropT P o.op).pure = true ∨ ∃ n x, Rs.ropT P o.op = .load n x ∧
    ∀ k, k ∈ hv → Rs.barrier A hv k = true → (k < i → Rs.isAnc A k i = true) ∧ (i < k → Rs.isAnc A i k = true ∨ (x ∈ av k ∧ Rs.unwritten ops i k x = true))
  lt : ∀ i, i ∈ hv → i < ops.size

structure Inv (ops : Array Oper) (A : List (List Nat)) (hv : List Nat) (nb lim nt : Nat) (r : Rho) (h : AH) (w : World) (df : List Deferred) (E : Nat → Env) (H : Nat → AH) (V : Nat → Value) (listed : Array Bool) (a : Act) (w' : World) (p q : Nat) (s : Rho) : Prop where
  size : listed.size = ops.size
  hpq : p ≤ q
  hlen : h.length ≤ (H p).length
  hq : q ≤ ops.size
  low : ∀ i, i ∈ hv → i < p → Lst listed i
  high : ∀ i, i ∈ hv → q ≤ i → ¬ Lst listed i
  quiet : ∀ i, i ∈ hv → p ≤ i → i < q → Rs.barrier A hv i = false
  top : q = ops.size ∨ (q ∈ hv ∧ Rs.barrier A hv q = true)
  closed : ∀ i j, Lst listed i → Rs.isAnc A j i = true → Lst listed j
  post : Post nb lim r h w s (H q) w'
  dom : ∀ i, i ∈ hv → p ≤ i → i < q → ¬ Lst listed i → ∀ b, (H i).length ≤ b → b < (H (i + 1)).length → s b = none
  tin : ∀ t i o, Lst listed i → ops[i]? = some o → o.dst = some t → VR s (V i) (a.tmps.getD t undef)
  tout : ∀ t, (∀ i o, Lst listed i → ops[i]? = some o → o.dst ≠ some t) → VR s (E 0 t) (a.tmps.getD t undef)
  tsize : a.tmps.size = nt
  tdef : a.defers = df

theorem ancsOk_inv (hA : Rs.ancsOk A ops = true) {i : Nat} {o : Oper} (ho : ops[i]? = some o) : (∀ x ∈ o.after, Region.binds .any x = true → x.on < i) ∧ ∀ j, Rs.isAnc A j i = true → ∃ x ∈ o.after, Region.binds .any x = true ∧ (x.on = j ∨ Rs.isAnc A j x.on = true) := by
  unfold Rs.ancsOk at hA
  simp only [Bool.and_eq_true, List.all_eq_true, List.mem_range] at hA
  have hi : i < ops.size := (Array.getElem?_eq_some_iff.1 ho).1
  have h2 := hA.2 i hi
  rw [ho] at h2
  simp only [Bool.and_eq_true, List.all_eq_true, Bool.or_eq_true, Bool.not_eq_true', decide_eq_true_eq, List.any_eq_true, beq_iff_eq] at h2
  refine ⟨fun x hx hb => ?_, fun j hj => ?_⟩
  · rcases h2.1 x (by simpa using hx) with h3 | h3
    · rw [hb] at h3; cases h3
    · exact h3
  · unfold Rs.isAnc at hj
    obtain ⟨x, h3, h4, h5⟩ := h2.2 j (by simpa using hj)
    exact ⟨x, by simpa using h3, h4, h5⟩
theorem dataOk_inv (hD : Rs.dataOk A ops = true) {i j : Nat} {oi oj : Oper} (hi : ops[i]? = some oi) (hj : ops[j]? = some oj) {t : Nat} (ht : oj.dst = some t) : (i = j ∨ oi.dst ≠ some t) ∧ (t ∈ oi.looksAt ops → Rs.isAnc A j i = true ∨ Rs.isAnc A i j = true ∨ i = j) := by
  unfold Rs.dataOk at hD
  simp only [List.all_eq_true, List.mem_range] at hD
  have h1 : i < ops.size := (Array.getElem?_eq_some_iff.1 hi).1
  have h2 : j < ops.size := (Array.getElem?_eq_some_iff.1 hj).1
  have h3 := hD i h1 j h2
  rw [hi, hj] at h3
  simp only [ht, Bool.and_eq_true, Bool.or_eq_true, beq_iff_eq, bne_iff_ne, Bool.not_eq_true'] at h3
  refine ⟨h3.1, fun hm => ?_⟩
  rcases h3.2 with ((h4 | h4) | h4) | h4
  · rw [List.contains_eq_mem] at h4
    simp [hm] at h4
  · exact .inl h4
  · exact .inr (.inl h4)
  · exact .inr (.inr h4)
theorem barrier_inv {hv : List Nat} {i : Nat} (hb : Rs.barrier A hv i = true) {j : Nat} (hj : j ∈ hv) : (j < i → Rs.isAnc A j i = true) ∧ (i < j → Rs.isAnc A i j = true) := by
  unfold Rs.barrier at hb
  simp only [List.all_eq_true] at hb
  have := hb j hj
  refine ⟨fun h1 => by rw [if_pos h1] at this; exact this, fun h1 => ?_⟩
  rw [if_neg (by omega), if_pos h1] at this
  exact this

theorem ready_anc (hA : Rs.ancsOk A ops = true) {listed : Array Bool} (hcl : ∀ i j, Lst listed i → Rs.isAnc A j i = true → Lst listed j) {i : Nat} (hi : i ∈ Region.ready .any ops listed) {j : Nat} (hj : Rs.isAnc A j i = true) : Lst listed j := by
  obtain ⟨h1, o, h2, h3⟩ := mem_ready.1 hi
  obtain ⟨x, h4, h5, h6⟩ := (ancsOk_inv hA h2).2 j hj
  have h7 : Lst listed x.on := h3 x h4 h5
  rcases h6 with h6 | h6
  · rw [← h6]; exact h7
  · exact hcl _ _ h7 h6

/-- All are listed where none is ready. -/
theorem all_listed (hA : Rs.ancsOk A ops = true) {listed : Array Bool} (hsz : listed.size = ops.size) (hr : Region.ready .any ops listed = []) : ∀ i, i < ops.size → Lst listed i := by
  intro i
  induction i using Nat.strongRecOn with
  | _ i ih =>
    intro hi
    apply Classical.byContradiction
    intro hn
    have ho : ops[i]? = some ops[i] := Array.getElem?_eq_getElem hi
    have : i ∈ Region.ready .any ops listed := by
      refine mem_ready.2 ⟨?_, ops[i], ho, fun x hx hb => ?_⟩
      · unfold Lst at hn
        have hl : i < listed.size := by omega
        simp [hl] at hn ⊢
        exact hn
      · have hlt := (ancsOk_inv hA ho).1 x hx hb
        exact ih _ hlt (by omega)
    rw [hr] at this
    cases this

/-- Operations that neither look at the heap nor change it answer so with any heap. -/
theorem aop_pure {call : Callee} {p : ROp} (hp : p.pure = true) {x : Value × AH} (ha : aop call lim e h p = some x) : x.2 = h ∧ ∀ (l2 : Nat) (h2 : AH), aop call l2 e h2 p = some (x.1, h2) := by
  have key : ∀ (l2 : Nat) (h2 : AH), aop call l2 e h2 p = (aop call lim e h p).map fun r => (r.1, h2) := by
    intro l2 h2
    cases p <;> simp only [ROp.pure, bne_iff_ne, Bool.false_eq_true] at hp <;> simp only [aop]
    all_goals (try (repeat' split) <;> simp_all [Option.map_map, Function.comp_def, Option.map_bind, Option.bind_map] <;> done)
  refine ⟨?_, fun l2 h2 => by rw [key l2 h2, ha]; rfl⟩
  have := key lim h
  rw [ha] at this
  simp only [Option.map_some, Option.some.injEq] at this
  exact congrArg Prod.snd this

theorem aLoad_block {n : Option Nat} {x v : Value} {h2 : AH} (hl : aLoad n h x = some v) : ∃ ad, x = .pointer (some ad) ∧ ad.block < h.length ∧ (h2[ad.block]? = h[ad.block]? → aLoad n h2 x = some v) := by
  obtain ⟨b, o, cs, rfl, hc, hl2⟩ := aLoad_inv hl
  refine ⟨_, rfl, ?_, fun he => ?_⟩
  · unfold cellsOf at hc
    split at hc
    · rename_i h0
      exact (List.getElem?_eq_some_iff.1 h0).1
    · cases hc
  · simp only [aLoad] at hl ⊢
    unfold cellsOf at hl ⊢
    rw [he]
    exact hl

theorem apart_keep {call : Callee} (hcp : CallP call) {p : ROp} {x : Operand} {ad : Addr} (hx : apart e p x = true) (he : ev e x = .pointer (some ad)) (ha : aop call lim e h p = some (v, h')) (hb : ad.block < h.length) : h'[ad.block]? = h[ad.block]? := by
  have wr : ∀ {l b q : Nat} {us : List Value} {h'' : AH}, aWrite l h b q us = some h'' → b ≠ ad.block → h''[ad.block]? = h[ad.block]? := fun {l b q us h''} hw hne => by
    rcases aWrite_inv hw with ⟨_, rfl⟩ | ⟨_, hl, _, cs, _, _, rfl⟩
    · rfl
    · exact List.getElem?_set_ne hne
  unfold apart at hx
  rw [he] at hx
  have rest : ∀ {p : ROp}, aop call lim e h p = some (v, h') → aop call h.length e h p = aop call lim e h p → h'[ad.block]? = h[ad.block]? := fun h0 h1 => (aop_pre hcp (Nat.le_refl _) (h1.trans h0)).2 _ hb hb
  cases p <;> first | (simp only [Bool.false_eq_true] at hx; done) | exact rest ha rfl | skip
  all_goals simp only at hx
  case store n y z =>
    simp only [aop] at ha
    obtain ⟨h2, hw, hv⟩ := Option.map_eq_some_iff.1 ha
    injection hv with e1 e2; subst e2
    obtain ⟨b, q, hye, _, hw⟩ := aStore_inv hw
    rw [hye] at hx
    simp only [bne_iff_ne] at hx
    exact wr hw hx
  case append size bytes sl z =>
    simp only [aop] at ha
    obtain ⟨n, _, ha⟩ := Option.bind_eq_some_iff.1 ha
    obtain ⟨cs, _, ha⟩ := Option.bind_eq_some_iff.1 ha
    generalize ev e sl = sv at hx ha
    have push : ∀ {u : Blk}, (h ++ [u])[ad.block]? = h[ad.block]? := fun {u} => List.getElem?_append_left hb
    unfold aAppend at ha
    split at ha
    · rename_i am len cap
      split at ha
      · cases am with
        | none => simp only at ha; injection ha with ha; injection ha with e1 e2; subst e2; rfl
        | some am =>
          simp only [bne_iff_ne] at hx
          simp only at ha
          obtain ⟨h2, hw, hv⟩ := Option.map_eq_some_iff.1 ha
          injection hv with e1 e2; subst e2
          exact wr hw hx
      · split at ha
        · obtain ⟨old, _, ha⟩ := Option.bind_eq_some_iff.1 ha
          split at ha
          · injection ha with ha; injection ha with e1 e2; subst e2; exact push
          · injection ha with ha; injection ha with e1 e2; subst e2; exact push
          · simp only [bne_iff_ne] at hx
            split at ha
            · rename_i hc
              obtain ⟨cs, _, ha⟩ := Option.bind_eq_some_iff.1 ha
              split at ha
              · injection ha with ha; injection ha with e1 e2; subst e2
                rw [List.getElem?_append_left (by simpa using hb), List.getElem?_set_ne hx]
              · cases ha
            · cases ha
        · cases ha
    · cases ha

theorem aWrite_len {b o : Nat} {us : List Value} (hw : aWrite lim h b o us = some h') : h'.length = h.length := by
  rcases aWrite_inv hw with ⟨_, rfl⟩ | ⟨_, hl, _, cs, _, _, rfl⟩
  · rfl
  · simp
theorem apart_len {call : Callee} (hcp : CallP call) {p : ROp} {x : Operand} (hx : apart e p x = true) (ha : aop call lim e h p = some (v, h')) : h.length ≤ h'.length := by
  unfold apart at hx
  split at hx
  · have rest : ∀ {p : ROp}, aop call lim e h p = some (v, h') → aop call h.length e h p = aop call lim e h p → h.length ≤ h'.length := fun h0 h1 => (aop_pre hcp (Nat.le_refl _) (h1.trans h0)).1
    cases p <;> first | (simp only [Bool.false_eq_true] at hx; done) | exact rest ha rfl | skip
    all_goals simp only at hx
    case store n y z =>
      simp only [aop] at ha
      obtain ⟨h2, hw, hv⟩ := Option.map_eq_some_iff.1 ha
      injection hv with e1 e2; subst e2
      obtain ⟨b, q, hye, _, hw⟩ := aStore_inv hw
      exact Nat.le_of_eq (aWrite_len hw).symm
    case append size bytes sl z =>
      simp only [aop] at ha
      obtain ⟨n, _, ha⟩ := Option.bind_eq_some_iff.1 ha
      obtain ⟨cs, _, ha⟩ := Option.bind_eq_some_iff.1 ha
      unfold aAppend at ha
      split at ha
      · split at ha
        · split at ha
          · injection ha with ha; injection ha with e1 e2; subst e2; exact Nat.le_refl _
          · obtain ⟨h2, hw, hv⟩ := Option.map_eq_some_iff.1 ha
            injection hv with e1 e2; subst e2
            exact Nat.le_of_eq (aWrite_len hw).symm
        · split at ha
          · obtain ⟨old, _, ha⟩ := Option.bind_eq_some_iff.1 ha
            split at ha
            · injection ha with ha; injection ha with e1 e2; subst e2; simp
            · injection ha with ha; injection ha with e1 e2; subst e2; simp
            · split at ha
              · obtain ⟨cs, _, ha⟩ := Option.bind_eq_some_iff.1 ha
                split at ha
                · injection ha with ha; injection ha with e1 e2; subst e2; simp
                · cases ha
              · cases ha
          · cases ha
      · cases ha
  · cases hx

/-- What a region's text has told, and what the small machine went through. -/
def Lof (P : Program) (nt : Nat) (ops : Array Oper) (A : List (List Nat)) (hv : List Nat) (av : Nat → List Operand) (l : List RO) : Prop :=
  ∀ (i : Nat) o, ops[i]? = some o → ∃ p g, l[i]? = some ⟨o.dst, p, g, !Rs.barrier A hv i, av i⟩ ∧ Rs.ropT P o.op = p ∧ Rs.rguard ops o = some g ∧ ∀ x, o.dst = some x → x < nt

variable {hv : List Nat} {av : Nat → List Operand}

theorem light_step (hR : RegOk P ops A hv av) (hl : Lof P nt ops A hv av l) (ht : Trace call lim l E H V) {i : Nat} (hi : i < ops.size) (hn : i ∉ hv) : H (i + 1) = H i := by
  obtain ⟨p, g, h1, h2, _⟩ := hl i _ (Array.getElem?_eq_getElem hi)
  rcases (ht.step _ _ h1).2 with ⟨_, h4⟩ | ⟨_, h4, _⟩
  · have h5 := (aopc_inv h4).2
    simp only at h5
    rcases hR.light i _ (Array.getElem?_eq_getElem hi) hn with h6 | ⟨n, x, h6, _⟩
    · rw [h2] at h6
      exact (aop_pure h6 h5).1
    · rw [h2] at h6
      subst h6
      simp only [aop] at h5
      obtain ⟨y, _, hv⟩ := Option.map_eq_some_iff.1 h5
      injection hv with e1 e2
      exact e2.symm
  · exact h4

/-- From here to there nothing but beginnings: no heavy operation that is a barrier. -/
theorem pfx_range (hR : RegOk P ops A hv av) (hp : CallP call) (hl : Lof P nt ops A hv av l) (ht : Trace call lim l E H V) : ∀ (d i : Nat), (∀ k, i ≤ k → k < i + d → k < ops.size ∧ (k ∈ hv → Rs.barrier A hv k = false)) → Pfx (H i) (H (i + d))
  | 0, i, _ => Pfx.refl _
  | d + 1, i, hq => by
    obtain ⟨h1, h2⟩ := hq (i + d) (by omega) (by omega)
    have ih := pfx_range hR hp hl ht d i (fun k a b => hq k a (by omega))
    refine ih.trans ?_
    by_cases hm : i + d ∈ hv
    · obtain ⟨p, g, h3, _⟩ := hl (i + d) _ (Array.getElem?_eq_getElem h1)
      rcases (ht.step _ _ h3).2 with ⟨_, h4⟩ | ⟨_, h4, _⟩
      · have h4 := (aopc_inv h4).2
        rw [h2 hm] at h4
        simp only [Bool.not_false, if_true] at h4
        have := aop_pre hp (Nat.le_refl _) h4
        exact ⟨this.1, fun b hb => this.2 b hb hb⟩
      · rw [show i + (d + 1) = i + d + 1 by omega, h4]; exact Pfx.refl _
    · rw [show i + (d + 1) = i + d + 1 by omega, light_step hR hl ht h1 hm]; exact Pfx.refl _

theorem env_range (hl : Lof P nt ops A hv av l) (ht : Trace call lim l E H V) (t : Nat) : ∀ (d i : Nat), (∀ k, i ≤ k → k < i + d → ∃ o, ops[k]? = some o ∧ o.dst ≠ some t) → E (i + d) t = E i t
  | 0, i, _ => rfl
  | d + 1, i, hq => by
    obtain ⟨o, h1, h2⟩ := hq (i + d) (by omega) (by omega)
    obtain ⟨p, g, h3, _⟩ := hl (i + d) _ h1
    rw [show i + (d + 1) = i + d + 1 by omega, (ht.step _ _ h3).1, ← env_range hl ht t d i (fun k a b => hq k a (by omega))]
    cases hd : o.dst with
    | none => rfl
    | some x =>
      simp only [upd]
      rw [if_neg (fun h => h2 (by rw [hd, h]))]

end

end Go.Proofs.YtmikcpgkppkmiaaW.Ai
