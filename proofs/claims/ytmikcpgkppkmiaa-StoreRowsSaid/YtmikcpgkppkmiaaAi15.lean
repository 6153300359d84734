/-
  The small machine: what an operation leaves of the heap; operations one behind the other. Of no program.
-/
import Derived.Test.YtmikcpgkppkmiaaAi14
set_option linter.unusedVariables false
set_option linter.unusedSimpArgs false
namespace Go.Proofs.YtmikcpgkppkmiaaW.Ai
variable {P : Program} {nb lim : Nat} {r : Rho} {h h' : AH} {w : World} {e : Env} {a : Act} {v : Value} {o : Oper}

/-- Blocks below the mark are as they were. -/
def Pre (lim : Nat) (h h' : AH) : Prop := h.length ≤ h'.length ∧ ∀ b, b < lim → b < h.length → h'[b]? = h[b]?
theorem Pre.refl (lim : Nat) (h : AH) : Pre lim h h := ⟨Nat.le_refl _, fun _ _ _ => rfl⟩
theorem Pre.trans {h1 h2 h3 : AH} (p : Pre lim h1 h2) (q : Pre lim h2 h3) : Pre lim h1 h3 :=
  ⟨Nat.le_trans p.1 q.1, fun b h0 hb => (q.2 b h0 (Nat.lt_of_lt_of_le hb p.1)).trans (p.2 b h0 hb)⟩
theorem Pre.mono {l2 : Nat} (p : Pre l2 h h') (hl : lim ≤ l2) : Pre lim h h' := ⟨p.1, fun b h0 hb => p.2 b (Nat.lt_of_lt_of_le h0 hl) hb⟩
theorem Pre.push (x : Blk) : Pre lim h (h ++ [x]) := ⟨by simp, fun b _ hb => List.getElem?_append_left hb⟩
theorem Pre.set {b : Nat} (hb : lim ≤ b) (x : Blk) : Pre lim h (h.set b x) := ⟨by simp, fun c h0 _ => List.getElem?_set_ne (by omega)⟩
def CallP (call : Callee) : Prop := ∀ (lim : Nat) (f : FuncId) (args : List Value) (h : AH) (v : Value) (h' : AH), lim ≤ h.length → call lim f args h = some (v, h') → Pre lim h h'

theorem aWrite_pre {b q : Nat} {us : List Value} (hw : aWrite lim h b q us = some h') : Pre lim h h' := by
  rcases aWrite_inv hw with ⟨_, rfl⟩ | ⟨_, hl, _, cs, _, _, rfl⟩
  · exact Pre.refl _ _
  · exact Pre.set hl _
theorem aAppend_pre {size bytes n : Nat} {s : Value} {news : List Value} (ha : aAppend lim size bytes h s n news = some (v, h')) : Pre lim h h' := by
  unfold aAppend at ha
  split at ha
  · split at ha
    · split at ha
      · injection ha with ha; injection ha with e1 e2; subst e2; exact Pre.refl _ _
      · obtain ⟨h2, hw, hv⟩ := Option.map_eq_some_iff.1 ha
        injection hv with e1 e2; subst e2
        exact aWrite_pre hw
    · split at ha
      · obtain ⟨old, _, ha⟩ := Option.bind_eq_some_iff.1 ha
        split at ha
        · injection ha with ha; injection ha with e1 e2; subst e2; exact Pre.push _
        · injection ha with ha; injection ha with e1 e2; subst e2; exact Pre.push _
        · split at ha
          · rename_i hc
            obtain ⟨cs, _, ha⟩ := Option.bind_eq_some_iff.1 ha
            split at ha
            · injection ha with ha; injection ha with e1 e2; subst e2
              exact (Pre.set hc.1 _).trans (Pre.push _)
            · cases ha
          · cases ha
      · cases ha
  · cases ha

theorem aop_pre {call : Callee} (hc : CallP call) (hll : lim ≤ h.length) {p : ROp} (ha : aop call lim e h p = some (v, h')) : Pre lim h h' := by
  have same : ∀ {α : Type} {x : Option α} {f : α → Value}, (x.map fun y => (f y, h)) = some (v, h') → Pre lim h h' := fun {α x f} hx => by
    obtain ⟨y, _, hv⟩ := Option.map_eq_some_iff.1 hx
    injection hv with e1 e2; subst e2; exact Pre.refl _ _
  have one : ∀ {u : Value}, some (u, h) = some (v, h') → Pre lim h h' := fun {u} hx => by
    injection hx with hx; injection hx with e1 e2; subst e2; exact Pre.refl _ _
  have pushed : ∀ {u : Value} {x : Blk}, some (u, h ++ [x]) = some (v, h') → Pre lim h h' := fun {u x} hx => by
    injection hx with hx; injection hx with e1 e2; subst e2; exact Pre.push _
  cases p <;> simp only [aop] at ha
  case mv => exact one ha
  case pick => split at ha; exact one ha; cases ha
  case new => exact pushed ha
  case box =>
    unfold aBox at ha
    split at ha
    · exact pushed ha
    · cases ha
  case build => exact same ha
  case buildSlice =>
    obtain ⟨cs, _, ha⟩ := Option.bind_eq_some_iff.1 ha
    split at ha
    · exact pushed ha
    · cases ha
  case load => exact same ha
  case store =>
    obtain ⟨h2, hw, hv⟩ := Option.map_eq_some_iff.1 ha
    injection hv with e1 e2; subst e2
    obtain ⟨b, q, _, _, hw⟩ := aStore_inv hw
    exact aWrite_pre hw
  case nilCheck => split at ha; exact one ha; exact one ha; cases ha
  case bin => exact same ha
  case eq => exact same ha
  case isNil => exact same ha
  case un => exact same ha
  case conv => split at ha; exact one ha; cases ha
  case convStr => split at ha; exact one ha; cases ha
  case bytesStr =>
    split at ha
    · obtain ⟨cs, _, ha⟩ := Option.bind_eq_some_iff.1 ha
      exact same ha
    · cases ha
  case iface => exact one ha
  case func => exact one ha
  case mkMap => exact pushed ha
  case mkSlice =>
    split at ha
    · split at ha
      · exact pushed ha
      · cases ha
    · cases ha
  case slice => exact same ha
  case sliceArr => split at ha; exact same ha; cases ha
  case sliceStr =>
    split at ha
    · obtain ⟨j, _, ha⟩ := Option.bind_eq_some_iff.1 ha
      exact same ha
    · cases ha
  case fieldAddr => split at ha; exact one ha; cases ha
  case field => split at ha; exact same ha; cases ha
  case idxAddr =>
    split at ha
    · split at ha
      · exact one ha
      · cases ha
    · cases ha
  case idxAddrArr =>
    split at ha
    · split at ha
      · exact one ha
      · cases ha
    · cases ha
  case idxArr =>
    split at ha
    · split at ha
      · exact same ha
      · cases ha
    · cases ha
  case idxStr =>
    split at ha
    · split at ha
      · exact same ha
      · cases ha
    · cases ha
  case lookup =>
    split at ha
    · exact one ha
    · split at ha
      · exact same ha
      · cases ha
    · cases ha
  case mapSet =>
    split at ha
    · split at ha
      · split at ha
        · rename_i hl
          obtain ⟨y, _, hv⟩ := Option.map_eq_some_iff.1 ha
          injection hv with e1 e2; subst e2
          exact Pre.set hl.1 _
        · cases ha
      · cases ha
    · cases ha
  case extract => split at ha; exact same ha; cases ha
  case call => split at ha; exact hc _ _ _ _ _ _ hll ha; cases ha
  case append =>
    obtain ⟨n, _, ha⟩ := Option.bind_eq_some_iff.1 ha
    obtain ⟨cs, _, ha⟩ := Option.bind_eq_some_iff.1 ha
    exact aAppend_pre ha
  case appendZeros =>
    split at ha
    · split at ha
      · exact aAppend_pre ha
      · cases ha
    · cases ha
  case len =>
    split at ha
    · exact one ha
    · exact one ha
    · exact one ha
    · split at ha
      · exact one ha
      · cases ha
    · cases ha
  case lenArr => exact one ha
  case cap => split at ha; exact one ha; exact one ha; cases ha
  case fail => cases ha
  case copy =>
    split at ha
    · obtain ⟨m, _, ha⟩ := Option.bind_eq_some_iff.1 ha
      obtain ⟨cs, _, ha⟩ := Option.bind_eq_some_iff.1 ha
      split at ha
      · exact one ha
      · obtain ⟨h2, hw, hv⟩ := Option.map_eq_some_iff.1 ha
        injection hv with e1 e2; subst e2
        exact aWrite_pre hw
    · cases ha
  case minmax => split at ha; cases ha; exact same ha
  case clear =>
    split at ha
    · exact one ha
    · obtain ⟨h2, hw, hv⟩ := Option.map_eq_some_iff.1 ha
      injection hv with e1 e2; subst e2
      exact aWrite_pre hw
    · cases ha

theorem lim_le {q : Bool} (hl : lim ≤ h.length) : lim ≤ (if q then h.length else lim) := by cases q <;> simp [hl]
theorem lim_ge {q : Bool} (hl : lim ≤ h.length) : (if q then h.length else lim) ≤ h.length := by cases q <;> simp [hl]
theorem aopc_inv {call : Callee} {o : RO} {x : Value × AH} (ha : aopc call lim e h o = some x) : o.av.all (apart e o.op) = true ∧ aop call (if o.q then h.length else lim) e h o.op = some x := by
  unfold aopc at ha
  split at ha
  · exact ⟨by assumption, ha⟩
  · cases ha
theorem aops_pre {call : Callee} (hc : CallP call) : ∀ {l : List RO} {e : Env} {h : AH} {e' : Env} {h' : AH}, lim ≤ h.length → aops call lim l e h = some (e', h') → Pre lim h h'
  | [], e, h, e', h', _, ha => by simp only [aops] at ha; injection ha with ha; injection ha with e1 e2; subst e2; exact Pre.refl _ _
  | o :: l, e, h, e', h', hl, ha => by
    simp only [aops] at ha
    split at ha
    · obtain ⟨⟨v, h1⟩, h2, ha⟩ := Option.bind_eq_some_iff.1 ha
      have p := (aop_pre hc (lim_ge hl) (aopc_inv h2).2).mono (lim_le hl)
      exact p.trans (aops_pre hc (Nat.le_trans hl p.1) ha)
    · exact aops_pre hc hl ha

/-! ### frames -/
structure ER (r : Rho) (e : Env) (a : Act) (nt : Nat) : Prop where
  tmps : ∀ t, VR r (e t) (a.tmps.getD t undef)
  size : a.tmps.size = nt
theorem ER.mono {s : Rho} {nt : Nat} (hl : r.Le s) (h : ER r e a nt) : ER s e a nt := ⟨fun t => (h.tmps t).mono hl, h.size⟩
theorem opd_of {x : Operand} (hx : opdOk x = true) (ht : ∀ t, x = .tmp t → VR r (e t) (a.tmps.getD t undef)) : VR r (ev e x) (a.eval x) := by
  cases x with
  | tmp t => exact ht t rfl
  | const v => exact VR.flatV hx
  | global g => cases hx
  | func f => exact .func _ _ _ _ _ rfl rfl (fun i u v hu _ => by simp at hu) (fun i u v hu _ => by simp at hu)
theorem ER.opd {nt : Nat} (h : ER r e a nt) {x : Operand} (hx : opdOk x = true) : VR r (ev e x) (a.eval x) := opd_of hx fun t _ => h.tmps t
theorem getD_put (a : Act) (d : Option Tmp) (v : Value) (t : Nat) (hd : ∀ x, d = some x → x < a.tmps.size) : (a.put d v).tmps.getD t undef = if d = some t then v else a.tmps.getD t undef := by
  cases d with
  | none => rfl
  | some x =>
    have hx := hd x rfl
    simp only [Act.put, Option.some.injEq, Array.getD_eq_getD_getElem?, Array.getElem?_setIfInBounds]
    by_cases h0 : x = t
    · subst h0; simp [hx]
    · simp [h0]
theorem put_size (a : Act) (d : Option Tmp) (v : Value) : (a.put d v).tmps.size = a.tmps.size := by cases d <;> simp [Act.put]
theorem put_defers (a : Act) (d : Option Tmp) (v : Value) : (a.put d v).defers = a.defers := by cases d <;> rfl
theorem ER.put {nt : Nat} {d : Option Nat} {u : Value} (h : ER r e a nt) (hd : ∀ x, d = some x → x < nt) (hv : VR r v u) : ER r (upd e d v) (a.put d u) nt := by
  refine ⟨fun t => ?_, by rw [put_size]; exact h.size⟩
  rw [getD_put a d u t (fun x hx => by rw [h.size]; exact hd x hx)]
  cases d with
  | none => simpa [upd] using h.tmps t
  | some x =>
    simp only [upd, Option.some.injEq]
    by_cases h0 : t = x
    · subst h0; simp [hv]
    · rw [if_neg h0, if_neg (Ne.symm h0)]; exact h.tmps t

theorem rop_ok {op : Op} {p : ROp} (hp : Rs.rop P op = some p) : op.operands.toList.all opdOk = true := by
  unfold Rs.rop at hp
  split at hp
  · assumption
  · cases hp

/-- Is an operation wanted: as the small machine asks it. -/
theorem wanted_of {ops : Array Oper} {o : Oper} {g : Option (Nat × Bool)} (hg : Rs.rguard ops o = some g) {ro : RO} (hro : ro.guard = g) (ht : ∀ t b, g = some (t, b) → VR r (e t) (a.tmps.getD t undef)) : Region.wanted o (yielded ops a.tmps) = wanted e ro := by
  unfold Rs.rguard at hg
  unfold Region.wanted Ai.wanted
  rw [hro]
  split at hg
  · rename_i h0
    injection hg with hg
    subst hg
    simp [h0]
  · rename_i j b h0
    split at hg
    · rename_i t h1
      injection hg with hg
      subst hg
      have hv := ht t b rfl
      simp only [h0]
      unfold yielded
      rw [h1]
      simp only [Option.bind_some]
      have e1 : a.tmps.getD t undef = (a.tmps[t]?).getD undef := by simp
      rw [e1] at hv
      cases h2 : a.tmps[t]? with
      | none =>
        rw [h2] at hv
        simp only [Option.getD_none] at hv
        generalize hq : e t = q at hv
        cases hv with
        | tuple xs ys h3 h4 => simp [isBool]
      | some u =>
        rw [h2] at hv
        simp only [Option.getD_some] at hv
        generalize hq : e t = q at hv
        cases hv <;> first | (simp [isBool]; done) | (simp [isBool, Bool.beq_comm])
    · cases hg

theorem ropers_cons {nt : Nat} {ops : Array Oper} {q : Nat → Bool} {av : Nat → List Operand} {o : Oper} {i : Nat} {r : List (Oper × Nat)} {l : List RO} (h : Rs.ropers P nt ops q av ((o, i) :: r) = some l) :
    ∃ p g l', Rs.ropT P o.op = p ∧ Rs.rguard ops o = some g ∧ (∀ x, o.dst = some x → x < nt) ∧ Rs.ropers P nt ops q av r = some l' ∧ l = ⟨o.dst, p, g, q i, av i⟩ :: l' := by
  simp only [Rs.ropers] at h
  obtain ⟨g, hg, h⟩ := Option.bind_eq_some_iff.1 h
  split at h
  · rename_i hd
    obtain ⟨l', hl, rfl⟩ := Option.map_eq_some_iff.1 h
    exact ⟨_, g, l', rfl, hg, (fun x hx => by rw [hx] at hd; simpa [Rs.dstOk] using hd), hl, rfl⟩
  · cases h

theorem Fresh.left {h1 : AH} (hf : Fresh r h h') (hl : h1.length ≤ h'.length) : Fresh r h h1 := fun b h0 h2 => hf b h0 (Nat.lt_of_lt_of_le h2 hl)
theorem Post.fresh {h1 h2 : AH} {r1 : Rho} {w1 : World} (p : Post nb lim r h w r1 h1 w1) (hf : Fresh r h h2) : Fresh r1 h1 h2 := fun b h0 h3 => by
  cases hb : r1 b with
  | none => rfl
  | some i =>
    rcases p.new hb with h4 | ⟨_, h4, _⟩
    · rw [hf b (Nat.le_trans p.len h0) h3] at h4; cases h4
    · omega

theorem aops_seq {call : Callee} (hc : CallS P nb call) (hp : CallP call) {nt : Nat} {ops : Array Oper} {q : Nat → Bool} {av : Nat → List Operand} {Q : Exit → Act → World → Prop} (hlim : nb ≤ lim) :
    ∀ (pairs : List (Oper × Nat)) (l : List RO) (e : Env) (h : AH) (e' : Env) (h' : AH) (r : Rho) (a : Act) (w : World), (∀ x ∈ pairs, ops[x.2]? = some x.1) → Rs.ropers P nt ops q av pairs = some l → aops call lim l e h = some (e', h') → HR nb r h w → ER r e a nt → Fresh r h h' → lim ≤ h.length →
      (∀ r' a' w', Post nb lim r h w r' h' w' → ER r' e' a' nt → a'.defers = a.defers → Q .normal a' w') → wpOps P ops Q (pairs.map (·.2)) a w
  | [], l, e, h, e', h', r, a, w, _, hr_, ha, hr, he, _, _, hK => by
    simp only [Rs.ropers] at hr_
    injection hr_ with hr_
    subst hr_
    simp only [aops] at ha
    injection ha with ha
    injection ha with e1 e2
    subst e1; subst e2
    exact hK r a w (Post.refl hr) he rfl
  | (o, i) :: pairs, l, e, h, e', h', r, a, w, hm, hr_, ha, hr, he, hf, hl, hK => by
    obtain ⟨p, g, l', h1, h2, h3, h4, rfl⟩ := ropers_cons hr_
    have hoi : ops[i]? = some o := hm (o, i) (by simp)
    simp only [aops] at ha
    have hwant := wanted_of (e := e) (a := a) h2 (ro := ⟨o.dst, p, g, q i, av i⟩) rfl (fun t b _ => he.tmps t)
    simp only [List.map_cons, wpOps, hoi, hwant]
    split at ha
    · rename_i hw
      rw [if_pos hw]
      obtain ⟨⟨v, h1'⟩, ha1, ha2⟩ := Option.bind_eq_some_iff.1 ha
      replace ha1 := (aopc_inv ha1).2
      simp only at ha1 ha2
      have pre := aop_pre hp (lim_ge hl) ha1
      have pre2 := (aops_pre hp (Nat.le_trans hl pre.1) ha2)
      have hlq : nb ≤ (if q i then h.length else lim) := Nat.le_trans hlim (lim_le hl)
      subst h1
      have h1 := ropT_some (P := P) ha1
      have hok := rop_ok h1
      refine .inl (rop_good hc hr hlq (lim_ge hl) h1 (fun x hx => he.opd (by rw [List.all_eq_true] at hok; exact hok x hx)) ha1 (hf.left pre2.1) _ _ fun r' v' w' p1 p2 => ?_)
      have p1' := p1.mono (lim_le (q := q i) hl)
      refine aops_seq hc hp hlim pairs l' _ _ e' h' r' _ w' (fun x hx => hm x (by simp [hx])) h4 ha2 p1.hr ((he.mono p1.le).put h3 p2) (p1'.fresh hf) (Nat.le_trans hl pre.1) fun r2 a2 w2 q1 q2 q3 => hK r2 a2 w2 (p1'.trans q1 (hf.left pre2.1)) q2 (by rw [q3, put_defers])
    · rename_i hw
      rw [if_neg hw]
      exact aops_seq hc hp hlim pairs l' _ _ e' h' r _ w (fun x hx => hm x (by simp [hx])) h4 ha hr (he.put h3 (VR.undef _)) hf hl fun r2 a2 w2 q1 q2 q3 => hK r2 a2 w2 q1 q2 (by rw [q3, put_defers])

end Go.Proofs.YtmikcpgkppkmiaaW.Ai
