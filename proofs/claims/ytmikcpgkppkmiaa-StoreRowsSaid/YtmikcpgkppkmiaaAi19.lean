/-
  The small machine and Go's: what it answers, Go answers. Of no program.
-/
import Derived.Test.YtmikcpgkppkmiaaAi18
set_option linter.unusedVariables false
set_option linter.unusedSimpArgs false
namespace Go.Proofs.YtmikcpgkppkmiaaW.Ai
section
variable {P : Program} {nb lim : Nat} {call : Callee} {nt : Nat}

theorem zipIdx_get (ops : Array Oper) (k : Nat) (o : Oper) (i : Nat) : ops.toList.zipIdx[k]? = some (o, i) → i = k ∧ ops[k]? = some o := by
  intro h
  rw [List.getElem?_zipIdx] at h
  simp at h
  obtain ⟨x, h1, h2, h3⟩ := h
  exact ⟨h3.symm, by rw [h1, h2]⟩

theorem regOk_of {ops : Array Oper} {A : List (List Nat)} (h : Rs.floatOk P A ops = true) : RegOk P ops A (Rs.heavies P A ops) (Rs.avoid P A ops) := by
  have hat : ∀ (i : Nat) o, ops[i]? = some o → Rs.opAt P ops i = Rs.ropT P o.op := fun i o ho => by unfold Rs.opAt; rw [ho]
  have hfl : ∀ i, i ∈ Rs.floats P A ops → i < ops.size := fun i hi => by
    unfold Rs.floats Rs.npures at hi
    dsimp only at hi
    split at hi
    · cases hi
    · simp only [List.mem_filter, List.mem_range] at hi
      exact hi.1.1
  refine ⟨fun i o ho hn => ?_, fun i hi => ?_⟩
  · have hi : i < ops.size := (Array.getElem?_eq_some_iff.1 ho).1
    unfold Rs.heavies at hn
    simp only [List.mem_filter, Bool.not_eq_true', not_and, Bool.not_eq_false] at hn
    cases hp : (Rs.ropT P o.op).pure with
    | true => exact .inl rfl
    | false =>
      have hnp : i ∈ Rs.npures P ops := by
        unfold Rs.npures
        simp only [List.mem_filter, List.mem_range, hat i o ho, hp]
        exact ⟨hi, rfl⟩
      have hf : i ∈ Rs.floats P A ops := by
        have := hn hnp
        rw [List.contains_eq_mem] at this
        simpa using this
      right
      unfold Rs.floatOk at h
      simp only [List.all_eq_true] at h
      have h1 := h i hf
      rw [hat i o ho] at h1
      cases hx : (Rs.ropT P o.op).loadOf with
      | none => rw [hx] at h1; cases h1
      | some x =>
        rw [hx] at h1
        have : ∃ n, Rs.ropT P o.op = .load n x := by
          revert hx
          generalize Rs.ropT P o.op = p
          intro hx
          cases p <;> simp only [ROp.loadOf, Option.some.injEq, reduceCtorEq] at hx
          subst hx
          exact ⟨_, rfl⟩
        obtain ⟨n, hp2⟩ := this
        refine ⟨n, x, hp2, fun k hk hb => ?_⟩
        simp only [List.all_eq_true] at h1
        have h2 := h1 k hk
        rw [hb] at h2
        simp only [Bool.not_true, Bool.false_or] at h2
        refine ⟨fun hlt => by rw [if_pos hlt] at h2; exact h2, fun hlt => ?_⟩
        rw [if_neg (by omega), Bool.or_eq_true] at h2
        rcases h2 with h2 | h2
        · exact .inl h2
        · by_cases ha : Rs.isAnc A i k = true
          · exact .inl ha
          · refine .inr ⟨?_, h2⟩
            unfold Rs.avoid
            have hk2 : (Rs.heavies P A ops).contains k = true := by rw [List.contains_eq_mem]; simpa using hk
            simp only [hk2, hb, Bool.and_self, if_true]
            refine List.mem_filterMap.2 ⟨i, hf, ?_⟩
            have ha2 : Rs.isAnc A i k = false := by simpa using ha
            simp only [hlt, decide_true, ha2, Bool.not_false, Bool.and_self, if_true, hat i o ho, hx]
  · unfold Rs.heavies Rs.npures at hi
    simp only [List.mem_filter, List.mem_range] at hi
    exact hi.1.1

theorem region_sound (hc : CallS P nb call) (hp : CallP call) (hm : P.follows .mixedOrders = true) (hnb : nb ≤ lim) {id : Nat} {ops : Array Oper} {draw : Bool} {rc : RC} (hr : Rs.code P nt (.region id ops draw) = some rc) {n : Nat} {e : Env} {h : AH} {x : XT} {e' : Env} {h' : AH} {r : Rho} {a : Act} {w : World} {Q : Exit → Act → World → Prop}
    (ha : acode call n lim rc e h = some (x, e', h')) (hh : HR nb r h w) (he : ER r e a nt) (hf : Fresh r h h') (hl : lim ≤ h.length) (hQ : ∀ r' a' w', Post nb lim r h w r' h' w' → ER r' e' a' nt → a'.defers = a.defers → Q .normal a' w') : (Code.region id ops draw).wp P Q a w ∧ x = .normal := by
  cases draw with
  | false =>
    simp only [Rs.code] at hr
    injection hr with hr
    cases h1 : Rs.ropers P nt ops (fun _ => false) (fun _ => []) ops.toList.zipIdx with
    | none => rw [h1] at hr; simp only [Option.map_none, Option.getD_none] at hr; subst hr; simp [acode] at ha
    | some l =>
    rw [h1] at hr
    simp only [Option.map_some, Option.getD_some] at hr
    subst hr
    simp only [acode] at ha
    obtain ⟨⟨e1, h2⟩, h3, h4⟩ := Option.map_eq_some_iff.1 ha
    injection h4 with h4 h5
    injection h5 with h5 h6
    subst h4; subst h5; subst h6
    refine ⟨wp_region ?_, rfl⟩
    have := aops_seq hc hp hnb ops.toList.zipIdx l e h e1 h2 r a w (Q := Q) (fun x hx => by
      obtain ⟨k, hk, hk2⟩ := List.getElem_of_mem hx
      obtain ⟨o, i⟩ := x
      obtain ⟨g1, g2⟩ := zipIdx_get ops k o i (by rw [List.getElem?_eq_getElem hk, hk2])
      subst g1
      exact g2) h1 h3 hh he hf hl hQ
    have e2 : ops.toList.zipIdx.map (·.2) = List.range ops.size := by
      apply List.ext_getElem?
      intro i
      simp only [List.getElem?_map, List.getElem?_zipIdx, List.getElem?_range]
      by_cases hi : i < ops.size
      · simp [hi]
      · simp [hi, List.getElem?_eq_none]
    rw [e2] at this
    exact this
  | true =>
    simp only [Rs.code] at hr
    split at hr
    · rename_i hok
      rw [Bool.and_eq_true, Bool.and_eq_true] at hok
      obtain ⟨⟨hA, hD⟩, hFl⟩ := hok
      have hR := regOk_of hFl
      injection hr with hr
      cases h1 : Rs.ropers P nt ops (fun i => !Rs.barrier (Rs.ancs ops.toList) (Rs.heavies P (Rs.ancs ops.toList) ops) i) (Rs.avoid P (Rs.ancs ops.toList) ops) ops.toList.zipIdx with
      | none => rw [h1] at hr; simp only [Option.map_none, Option.getD_none] at hr; subst hr; simp [acode] at ha
      | some l =>
      rw [h1] at hr
      simp only [Option.map_some, Option.getD_some] at hr
      subst hr
      simp only [acode] at ha
      obtain ⟨⟨e1, h2⟩, h3, h4⟩ := Option.map_eq_some_iff.1 ha
      injection h4 with h4 h5
      injection h5 with h5 h6
      subst h4; subst h5; subst h6
      refine ⟨wp_region_any hm ?_, rfl⟩
      obtain ⟨g1, g2⟩ := ropers_get h1
      have hll : l.length = ops.size := by rw [g1]; simp
      have hL : Lof P nt ops (Rs.ancs ops.toList) (Rs.heavies P (Rs.ancs ops.toList) ops) (Rs.avoid P (Rs.ancs ops.toList) ops) l := fun i o ho => by
        have hi : i < ops.size := (Array.getElem?_eq_some_iff.1 ho).1
        obtain ⟨p, g, k1, k2⟩ := g2 i o i (by rw [List.getElem?_zipIdx]; simp [ho])
        exact ⟨p, g, k1, k2⟩
      obtain ⟨E, H, V, ht, t1, t2, t3, t4⟩ := trace_of h3
      rw [hll] at t3 t4
      have hmono := fun d i => heaps_mono (lim := lim) (H := H) hp (by rw [t2]; exact hl) ht hL d i
      have mono0 : ∀ i, i ≤ ops.size → (H 0).length ≤ (H i).length := fun i hi => by
        have := hmono i 0 (by omega) (Nat.le_refl _)
        rwa [Nat.zero_add] at this
      have mono : ∀ i j, i ≤ j → j ≤ ops.size → (H i).length ≤ (H j).length := fun i j hij hj => by
        have := hmono (j - i) i (by omega) (mono0 i (by omega))
        rwa [show i + (j - i) = j by omega] at this
      have hfH : Fresh r h (H ops.size) := by rw [t4]; exact hf
      have hno : ∀ i, ¬ Lst (Array.replicate ops.size false) i := fun i hx => by
        unfold Lst at hx
        by_cases hi : i < ops.size
        · simp [hi] at hx
        · simp [hi] at hx
      obtain ⟨q, I⟩ := start_seg (nb := nb) (lim := lim) (r := r) (h := h) (w := w.drew) (df := a.defers) (listed := Array.replicate ops.size false) (a := a) (w' := w.drew) (s := r) (m := 0) hR hp hL ht (Nat.zero_le _) (by simp) (by rw [t2]; exact Nat.le_refl _)
        (fun i _ hi => by omega) (fun i _ _ => hno i) (fun i j hi _ => absurd hi (hno i)) (by rw [t2]; exact Post.refl (hh.same rfl)) hfH (fun i _ h2 => ⟨mono0 i h2, mono i _ h2 (Nat.le_refl _)⟩) (fun t i o hx => absurd hx (hno i)) (fun t _ => by rw [t1]; exact he.tmps t) he.size rfl
      refine draw_all hc hR hp hA hD hL ht hnb (by rw [t2]) hl hfH (fun s a' w' p1 p2 p3 => ?_) ops.size _ _ _ _ _ _ (by rw [Array.toList_replicate, List.countP_replicate]; rfl) I
      rw [t4] at p1
      rw [t3] at p2
      exact hQ s a' w' ((drew_post hh).trans p1 (fun b h1 h2 => by omega)) p2 p3
    · injection hr with hr; subst hr; simp [acode] at ha

theorem aloop_pre {body : Env → AH → Out} (hb : ∀ e h x e' h', lim ≤ h.length → body e h = some (x, e', h') → Pre lim h h') : ∀ (n : Nat) (e : Env) (h : AH) (x : XT) (e' : Env) (h' : AH), lim ≤ h.length → aloop body n e h = some (x, e', h') → Pre lim h h'
  | 0, e, h, x, e', h', _, ha => by simp [aloop] at ha
  | n + 1, e, h, x, e', h', hl, ha => by
    simp only [aloop] at ha
    obtain ⟨⟨y, e1, h1⟩, h2, h3⟩ := Option.bind_eq_some_iff.1 ha
    have p := hb _ _ _ _ _ hl h2
    cases y with
    | normal => exact p.trans (aloop_pre hb n e1 h1 x e' h' (Nat.le_trans hl p.1) h3)
    | exit id => injection h3 with h3; injection h3 with q1 q2; injection q2 with q2 q3; subst q3; exact p
    | ret => injection h3 with h3; injection h3 with q1 q2; injection q2 with q2 q3; subst q3; exact p
theorem acode_pre (hp : CallP call) {n : Nat} : ∀ (rc : RC) (e : Env) (h : AH) (x : XT) (e' : Env) (h' : AH), lim ≤ h.length → acode call n lim rc e h = some (x, e', h') → Pre lim h h'
  | .skip, e, h, x, e', h', hl, ha => by simp only [acode] at ha; injection ha with ha; injection ha with q1 q2; injection q2 with q2 q3; subst q3; exact Pre.refl _ _
  | .ops l, e, h, x, e', h', hl, ha => by
    simp only [acode] at ha
    obtain ⟨⟨e1, h2⟩, h3, h4⟩ := Option.map_eq_some_iff.1 ha
    injection h4 with q1 q2; injection q2 with q2 q3; subst q3
    exact aops_pre hp hl h3
  | .seq a b, e, h, x, e', h', hl, ha => by
    simp only [acode] at ha
    obtain ⟨⟨y, e1, h1⟩, h2, h3⟩ := Option.bind_eq_some_iff.1 ha
    have p := acode_pre hp a _ _ _ _ _ hl h2
    cases y with
    | normal => exact p.trans (acode_pre hp b _ _ _ _ _ (Nat.le_trans hl p.1) h3)
    | exit id => injection h3 with h3; injection h3 with q1 q2; injection q2 with q2 q3; subst q3; exact p
    | ret => injection h3 with h3; injection h3 with q1 q2; injection q2 with q2 q3; subst q3; exact p
  | .cond c a b, e, h, x, e', h', hl, ha => by
    simp only [acode] at ha
    split at ha
    · split at ha
      · exact acode_pre hp a _ _ _ _ _ hl ha
      · exact acode_pre hp b _ _ _ _ _ hl ha
    · cases ha
  | .block id a, e, h, x, e', h', hl, ha => by
    simp only [acode] at ha
    obtain ⟨⟨y, e1, h1⟩, h2, h3⟩ := Option.map_eq_some_iff.1 ha
    have p := acode_pre hp a _ _ _ _ _ hl h2
    cases y with
    | normal => injection h3 with q1 q2; injection q2 with q2 q3; subst q3; exact p
    | ret => injection h3 with q1 q2; injection q2 with q2 q3; subst q3; exact p
    | exit i =>
      simp only at h3
      split at h3
      · injection h3 with q1 q2; injection q2 with q2 q3; subst q3; exact p
      · injection h3 with q1 q2; injection q2 with q2 q3; subst q3; exact p
  | .loop a, e, h, x, e', h', hl, ha => by
    simp only [acode] at ha
    exact aloop_pre (fun e h x e' h' hl ha => acode_pre hp a e h x e' h' hl ha) n e h x e' h' hl ha
  | .fail, e, h, x, e', h', hl, ha => by simp [acode] at ha
  | .exit id, e, h, x, e', h', hl, ha => by simp only [acode] at ha; injection ha with ha; injection ha with q1 q2; injection q2 with q2 q3; subst q3; exact Pre.refl _ _
  | .ret, e, h, x, e', h', hl, ha => by simp only [acode] at ha; injection ha with ha; injection ha with q1 q2; injection q2 with q2 q3; subst q3; exact Pre.refl _ _

def xt : XT → Exit
  | .normal => .normal
  | .exit id => .exit id
  | .ret => .ret

/-- A loop at its round's begin. -/
def LW (P : Program) (c : Code) (Q : Exit → Act → World → Prop) (a : Act) (w : World) : Prop :=
  ∀ (b : Frame) (k : List Item) (cs : List Frame), ∃ e a' w', Q e a' w' ∧ Arrives P (lone (b.at a (.code c :: .inLoop c :: k)) cs w) b k cs e a' w'
theorem wp_loop_of {c : Code} {Q : Exit → Act → World → Prop} {a : Act} {w : World} (h : LW P c Q a w) : (Code.loop c).wp P Q a w :=
  fun b k cs => let ⟨e, a', w', q, r⟩ := h b k cs; ⟨e, a', w', q, .of_steps (.one step_loop) r⟩
theorem LW_round {c : Code} {Q : Exit → Act → World → Prop} {a : Act} {w : World} (h : c.wp P (Exit.then (LW P c Q) Q) a w) : LW P c Q a w := by
  intro b k cs
  obtain ⟨e, a₁, w₁, hq, harr⟩ := h b (.inLoop c :: k) cs
  cases e with
  | normal =>
    obtain ⟨e₂, a₂, w₂, hq₂, harr₂⟩ := hq b k cs
    exact ⟨e₂, a₂, w₂, hq₂, .of_steps (Steps.trans harr (.one step_inLoop)) harr₂⟩
  | exit id => exact ⟨_, a₁, w₁, hq, .pass (x := .inLoop c) rfl (fun _ _ => .inl (by simp)) harr⟩
  | goto l => exact ⟨_, a₁, w₁, hq, .pass (x := .inLoop c) rfl (fun _ _ => .inl (by simp)) harr⟩
  | ret => exact ⟨_, a₁, w₁, hq, .pass (x := .inLoop c) rfl (fun _ _ => .inl (by simp)) harr⟩
  | panic ch => exact ⟨_, a₁, w₁, hq, .pass (x := .inLoop c) rfl (fun _ _ => .inl (by simp)) harr⟩
  | outgrown => exact ⟨_, a₁, w₁, hq, .pass (x := .inLoop c) rfl (fun _ _ => .inl (by simp)) harr⟩

theorem code_sound (hc : CallS P nb call) (hp : CallP call) (hm : P.follows .mixedOrders = true) (hnb : nb ≤ lim) {n : Nat} :
    ∀ (c : Code) (rc : RC), Rs.code P nt c = some rc → ∀ (e : Env) (h : AH) (x : XT) (e' : Env) (h' : AH) (r : Rho) (a : Act) (w : World) (Q : Exit → Act → World → Prop),
      acode call n lim rc e h = some (x, e', h') → HR nb r h w → ER r e a nt → Fresh r h h' → lim ≤ h.length →
      (∀ r' a' w', Post nb lim r h w r' h' w' → ER r' e' a' nt → a'.defers = a.defers → Q (xt x) a' w') → c.wp P Q a w
  | .skip, rc, hr, e, h, x, e', h', r, a, w, Q, ha, hh, he, hf, hl, hQ => by
    simp only [Rs.code] at hr
    injection hr with hr; subst hr
    simp only [acode] at ha
    injection ha with ha; injection ha with q1 q2; injection q2 with q2 q3; subst q1; subst q2; subst q3
    exact wp_skip (hQ r a w (Post.refl hh) he rfl)
  | .label _, rc, hr, e, h, x, e', h', r, a, w, Q, ha, hh, he, hf, hl, hQ => by
    simp only [Rs.code] at hr
    injection hr with hr; subst hr
    simp only [acode] at ha
    injection ha with ha; injection ha with q1 q2; injection q2 with q2 q3; subst q1; subst q2; subst q3
    exact wp_label (hQ r a w (Post.refl hh) he rfl)
  | .region id ops draw, rc, hr, e, h, x, e', h', r, a, w, Q, ha, hh, he, hf, hl, hQ => by
    have hx : x = .normal := (region_sound (Q := fun _ _ _ => True) hc hp hm hnb hr ha hh he hf hl (fun _ _ _ _ _ _ => trivial)).2
    subst hx
    exact (region_sound hc hp hm hnb hr ha hh he hf hl hQ).1
  | .seq c1 c2, rc, hr, e, h, x, e', h', r, a, w, Q, ha, hh, he, hf, hl, hQ => by
    simp only [Rs.code] at hr
    obtain ⟨r1, k1, hr⟩ := Option.bind_eq_some_iff.1 hr
    obtain ⟨r2, k2, rfl⟩ := Option.map_eq_some_iff.1 hr
    simp only [acode] at ha
    obtain ⟨⟨y, e1, h1⟩, h2, h3⟩ := Option.bind_eq_some_iff.1 ha
    have p := acode_pre hp r1 _ _ _ _ _ hl h2
    refine wp_seq (code_sound hc hp hm hnb c1 r1 k1 e h y e1 h1 r a w _ h2 hh he ?_ hl fun r' a' w' p1 p2 p3 => ?_)
    · cases y with
      | normal => exact hf.left (acode_pre hp r2 _ _ _ _ _ (Nat.le_trans hl p.1) h3).1
      | exit id => injection h3 with h3; injection h3 with q1 q2; injection q2 with q2 q3; subst q3; exact hf
      | ret => injection h3 with h3; injection h3 with q1 q2; injection q2 with q2 q3; subst q3; exact hf
    · cases y with
      | normal =>
        have pp := acode_pre hp r2 _ _ _ _ _ (Nat.le_trans hl p.1) h3
        exact code_sound hc hp hm hnb c2 r2 k2 e1 h1 x e' h' r' a' w' Q h3 p1.hr p2 (p1.fresh hf) (Nat.le_trans hl p.1) fun r2 a2 w2 s1 s2 s3 => hQ r2 a2 w2 (p1.trans s1 (hf.left pp.1)) s2 (s3.trans p3)
      | exit id => injection h3 with h3; injection h3 with q1 q2; injection q2 with q2 q3; subst q1; subst q2; subst q3; exact hQ r' a' w' p1 p2 p3
      | ret => injection h3 with h3; injection h3 with q1 q2; injection q2 with q2 q3; subst q1; subst q2; subst q3; exact hQ r' a' w' p1 p2 p3
  | .cond c c1 c2, rc, hr, e, h, x, e', h', r, a, w, Q, ha, hh, he, hf, hl, hQ => by
    simp only [Rs.code] at hr
    split at hr
    · rename_i hok
      obtain ⟨r1, k1, hr⟩ := Option.bind_eq_some_iff.1 hr
      obtain ⟨r2, k2, rfl⟩ := Option.map_eq_some_iff.1 hr
      simp only [acode] at ha
      split at ha
      · rename_i t ht
        have hv := he.opd hok
        rw [ht] at hv
        refine wp_cond hv.bool_inv ?_
        cases t with
        | true => exact code_sound hc hp hm hnb c1 r1 k1 e h x e' h' r a w Q (by simpa using ha) hh he hf hl hQ
        | false => exact code_sound hc hp hm hnb c2 r2 k2 e h x e' h' r a w Q (by simpa using ha) hh he hf hl hQ
      · cases ha
    · injection hr with hr; subst hr; simp [acode] at ha
  | .block id c1, rc, hr, e, h, x, e', h', r, a, w, Q, ha, hh, he, hf, hl, hQ => by
    simp only [Rs.code] at hr
    obtain ⟨r1, k1, rfl⟩ := Option.map_eq_some_iff.1 hr
    simp only [acode] at ha
    obtain ⟨⟨y, e1, h1⟩, h2, h3⟩ := Option.map_eq_some_iff.1 ha
    have hh1 : h1 = h' ∧ e1 = e' := by
      cases y with
      | normal => injection h3 with q1 q2; injection q2 with q2 q3; exact ⟨q3, q2⟩
      | ret => injection h3 with q1 q2; injection q2 with q2 q3; exact ⟨q3, q2⟩
      | exit i =>
        simp only at h3
        split at h3
        · injection h3 with q1 q2; injection q2 with q2 q3; exact ⟨q3, q2⟩
        · injection h3 with q1 q2; injection q2 with q2 q3; exact ⟨q3, q2⟩
    obtain ⟨rfl, rfl⟩ := hh1
    refine wp_block (code_sound hc hp hm hnb c1 r1 k1 e h y e1 h1 r a w _ h2 hh he hf hl fun r' a' w' p1 p2 p3 => ?_)
    have := hQ r' a' w' p1 p2 p3
    cases y with
    | normal => injection h3 with q1 q2; subst q1; exact this
    | ret => injection h3 with q1 q2; subst q1; exact this
    | exit i =>
      simp only at h3
      simp only [xt, Exit.inBlock]
      split at h3
      · rename_i hi
        injection h3 with q1 q2
        subst q1
        rw [if_pos hi]
        exact this
      · rename_i hi
        injection h3 with q1 q2
        subst q1
        rw [if_neg hi]
        exact this
  | .loop c1, rc, hr, e, h, x, e', h', r, a, w, Q, ha, hh, he, hf, hl, hQ => by
    simp only [Rs.code] at hr
    obtain ⟨r1, k1, rfl⟩ := Option.map_eq_some_iff.1 hr
    simp only [acode] at ha
    refine wp_loop_of ?_
    have key : ∀ (m : Nat) (e : Env) (h : AH) (r : Rho) (a : Act) (w : World), aloop (acode call n lim r1) m e h = some (x, e', h') → HR nb r h w → ER r e a nt → Fresh r h h' → lim ≤ h.length →
        (∀ r' a' w', Post nb lim r h w r' h' w' → ER r' e' a' nt → a'.defers = a.defers → Q (xt x) a' w') → LW P c1 Q a w := by
      intro m
      induction m with
      | zero => intro e h r a w ha; simp [aloop] at ha
      | succ m ih =>
        intro e h r a w ha hh he hf hl hQ
        simp only [aloop] at ha
        obtain ⟨⟨y, e1, h1⟩, h2, h3⟩ := Option.bind_eq_some_iff.1 ha
        have p := acode_pre hp r1 _ _ _ _ _ hl h2
        have pre2 : Pre lim h1 h' := by
          cases y with
          | normal => exact aloop_pre (fun e h x e' h' hl ha => acode_pre hp r1 e h x e' h' hl ha) m e1 h1 x e' h' (Nat.le_trans hl p.1) h3
          | exit id => injection h3 with h3; injection h3 with q1 q2; injection q2 with q2 q3; subst q3; exact Pre.refl _ _
          | ret => injection h3 with h3; injection h3 with q1 q2; injection q2 with q2 q3; subst q3; exact Pre.refl _ _
        refine LW_round (code_sound hc hp hm hnb c1 r1 k1 e h y e1 h1 r a w _ h2 hh he (hf.left pre2.1) hl fun r' a' w' p1 p2 p3 => ?_)
        cases y with
        | normal => exact ih e1 h1 r' a' w' h3 p1.hr p2 (p1.fresh hf) (Nat.le_trans hl p.1) fun r2 a2 w2 s1 s2 s3 => hQ r2 a2 w2 (p1.trans s1 (hf.left pre2.1)) s2 (s3.trans p3)
        | exit id => injection h3 with h3; injection h3 with q1 q2; injection q2 with q2 q3; subst q1; subst q2; subst q3; exact hQ r' a' w' p1 p2 p3
        | ret => injection h3 with h3; injection h3 with q1 q2; injection q2 with q2 q3; subst q1; subst q2; subst q3; exact hQ r' a' w' p1 p2 p3
    exact key n e h r a w ha hh he hf hl hQ
  | .exit id, rc, hr, e, h, x, e', h', r, a, w, Q, ha, hh, he, hf, hl, hQ => by
    simp only [Rs.code] at hr
    injection hr with hr; subst hr
    simp only [acode] at ha
    injection ha with ha; injection ha with q1 q2; injection q2 with q2 q3; subst q1; subst q2; subst q3
    exact wp_exit (hQ r a w (Post.refl hh) he rfl)
  | .ret, rc, hr, e, h, x, e', h', r, a, w, Q, ha, hh, he, hf, hl, hQ => by
    simp only [Rs.code] at hr
    injection hr with hr; subst hr
    simp only [acode] at ha
    injection ha with ha; injection ha with q1 q2; injection q2 with q2 q3; subst q1; subst q2; subst q3
    exact wp_ret (hQ r a w (Post.refl hh) he rfl)
  | .scope _, rc, hr, e, h, x, e', h', r, a, w, Q, ha, hh, he, hf, hl, hQ => by simp only [Rs.code] at hr; injection hr with hr; subst hr; simp [acode] at ha
  | .goto _, rc, hr, e, h, x, e', h', r, a, w, Q, ha, hh, he, hf, hl, hQ => by simp only [Rs.code] at hr; injection hr with hr; subst hr; simp [acode] at ha
  | .rangeFunc _ _ _ _, rc, hr, e, h, x, e', h', r, a, w, Q, ha, hh, he, hf, hl, hQ => by simp only [Rs.code] at hr; injection hr with hr; subst hr; simp [acode] at ha
  | .refuse _, rc, hr, e, h, x, e', h', r, a, w, Q, ha, hh, he, hf, hl, hQ => by simp only [Rs.code] at hr; injection hr with hr; subst hr; simp [acode] at ha

end
end Go.Proofs.YtmikcpgkppkmiaaW.Ai
