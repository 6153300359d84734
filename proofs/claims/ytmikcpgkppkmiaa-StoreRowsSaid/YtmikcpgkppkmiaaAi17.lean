/-
  The small machine and Go's: a statement whose order is open, whatever order is drawn. Of no program.
-/
import Derived.Test.YtmikcpgkppkmiaaAi16
set_option linter.unusedVariables false
set_option linter.unusedSimpArgs false
namespace Go.Proofs.YtmikcpgkppkmiaaW.Ai
section
variable {P : Program} {nb lim : Nat} {r : Rho} {h : AH} {w : World} {df : List Deferred}
variable {call : Callee} {nt : Nat} {ops : Array Oper} {A : List (List Nat)} {l : List RO} {E : Nat → Env} {H : Nat → AH} {V : Nat → Value} {Q : Exit → Act → World → Prop}

variable {hv : List Nat} {av : Nat → List Operand}

theorem anc_lt (hA : Rs.ancsOk A ops = true) : ∀ (i : Nat), i < ops.size → ∀ j, Rs.isAnc A j i = true → j < i := by
  intro i
  induction i using Nat.strongRecOn with
  | _ i ih =>
    intro hi j hj
    have ho : ops[i]? = some ops[i] := Array.getElem?_eq_getElem hi
    obtain ⟨x, h4, h5, h6⟩ := (ancsOk_inv hA ho).2 j hj
    have hlt := (ancsOk_inv hA ho).1 x h4 h5
    rcases h6 with h6 | h6
    · omega
    · have := ih _ hlt (by omega) j h6
      omega

variable {listed : Array Bool} {a : Act} {w' : World} {p q : Nat} {s : Rho}

theorem env_none (hl : Lof P nt ops A hv av l) (ht : Trace call lim l E H V) {t : Nat} (hn : ∀ (k : Nat) (o : Oper), ops[k]? = some o → o.dst ≠ some t) {i : Nat} (hi : i ≤ ops.size) : E i t = E 0 t := by
  have := env_range hl ht t i 0 (fun k a b => ⟨_, Array.getElem?_eq_getElem (by omega), hn k _ (Array.getElem?_eq_getElem (by omega))⟩)
  rwa [Nat.zero_add] at this
theorem env_early (hD : Rs.dataOk A ops = true) (hl : Lof P nt ops A hv av l) (ht : Trace call lim l E H V) {t j : Nat} {oj : Oper} (hj : ops[j]? = some oj) (hjt : oj.dst = some t) {i : Nat} (hi : i ≤ j) : E i t = E 0 t := by
  have hjn : j < ops.size := (Array.getElem?_eq_some_iff.1 hj).1
  have := env_range hl ht t i 0 (fun k a b => ⟨_, Array.getElem?_eq_getElem (by omega), by
    rcases (dataOk_inv hD (Array.getElem?_eq_getElem (show k < ops.size by omega)) hj hjt).1 with h1 | h1
    · omega
    · exact h1⟩)
  rwa [Nat.zero_add] at this
theorem env_late (hD : Rs.dataOk A ops = true) (hl : Lof P nt ops A hv av l) (ht : Trace call lim l E H V) {t j : Nat} {oj : Oper} (hj : ops[j]? = some oj) (hjt : oj.dst = some t) {i : Nat} (hi : j < i) (hin : i ≤ ops.size) : E i t = V j := by
  have h1 := env_range hl ht t (i - (j + 1)) (j + 1) (fun k a b => ⟨_, Array.getElem?_eq_getElem (by omega), by
    rcases (dataOk_inv hD (Array.getElem?_eq_getElem (show k < ops.size by omega)) hj hjt).1 with h1 | h1
    · omega
    · exact h1⟩)
  rw [show j + 1 + (i - (j + 1)) = i by omega] at h1
  obtain ⟨p, g, h3, _⟩ := hl j _ hj
  rw [h1, (ht.step _ _ h3).1, hjt]
  simp [upd]

/-- A temporary as the text's order has it at an operation, and as it is. -/
theorem val_at (hD : Rs.dataOk A ops = true) (hl : Lof P nt ops A hv av l) (ht : Trace call lim l E H V) (I : Inv ops A hv nb lim nt r h w df E H V listed a w' p q s) {i : Nat} (hin : i ≤ ops.size) {t : Nat}
    (hw : ∀ j oj, ops[j]? = some oj → oj.dst = some t → (j < i ∧ Lst listed j) ∨ (i ≤ j ∧ ¬ Lst listed j)) : VR s (E i t) (a.tmps.getD t undef) := by
  by_cases hex : ∃ (j : Nat) (oj : Oper), ops[j]? = some oj ∧ oj.dst = some t
  · obtain ⟨j, oj, hj, hjt⟩ := hex
    rcases hw j oj hj hjt with ⟨hji, hlj⟩ | ⟨hij, hnlj⟩
    · rw [env_late hD hl ht hj hjt hji hin]
      exact I.tin t j oj hlj hj hjt
    · rw [env_early hD hl ht hj hjt hij]
      refine I.tout t fun k o hk1 hk2 hk3 => ?_
      rcases (dataOk_inv hD hk2 hj hjt).1 with h1 | h1
      · exact hnlj (h1 ▸ hk1)
      · exact h1 hk3
  · have none_ : ∀ (k : Nat) (o : Oper), ops[k]? = some o → o.dst ≠ some t := fun k o hk hd => hex ⟨k, o, hk, hd⟩
    rw [env_none hl ht none_ hin]
    exact I.tout t fun k o _ hk => none_ k o hk

theorem lst_set {i k : Nat} (hi : i < listed.size) : Lst (listed.setIfInBounds i true) k ↔ (k = i ∨ Lst listed k) := by
  unfold Lst
  simp only [Array.getD_eq_getD_getElem?, Array.getElem?_setIfInBounds]
  by_cases h0 : i = k
  · subst h0; simp [hi]
  · simp [h0, Ne.symm h0]

theorem pfx_of (hR : RegOk P ops A hv av) (hp : CallP call) (hl : Lof P nt ops A hv av l) (ht : Trace call lim l E H V) (I : Inv ops A hv nb lim nt r h w df E H V listed a w' p q s) {i j : Nat} (h1 : p ≤ i) (h2 : i ≤ j) (h3 : j ≤ q) : Pfx (H i) (H j) := by
  have := pfx_range hR hp hl ht (j - i) i (fun k a b => ⟨by have := I.hq; omega, fun hm => I.quiet k hm (by omega) (by omega)⟩)
  rwa [show i + (j - i) = j by omega] at this

theorem not_lst (hs : listed.size = ops.size) {i : Nat} (hi : i ∈ Region.ready .any ops listed) : ¬ Lst listed i := by
  obtain ⟨h1, o, ho, _⟩ := mem_ready.1 hi
  have hsz : i < listed.size := by rw [hs]; exact (Array.getElem?_eq_some_iff.1 ho).1
  unfold Lst
  simp [hsz] at h1 ⊢
  exact h1

/-- The temporaries when one more operation is done. -/
theorem put_tin (hD : Rs.dataOk A ops = true) (hl : Lof P nt ops A hv av l) (I : Inv ops A hv nb lim nt r h w df E H V listed a w' p q s) {i : Nat} {o : Oper} (ho : ops[i]? = some o) {s' : Rho} {u : Value} (hle : s.Le s') (hu : VR s' (V i) u) :
    (∀ t k o', Lst (listed.setIfInBounds i true) k → ops[k]? = some o' → o'.dst = some t → VR s' (V k) ((a.put o.dst u).tmps.getD t undef)) ∧
    (∀ t, (∀ k o', Lst (listed.setIfInBounds i true) k → ops[k]? = some o' → o'.dst ≠ some t) → VR s' (E 0 t) ((a.put o.dst u).tmps.getD t undef)) := by
  have hin : i < ops.size := (Array.getElem?_eq_some_iff.1 ho).1
  have hsz : i < listed.size := by rw [I.size]; exact hin
  obtain ⟨p0, g0, hli, hr1, hr2, hr3⟩ := hl i o ho
  have hdst : ∀ x, o.dst = some x → x < a.tmps.size := fun x hx => by rw [I.tsize]; exact hr3 x hx
  refine ⟨fun t k o' hk hko hkt => ?_, fun t hk => ?_⟩
  · rw [getD_put a o.dst u t hdst]
    by_cases hki : k = i
    · subst hki
      rw [ho] at hko
      injection hko with hko
      subst hko
      rw [if_pos hkt]
      exact hu
    · have hlk := ((lst_set hsz).1 hk).resolve_left hki
      rw [if_neg (fun hx => by
        rcases (dataOk_inv hD hko ho hx).1 with h1 | h1
        · exact hki h1
        · exact h1 hkt)]
      exact (I.tin t k o' hlk hko hkt).mono hle
  · have hne : o.dst ≠ some t := hk i o ((lst_set hsz).2 (.inl rfl)) ho
    rw [getD_put a o.dst u t hdst, if_neg hne]
    exact (I.tout t (fun k o' h1 h2 => hk k o' ((lst_set hsz).2 (.inr h1)) h2)).mono hle

theorem closed_set (hA : Rs.ancsOk A ops = true) (hcl : ∀ i j, Lst listed i → Rs.isAnc A j i = true → Lst listed j) {i : Nat} (hi : i ∈ Region.ready .any ops listed) (hsz : i < listed.size) : ∀ k j, Lst (listed.setIfInBounds i true) k → Rs.isAnc A j k = true → Lst (listed.setIfInBounds i true) j := fun k j hk hj => by
  rcases (lst_set hsz).1 hk with rfl | h1
  · exact (lst_set hsz).2 (.inr (ready_anc hA hcl hi hj))
  · exact (lst_set hsz).2 (.inr (hcl k j h1 hj))

/-- An operation that leaves the heap, done at any time. -/
theorem finish_light (hA : Rs.ancsOk A ops = true) (hD : Rs.dataOk A ops = true) (hl : Lof P nt ops A hv av l) (hfr : Fresh r h (H q)) (I : Inv ops A hv nb lim nt r h w df E H V listed a w' p q s) {i : Nat} (hi : i ∈ Region.ready .any ops listed) (hm : i ∉ hv) {o : Oper} (ho : ops[i]? = some o)
    {s' : Rho} {w2 : World} {u : Value} (P2 : Post nb lim s (H q) w' s' (H q) w2) (hu : VR s' (V i) u) : Inv ops A hv nb lim nt r h w df E H V (listed.setIfInBounds i true) (a.put o.dst u) w2 p q s' := by
  have hin : i < ops.size := (Array.getElem?_eq_some_iff.1 ho).1
  have hsz : i < listed.size := by rw [I.size]; exact hin
  obtain ⟨t1, t2⟩ := put_tin hD hl I ho P2.le hu
  refine ⟨by simp [I.size], I.hpq, I.hlen, I.hq, fun k hk1 hk => (lst_set hsz).2 (.inr (I.low k hk1 hk)), fun k hk1 hk hx => ?_, I.quiet, I.top, closed_set hA I.closed hi hsz, I.post.trans P2 hfr, ?_, t1, t2, by rw [put_size]; exact I.tsize, by rw [put_defers]; exact I.tdef⟩
  · rcases (lst_set hsz).1 hx with rfl | h1
    · exact hm hk1
    · exact I.high k hk1 hk h1
  · intro k hk0 hk1 hk2 hk3 b hb1 hb2
    have hkl : ¬ Lst listed k := fun hx => hk3 ((lst_set hsz).2 (.inr hx))
    cases hb : s' b with
    | none => rfl
    | some im =>
      exfalso
      rcases P2.new hb with h1 | ⟨h1, h2, _⟩
      · rw [I.dom k hk0 hk1 hk2 hkl b hb1 hb2] at h1; cases h1
      · omega

theorem finish_quiet (hA : Rs.ancsOk A ops = true) (hD : Rs.dataOk A ops = true) (hR : RegOk P ops A hv av) (hp : CallP call) (hl : Lof P nt ops A hv av l) (ht : Trace call lim l E H V) (I : Inv ops A hv nb lim nt r h w df E H V listed a w' p q s) {i : Nat} (hi : i ∈ Region.ready .any ops listed) (hm : i ∈ hv) (hpi : p ≤ i) (hiq : i < q) {o : Oper} (ho : ops[i]? = some o)
    {s' : Rho} {w2 : World} {u : Value} (P2 : Post nb (H i).length s (H i) w' s' (H (i + 1)) w2) (hu : VR s' (V i) u) : Inv ops A hv nb lim nt r h w df E H V (listed.setIfInBounds i true) (a.put o.dst u) w2 p q s' := by
  have hin : i < ops.size := (Array.getElem?_eq_some_iff.1 ho).1
  have hnl : ¬ Lst listed i := not_lst I.size hi
  obtain ⟨p0, g0, hli, hr1, hr2, hr3⟩ := hl i o ho
  have x1 : Pfx (H i) (H (i + 1)) := pfx_of hR hp hl ht I hpi (by omega) (by omega)
  have x2 : Pfx (H (i + 1)) (H q) := pfx_of hR hp hl ht I (by omega) (by omega) (Nat.le_refl _)
  have x3 : Pfx (H i) (H q) := x1.trans x2
  have keep : ∀ c, c < w'.heap.size → w2.heap[c]? = w'.heap[c]? := fun c hc => P2.keep c hc fun hx => by
    obtain ⟨b, im, h0, h1, _⟩ := hx
    omega
  have noChg : ∀ c, ¬ Chg (H i).length s (H i) c := fun c hx => by
    obtain ⟨b, im, h0, h1, _⟩ := hx
    omega
  have parts : ∀ {b : Nat} {im : Im}, s' b = some im → s b = some im ∨ ((H i).length ≤ b ∧ b < (H (i + 1)).length ∧ w'.heap.size ≤ im.blk) := fun {b im} hb => by
    rcases P2.new hb with h1 | ⟨h1, h2, _, h3⟩
    · exact .inl h1
    · exact .inr ⟨h1, h2, h3.resolve_right (noChg _)⟩
  have hsz : i < listed.size := by rw [I.size]; exact hin
  have get1 : ∀ {b : Nat} {x : Blk}, b < (H (i + 1)).length → (H q)[b]? = some x → (H (i + 1))[b]? = some x := fun {b x} hb hx => by rw [← x2.2 b hb]; exact hx
  obtain ⟨t1, t2⟩ := put_tin hD hl I ho P2.le hu
  have HI := I.post.hr
  refine ⟨by simp [I.size], I.hpq, I.hlen, I.hq, fun k hk1 hk => (lst_set hsz).2 (.inr (I.low k hk1 hk)), fun k hk1 hk hx => ?_, I.quiet, I.top, closed_set hA I.closed hi hsz, ⟨⟨?_, ?_, ?_, ?_, ?_, ?_⟩, I.post.le.trans P2.le, ?_, I.post.len, P2.os.trans I.post.os, P2.tape.trans I.post.tape, P2.output.trans I.post.output, Nat.le_trans I.post.size P2.size, fun c hc hn => ?_⟩, ?_, t1, t2, by rw [put_size]; exact I.tsize, by rw [put_defers]; exact I.tdef⟩
  · rcases (lst_set hsz).1 hx with rfl | h1
    · omega
    · exact I.high k hk1 hk h1
  · -- cells
    intro b im cs hb hh j x hx
    rcases parts hb with h1 | ⟨h1, h2, h3⟩
    · obtain ⟨y, hy, k⟩ := HI.cells h1 hh j x hx
      refine ⟨y, ?_, k.mono P2.le⟩
      unfold World.cell? at *
      rw [keep _ (HI.bd h1 (by rw [hh]; rfl))]
      exact hy
    · exact P2.hr.cells hb (get1 h2 hh) j x hx
  · intro b im cs hb hown hh
    rcases parts hb with h1 | ⟨h1, h2, h3⟩
    · rw [keep _ (HI.bd h1 (by rw [hh]; rfl))]
      exact HI.own h1 hown hh
    · exact P2.hr.own hb hown (get1 h2 hh)
  · intro b b' im im' hb hb' hown hlv hlv' he
    have lv : ∀ {b : Nat}, b < (H (i + 1)).length → live (H q)[b]? = true → live (H (i + 1))[b]? = true := fun {b} hb hl => by rw [← x2.2 b hb]; exact hl
    rcases parts hb with h1 | ⟨h1, h2, h3⟩ <;> rcases parts hb' with h1' | ⟨h1', h2', h3'⟩
    · exact HI.inj h1 h1' hown hlv hlv' he
    · have := HI.bd h1 hlv; omega
    · have := HI.bd h1' hlv'; omega
    · exact P2.hr.inj hb hb' hown (lv h2 hlv) (lv h2' hlv') he
  · intro b im es hb hh
    rcases parts hb with h1 | ⟨h1, h2, h3⟩
    · obtain ⟨ces, clk, k1, k2⟩ := HI.map h1 hh
      exact ⟨ces, clk, by rw [keep _ (HI.bd h1 (by rw [hh]; rfl))]; exact k1, k2.mono P2.le⟩
    · exact P2.hr.map hb (get1 h2 hh)
  · intro b im hb hlv
    rcases parts hb with h1 | ⟨h1, h2, h3⟩
    · exact Nat.lt_of_lt_of_le (HI.bd h1 hlv) P2.size
    · exact P2.hr.bd hb (by rw [← x2.2 b h2]; exact hlv)
  · intro b im hb hn
    exact P2.hr.mine hb hn
  · intro b im hb
    rcases P2.new hb with h1 | ⟨h1, h2, h3, h4⟩
    · exact I.post.new h1
    · have hple : h.length ≤ (H i).length := Nat.le_trans I.hlen (pfx_of hR hp hl ht I (Nat.le_refl _) hpi (by omega)).1
      exact .inr ⟨by omega, by have := x2.1; omega, h3, .inl (by have := h4.resolve_right (noChg _); have := I.post.size; omega)⟩
  · rw [keep c (by have := I.post.size; omega)]
    exact I.post.keep c hc hn
  · intro k hk0 hk1 hk2 hk3 b hb1 hb2
    have hki : k ≠ i := fun he => hk3 ((lst_set hsz).2 (.inl he))
    have hkl : ¬ Lst listed k := fun hx => hk3 ((lst_set hsz).2 (.inr hx))
    cases hb : s' b with
    | none => rfl
    | some im =>
      exfalso
      rcases parts hb with h1 | ⟨h1, h2, _⟩
      · rw [I.dom k hk0 hk1 hk2 hkl b hb1 hb2] at h1; cases h1
      · rcases Nat.lt_or_ge k i with h5 | h5
        · have := (pfx_of hR hp hl ht I (i := k + 1) (j := i) (by omega) (by omega) (by omega)).1
          omega
        · have := (pfx_of hR hp hl ht I (i := i + 1) (j := k) (by omega) (by omega) (by omega)).1
          omega

end
end Go.Proofs.YtmikcpgkppkmiaaW.Ai
