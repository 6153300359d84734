/-
  The small machine and Go's: statements, calls. Of no program.
-/
import Derived.Test.YtmikcpgkppkmiaaAi17
set_option linter.unusedVariables false
set_option linter.unusedSimpArgs false
namespace Go.Proofs.YtmikcpgkppkmiaaW.Ai
section
variable {P : Program} {nb lim : Nat} {r : Rho} {h : AH} {w : World} {df : List Deferred}
variable {call : Callee} {nt : Nat} {ops : Array Oper} {A : List (List Nat)} {l : List RO} {E : Nat → Env} {H : Nat → AH} {V : Nat → Value} {Q : Exit → Act → World → Prop}
variable {listed : Array Bool} {a : Act} {w' : World} {p q : Nat} {s : Rho} {hv : List Nat} {av : Nat → List Operand}

theorem next_barrier (A : List (List Nat)) (hv : List Nat) (n : Nat) : ∀ (d m : Nat), m + d = n → ∃ q, m ≤ q ∧ q ≤ n ∧ (∀ k, k ∈ hv → m ≤ k → k < q → Rs.barrier A hv k = false) ∧ (q = n ∨ (q ∈ hv ∧ Rs.barrier A hv q = true))
  | 0, m, h => ⟨m, Nat.le_refl _, by omega, fun k _ h1 h2 => by omega, .inl (by omega)⟩
  | d + 1, m, h => by
    by_cases hb : m ∈ hv ∧ Rs.barrier A hv m = true
    · exact ⟨m, Nat.le_refl _, by omega, fun k _ h1 h2 => by omega, .inr hb⟩
    · obtain ⟨q, h1, h2, h3, h4⟩ := next_barrier A hv n d (m + 1) (by omega)
      refine ⟨q, by omega, h2, fun k hk h5 h6 => ?_, h4⟩
      by_cases hkm : k = m
      · subst hkm
        cases hx : Rs.barrier A hv k with
        | false => rfl
        | true => exact absurd ⟨hk, hx⟩ hb
      · exact h3 k hk (by omega) h6

/-- A new segment begins where all ahead is done. -/
theorem start_seg (hR : RegOk P ops A hv av) (hp : CallP call) (hl : Lof P nt ops A hv av l) (ht : Trace call lim l E H V) {m : Nat} (hm : m ≤ ops.size) (hsz : listed.size = ops.size) (hlen : h.length ≤ (H m).length) (low : ∀ i, i ∈ hv → i < m → Lst listed i) (high : ∀ i, i ∈ hv → m ≤ i → ¬ Lst listed i)
    (closed : ∀ i j, Lst listed i → Rs.isAnc A j i = true → Lst listed j) (post : Post nb lim r h w s (H m) w') (hf : Fresh r h (H ops.size)) (hall : ∀ i, m ≤ i → i ≤ ops.size → (H m).length ≤ (H i).length ∧ (H i).length ≤ (H ops.size).length)
    (tin : ∀ t i o, Lst listed i → ops[i]? = some o → o.dst = some t → VR s (V i) (a.tmps.getD t undef)) (tout : ∀ t, (∀ i o, Lst listed i → ops[i]? = some o → o.dst ≠ some t) → VR s (E 0 t) (a.tmps.getD t undef))
    (tsize : a.tmps.size = nt) (tdef : a.defers = df) : ∃ q, Inv ops A hv nb lim nt r h w df E H V listed a w' m q s := by
  obtain ⟨q, h1, h2, h3, h4⟩ := next_barrier A hv ops.size (ops.size - m) m (by omega)
  have hpf : ∀ i, m ≤ i → i ≤ q → Pfx (H m) (H i) := fun i a b => by
    have := pfx_range hR hp hl ht (i - m) m (fun k c d => ⟨by omega, fun hk => h3 k hk (by omega) (by omega)⟩)
    rwa [show m + (i - m) = i by omega] at this
  have hsub : ∀ b i x, s b = some i → (H q)[b]? = some x → (H m)[b]? = some x := fun b i x hb hx => by
    have hlt := (List.getElem?_eq_some_iff.1 hx).1
    have : b < (H m).length := by
      rcases post.new hb with h5 | ⟨_, h5, _⟩
      · rcases Nat.lt_or_ge b h.length with h6 | h6
        · omega
        · rw [hf b h6 (Nat.lt_of_lt_of_le hlt (hall q h1 h2).2)] at h5; cases h5
      · exact h5
    rw [← (hpf q h1 (Nat.le_refl _)).2 b this]
    exact hx
  refine ⟨q, hsz, h1, hlen, h2, low, fun i hk hi => high i hk (by omega), h3, h4, closed, ⟨post.hr.sub hsub, post.le, fun hb => ?_, by have := (hpf q h1 (Nat.le_refl _)).1; have := post.len; omega, post.os, post.tape, post.output, post.size, post.keep⟩, ?_, tin, tout, tsize, tdef⟩
  · rcases post.new hb with h5 | ⟨h5, h6, h7⟩
    · exact .inl h5
    · exact .inr ⟨h5, by have := (hpf q h1 (Nat.le_refl _)).1; omega, h7⟩
  · intro i _ hi1 hi2 _ b hb1 hb2
    cases hb : s b with
    | none => rfl
    | some im =>
      exfalso
      have h9 := (hall i hi1 (by omega)).1
      have h10 := (hall (i + 1) (by omega) (by omega)).2
      rcases post.new hb with h5 | ⟨_, h5, _⟩
      · rw [hf b (by omega) (by omega)] at h5; cases h5
      · omega

theorem heaps_mono (hp : CallP call) (hlim : lim ≤ (H 0).length) (ht : Trace call lim l E H V) (hl : Lof P nt ops A hv av l) : ∀ (d i : Nat), i + d ≤ ops.size → (H 0).length ≤ (H i).length → (H i).length ≤ (H (i + d)).length
  | 0, i, _, _ => Nat.le_refl _
  | d + 1, i, h1, h2 => by
    have ih := heaps_mono hp hlim ht hl d i (by omega) h2
    obtain ⟨p, g, h3, _⟩ := hl (i + d) _ (Array.getElem?_eq_getElem (by omega))
    refine Nat.le_trans ih ?_
    rcases (ht.step _ _ h3).2 with ⟨_, h4⟩ | ⟨_, h4, _⟩
    · exact (aop_pre hp (lim_ge (Nat.le_trans hlim (Nat.le_trans h2 ih))) (aopc_inv h4).2).1
    · rw [show i + (d + 1) = i + d + 1 by omega, h4]; exact Nat.le_refl _

/-- What a load that may wait reads is as it was, as long as it waits. -/
theorem block_range (hR : RegOk P ops A hv av) (hp : CallP call) (hl : Lof P nt ops A hv av l) (ht : Trace call lim l E H V) (I : Inv ops A hv nb lim nt r h w df E H V listed a w' p q s) {i : Nat} (hm : i ∉ hv) (hnl : ¬ Lst listed i) {x : Operand} {ad : Addr} (he : ev (E i) x = .pointer (some ad)) (hb : ad.block < (H i).length)
    (hx : ∀ k, k ∈ hv → Rs.barrier A hv k = true → i < k → Rs.isAnc A i k = true ∨ (x ∈ av k ∧ Rs.unwritten ops i k x = true)) : ∀ (d : Nat), i + d ≤ q → (H i).length ≤ (H (i + d)).length ∧ (H (i + d))[ad.block]? = (H i)[ad.block]?
  | 0, _ => ⟨Nat.le_refl _, rfl⟩
  | d + 1, hd => by
    obtain ⟨i1, i2⟩ := block_range hR hp hl ht I hm hnl he hb hx d (by omega)
    have hkn : i + d < ops.size := by have := I.hq; omega
    have hb2 : ad.block < (H (i + d)).length := by omega
    rw [show i + (d + 1) = i + d + 1 by omega]
    by_cases hk : i + d ∈ hv
    · cases hbar : Rs.barrier A hv (i + d) with
      | false =>
        have := pfx_range hR hp hl ht 1 (i + d) (fun k h1 h2 => ⟨by omega, fun _ => by rw [show k = i + d by omega]; exact hbar⟩)
        exact ⟨by have := this.1; omega, by rw [this.2 _ hb2]; exact i2⟩
      | true =>
        have hlst : Lst listed (i + d) := by
          rcases Nat.lt_or_ge (i + d) p with h1 | h1
          · exact I.low _ hk h1
          · have := I.quiet _ hk h1 (by omega)
            rw [hbar] at this; cases this
        have hne : i < i + d := by
          cases d with
          | zero => exact absurd hk hm
          | succ d => omega
        rcases hx _ hk hbar hne with h1 | ⟨h1, h2⟩
        · exact absurd (I.closed _ _ hlst h1) hnl
        · obtain ⟨p0, g0, h3, _⟩ := hl (i + d) _ (Array.getElem?_eq_getElem hkn)
          rcases (ht.step _ _ h3).2 with ⟨_, h4⟩ | ⟨_, h4, _⟩
          · obtain ⟨h5, h6⟩ := aopc_inv h4
            rw [List.all_eq_true] at h5
            have h7 := h5 x h1
            have hex : ev (E (i + d)) x = .pointer (some ad) := by
              rw [← he]
              cases x with
              | tmp t =>
                simp only [ev]
                refine env_range hl ht t d i fun k k1 k2 => ⟨_, Array.getElem?_eq_getElem (by omega), ?_⟩
                unfold Rs.unwritten at h2
                simp only [List.all_eq_true, List.mem_range] at h2
                have := h2 k (by omega)
                rw [Array.getElem?_eq_getElem (by omega)] at this
                simp only [Bool.or_eq_true, Bool.not_eq_true', Bool.and_eq_false_iff, decide_eq_false_iff_not, bne_iff_ne] at this
                rcases this with (h8 | h8) | h8
                · omega
                · omega
                · exact h8
              | const v => rfl
              | global g => rfl
              | func f => rfl
            have hle : (H (i + d)).length ≤ (H (i + d + 1)).length := by
              have : (if (!Rs.barrier A hv (i + d)) = true then (H (i + d)).length else lim) = lim := by rw [hbar]; rfl
              have h8 : lim ≤ (H (i + d)).length ∨ ¬ lim ≤ (H (i + d)).length := Classical.em _
              rcases h8 with h8 | h8
              · exact (aop_pre hp (lim_ge h8) h6).1
              · -- a write below a mark above the heap: nothing is written
                exact (apart_len hp h7 h6)
            exact ⟨by omega, by rw [apart_keep hp h7 hex h6 hb2]; exact i2⟩
          · rw [h4]; exact ⟨i1, i2⟩
    · rw [light_step hR hl ht hkn hk]; exact ⟨i1, i2⟩

theorem draw_all (hc : CallS P nb call) (hR : RegOk P ops A hv av) (hp : CallP call) (hA : Rs.ancsOk A ops = true) (hD : Rs.dataOk A ops = true) (hl : Lof P nt ops A hv av l) (ht : Trace call lim l E H V) (hnb : nb ≤ lim) (hH0 : (H 0).length = h.length) (hlim : lim ≤ h.length) (hf : Fresh r h (H ops.size))
    (hQ : ∀ s a w', Post nb lim r h w s (H ops.size) w' → ER s (E ops.size) a nt → a.defers = df → Q .normal a w') :
    ∀ (fuel : Nat) (listed : Array Bool) (a : Act) (w' : World) (p q : Nat) (s : Rho), listed.toList.countP (fun b => b == false) = fuel → Inv ops A hv nb lim nt r h w df E H V listed a w' p q s → wpAny P .any ops Q fuel listed a w' := by
  have mono0 : ∀ i, i ≤ ops.size → (H 0).length ≤ (H i).length := fun i hi => by
    have := heaps_mono hp (by rw [hH0]; exact hlim) ht hl i 0 (by omega) (Nat.le_refl _)
    rwa [Nat.zero_add] at this
  have mono : ∀ i j, i ≤ j → j ≤ ops.size → (H i).length ≤ (H j).length := fun i j hij hj => by
    have := heaps_mono hp (by rw [hH0]; exact hlim) ht hl (j - i) i (by omega) (mono0 i (by omega))
    rwa [show i + (j - i) = j by omega] at this
  have fin : ∀ (listed : Array Bool) (a : Act) (w' : World) (p q : Nat) (s : Rho), Inv ops A hv nb lim nt r h w df E H V listed a w' p q s → (∀ i, i < ops.size → Lst listed i) → Q .normal a w' := by
    intro listed a w' p q s I hall
    have hq : q = ops.size := by
      rcases I.top with h1 | ⟨h1, _⟩
      · exact h1
      · exact absurd (hall q (hR.lt q h1)) (I.high q h1 (Nat.le_refl _))
    subst hq
    exact hQ s a w' I.post ⟨fun t => val_at hD hl ht I (Nat.le_refl _) fun j oj hj _ => .inl ⟨(Array.getElem?_eq_some_iff.1 hj).1, hall j (Array.getElem?_eq_some_iff.1 hj).1⟩, I.tsize⟩ I.tdef
  have lstOf : ∀ (listed : Array Bool), listed.size = ops.size → ∀ i, i < ops.size → (Lst listed i ∨ listed.getD i true = false) := fun listed hs i hi => by
    unfold Lst
    have : i < listed.size := by omega
    simp [this]
  intro fuel
  induction fuel with
  | zero =>
    intro listed a w' p q s hcnt I
    have hall : ∀ i, i < ops.size → Lst listed i := fun i hi => by
      rw [List.countP_eq_zero] at hcnt
      have hs : i < listed.size := by rw [I.size]; exact hi
      have := hcnt listed[i] (by simp)
      unfold Lst
      simp [hs] at this ⊢
      exact this
    refine ⟨?_, fin _ _ _ _ _ _ I hall⟩
    cases hr : Region.ready .any ops listed with
    | nil => rfl
    | cons j js =>
      obtain ⟨h1, o, h2, _⟩ := mem_ready.1 (show j ∈ Region.ready .any ops listed by rw [hr]; simp)
      have hjn := (Array.getElem?_eq_some_iff.1 h2).1
      have h3 := hall j hjn
      unfold Lst at h3
      have hs : j < listed.size := by rw [I.size]; exact hjn
      simp [hs] at h1 h3
      rw [h1] at h3; cases h3
  | succ fuel ih =>
    intro listed a w' p q s hcnt I
    refine ⟨fun hr => fin _ _ _ _ _ _ I (all_listed hA I.size hr), fun i hi => ?_⟩
    obtain ⟨hi1, o, ho, hi2⟩ := mem_ready.1 hi
    have hin : i < ops.size := (Array.getElem?_eq_some_iff.1 ho).1
    have hsz : i < listed.size := by rw [I.size]; exact hin
    have hnl : ¬ Lst listed i := by
      unfold Lst
      simp [hsz] at hi1 ⊢
      exact hi1
    have hcnt' : (listed.setIfInBounds i true).toList.countP (fun b => b == false) = fuel := by
      have hv : listed[i] = false := by simpa [hsz] using hi1
      rw [Array.toList_setIfInBounds, List.countP_set (by simpa using hsz), hcnt]
      simp [hv]
    obtain ⟨p0, g0, hli, hr1, hr2, hr3⟩ := hl i o ho
    have hval : ∀ t, t ∈ o.looksAt ops → VR s (E i t) (a.tmps.getD t undef) := fun t hm => val_at hD hl ht I (Nat.le_of_lt hin) fun j oj hj hjt => by
      rcases (dataOk_inv hD ho hj hjt).2 hm with this | this | this
      · exact .inl ⟨anc_lt hA i hin j this, ready_anc hA I.closed hi this⟩
      · exact .inr ⟨Nat.le_of_lt (anc_lt hA j (Array.getElem?_eq_some_iff.1 hj).1 i this), fun hx => hnl (I.closed j i hx this)⟩
      · subst this
        exact .inr ⟨Nat.le_refl _, hnl⟩
    have hwant := wanted_of (e := E i) (a := a) hr2 (ro := ⟨o.dst, p0, g0, !Rs.barrier A hv i, av i⟩) rfl (fun t b hg => by
      refine hval t (List.mem_append_right _ ?_)
      unfold Rs.rguard at hr2
      split at hr2
      · injection hr2 with hr2; rw [← hr2] at hg; cases hg
      · rename_i j b' hgd
        split at hr2
        · rename_i t' ht'
          injection hr2 with hr2
          rw [← hr2] at hg
          injection hg with hg
          injection hg with e1 e2
          subst e1
          rw [hgd]
          simp [ht']
        · cases hr2)
    have hops : Rs.rop P o.op = some p0 → ∀ x ∈ o.op.operands.toList, VR s (ev (E i) x) (a.eval x) := fun hr1 x hx => by
      have hok := rop_ok hr1
      rw [List.all_eq_true] at hok
      refine opd_of (hok x hx) fun t hxt => hval t (List.mem_append_left _ ?_)
      subst hxt
      exact List.mem_filterMap.2 ⟨.tmp t, hx, rfl⟩
    have HI := I.post.hr
    have hfq : Fresh r h (H q) := hf.left (mono q ops.size I.hq (Nat.le_refl _))
    have hlimq : ∀ j, j ≤ ops.size → lim ≤ (H j).length := fun j hj => Nat.le_trans hlim (by rw [← hH0]; exact mono0 j hj)
    by_cases hm : i ∈ hv
    · -- an operation with a place in the row
      have hpi : p ≤ i := by
        rcases Nat.lt_or_ge i p with h1 | h1
        · exact absurd (I.low i hm h1) hnl
        · exact h1
      have hiq : i ≤ q := by
        rcases Nat.lt_or_ge q i with h1 | h1
        · exfalso
          rcases I.top with h2 | ⟨h2, h3⟩
          · omega
          · exact I.high q h2 (Nat.le_refl _) (ready_anc hA I.closed hi ((barrier_inv h3 hm).2 h1))
        · exact h1
      have hHi : HR nb s (H i) w' := by
        have hpf := pfx_of hR hp hl ht I hpi hiq (Nat.le_refl _)
        exact HI.sub fun b im x hb hx => by rw [hpf.2 b (List.getElem?_eq_some_iff.1 hx).1]; exact hx
      have hlimi := hlimq i (by omega)
      have step : ∀ (s' : Rho) (w2 : World) (u : Value), Post nb (if (!Rs.barrier A hv i) then (H i).length else lim) s (H i) w' s' (H (i + 1)) w2 → VR s' (V i) u → wpAny P .any ops Q fuel (listed.setIfInBounds i true) (a.put o.dst u) w2 := by
        intro s' w2 u P2 hu
        by_cases hlt : i < q
        · have hb := I.quiet i hm hpi hlt
          rw [hb] at P2
          simp only [Bool.not_false, if_true] at P2
          exact ih _ _ _ p q s' hcnt' (finish_quiet hA hD hR hp hl ht I hi hm hpi hlt ho P2 hu)
        · have hqe : i = q := by omega
          subst hqe
          have hb : Rs.barrier A hv i = true := by
            rcases I.top with h1 | ⟨_, h1⟩
            · omega
            · exact h1
          rw [hb] at P2
          simp only [Bool.not_true, Bool.false_eq_true, if_false] at P2
          have hlow : ∀ j, j ∈ hv → j < i → Lst listed j := fun j hj1 hj => ready_anc hA I.closed hi ((barrier_inv hb hj1).1 hj)
          have post' := I.post.trans P2 hfq
          obtain ⟨t1, t2⟩ := put_tin hD hl I ho P2.le hu
          obtain ⟨q2, I2⟩ := start_seg (listed := listed.setIfInBounds i true) (a := a.put o.dst u) (w' := w2) (s := s') (m := i + 1) hR hp hl ht (by omega) (by simp [I.size]) (by have := mono0 (i + 1) (by omega); omega)
            (fun j hj1 hj => (lst_set hsz).2 (by rcases Nat.lt_or_ge j i with h1 | h1; exact .inr (hlow j hj1 h1); exact .inl (by omega)))
            (fun j hj1 hj hx => by
              rcases (lst_set hsz).1 hx with h1 | h1
              · omega
              · exact I.high j hj1 (by omega) h1)
            (closed_set hA I.closed hi hsz)
            post' hf (fun j h1 h2 => ⟨mono _ _ h1 h2, mono _ _ h2 (Nat.le_refl _)⟩) t1 t2 (by rw [put_size]; exact I.tsize) (df := df) (by rw [put_defers]; exact I.tdef)
          exact ih _ _ _ _ _ _ hcnt' I2
      unfold wpOp
      rw [ho]
      simp only
      rw [hwant]
      rcases (ht.step i _ hli).2 with ⟨h1, h2⟩ | ⟨h1, h2, h3⟩
      · rw [if_pos h1]
        replace h2 := (aopc_inv h2).2
        simp only at h2
        have hfr : Fresh s (H i) (H (i + 1)) := by
          by_cases hlt : i < q
          · exact I.dom i hm hpi hlt hnl
          · have hqe : i = q := by omega
            subst hqe
            exact (I.post.fresh hf).left (mono _ _ (by omega) (Nat.le_refl _))
        have hlq : nb ≤ (if (!Rs.barrier A hv i) then (H i).length else lim) := by split <;> omega
        have hrp : Rs.rop P o.op = some p0 := by rw [← hr1] at h2 ⊢; exact ropT_some (P := P) h2
        exact .inl (rop_good hc hHi hlq (lim_ge hlimi) hrp (hops hrp) h2 hfr _ _ fun s' u w2 q1 q2 => step s' w2 u q1 q2)
      · rw [if_neg (by rw [h1]; simp)]
        exact step s w' undef (by rw [h2]; exact Post.refl hHi) (by rw [h3]; exact VR.undef _)
    · -- one that may be done at any time
      have step : ∀ (s' : Rho) (w2 : World) (u : Value), Post nb lim s (H q) w' s' (H q) w2 → VR s' (V i) u → wpAny P .any ops Q fuel (listed.setIfInBounds i true) (a.put o.dst u) w2 := by
        intro s' w2 u P2 hu
        exact ih _ _ _ p q s' hcnt' (finish_light hA hD hl hfq I hi hm ho P2 hu)
      unfold wpOp
      rw [ho]
      simp only
      rw [hwant]
      rcases (ht.step i _ hli).2 with ⟨h1, h2⟩ | ⟨h1, h2, h3⟩
      · rw [if_pos h1]
        replace h2 := (aopc_inv h2).2
        simp only at h2
        have hrp : Rs.rop P o.op = some p0 := by rw [← hr1] at h2 ⊢; exact ropT_some (P := P) h2
        have h4 : aop call lim (E i) (H q) p0 = some (V i, H q) := by
          rcases hR.light i o ho hm with h5 | ⟨n, x, h5, h6⟩
          · rw [hr1] at h5
            exact (aop_pure h5 h2).2 lim (H q)
          · rw [hr1] at h5
            subst h5
            simp only [aop] at h2 ⊢
            obtain ⟨v, h7, h8⟩ := Option.map_eq_some_iff.1 h2
            injection h8 with e1 e2
            rw [← e1]
            have hlt : i ≤ q := by
              rcases I.top with h9 | ⟨h9, h10⟩
              · omega
              · rcases Nat.lt_or_ge q i with h11 | h11
                · exact absurd (ready_anc hA I.closed hi ((h6 q h9 h10).1 h11)) (I.high q h9 (Nat.le_refl _))
                · exact h11
            obtain ⟨ad, h9, h10, h11⟩ := aLoad_block (h2 := H q) h7
            have h12 := block_range hR hp hl ht I hm hnl h9 h10 (fun k k1 k2 => (h6 k k1 k2).2) (q - i) (by omega)
            rw [show i + (q - i) = q by omega] at h12
            rw [h11 h12.2]
            rfl
        exact .inl (rop_good hc HI hnb (hlimq q I.hq) hrp (hops hrp) h4 (fun b h5 h6 => by omega) _ _ fun s' u w2 q1 q2 => step s' w2 u q1 q2)
      · rw [if_neg (by rw [h1]; simp)]
        exact step s w' undef (Post.refl HI) (by rw [h3]; exact VR.undef _)

end
end Go.Proofs.YtmikcpgkppkmiaaW.Ai
