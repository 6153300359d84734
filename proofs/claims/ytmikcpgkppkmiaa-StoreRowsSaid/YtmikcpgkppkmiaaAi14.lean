/-
  The small machine and Go's: any operation. Of no program.
-/
import Derived.Test.YtmikcpgkppkmiaaAi13
set_option linter.unusedVariables false
set_option linter.unusedSimpArgs false
namespace Go.Proofs.YtmikcpgkppkmiaaW.Ai
variable {P : Program} {nb lim : Nat} {r : Rho} {h h' : AH} {w : World} {e : Env} {a : Act} {v : Value} {o : Oper}

def Enters (P : Program) (f : FuncId) : Prop := ∀ (args : Array Value) (w : World), (callFunc f args).run P w = .ok (.enter f args) w
/-- What a callee of the small machine answers, Go's answers. -/
def CallS (P : Program) (nb : Nat) (call : Callee) : Prop :=
  ∀ (lim : Nat) (f : FuncId) (args : List Value) (h : AH) (v : Value) (h' : AH) (r : Rho) (w : World) (args' : List Value), nb ≤ lim → lim ≤ h.length → call lim f args h = some (v, h') → HR nb r h w → Fresh r h h' → VL r args args' →
    Enters P f ∧ Calls P f args'.toArray w (fun e w' => ∃ r' v', e = .returned v' ∧ Post nb lim r h w r' h' w' ∧ VR r' v v')

theorem VR.func_inv {fn : Fn} {f c : Array Value} {x : Value} (hx : VR r (.func fn f c) x) : ∃ f' c', x = .func fn f' c' ∧ VL r f.toList f'.toList ∧ VL r c.toList c'.toList := by
  cases hx with
  | func _ _ f' _ c' h1 h2 k1 k2 => exact ⟨f', c', rfl, VL.of_arr h1 k1, VL.of_arr h2 k2⟩

theorem good_call {call : Callee} (hc : CallS P nb call) (hr : HR nb r h w) (hlim : nb ≤ lim) (hll : lim ≤ h.length) {c : Call} (ho : o.op = .call c) {f : Operand} (hcal : c.callee = .value f) (hfx : VR r (ev e f) (a.eval f)) (hE : ∀ x ∈ c.args.toList, VR r (ev e x) (a.eval x))
    {g : FuncId} {first captured : Array Value} (hfe : ev e f = .func (.func g) first captured) (ha : call lim g (first.toList ++ c.args.toList.map (ev e) ++ captured.toList) h = some (v, h')) (hf : Fresh r h h') : Good P nb lim r h w o a v h' := by
  rw [hfe] at hfx
  obtain ⟨f', c', h1, h2, h3⟩ := hfx.func_inv
  obtain ⟨k1, k2⟩ := hc lim g _ h v h' r w ((f'.toList ++ c.args.toList.map a.eval) ++ c'.toList) hlim hll ha hr hf ((h2.append (VL.map hE)).append h3)
  intro K Q hK
  unfold Oper.wp
  have hex : (execOp a.eval o).run P w = .ok (.enter g ((f'.toList ++ c.args.toList.map a.eval) ++ c'.toList).toArray) w := by
    rw [execOp, ho]
    have hk := k1 ((f'.toList ++ c.args.toList.map a.eval) ++ c'.toList).toArray w
    have e1 : (f' ++ c.args.map a.eval) ++ c' = ((f'.toList ++ c.args.toList.map a.eval) ++ c'.toList).toArray := by
      apply Array.ext'
      simp
    simp only [resolve, hcal, h1, Deferred.ofValue, Sem.run_bind, Sem.run_pure, Result.andThen_ok, invoke, e1, hk]
  rw [hex, Oper.upon_enter]
  refine k2.mono fun e' w' he => ?_
  obtain ⟨r', v', rfl, p1, p2⟩ := he
  exact hK r' v' w' p1 p2

theorem nilLen {x x' : Value} {m : Nat} (hx : VR r x x') : ∀ c, x ≠ .slice none m c ∨ m = 0 := fun c => by
  by_cases h0 : m = 0
  · exact .inr h0
  · refine .inl fun he => ?_
    rw [he] at hx
    cases hx
    exact h0 rfl
theorem newsLen' {size n m : Nat} {x : Value} {cs : List Value} (hcs : aElems size h n x = some cs) (hn : n ≤ m) (hm : aLen x = some m) (hnil : ∀ c, x ≠ .slice none m c ∨ m = 0) : cs.length = n * size := by
  unfold aLen at hm
  split at hm
  · rename_i A l c
    injection hm with hm
    subst hm
    refine aElems_length hcs (fun t => by simp) (fun c' m' he => ?_)
    injection he with e1 e2 e3
    subst e1
    rcases hnil c with h1 | h1
    · exact absurd rfl h1
    · omega
  · rename_i s
    injection hm with hm
    subst hm
    unfold aElems at hcs
    simp only at hcs
    split at hcs
    · rename_i h1
      injection hcs with hcs
      subst hcs
      subst h1
      have : (s.extract 0 n).size = n := by rw [ByteArray.size_extract]; omega
      rw [Array.length_toList, Array.size_map, Nat.mul_one]
      exact this
    · cases hcs
  · cases hm
theorem rop_good {call : Callee} (hc : CallS P nb call) (hr : HR nb r h w) (hlim : nb ≤ lim) (hll : lim ≤ h.length) {p : ROp} (hp : Rs.rop P o.op = some p) (hE : ∀ x ∈ o.op.operands.toList, VR r (ev e x) (a.eval x)) (ha : aop call lim e h p = some (v, h')) (hf : Fresh r h h') : Good P nb lim r h w o a v h' := by
  unfold Rs.rop at hp
  split at hp
  case isFalse => cases hp
  rename_i hok
  generalize hop : o.op = op at *
  cases op with
  | move x =>
    injection hp with hp; subst hp
    injection ha with ha; injection ha with h1 h2; subst h1; subst h2
    exact good_mv hr (.inl hop) (hE x (by simp [Op.operands]))
  | assign x =>
    injection hp with hp; subst hp
    injection ha with ha; injection ha with h1 h2; subst h1; subst h2
    exact good_mv hr (.inr hop) (hE x (by simp [Op.operands]))
  | pick c x y =>
    injection hp with hp; subst hp
    simp only [aop] at ha
    split at ha
    · rename_i t ht
      injection ha with ha; injection ha with h1 h2; subst h1; subst h2
      exact good_pick hr hop ht (hE c (by simp [Op.operands])) (hE x (by simp [Op.operands])) (hE y (by simp [Op.operands]))
    · cases ha
  | alloc t =>
    obtain ⟨z, hz, rfl⟩ := Option.map_eq_some_iff.1 hp
    simp only [aop] at ha
    injection ha with ha; injection ha with h1 h2; subst h1; subst h2
    exact good_new hr hop hz hf
  | box t x =>
    injection hp with hp; subst hp
    exact good_box hr hop (hE x (by simp [Op.operands])) ha hf
  | build t ps =>
    have hE' : ∀ x ∈ ps.toList.map (·.2), VR r (ev e x) (a.eval x) := fun x hx => hE x (by simpa [Op.operands] using hx)
    simp only at hp
    split at hp
    · rename_i fs hu
      split at hp
      · cases hp
      · rename_i hs
        obtain ⟨z, hz, hp⟩ := Option.bind_eq_some_iff.1 hp
        obtain ⟨qs, hq, rfl⟩ := Option.map_eq_some_iff.1 hp
        simp only [aop] at ha
        obtain ⟨cs, hcs, hv⟩ := Option.map_eq_some_iff.1 ha
        injection hv with h1 h2; subst h1; subst h2
        exact good_buildS hr hop hu (by rw [Bool.not_eq_false] at hs; exact hs) hz hq hE' hcs
    · rename_i n el hu
      obtain ⟨z, hz, hp⟩ := Option.bind_eq_some_iff.1 hp
      obtain ⟨m, hm, rfl⟩ := Option.map_eq_some_iff.1 hp
      simp only [aop] at ha
      obtain ⟨cs, hcs, hv⟩ := Option.map_eq_some_iff.1 ha
      injection hv with h1 h2; subst h1; subst h2
      exact good_buildA hr hop hu hz hm hE' hcs
    · cases hp
  | buildSlice t len ps =>
    have hE' : ∀ x ∈ ps.toList.map (·.2), VR r (ev e x) (a.eval x) := fun x hx => hE x (by simpa [Op.operands] using hx)
    obtain ⟨el, hel, hp⟩ := Option.bind_eq_some_iff.1 hp
    obtain ⟨z, hz, hp⟩ := Option.bind_eq_some_iff.1 hp
    split at hp
    · rename_i hl
      injection hp with hp; subst hp
      simp only [aop] at ha
      obtain ⟨cs, hcs, hv⟩ := Option.bind_eq_some_iff.1 ha
      split at hv
      · rename_i hcok
        injection hv with hv; injection hv with h1 h2; subst h1; subst h2
        have hu : P.underlying t = some (.slice el) := by
          unfold Rs.elemOfSlice at hel
          split at hel
          · injection hel with hel; subst hel; assumption
          · cases hel
        exact good_buildSlice hr hop hu hz hl.1 hl.2 hE' hcs hcok hf
      · cases hv
    · cases hp
  | load t x =>
    obtain ⟨n, hn, rfl⟩ := Option.map_eq_some_iff.1 hp
    simp only [aop] at ha
    obtain ⟨u, hu, hv⟩ := Option.map_eq_some_iff.1 ha
    injection hv with h1 h2; subst h1; subst h2
    exact good_load hr hop hn (hE x (by simp [Op.operands])) hu
  | store t x y =>
    obtain ⟨n, hn, rfl⟩ := Option.map_eq_some_iff.1 hp
    simp only [aop] at ha
    obtain ⟨u, hu, hv⟩ := Option.map_eq_some_iff.1 ha
    injection hv with h1 h2; subst h1; subst h2
    exact good_store hr hlim hop hn (hE x (by simp [Op.operands])) (hE y (by simp [Op.operands])) hu
  | nilCheck x =>
    injection hp with hp; subst hp
    exact good_nilCheck hr hop (hE x (by simp [Op.operands])) ha
  | binOp op t x y yt =>
    have hx := hE x (by simp [Op.operands])
    have hy := hE y (by simp [Op.operands])
    have eqcase : ∀ neg : Bool, o.op = .binOp (if neg then .neq else .eql) t x y yt → Rs.eqOp P neg (if neg then .neq else .eql) t x y = some p → Good P nb lim r h w o a v h' := by
      intro neg hop hp
      unfold Rs.eqOp at hp
      split at hp
      · injection hp with hp; subst hp
        simp only [aop] at ha
        obtain ⟨u, hu, hv⟩ := Option.map_eq_some_iff.1 ha
        injection hv with h1 h2; subst h1; subst h2
        exact good_bin hr hop hx hy hu
      · injection hp with hp; subst hp
        simp only [aop] at ha
        obtain ⟨u, hu, hv⟩ := Option.map_eq_some_iff.1 ha
        injection hv with h1 h2; subst h1; subst h2
        exact good_bin hr hop hx hy hu
      · rename_i hu
        injection hp with hp; subst hp
        simp only [aop] at ha
        obtain ⟨b, hb, hv⟩ := Option.map_eq_some_iff.1 ha
        injection hv with h1 h2; subst h1; subst h2
        exact good_eq hr hop (.inl ⟨hu, rfl⟩) hx hy hb
      · rename_i fs hu
        obtain ⟨ks, hks, rfl⟩ := Option.map_eq_some_iff.1 hp
        simp only [aop] at ha
        obtain ⟨b, hb, hv⟩ := Option.map_eq_some_iff.1 ha
        injection hv with h1 h2; subst h1; subst h2
        exact good_eq hr hop (.inr ⟨⟨fs, hu⟩, ks, rfl, hks⟩) hx hy hb
      · obtain ⟨k, hk, hp⟩ := Option.bind_eq_some_iff.1 hp
        split at hp
        · rename_i hn
          injection hp with hp; subst hp
          simp only [aop] at ha
          obtain ⟨b, hb, hv⟩ := Option.map_eq_some_iff.1 ha
          injection hv with h1 h2; subst h1; subst h2
          exact good_isNil hr hop hk (z := x) (.inl ⟨hn, rfl⟩) hx hb
        · split at hp
          · rename_i hn
            injection hp with hp; subst hp
            simp only [aop] at ha
            obtain ⟨b, hb, hv⟩ := Option.map_eq_some_iff.1 ha
            injection hv with h1 h2; subst h1; subst h2
            exact good_isNil hr hop hk (z := y) (.inr ⟨hn, rfl⟩) hy hb
          · cases hp
    cases op <;> simp only at hp <;>
      first
      | exact eqcase false hop hp
      | exact eqcase true hop hp
      | (injection hp with hp; subst hp
         simp only [aop] at ha
         obtain ⟨u, hu, hv⟩ := Option.map_eq_some_iff.1 ha
         injection hv with h1 h2; subst h1; subst h2
         exact good_bin hr hop hx hy hu)
  | unOp op t x =>
    injection hp with hp; subst hp
    simp only [aop] at ha
    obtain ⟨u, hu, hv⟩ := Option.map_eq_some_iff.1 ha
    injection hv with h1 h2; subst h1; subst h2
    exact good_un hr hop (hE x (by simp [Op.operands])) hu
  | convert s d x =>
    have hx := hE x (by simp [Op.operands])
    simp only at hp
    split at hp
    · rename_i ds k hs hd
      injection hp with hp; subst hp
      simp only [aop] at ha
      split at ha
      · rename_i j n hxe
        injection ha with ha; injection ha with h1 h2; subst h1; subst h2
        exact good_conv hr hop hs hd hxe hx
      · cases ha
    · rename_i hs hd
      injection hp with hp; subst hp
      simp only [aop] at ha
      split at ha
      · rename_i s' hxe
        injection ha with ha; injection ha with h1 h2; subst h1; subst h2
        exact good_convStr hr hop hs hd hxe hx
      · cases ha
    · rename_i el hs hd
      split at hp
      · rename_i he
        injection hp with hp; subst hp
        simp only [aop] at ha
        split at ha
        · rename_i B n c hxe
          obtain ⟨cs, hcs, ha⟩ := Option.bind_eq_some_iff.1 ha
          obtain ⟨l, hl, hv⟩ := Option.map_eq_some_iff.1 ha
          injection hv with h1 h2; subst h1; subst h2
          exact good_bytesStr hr hop hs hd he hx hxe hcs hl
        · cases ha
      · cases hp
    · cases hp
  | makeInterface t x =>
    simp only at hp
    split at hp
    · cases hp
    · cases hp
    · rename_i hn1 hn2
      injection hp with hp; subst hp
      simp only [aop] at ha
      injection ha with ha; injection ha with h1 h2; subst h1; subst h2
      refine good_iface hr hop ?_ (hE x (by simp [Op.operands]))
      cases hu : P.underlying t with
      | none => exact absurd hu hn2
      | some d => exact ⟨d, rfl, fun ms hd => hn1 ms (by rw [hu, hd])⟩
  | makeFunc fn x y =>
    injection hp with hp; subst hp
    simp only [aop] at ha
    injection ha with ha; injection ha with h1 h2; subst h1; subst h2
    exact good_func hr hop (fun z hz => hE z (by simp [Op.operands] at hz ⊢; exact .inl hz)) (fun z hz => hE z (by simp [Op.operands] at hz ⊢; exact .inr hz))
  | makeMap t rs =>
    cases rs with
    | some _ => cases hp
    | none =>
      injection hp with hp; subst hp
      simp only [aop] at ha
      injection ha with ha; injection ha with h1 h2; subst h1; subst h2
      exact good_mkMap hr hop hf
  | makeSlice t l c =>
    obtain ⟨el, hel, hp⟩ := Option.bind_eq_some_iff.1 hp
    obtain ⟨z, hz, hp⟩ := Option.bind_eq_some_iff.1 hp
    obtain ⟨by_, hb, hp⟩ := Option.bind_eq_some_iff.1 hp
    have hu : P.underlying t = some (.slice el) := by
      unfold Rs.elemOfSlice at hel
      split at hel
      · injection hel with hel; subst hel; assumption
      · cases hel
    split at hp
    · rename_i hpos
      injection hp with hp; subst hp
      simp only [aop] at ha
      split at ha
      · rename_i li ci hl hci
        split at ha
        · rename_i hcond
          injection ha with ha; injection ha with h1 h2; subst h1; subst h2
          exact good_mkSlice hr hop hu hz hpos.1 hb hl hci (hE l (by simp [Op.operands])) (hE c (by simp [Op.operands])) hcond hf
        · cases ha
      · cases ha
    · cases hp
  | slice t x lo hi mx =>
    have hx := hE x (by simp [Op.operands])
    have h1 : ∀ z, lo = some z → VR r (ev e z) (a.eval z) := fun z hz => hE z (by simp [Op.operands, hz])
    have h2 : ∀ z, hi = some z → VR r (ev e z) (a.eval z) := fun z hz => hE z (by simp [Op.operands, hz])
    have h3 : ∀ z, mx = some z → VR r (ev e z) (a.eval z) := fun z hz => hE z (by simp [Op.operands, hz])
    have arr : ∀ n el, (P.underlying t = some (.array n el) ∨ ∃ at_, P.underlying t = some (.pointer at_) ∧ P.underlying at_ = some (.array n el)) → (Rs.size P el).map (fun s => ROp.sliceArr n s x lo hi mx) = some p → Good P nb lim r h w o a v h' := by
      intro n el hu hp
      obtain ⟨s, hs, rfl⟩ := Option.map_eq_some_iff.1 hp
      simp only [aop] at ha
      split at ha
      · rename_i b q hxe
        obtain ⟨u, hu', hv⟩ := Option.map_eq_some_iff.1 ha
        injection hv with e1 e2; subst e1; subst e2
        exact good_sliceArr hr hop hu hs hxe hx h1 h2 h3 hu'
      · cases ha
    simp only at hp
    split at hp
    · rename_i hu
      split at hp
      · rename_i hmx
        injection hp with hp; subst hp
        obtain rfl : mx = none := by simpa using hmx
        simp only [aop] at ha
        split at ha
        · rename_i s hxe
          obtain ⟨j, hj, ha⟩ := Option.bind_eq_some_iff.1 ha
          obtain ⟨i, hi', hv⟩ := Option.map_eq_some_iff.1 ha
          injection hv with e1 e2; subst e1; subst e2
          exact good_sliceStr hr hop hu hxe hx h1 h2 hj hi'
        · cases ha
      · cases hp
    · rename_i el hu
      obtain ⟨n, hn, rfl⟩ := Option.map_eq_some_iff.1 hp
      simp only [aop] at ha
      obtain ⟨u, hu', hv⟩ := Option.map_eq_some_iff.1 ha
      injection hv with e1 e2; subst e1; subst e2
      exact good_slice hr hop hu hn hx h1 h2 h3 hu'
    · rename_i at_ hu
      split at hp
      · rename_i n el hu2
        exact arr n el (.inr ⟨at_, hu, hu2⟩) hp
      · cases hp
    · rename_i n el hu
      exact arr n el (.inl hu) hp
    · cases hp
  | fieldAddr t x i =>
    simp only at hp
    split at hp
    · rename_i fs hu
      obtain ⟨f, hfi, hp⟩ := Option.bind_eq_some_iff.1 hp
      obtain ⟨n, hn, hp⟩ := Option.bind_eq_some_iff.1 hp
      split at hp
      · cases hp
      · rename_i h0
        injection hp with hp; subst hp
        simp only [aop] at ha
        split at ha
        · rename_i b q hxe
          injection ha with ha; injection ha with e1 e2; subst e1; subst e2
          exact good_fieldAddr hr hop hu hfi hn h0 hxe (hE x (by simp [Op.operands]))
        · cases ha
    · cases hp
  | field t x i =>
    simp only at hp
    split at hp
    · rename_i fs hu
      obtain ⟨f, hfi, hp⟩ := Option.bind_eq_some_iff.1 hp
      obtain ⟨n, hn, rfl⟩ := Option.map_eq_some_iff.1 hp
      simp only [aop] at ha
      split at ha
      · rename_i cs hxe
        obtain ⟨u, hu', hv⟩ := Option.map_eq_some_iff.1 ha
        injection hv with e1 e2; subst e1; subst e2
        exact good_field hr hop hu hfi hn hxe (hE x (by simp [Op.operands])) hu'
      · cases ha
    · cases hp
  | indexAddr t x i =>
    have hx := hE x (by simp [Op.operands])
    have hi := hE i (by simp [Op.operands])
    simp only at hp
    split at hp
    · rename_i n el hu
      obtain ⟨s, hs, rfl⟩ := Option.map_eq_some_iff.1 hp
      simp only [aop] at ha
      split at ha
      · rename_i b q k j hxe hie
        split at ha
        · rename_i h0
          injection ha with ha; injection ha with e1 e2; subst e1; subst e2
          exact good_idxAddrArr hr hop hu hs hxe hie hx hi h0
        · cases ha
      · cases ha
    · rename_i el hu
      obtain ⟨s, hs, rfl⟩ := Option.map_eq_some_iff.1 hp
      simp only [aop] at ha
      split at ha
      · rename_i b q m n c k j hxe hie
        split at ha
        · rename_i h0
          injection ha with ha; injection ha with e1 e2; subst e1; subst e2
          exact good_idxAddr hr hop hu hs hxe hie hx hi h0
        · cases ha
      · cases ha
    · cases hp
  | index t x i =>
    have hx := hE x (by simp [Op.operands])
    have hi := hE i (by simp [Op.operands])
    simp only at hp
    split at hp
    · rename_i n el hu
      obtain ⟨s, hs, hp⟩ := Option.bind_eq_some_iff.1 hp
      obtain ⟨g, hg, rfl⟩ := Option.map_eq_some_iff.1 hp
      simp only [aop] at ha
      split at ha
      · rename_i cs k j hxe hie
        split at ha
        · rename_i h0
          obtain ⟨u, hu', hv⟩ := Option.map_eq_some_iff.1 ha
          injection hv with e1 e2; subst e1; subst e2
          exact good_idxArr hr hop hu hs hg hxe hie hx hi h0 hu'
        · cases ha
      · cases ha
    · rename_i hu
      injection hp with hp; subst hp
      simp only [aop] at ha
      split at ha
      · rename_i s k j hxe hie
        split at ha
        · rename_i h0
          obtain ⟨u, hu', hv⟩ := Option.map_eq_some_iff.1 ha
          injection hv with e1 e2; subst e1; subst e2
          exact good_idxStr hr hop hu hxe hie hx hi h0 hu'
        · cases ha
      · cases ha
    · cases hp
  | lookup t m k ok =>
    have hm := hE m (by simp [Op.operands])
    have hk := hE k (by simp [Op.operands])
    simp only at hp
    split at hp
    · rename_i kt et hu
      obtain ⟨kk, hkk, hp⟩ := Option.bind_eq_some_iff.1 hp
      obtain ⟨z, hz, rfl⟩ := Option.map_eq_some_iff.1 hp
      simp only [aop] at ha
      split at ha
      · rename_i hme
        injection ha with ha; injection ha with e1 e2; subst e1; subst e2
        exact good_lookup0 hr hop hu hkk hz hm hme
      · rename_i b hme
        split at ha
        · rename_i es hb
          obtain ⟨res, hres, hv⟩ := Option.map_eq_some_iff.1 ha
          injection hv with e1 e2; subst e1; subst e2
          exact good_lookup hr hop hu hkk hz hm hk hme hb hres
        · cases ha
      · cases ha
    · cases hp
  | mapUpdate t m k x =>
    have hm := hE m (by simp [Op.operands])
    have hk := hE k (by simp [Op.operands])
    have hx := hE x (by simp [Op.operands])
    simp only at hp
    split at hp
    · rename_i kt et hu
      obtain ⟨kk, hkk, rfl⟩ := Option.map_eq_some_iff.1 hp
      simp only [aop] at ha
      split at ha
      · rename_i b hme
        split at ha
        · rename_i es hb
          split at ha
          · rename_i hcond
            obtain ⟨res, hres, hv⟩ := Option.map_eq_some_iff.1 ha
            injection hv with e1 e2; subst e1; subst e2
            exact good_mapSet hr hlim (.inl hop) hu hkk hm hk hx hme hb hcond.1 hcond.2.1 hres
          · cases ha
        · cases ha
      · cases ha
    · cases hp
  | insert t m k x =>
    have hm := hE m (by simp [Op.operands])
    have hk := hE k (by simp [Op.operands])
    have hx := hE x (by simp [Op.operands])
    simp only at hp
    split at hp
    · rename_i kt et hu
      obtain ⟨kk, hkk, rfl⟩ := Option.map_eq_some_iff.1 hp
      simp only [aop] at ha
      split at ha
      · rename_i b hme
        split at ha
        · rename_i es hb
          split at ha
          · rename_i hcond
            obtain ⟨res, hres, hv⟩ := Option.map_eq_some_iff.1 ha
            injection hv with e1 e2; subst e1; subst e2
            exact good_mapSet hr hlim (.inr hop) hu hkk hm hk hx hme hb hcond.1 hcond.2.1 hres
          · cases ha
        · cases ha
      · cases ha
    · cases hp
  | extract x i =>
    injection hp with hp; subst hp
    simp only [aop] at ha
    split at ha
    · rename_i vs hxe
      obtain ⟨u, hu', hv⟩ := Option.map_eq_some_iff.1 ha
      injection hv with e1 e2; subst e1; subst e2
      exact good_extract hr hop hxe (hE x (by simp [Op.operands])) hu'
    · cases ha
  | call c =>
    obtain ⟨cal, args, ts⟩ := c
    have hA : ∀ x ∈ args.toList, VR r (ev e x) (a.eval x) := fun x hx => hE x (by simp [Op.operands, Call.operands] at hx ⊢; exact .inr hx)
    cases cal with
    | value f =>
      injection hp with hp; subst hp
      simp only [aop] at ha
      split at ha
      · rename_i g first captured hfe
        exact good_call hc hr hlim hll hop rfl (hE f (by simp [Op.operands, Call.operands])) hA hfe ha hf
      · cases ha
    | invoke _ _ => cases hp
    | builtin b =>
      simp only at hp
      unfold Rs.builtin at hp
      split at hp
      · -- append
        rename_i s x hargs
        have hs := hA s (by rw [hargs]; simp)
        have hx := hA x (by rw [hargs]; simp)
        obtain rfl := arr2 hargs
        split at hp
        · rename_i t u ht hu1
          obtain ⟨el, hel, hp⟩ := Option.bind_eq_some_iff.1 hp
          obtain ⟨n, hn, hp⟩ := Option.bind_eq_some_iff.1 hp
          obtain ⟨by_, hb, hp⟩ := Option.bind_eq_some_iff.1 hp
          have hu : P.underlying t = some (.slice el) := by
            unfold Rs.elemOfSlice at hel
            split at hel
            · injection hel with hel; subst hel; assumption
            · cases hel
          obtain ⟨bs, hbr⟩ := builtin_run (P := P) (w := w) (a := a) hop
          split at hp
          · rename_i hpos
            split at hp
            · rename_i k hu2
              obtain ⟨z, hz, rfl⟩ := Option.map_eq_some_iff.1 hp
              simp only [aop] at ha
              split at ha
              · rename_i m hxe
                split at ha
                · rename_i hm
                  obtain ⟨m0, m1, m2⟩ := hm
                  obtain ⟨m', rfl⟩ := Int.eq_ofNat_of_zero_le m0
                  simp only [Int.toNat_natCast] at ha
                  rw [hxe] at hx
                  have hx' := hx.int_inv
                  obtain ⟨zv, z1, z2, z3, z4⟩ := run_zero (w := w) hz
                  have hnz : n = z.length := by rw [z3] at hn; injection hn with hn; exact hn.symm
                  subst hnz
                  obtain ⟨v', w', r', g1, g2, g3⟩ := append_core (T := ts) (ty := o.type) (x' := a.eval x) hr hlim ⟨⟨t, ht, hu⟩, hn, hb, ⟨z, hz⟩, .inr ⟨u, k, z, hu1, hu2, by rw [hx'], m1, by exact_mod_cast m2, hz, rfl⟩⟩ (VL.flat (reps_flat z4 m').1) (reps_length z m') hs hpos.1 ha hf
                  refine Good.value (w' := w') ?_ g2 g3
                  rw [hbr]
                  simp only [List.map_toArray, List.map_cons, List.map_nil, builtin, Sem.run_bind, g1, Result.andThen_ok, Sem.run_pure]
                · cases ha
              · cases ha
            · rename_i hu2
              obtain ⟨z, hz, rfl⟩ := Option.map_eq_some_iff.1 hp
              simp only [aop] at ha
              obtain ⟨m, hm, ha⟩ := Option.bind_eq_some_iff.1 ha
              obtain ⟨news, hnews, ha⟩ := Option.bind_eq_some_iff.1 ha
              obtain ⟨vs, g4, g5⟩ := elems_run2 (P := P) hr hnews hx
              have hl := len_run (P := P) (w := w) hm hx
              have hlen : news.length = m * n := newsLen' hnews (Nat.le_refl _) hm (nilLen hx)
              obtain ⟨v', w', r', g1, g2, g3⟩ := append_core (T := ts) (ty := o.type) (x' := a.eval x) hr hlim ⟨⟨t, ht, hu⟩, hn, hb, ⟨z, hz⟩, .inl ⟨u, _, hu1, hu2, .inl rfl, hl, g4⟩⟩ g5 hlen hs hpos.1 ha hf
              refine Good.value (w' := w') ?_ g2 g3
              rw [hbr]
              simp only [List.map_toArray, List.map_cons, List.map_nil, builtin, Sem.run_bind, g1, Result.andThen_ok, Sem.run_pure]
            · rename_i q hu2
              obtain ⟨z, hz, rfl⟩ := Option.map_eq_some_iff.1 hp
              simp only [aop] at ha
              obtain ⟨m, hm, ha⟩ := Option.bind_eq_some_iff.1 ha
              obtain ⟨news, hnews, ha⟩ := Option.bind_eq_some_iff.1 ha
              obtain ⟨vs, g4, g5⟩ := elems_run2 (P := P) hr hnews hx
              have hl := len_run (P := P) (w := w) hm hx
              have hlen : news.length = m * n := newsLen' hnews (Nat.le_refl _) hm (nilLen hx)
              obtain ⟨v', w', r', g1, g2, g3⟩ := append_core (T := ts) (ty := o.type) (x' := a.eval x) hr hlim ⟨⟨t, ht, hu⟩, hn, hb, ⟨z, hz⟩, .inl ⟨u, _, hu1, hu2, .inr ⟨q, rfl⟩, hl, g4⟩⟩ g5 hlen hs hpos.1 ha hf
              refine Good.value (w' := w') ?_ g2 g3
              rw [hbr]
              simp only [List.map_toArray, List.map_cons, List.map_nil, builtin, Sem.run_bind, g1, Result.andThen_ok, Sem.run_pure]
            · cases hp
          · cases hp
        · cases hp
      · -- len
        rename_i x hargs
        have hx := hA x (by rw [hargs]; simp)
        split at hp
        · rename_i t ht
          split at hp
          · rename_i hu
            injection hp with hp; subst hp
            simp only [aop] at ha
            cases hxe : ev e x <;> simp [hxe] at ha
            obtain ⟨rfl, rfl⟩ := ha
            exact good_lenS hr hop hargs ht hu hx hxe
          · rename_i el hu
            injection hp with hp; subst hp
            simp only [aop] at ha
            cases hxe : ev e x <;> simp [hxe] at ha
            obtain ⟨rfl, rfl⟩ := ha
            exact good_lenL hr hop hargs ht hu hx hxe
          · rename_i kt et hu
            injection hp with hp; subst hp
            simp only [aop] at ha
            cases hxe : ev e x <;> simp [hxe] at ha
            rename_i q
            cases q with
            | none =>
              simp at ha
              obtain ⟨rfl, rfl⟩ := ha
              exact good_lenM0 hr hop hargs ht hu hx hxe
            | some b =>
              simp only at ha
              split at ha
              · rename_i es hb
                injection ha with ha; injection ha with e1 e2; subst e1; subst e2
                exact good_lenM hr hop hargs ht hu hx hxe hb
              · cases ha
          · rename_i n el hu
            injection hp with hp; subst hp
            simp only [aop] at ha
            injection ha with ha; injection ha with e1 e2; subst e1; subst e2
            exact good_lenArr hr hop hargs ht (.inl hu)
          · rename_i u hu
            split at hp
            · rename_i n el hu2
              injection hp with hp; subst hp
              simp only [aop] at ha
              injection ha with ha; injection ha with e1 e2; subst e1; subst e2
              exact good_lenArr hr hop hargs ht (.inr ⟨u, hu, hu2⟩)
            · cases hp
          · cases hp
        · cases hp
      · -- cap
        rename_i x hargs
        have hx := hA x (by rw [hargs]; simp)
        split at hp
        · rename_i t ht
          obtain ⟨el, hel, rfl⟩ := Option.map_eq_some_iff.1 hp
          have hu : P.underlying t = some (.slice el) := by
            unfold Rs.elemOfSlice at hel
            split at hel
            · injection hel with hel; subst hel; assumption
            · cases hel
          obtain rfl := arr1 hargs
          obtain ⟨cs, hcs⟩ := builtin_run (P := P) (w := w) (a := a) hop
          simp only [aop] at ha
          split at ha
          · rename_i n c hxe
            injection ha with ha; injection ha with e1 e2; subst e1; subst e2
            rw [hxe] at hx
            obtain ⟨B, d, hx', _, h3, _⟩ := hx.slice_inv
            obtain ⟨rfl, rfl, rfl, rfl⟩ := h3 rfl
            refine Good.same hr (v' := .int .i64 0) ?_ (.int _ _)
            rw [hcs]
            simp [builtin, Builtin.cap_, ht, run_underlying hu, hx', goInt]
          · rename_i b q n c hxe
            injection ha with ha; injection ha with e1 e2; subst e1; subst e2
            rw [hxe] at hx
            have hx' : ∃ y, a.eval x = .slice (some y) n c := by
              generalize a.eval x = z at hx
              cases hx
              exact ⟨_, rfl⟩
            obtain ⟨y, hx'⟩ := hx'
            refine Good.same hr (v' := .int .i64 c) ?_ (.int _ _)
            rw [hcs]
            simp [builtin, Builtin.cap_, ht, run_underlying hu, hx', goInt]
          · cases ha
        · cases hp
      · -- copy
        rename_i d s hargs
        have hd := hA d (by rw [hargs]; simp)
        have hs := hA s (by rw [hargs]; simp)
        split at hp
        · rename_i t ht
          obtain ⟨el, hel, hp⟩ := Option.bind_eq_some_iff.1 hp
          obtain ⟨n, hn, rfl⟩ := Option.map_eq_some_iff.1 hp
          have hu : P.underlying t = some (.slice el) := by
            unfold Rs.elemOfSlice at hel
            split at hel
            · injection hel with hel; subst hel; assumption
            · cases hel
          simp only [aop] at ha
          split at ha
          · rename_i B len c hde
            obtain ⟨m, hm, ha⟩ := Option.bind_eq_some_iff.1 ha
            obtain ⟨cs, hcs, ha⟩ := Option.bind_eq_some_iff.1 ha
            have hcl : ∀ q, B = some q → cs = [] ∨ 0 < c := fun q hq => by
              rcases Nat.eq_zero_or_pos c with h0 | h0
              · left
                rw [hde] at hd
                obtain ⟨_, _, _, _, _, h4⟩ := hd.slice_inv
                obtain ⟨b0, q0, m0⟩ := q
                have := (h4 _ _ _ hq).1
                have hl0 : len = 0 := by omega
                subst hl0
                have := newsLen' hcs (Nat.min_le_left _ _) hm (nilLen hs)
                simp at this
                exact this
              · exact .inr h0
            cases B with
            | none =>
              simp only at ha
              injection ha with ha; injection ha with e1 e2; subst e1; subst e2
              exact good_copy hr hlim hop hargs ht hu hn hd hs hde hm hcs rfl (fun _ => trivial) hcl
            | some q =>
              obtain ⟨b, q, z⟩ := q
              simp only at ha
              obtain ⟨h2, hw, hv⟩ := Option.map_eq_some_iff.1 ha
              injection hv with e1 e2; subst e1; subst e2
              exact good_copy hr hlim hop hargs ht hu hn hd hs hde hm hcs hw (fun _ => trivial) hcl
          · cases ha
        · cases hp
      · -- min
        injection hp with hp; subst hp
        simp only [aop] at ha
        split at ha
        · cases ha
        · rename_i x l hl
          obtain ⟨u, hu, hv⟩ := Option.map_eq_some_iff.1 ha
          injection hv with e1 e2; subst e1; subst e2
          exact good_minmax (mx := false) hr hop hA hl hu
      · injection hp with hp; subst hp
        simp only [aop] at ha
        split at ha
        · cases ha
        · rename_i x l hl
          obtain ⟨u, hu, hv⟩ := Option.map_eq_some_iff.1 ha
          injection hv with e1 e2; subst e1; subst e2
          exact good_minmax (mx := true) hr hop hA hl hu
      · -- clear
        rename_i x hargs
        have hx := hA x (by rw [hargs]; simp)
        split at hp
        · rename_i t ht
          obtain ⟨el, hel, hp⟩ := Option.bind_eq_some_iff.1 hp
          obtain ⟨z, hz, rfl⟩ := Option.map_eq_some_iff.1 hp
          have hu : P.underlying t = some (.slice el) := by
            unfold Rs.elemOfSlice at hel
            split at hel
            · injection hel with hel; subst hel; assumption
            · cases hel
          simp only [aop] at ha
          split at ha
          · rename_i n c hxe
            injection ha with ha; injection ha with e1 e2; subst e1; subst e2
            exact good_clear hr hlim hop hargs ht hu hz hx hxe rfl
          · rename_i b q m n c hxe
            obtain ⟨h2, hw, hv⟩ := Option.map_eq_some_iff.1 ha
            injection hv with e1 e2; subst e1; subst e2
            exact good_clear hr hlim hop hargs ht hu hz hx hxe hw
          · cases ha
        · cases hp
      · cases hp
  | _ => cases hp

theorem ropT_some {call : Callee} {op : Op} {x : Value × AH} (ha : aop call lim e h (Rs.ropT P op) = some x) : Rs.rop P op = some (Rs.ropT P op) := by
  unfold Rs.ropT at *
  cases hr : Rs.rop P op with
  | none => rw [hr] at ha; simp [aop] at ha
  | some p => rfl

end Go.Proofs.YtmikcpgkppkmiaaW.Ai
