/-
  The small machine and Go's: cuts, lengths, copies, maps, append. Of no program.
-/
import Derived.Test.YtmikcpgkppkmiaaAi8
set_option linter.unusedVariables false
set_option linter.unusedSimpArgs false
namespace Go.Proofs.YtmikcpgkppkmiaaW.Ai
variable {P : Program} {nb lim : Nat} {r : Rho} {h h' : AH} {w : World} {e : Env} {a : Act} {v : Value} {o : Oper}

/-! ### cuts -/
def VO (r : Rho) : Option Value → Option Value → Prop
  | none, none => True
  | some x, some y => VR r x y
  | _, _ => False
theorem VO.map {lo : Option Operand} (hv : ∀ x, lo = some x → VR r (ev e x) (a.eval x)) : VO r (lo.map (ev e)) (lo.map a.eval) := by
  cases lo with
  | none => trivial
  | some x => exact hv x rfl
theorem bound_some {x y : Value} {d c z : Nat} (hb : bound (some x) d c = some z) (hv : VR r x y) {c' : Nat} (hc : c ≤ c') (code : BoundsCode) : (Instr.sliceBound y c' code).run P w = .ok z w ∧ z ≤ c := by
  unfold bound at hb
  split at hb
  · rename_i he; cases he
  · rename_i k i he
    split at hb
    · rename_i hi
      injection hb with hb
      subst hb
      injection he with he
      subst he
      obtain rfl := hv.int_inv
      refine ⟨?_, by omega⟩
      unfold Instr.sliceBound
      have : 0 ≤ i ∧ i ≤ (c' : Int) := ⟨hi.1, by omega⟩
      simp [asIntOf, this]
    · cases hb
  · cases hb
theorem bounds2 {lo hi lo' hi' : Option Value} {n c c' hh l : Nat} (hn : n ≤ c) (hc : c ≤ c') (h1 : VO r lo lo') (h2 : VO r hi hi') (b1 : bound hi n c = some hh) (b2 : bound lo 0 hh = some l) (s : Bool) :
    (Instr.sliceBounds s n c' lo' hi' none).run P w = .ok (l, hh, c') w ∧ l ≤ hh ∧ hh ≤ c := by
  cases hi <;> cases hi' <;> simp only [VO] at h2 <;> cases lo <;> cases lo' <;> simp only [VO] at h1
  · simp [bound] at b1 b2
    subst b1; subst b2
    exact ⟨by simp [Instr.sliceBounds], Nat.zero_le _, hn⟩
  · simp [bound] at b1
    subst b1
    have a2 := bound_some (P := P) (w := w) b2 h1 (Nat.le_refl _) .sliceB
    exact ⟨by simp [Instr.sliceBounds, a2.1], a2.2, hn⟩
  · simp [bound] at b2
    subst b2
    have a1 := bound_some (P := P) (w := w) b1 h2 hc (if s then .sliceAcap else .sliceAlen)
    exact ⟨by simp [Instr.sliceBounds, a1.1], Nat.zero_le _, a1.2⟩
  · have a1 := bound_some (P := P) (w := w) b1 h2 hc (if s then .sliceAcap else .sliceAlen)
    have a2 := bound_some (P := P) (w := w) b2 h1 (Nat.le_refl _) .sliceB
    exact ⟨by simp [Instr.sliceBounds, a1.1, a2.1], a2.2, a1.2⟩
theorem bounds3 {lo lo' : Option Value} {hi hi' mx mx' : Value} {n c c' x hh l : Nat} (hc : c ≤ c') (h1 : VO r lo lo') (h2 : VR r hi hi') (h3 : VR r mx mx') (b0 : bound (some mx) 0 c = some x) (b1 : bound (some hi) 0 x = some hh) (b2 : bound lo 0 hh = some l) (s : Bool) :
    (Instr.sliceBounds s n c' lo' (some hi') (some mx')).run P w = .ok (l, hh, x) w ∧ l ≤ hh ∧ hh ≤ x ∧ x ≤ c := by
  have a0 := bound_some (P := P) (w := w) b0 h3 hc (if s then .slice3Acap else .slice3Alen)
  have a1 := bound_some (P := P) (w := w) b1 h2 (Nat.le_refl _) .slice3B
  cases lo <;> cases lo' <;> simp only [VO] at h1
  · simp [bound] at b2
    subst b2
    exact ⟨by simp [Instr.sliceBounds, a0.1, a1.1], Nat.zero_le _, a1.2, a0.2⟩
  · have a2 := bound_some (P := P) (w := w) b2 h1 (Nat.le_refl _) .slice3C
    exact ⟨by simp [Instr.sliceBounds, a0.1, a1.1, a2.1], a2.2, a1.2, a0.2⟩

theorem add_block (y : Addr) (n : Nat) : (y.add n).block = y.block := by unfold Addr.add; split <;> rfl
theorem add_of {y : Addr} {q : Nat} (h1 : y.off = q) (h2 : y.spot = none) (n : Nat) : (y.add n).off = q + n ∧ (y.add n).spot = none := by
  unfold Addr.add
  split
  · rename_i h0; subst h0; exact ⟨by simpa using h1, h2⟩
  · exact ⟨by simp [h1], rfl⟩

theorem cut_exact {b q l x hh size : Nat} {i : Im} {y : Addr} (hb : r b = some i) (hy : y.block = i.blk) (ho : l < x → y.off = i.base + q ∧ y.spot = none) (hl : hh ≤ x) :
    VR r (.slice (some ⟨b, q + l * size, none⟩) (hh - l) (x - l)) (.slice (some (if x = l then y else y.add (l * size))) (hh - l) (x - l)) := by
  refine .slc _ _ _ _ i _ hb ?_ (fun hp => ?_) (by omega)
  · split
    · exact hy
    · rw [add_block]; exact hy
  · rw [if_neg (by omega)]
    obtain ⟨h1, h2⟩ := ho (by omega)
    have := add_of h1 h2 (l * size)
    exact ⟨by rw [this.1]; omega, this.2⟩
theorem cut_in {b q l c d hh size : Nat} {i : Im} {y : Addr} (hb : r b = some i) (hy : y.block = i.blk) (ho : l < c ∨ i.own = true ∧ l < d → y.off = i.base + q ∧ y.spot = none) (hl : l ≤ hh) (hh' : hh ≤ c) (hd : c ≤ d) (hs : i.own = true → 0 < d → i.base + q + d * size ≤ i.csz) :
    VR r (.slice (some ⟨b, q + l * size, some size⟩) (hh - l) (c - l)) (.slice (some (if d = l then y else y.add (l * size))) (hh - l) (d - l)) := by
  refine .slcIn _ _ _ _ _ _ i _ hb ?_ (fun hp => ?_) (by omega) (by omega) (fun h1 h2 => ?_)
  · split
    · exact hy
    · rw [add_block]; exact hy
  · rw [if_neg (by rcases hp with hp | hp <;> omega)]
    obtain ⟨h1, h2⟩ := ho (hp.imp (fun q => by omega) fun q => ⟨q.1, by omega⟩)
    have := add_of h1 h2 (l * size)
    exact ⟨by rw [this.1]; omega, this.2⟩
  · have := hs h1 (by omega)
    have e1 : d * size = (d - l) * size + l * size := by rw [← Nat.add_mul]; congr 1; omega
    omega

/-- A slice of a slice: what Go gives, given the bounds. -/
theorem aSlice_run {size : Nat} {x x' v : Value} {lo hi mx lo' hi' mx' : Option Value} (ha : aSlice size x lo hi mx = some v) (hx : VR r x x') (h1 : VO r lo lo') (h2 : VO r hi hi') (h3 : VO r mx mx') :
    ∃ B n d v', x' = .slice B n d ∧ VR r v v' ∧ ∃ l hh m, (Instr.sliceBounds true n d lo' hi' mx').run P w = .ok (l, hh, m) w ∧ v' = .slice (if m = l then B else B.map (·.add (l * size))) (hh - l) (m - l) := by
  have cutinv : ∀ {b q : Nat} {m : Option Nat} {n c : Nat} {v : Value}, aCut b q m n c size lo hi mx = some v →
      (mx = none ∧ ∃ hh l, bound hi n c = some hh ∧ bound lo 0 hh = some l ∧ v = .slice (some ⟨b, q + l * size, m⟩) (hh - l) (c - l)) ∨
      (∃ mv hv x hh l, mx = some mv ∧ hi = some hv ∧ bound (some mv) 0 c = some x ∧ bound (some hv) 0 x = some hh ∧ bound lo 0 hh = some l ∧ v = .slice (some ⟨b, q + l * size, none⟩) (hh - l) (x - l)) := by
    intro b q m n c v hc
    unfold aCut at hc
    cases mx with
    | none =>
      simp only at hc
      cases b1 : bound hi n c with
      | none => simp [b1] at hc
      | some hh =>
        cases b2 : bound lo 0 hh with
        | none => simp [b1, b2] at hc
        | some l => simp [b1, b2] at hc; exact .inl ⟨rfl, hh, l, rfl, b2, hc.symm⟩
    | some mv =>
      cases hi with
      | none => simp at hc
      | some hv =>
        simp only at hc
        cases b0 : bound (some mv) 0 c with
        | none => simp [b0] at hc
        | some x =>
          cases b1 : bound (some hv) 0 x with
          | none => simp [b0, b1] at hc
          | some hh =>
            cases b2 : bound lo 0 hh with
            | none => simp [b0, b1, b2] at hc
            | some l => simp [b0, b1, b2] at hc; exact .inr ⟨mv, hv, x, hh, l, rfl, rfl, b0, b1, b2, hc.symm⟩
  unfold aSlice at ha
  split at ha
  · rename_i n c
    cases hx
    cases hc : aCut 0 0 none 0 0 size lo hi mx with
    | none => simp [hc] at ha
    | some q =>
      simp [hc] at ha
      subst ha
      rcases cutinv hc with ⟨rfl, hh, l, b1, b2, _⟩ | ⟨mv, hv, x, hh, l, rfl, rfl, b0, b1, b2, _⟩
      · have h3' : mx' = none := by cases mx' with | none => rfl | some _ => cases h3
        subst h3'
        obtain ⟨g1, g2, g3⟩ := bounds2 (P := P) (w := w) (Nat.le_refl 0) (Nat.le_refl 0) h1 h2 b1 b2 true
        have : l = 0 := by omega
        have : hh = 0 := by omega
        subst_vars
        exact ⟨none, 0, 0, .slice none 0 0, rfl, .slc0, 0, 0, 0, g1, rfl⟩
      · cases mx' with
        | none => cases h3
        | some mx' =>
          cases hi' with
          | none => cases h2
          | some hi' =>
            obtain ⟨g1, g2, g3, g4⟩ := bounds3 (P := P) (w := w) (n := 0) (Nat.le_refl 0) h1 h2 h3 b0 b1 b2 true
            have : l = 0 := by omega
            have : hh = 0 := by omega
            have : x = 0 := by omega
            subst_vars
            exact ⟨none, 0, 0, .slice none 0 0, rfl, .slc0, 0, 0, 0, g1, rfl⟩
  · rename_i b q m n c
    split at ha
    · rename_i hm
      cases hx with
      | slc _ _ _ _ i y hb hy ho hn =>
        rcases cutinv ha with ⟨rfl, hh, l, b1, b2, rfl⟩ | ⟨mv, hv, x, hh, l, rfl, rfl, b0, b1, b2, rfl⟩
        · have h3' : mx' = none := by cases mx' with | none => rfl | some _ => cases h3
          subst h3'
          obtain ⟨g1, g2, g3⟩ := bounds2 (P := P) (w := w) hn (Nat.le_refl c) h1 h2 b1 b2 true
          refine ⟨some y, n, c, _, rfl, cut_exact hb hy (fun hp => ho (by omega)) g3, l, hh, c, g1, ?_⟩
          split <;> rfl
        · cases mx' with
          | none => cases h3
          | some mx' =>
            cases hi' with
            | none => cases h2
            | some hi' =>
              obtain ⟨g1, g2, g3, g4⟩ := bounds3 (P := P) (w := w) (n := n) (Nat.le_refl c) h1 h2 h3 b0 b1 b2 true
              refine ⟨some y, n, c, _, rfl, cut_exact hb hy (fun hp => ho (by omega)) g3, l, hh, x, g1, ?_⟩
              split <;> rfl
      | slcIn _ _ s _ _ d i y hb hy ho hn hd hs =>
        have hm : s = size := by simpa using hm
        subst hm
        rcases cutinv ha with ⟨rfl, hh, l, b1, b2, rfl⟩ | ⟨mv, hv, x, hh, l, rfl, rfl, b0, b1, b2, rfl⟩
        · have h3' : mx' = none := by cases mx' with | none => rfl | some _ => cases h3
          subst h3'
          obtain ⟨g1, g2, g3⟩ := bounds2 (P := P) (w := w) hn hd h1 h2 b1 b2 true
          refine ⟨some y, n, d, _, rfl, cut_in hb hy (fun hp => ho (hp.imp (fun q => by omega) fun q => ⟨q.1, by omega⟩)) g2 g3 hd hs, l, hh, d, g1, ?_⟩
          split <;> rfl
        · cases mx' with
          | none => cases h3
          | some mx' =>
            cases hi' with
            | none => cases h2
            | some hi' =>
              obtain ⟨g1, g2, g3, g4⟩ := bounds3 (P := P) (w := w) (n := n) hd h1 h2 h3 b0 b1 b2 true
              refine ⟨some y, n, d, _, rfl, cut_exact hb hy (fun hp => ho (.inl (by omega))) g3, l, hh, x, g1, ?_⟩
              split <;> rfl
    · cases ha
  · cases ha

theorem good_slice (hr : HR nb r h w) {t : TypeId} {x : Operand} {lo hi mx : Option Operand} (ho : o.op = .slice t x lo hi mx) {el : TypeId} (hu : P.underlying t = some (.slice el)) {size : Nat} (hs : Rs.size P el = some size) (hx : VR r (ev e x) (a.eval x))
    (h1 : ∀ z, lo = some z → VR r (ev e z) (a.eval z)) (h2 : ∀ z, hi = some z → VR r (ev e z) (a.eval z)) (h3 : ∀ z, mx = some z → VR r (ev e z) (a.eval z)) (ha : aSlice size (ev e x) (lo.map (ev e)) (hi.map (ev e)) (mx.map (ev e)) = some v) : Good P nb lim r h w o a v h := by
  obtain ⟨B, n, d, v', g1, g2, l, hh, m, g3, rfl⟩ := aSlice_run (P := P) (w := w) ha hx (VO.map h1) (VO.map h2) (VO.map h3)
  refine Good.same hr ?_ g2
  rw [execOp, ho]
  simp [Instr.sliceAt, Instr.slice, run_underlying hu, g1, g3, run_size hs]
theorem good_sliceArr (hr : HR nb r h w) {t : TypeId} {x : Operand} {lo hi mx : Option Operand} (ho : o.op = .slice t x lo hi mx) {el : TypeId} {n : Nat} (hu : P.underlying t = some (.array n el) ∨ ∃ at_, P.underlying t = some (.pointer at_) ∧ P.underlying at_ = some (.array n el)) {size : Nat} (hs : Rs.size P el = some size) {b q : Nat} (hxe : ev e x = .pointer (some ⟨b, q, none⟩)) (hx : VR r (ev e x) (a.eval x))
    (h1 : ∀ z, lo = some z → VR r (ev e z) (a.eval z)) (h2 : ∀ z, hi = some z → VR r (ev e z) (a.eval z)) (h3 : ∀ z, mx = some z → VR r (ev e z) (a.eval z)) (ha : aCut b q none n n size (lo.map (ev e)) (hi.map (ev e)) (mx.map (ev e)) = some v) : Good P nb lim r h w o a v h := by
  rw [hxe] at hx
  obtain ⟨i, hb, hx'⟩ := hx.ptr_inv
  have g1 := VO.map h1
  have g2 := VO.map h2
  have g3 := VO.map h3
  have key : ∃ l hh m, (Instr.sliceBounds false n n (lo.map a.eval) (hi.map a.eval) (mx.map a.eval)).run P w = .ok (l, hh, m) w ∧ VR r v (.slice (some (if m = l then (⟨i.blk, i.base + q, none⟩ : Addr) else (⟨i.blk, i.base + q, none⟩ : Addr).add (l * size))) (hh - l) (m - l)) := by
    unfold aCut at ha
    generalize lo.map (ev e) = lo1 at *
    generalize hi.map (ev e) = hi1 at *
    generalize mx.map (ev e) = mx1 at *
    generalize lo.map a.eval = lo2 at *
    generalize hi.map a.eval = hi2 at *
    generalize mx.map a.eval = mx2 at *
    cases mx1 with
    | none =>
      simp only at ha
      cases mx2 with
      | some _ => cases g3
      | none =>
        cases b1 : bound hi1 n n with
        | none => simp [b1] at ha
        | some hh =>
          cases b2 : bound lo1 0 hh with
          | none => simp [b1, b2] at ha
          | some l =>
            simp [b1, b2] at ha
            obtain ⟨k1, k2, k3⟩ := bounds2 (P := P) (w := w) (Nat.le_refl n) (Nat.le_refl n) g1 g2 b1 b2 false
            exact ⟨l, hh, n, k1, by rw [← ha]; exact cut_exact hb rfl (fun _ => ⟨rfl, rfl⟩) k3⟩
    | some mv =>
      cases mx2 with
      | none => cases g3
      | some mx2 =>
        cases hi1 with
        | none => simp at ha
        | some hv =>
          cases hi2 with
          | none => cases g2
          | some hi2 =>
            simp only at ha
            cases b0 : bound (some mv) 0 n with
            | none => simp [b0] at ha
            | some x =>
              cases b1 : bound (some hv) 0 x with
              | none => simp [b0, b1] at ha
              | some hh =>
                cases b2 : bound lo1 0 hh with
                | none => simp [b0, b1, b2] at ha
                | some l =>
                  simp [b0, b1, b2] at ha
                  obtain ⟨k1, k2, k3, k4⟩ := bounds3 (P := P) (w := w) (n := n) (Nat.le_refl n) g1 g2 g3 b0 b1 b2 false
                  exact ⟨l, hh, x, k1, by rw [← ha]; exact cut_exact hb rfl (fun _ => ⟨rfl, rfl⟩) k3⟩
  obtain ⟨l, hh, m, k1, k2⟩ := key
  refine Good.same hr ?_ k2
  rw [execOp, ho]
  rcases hu with hu | ⟨at_, hu, hu2⟩
  · simp [Instr.sliceAt, run_underlying hu, hx', Instr.sureAddr, k1, run_size hs]
  · simp [Instr.sliceAt, Instr.slice, run_underlying hu, run_underlying hu2, hx', asAddr, k1, run_size hs]
theorem good_sliceStr (hr : HR nb r h w) {t : TypeId} {x : Operand} {lo hi : Option Operand} (ho : o.op = .slice t x lo hi none) (hu : P.underlying t = some .string) {s : ByteArray} (hxe : ev e x = .string s) (hx : VR r (ev e x) (a.eval x))
    (h1 : ∀ z, lo = some z → VR r (ev e z) (a.eval z)) (h2 : ∀ z, hi = some z → VR r (ev e z) (a.eval z)) {j i : Nat} (b1 : bound (hi.map (ev e)) s.size s.size = some j) (b2 : bound (lo.map (ev e)) 0 j = some i) : Good P nb lim r h w o a (.string (s.extract i j)) h := by
  rw [hxe] at hx
  have hx' := hx.string_inv
  obtain ⟨k1, k2, k3⟩ := bounds2 (P := P) (w := w) (Nat.le_refl s.size) (Nat.le_refl s.size) (VO.map h1) (VO.map h2) b1 b2 false
  refine Good.same hr (v' := .string (s.extract i j)) ?_ (.string _)
  rw [execOp, ho]
  simp [Instr.sliceAt, Instr.slice, run_underlying hu, hx', k1]

/-! ### elements -/
theorem elems_run (hr : HR nb r h w) {size n : Nat} {x x' : Value} {cs : List Value} (ha : aElems size h n x = some cs) (hx : VR r x x') : ∃ vs, (Builtin.firstCells size n x').run P w = .ok vs.toArray w ∧ VL r cs vs := by
  unfold aElems at ha
  split at ha
  · injection ha with ha
    subst ha
    cases hx
    exact ⟨[], rfl, VL.nil r⟩
  · rename_i b q m n' c
    split at ha
    · rename_i hn
      split at ha
      · rename_i h0
        injection ha with ha
        subst ha
        obtain ⟨B, d, rfl, h2, h3, h4⟩ := hx.slice_inv
        obtain ⟨h5, i, y, rfl, h6, h7, h8⟩ := h4 _ _ _ rfl
        exact ⟨[], by simp only [Builtin.firstCells, h0]; rfl, VL.nil r⟩
      cases hc : cellsOf h b with
      | none => simp [hc] at ha
      | some ds =>
        simp only [hc, Option.bind_some] at ha
        split at ha
        · rename_i hle
          injection ha with ha
          subst ha
          obtain ⟨B, d, rfl, h2, h3, h4⟩ := hx.slice_inv
          obtain ⟨h5, i, y, rfl, h6, h7, h8⟩ := h4 _ _ _ rfl
          obtain ⟨vs, k1, k2⟩ := hr.loads (P := P) h6 hc hle h7 (fun hp => h8 (by
            rcases Nat.eq_zero_or_pos n with h0 | h0
            · subst h0; simp at hp
            · omega))
          exact ⟨vs, k2, k1⟩
        · cases ha
    · cases ha
  · split at ha
    · injection ha with ha
      subst ha
      obtain rfl := hx.string_inv
      refine ⟨_, ?_, VL.flat ?_⟩
      · simp only [Builtin.firstCells, Sem.run_pure, Array.toArray_toList]
      · rw [List.all_eq_true]
        intro x hx
        simp only [Array.toList_map, List.mem_map] at hx
        obtain ⟨q, _, rfl⟩ := hx
        rfl
    · cases ha
  · cases ha
theorem cell_same {w' : World} (he : w'.heap = w.heap) (x : Addr) : w'.cell? x = w.cell? x := by unfold World.cell?; rw [he]
theorem loads2 (hr : HR nb r h w) {b o n : Nat} {i : Im} {cs : List Value} (hb : r b = some i) (hh : cellsOf h b = some cs) (hn : o + n ≤ cs.length) {a : Addr} (ha : a.block = i.blk) (ho : 0 < n → a.off = i.base + o ∧ a.spot = none) :
    ∃ vs, VL r ((cs.drop o).take n) vs ∧ ∀ w' : World, w'.heap = w.heap → (loadCells a n).run P w' = .ok vs.toArray w' := by
  obtain ⟨vs, h1, h2, h3⟩ := hr.reads hb hh hn
  refine ⟨vs, h1, fun w' he => ?_⟩
  rcases Nat.eq_zero_or_pos n with h0 | h0
  · subst h0
    obtain rfl : vs = [] := List.eq_nil_of_length_eq_zero h2
    rfl
  · obtain ⟨e1, e2⟩ := ho h0
    subst h2
    refine run_loadCells_list w' a vs fun j v hj => ?_
    obtain ⟨ab, ao, as⟩ := a
    simp only at ha e1 e2
    subst ha; subst e1; subst e2
    rw [addr_add, cell_same he]
    exact h3 j v hj
theorem elems_run2 (hr : HR nb r h w) {size n : Nat} {x x' : Value} {cs : List Value} (ha : aElems size h n x = some cs) (hx : VR r x x') : ∃ vs, (∀ w' : World, w'.heap = w.heap → (Builtin.firstCells size n x').run P w' = .ok vs.toArray w') ∧ VL r cs vs := by
  unfold aElems at ha
  split at ha
  · injection ha with ha
    subst ha
    cases hx
    exact ⟨[], fun _ _ => rfl, VL.nil r⟩
  · rename_i b q m n' c
    split at ha
    · rename_i hn
      split at ha
      · rename_i h0
        injection ha with ha
        subst ha
        obtain ⟨B, d, rfl, h2, h3, h4⟩ := hx.slice_inv
        obtain ⟨h5, i, y, rfl, h6, h7, h8⟩ := h4 _ _ _ rfl
        exact ⟨[], fun w' _ => by simp only [Builtin.firstCells, h0]; rfl, VL.nil r⟩
      cases hc : cellsOf h b with
      | none => simp [hc] at ha
      | some ds =>
        simp only [hc, Option.bind_some] at ha
        split at ha
        · rename_i hle
          injection ha with ha
          subst ha
          obtain ⟨B, d, rfl, h2, h3, h4⟩ := hx.slice_inv
          obtain ⟨h5, i, y, rfl, h6, h7, h8⟩ := h4 _ _ _ rfl
          obtain ⟨vs, k1, k2⟩ := loads2 (P := P) hr h6 hc hle h7 (fun hp => h8 (by
            rcases Nat.eq_zero_or_pos n with h0 | h0
            · subst h0; simp at hp
            · omega))
          exact ⟨vs, k2, k1⟩
        · cases ha
    · cases ha
  · split at ha
    · injection ha with ha
      subst ha
      obtain rfl := hx.string_inv
      refine ⟨_, ?_, VL.flat ?_⟩
      · intro w' _
        simp only [Builtin.firstCells, Sem.run_pure, Array.toArray_toList]
      · rw [List.all_eq_true]
        intro x hx
        simp only [Array.toList_map, List.mem_map] at hx
        obtain ⟨q, _, rfl⟩ := hx
        rfl
    · cases ha
  · cases ha
theorem len_run {x x' : Value} {n : Nat} (ha : aLen x = some n) (hx : VR r x x') : (Builtin.lenOf x').run P w = .ok n w := by
  unfold aLen at ha
  split at ha
  · injection ha with ha; subst ha
    obtain ⟨B, d, rfl, _⟩ := hx.slice_inv
    simp [Builtin.lenOf]
  · injection ha with ha; subst ha
    obtain rfl := hx.string_inv
    simp [Builtin.lenOf]
  · cases ha

end Go.Proofs.YtmikcpgkppkmiaaW.Ai
