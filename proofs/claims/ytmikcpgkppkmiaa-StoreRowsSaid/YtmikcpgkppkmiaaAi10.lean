/-
  The small machine and Go's: what is built in, maps, append. Of no program.
-/
import Derived.Test.YtmikcpgkppkmiaaAi9
set_option linter.unusedVariables false
set_option linter.unusedSimpArgs false
namespace Go.Proofs.YtmikcpgkppkmiaaW.Ai
variable {P : Program} {nb lim : Nat} {r : Rho} {h h' : AH} {w : World} {e : Env} {a : Act} {v : Value} {o : Oper}

theorem builtin_run {b : Builtin} {A : Array Operand} {T : Array TypeId} (ho : o.op = .call { callee := .builtin b, args := A, argTypes := T }) :
    ∃ cs, (execOp a.eval o).run P w = (builtin b T o.type cs (A.map a.eval)).run P w := by
  rw [execOp, ho]
  simp only [resolve, invoke, Sem.run_bind, Sem.run_pure, Result.andThen_ok]
  exact ⟨_, rfl⟩
theorem arr1 {A : Array Operand} {x : Operand} (hA : A.toList = [x]) : A = #[x] := by apply Array.ext'; simpa using hA
theorem arr2 {A : Array Operand} {x y : Operand} (hA : A.toList = [x, y]) : A = #[x, y] := by apply Array.ext'; simpa using hA

theorem good_lenS (hr : HR nb r h w) {A : Array Operand} {T : Array TypeId} (ho : o.op = .call { callee := .builtin .len, args := A, argTypes := T }) {x : Operand} (hA : A.toList = [x]) {t : TypeId} (hT : T[0]? = some t) (hu : P.underlying t = some .string) (hx : VR r (ev e x) (a.eval x)) {s : ByteArray} (hs : ev e x = .string s) : Good P nb lim r h w o a (.int .i64 s.size) h := by
  obtain rfl := arr1 hA
  rw [hs] at hx
  have hx' := hx.string_inv
  refine Good.same hr (v' := .int .i64 s.size) ?_ (.int _ _)
  obtain ⟨cs, hc⟩ := builtin_run (P := P) (w := w) (a := a) ho
  rw [hc]
  simp [builtin, Builtin.len_, hT, run_underlying hu, hx', goInt]
theorem good_lenL (hr : HR nb r h w) {A : Array Operand} {T : Array TypeId} (ho : o.op = .call { callee := .builtin .len, args := A, argTypes := T }) {x : Operand} (hA : A.toList = [x]) {t el : TypeId} (hT : T[0]? = some t) (hu : P.underlying t = some (.slice el)) (hx : VR r (ev e x) (a.eval x)) {B : Option Addr} {n c : Nat} (hs : ev e x = .slice B n c) : Good P nb lim r h w o a (.int .i64 n) h := by
  obtain rfl := arr1 hA
  rw [hs] at hx
  obtain ⟨B', d, hx', _⟩ := hx.slice_inv
  refine Good.same hr (v' := .int .i64 n) ?_ (.int _ _)
  obtain ⟨cs, hc⟩ := builtin_run (P := P) (w := w) (a := a) ho
  rw [hc]
  simp [builtin, Builtin.len_, hT, run_underlying hu, hx', goInt]
theorem good_lenM0 (hr : HR nb r h w) {A : Array Operand} {T : Array TypeId} (ho : o.op = .call { callee := .builtin .len, args := A, argTypes := T }) {x : Operand} (hA : A.toList = [x]) {t kt el : TypeId} (hT : T[0]? = some t) (hu : P.underlying t = some (.map kt el)) (hx : VR r (ev e x) (a.eval x)) (hs : ev e x = .map none) : Good P nb lim r h w o a (.int .i64 0) h := by
  obtain rfl := arr1 hA
  rw [hs] at hx
  have hx' : a.eval x = .map none := by generalize a.eval x = z at hx; cases hx; rfl
  refine Good.same hr (v' := .int .i64 0) ?_ (.int _ _)
  obtain ⟨cs, hc⟩ := builtin_run (P := P) (w := w) (a := a) ho
  rw [hc]
  simp [builtin, Builtin.len_, hT, run_underlying hu, hx', goInt]
theorem run_getMap {g : Nat} {ces : Array MapEntry} {clk : Nat} (hg : w.heap[g]? = some (.map ces clk)) : (getObj g).run P w = .ok (.map ces clk) w := by simp [getObj, Sem.run, hg]
theorem VR.map_inv {b : Nat} {x : Value} (hx : VR r (.map (some b)) x) : ∃ i, r b = some i ∧ x = .map (some i.blk) := by
  cases hx with
  | map _ i h => exact ⟨i, h, rfl⟩
theorem good_lenM (hr : HR nb r h w) {A : Array Operand} {T : Array TypeId} (ho : o.op = .call { callee := .builtin .len, args := A, argTypes := T }) {x : Operand} (hA : A.toList = [x]) {t kt el : TypeId} (hT : T[0]? = some t) (hu : P.underlying t = some (.map kt el)) (hx : VR r (ev e x) (a.eval x)) {b : Nat} {es : List (Value × Value)} (hs : ev e x = .map (some b)) (hb : h[b]? = some (.map es)) : Good P nb lim r h w o a (.int .i64 es.length) h := by
  obtain rfl := arr1 hA
  rw [hs] at hx
  obtain ⟨i, hi, hx'⟩ := hx.map_inv
  obtain ⟨ces, clk, g1, g2⟩ := hr.map hi hb
  refine Good.same hr (v' := .int .i64 es.length) ?_ (.int _ _)
  obtain ⟨cs, hc⟩ := builtin_run (P := P) (w := w) (a := a) ho
  rw [hc]
  have : ces.size = es.length := by have := g2.1; simpa using this.symm
  simp [builtin, Builtin.len_, hT, run_underlying hu, hx', goInt, run_getMap g1, this]
theorem good_lenArr (hr : HR nb r h w) {A : Array Operand} {T : Array TypeId} (ho : o.op = .call { callee := .builtin .len, args := A, argTypes := T }) {x : Operand} (hA : A.toList = [x]) {t el : TypeId} {n : Nat} (hT : T[0]? = some t) (hu : P.underlying t = some (.array n el) ∨ ∃ u, P.underlying t = some (.pointer u) ∧ P.underlying u = some (.array n el)) : Good P nb lim r h w o a (.int .i64 n) h := by
  obtain rfl := arr1 hA
  refine Good.same hr (v' := .int .i64 n) ?_ (.int _ _)
  obtain ⟨cs, hc⟩ := builtin_run (P := P) (w := w) (a := a) ho
  rw [hc]
  rcases hu with hu | ⟨u, hu, hu2⟩
  · simp [builtin, Builtin.len_, hT, run_underlying hu, goInt]
  · simp [builtin, Builtin.len_, hT, run_underlying hu, run_underlying hu2, goInt]

theorem foldl_min {mx : Bool} : ∀ (l : List Value) (l' : List Value) (x x' z : Value), VL r l l' → VR r x x' → l.foldlM (minmax2 mx) x = some z →
    (l'.foldlM (if mx then Builtin.max2 else Builtin.min2) x').run P w = .ok z w ∧ (∃ k n, z = .int k n) ∨ (l = [] ∧ z = x)
  | [], l', x, x', z, _, _, ha => by simp at ha; exact .inr ⟨rfl, ha.symm⟩
  | y :: l, l', x, x', z, hl, hx, ha => by
    left
    obtain ⟨y', l', rfl, h1, h2⟩ := hl.cons_inv
    rw [List.foldlM_cons] at ha
    cases hm : minmax2 mx x y with
    | none => simp [hm] at ha
    | some q =>
      simp only [hm] at ha
      have hm' := hm
      unfold minmax2 at hm'
      split at hm'
      · rename_i k p k' p'
        injection hm' with hm'
        obtain rfl := hx.int_inv
        obtain rfl := h1.int_inv
        have hq : ((if mx then Builtin.max2 else Builtin.min2) (.int k p) (.int k' p')).run P w = .ok q w := by
          cases mx <;> simp [Builtin.max2, Builtin.min2, ← hm']
        rw [List.foldlM_cons]
        simp only [Sem.run_bind, hq, Result.andThen_ok]
        rcases foldl_min l l' q q z h2 (by rw [← hm']; exact .int _ _) ha with ⟨h3, h4⟩ | ⟨rfl, rfl⟩
        · exact ⟨h3, h4⟩
        · obtain rfl := h2.nil_inv
          exact ⟨by simp, _, _, hm'.symm⟩
      · cases hm'
theorem good_minmax (hr : HR nb r h w) {A : Array Operand} {T : Array TypeId} {mx : Bool} (ho : o.op = .call { callee := .builtin (if mx then .max else .min), args := A, argTypes := T }) (hE : ∀ x ∈ A.toList, VR r (ev e x) (a.eval x)) {x : Value} {l : List Value} (hl : A.toList.map (ev e) = x :: l) (ha : l.foldlM (minmax2 mx) x = some v) : Good P nb lim r h w o a v h := by
  have h1 := VL.map hE
  rw [hl] at h1
  obtain ⟨x', l', h2, h3, h4⟩ := h1.cons_inv
  obtain ⟨cs, hc⟩ := builtin_run (P := P) (w := w) (a := a) ho
  have hA : (A.map a.eval).toList = x' :: l' := by rw [← h2]; simp
  rcases foldl_min (P := P) (w := w) (mx := mx) l l' x x' v h4 h3 ha with ⟨h5, k, n, rfl⟩ | ⟨rfl, rfl⟩
  · refine Good.same hr (v' := .int k n) ?_ (.int _ _)
    rw [hc]
    cases mx
    · simp only [Bool.false_eq_true, if_false] at h5 ⊢
      simp only [builtin, Builtin.min_, hA, Sem.run_bind, h5, Result.andThen_ok, Sem.run_pure]
    · simp only [if_true] at h5 ⊢
      simp only [builtin, Builtin.max_, hA, Sem.run_bind, h5, Result.andThen_ok, Sem.run_pure]
  · refine Good.same hr (v' := x') ?_ h3
    obtain rfl := h4.nil_inv
    rw [hc]
    cases mx
    · simp only [Bool.false_eq_true, if_false]
      simp only [builtin, Builtin.min_, hA]
      rfl
    · simp only [if_true]
      simp only [builtin, Builtin.max_, hA]
      rfl

theorem good_copy (hr : HR nb r h w) (hlim : nb ≤ lim) {A : Array Operand} {T : Array TypeId} (ho : o.op = .call { callee := .builtin .copy, args := A, argTypes := T }) {x y : Operand} (hA : A.toList = [x, y]) {t el : TypeId} (hT : T[0]? = some t) (hu : P.underlying t = some (.slice el)) {size : Nat} (hs : Rs.size P el = some size) (hx : VR r (ev e x) (a.eval x)) (hy : VR r (ev e y) (a.eval y))
    {B : Option Addr} {n c m : Nat} (hxe : ev e x = .slice B n c) (hm : aLen (ev e y) = some m) {cs : List Value} (hcs : aElems size h (min m n) (ev e y) = some cs)
    (ha : (match B with | none => some h | some ⟨b, q, _⟩ => aWrite lim h b q cs) = some h') (hn : n * size ≤ c * size → True) (hcl : ∀ q, B = some q → cs = [] ∨ 0 < c) : Good P nb lim r h w o a (.int .i64 (min m n : Nat)) h' := by
  obtain rfl := arr2 hA
  rw [hxe] at hx
  obtain ⟨B', d, hx', h2, h3, h4⟩ := hx.slice_inv
  obtain ⟨vs, g1, g2⟩ := elems_run (P := P) hr hcs hy
  obtain ⟨bs, hc⟩ := builtin_run (P := P) (w := w) (a := a) ho
  have hl := len_run (P := P) (w := w) hm hy
  cases B with
  | none =>
    obtain ⟨rfl, rfl, rfl, rfl⟩ := h3 rfl
    simp only at ha
    injection ha with ha
    subst ha
    refine Good.same hr (v' := .int .i64 (min m 0 : Nat)) ?_ (.int _ _)
    rw [hc]
    simp [builtin, Builtin.copy_, hT, run_underlying hu, hx', hl, run_size hs, g1, goInt, Nat.min_def]
    have g1' := g1
    simp at g1'
    simp [g1']
  | some A0 =>
    obtain ⟨b, q, z⟩ := A0
    obtain ⟨h5, i, y', rfl, h6, h7, h8⟩ := h4 _ _ _ rfl
    simp only at ha
    obtain ⟨w', k1, k2⟩ := Post.write (P := P) hr h6 hlim ha g2 h7 (fun hne => h8 ((hcl _ rfl).resolve_left hne))
    refine Good.value (v' := .int .i64 (min m n : Nat)) (w' := w') ?_ k2 (.int _ _)
    rw [hc]
    have e1 : Nat.min m n = min m n := rfl
    simp [builtin, Builtin.copy_, hT, run_underlying hu, hx', hl, run_size hs, e1, g1, goInt, k1]
theorem good_clear (hr : HR nb r h w) (hlim : nb ≤ lim) {A : Array Operand} {T : Array TypeId} (ho : o.op = .call { callee := .builtin .clear, args := A, argTypes := T }) {x : Operand} (hA : A.toList = [x]) {t el : TypeId} (hT : T[0]? = some t) (hu : P.underlying t = some (.slice el)) {z : List Value} (hz : Rs.zero P el = some z) (hx : VR r (ev e x) (a.eval x))
    {B : Option Addr} {n c : Nat} (hxe : ev e x = .slice B n c)
    (ha : (match B with | none => some h | some ⟨b, q, _⟩ => aWrite lim h b q (reps z n)) = some h') : Good P nb lim r h w o a (.tuple #[]) h' := by
  obtain rfl := arr1 hA
  rw [hxe] at hx
  obtain ⟨B', d, hx', h2, h3, h4⟩ := hx.slice_inv
  obtain ⟨bs, hc⟩ := builtin_run (P := P) (w := w) (a := a) ho
  obtain ⟨zv, z1, z2, z3, z4⟩ := run_zero (w := w) hz
  cases B with
  | none =>
    obtain ⟨rfl, rfl, rfl, rfl⟩ := h3 rfl
    simp only at ha
    injection ha with ha
    subst ha
    refine Good.same hr (v' := .tuple #[]) ?_ (VR.undef _)
    rw [hc]
    simp [builtin, Builtin.clear_, hT, run_underlying hu, hx']
  | some A0 =>
    obtain ⟨b, q, zz⟩ := A0
    obtain ⟨h5, i, y', rfl, h6, h7, h8⟩ := h4 _ _ _ rfl
    simp only at ha
    have hfl : VL r (reps z n) (reps z n) := VL.flat (reps_flat z4 _).1
    obtain ⟨w', k1, k2⟩ := Post.write (P := P) hr h6 hlim ha hfl h7 (fun hne => h8 (by
      rcases Nat.eq_zero_or_pos n with h0 | h0
      · subst h0; exact absurd rfl hne
      · omega))
    refine Good.value (v' := .tuple #[]) (w' := w') ?_ k2 (VR.undef _)
    rw [hc]
    rcases Nat.eq_zero_or_pos n with h0 | h0
    · subst h0
      simp only [reps, storeCells, Sem.run_pure] at k1
      injection k1 with _ k1
      subst k1
      simp [builtin, Builtin.clear_, hT, run_underlying hu, hx']
    · obtain ⟨n', rfl⟩ : ∃ n', n = n' + 1 := ⟨n - 1, by omega⟩
      have hzc : (Builtin.zeroCells zv.cells (n' + 1)).toList = reps z (n' + 1) := by
        unfold Builtin.zeroCells
        rcases Nat.eq_zero_or_pos zv.cells.size with h0 | h0
        · have : z = [] := by rw [← z2]; exact List.eq_nil_of_length_eq_zero (by simpa using h0)
          rw [h0, this]
          have : reps ([] : List Value) (n' + 1) = [] := List.eq_nil_of_length_eq_zero (by rw [reps_length]; simp)
          rw [this]
          simp
        · rw [← z2]
          exact reps_array zv.cells h0 (n' + 1)
      simp [builtin, Builtin.clear_, hT, run_underlying hu, hx', z1, hzc, k1]

theorem bytes_loop {F : Value → ByteArray → Sem (ForInStep ByteArray)} (hF : ∀ n q, (F (.int .u8 n) q).run P w = .ok (.yield (q.push (UInt8.ofNat n.toNat))) w) : ∀ (cs : List Value) (l : List UInt8) (s : ByteArray), aBytes cs = some l →
    (forIn (m := Sem) cs s F).run P w = .ok (l.foldl ByteArray.push s) w
  | [], l, s, h => by simp [aBytes] at h; subst h; simp
  | c :: cs, l, s, h => by
    unfold aBytes at h
    split at h
    · rename_i he; cases he
    · rename_i n r he
      injection he with h1 h2
      subst h1; subst h2
      cases hr : aBytes cs with
      | none => simp [hr] at h
      | some l' =>
        simp [hr] at h
        subst h
        simp only [List.forIn_cons, Sem.run_bind, hF, Result.andThen_ok, List.foldl_cons]
        exact bytes_loop hF cs l' _ hr
    · cases h
theorem foldl_push : ∀ (l : List UInt8) (s : ByteArray), l.foldl ByteArray.push s = ⟨s.data ++ l.toArray⟩
  | [], s => by cases s; simp
  | b :: l, s => by
    rw [List.foldl_cons, foldl_push l]
    cases s
    simp [ByteArray.push]
theorem aBytes_inv : ∀ {cs cs' : List Value} {l : List UInt8}, aBytes cs = some l → VL r cs cs' → cs' = cs
  | [], cs', l, _, hv => hv.nil_inv
  | c :: cs, cs', l, h, hv => by
    obtain ⟨c', cs', rfl, h1, h2⟩ := hv.cons_inv
    unfold aBytes at h
    split at h
    · rename_i he; cases he
    · rename_i n r he
      injection he with e1 e2
      subst e1; subst e2
      cases hr : aBytes cs with
      | none => simp [hr] at h
      | some l' => rw [h1.int_inv, aBytes_inv hr h2]
    · cases h
theorem good_bytesStr (hr : HR nb r h w) {s d el : TypeId} {x : Operand} (ho : o.op = .convert s d x) (hs : P.underlying s = some (.slice el)) (hd : P.underlying d = some .string) (he : P.underlying el = some (.int .u8)) (hv : VR r (ev e x) (a.eval x)) {B : Option Addr} {n c : Nat} (hx : ev e x = .slice B n c) {cs : List Value} (hcs : aElems 1 h n (.slice B n c) = some cs) {l : List UInt8} (hl : aBytes cs = some l) :
    Good P nb lim r h w o a (.string ⟨l.toArray⟩) h := by
  rw [hx] at hv
  obtain ⟨vs, g1, g2⟩ := elems_run (P := P) hr hcs hv
  obtain ⟨B', d', hx', h2, h3, h4⟩ := hv.slice_inv
  refine Good.same hr (v' := .string ⟨l.toArray⟩) ?_ (.string _)
  rw [execOp, ho]
  have hvs := aBytes_inv hl g2
  rw [hx'] at g1
  simp only [hx']
  cases B' with
  | none =>
    have : cs = [] := by
      cases B with
      | none => simp [aElems] at hcs; exact hcs
      | some A0 =>
        obtain ⟨b, q, z⟩ := A0
        obtain ⟨_, i, y, hy, _⟩ := h4 b q z rfl
        cases hy
    subst this
    simp [aBytes] at hl
    subst hl
    simp [convert, run_underlying hs, run_underlying hd, run_underlying he, Conv.bytesToString]
    rfl
  | some y =>
    simp only [Builtin.firstCells, Nat.mul_one] at g1
    rw [hvs] at g1
    have hb := fun (F : Value → ByteArray → Sem (ForInStep ByteArray)) hF => bytes_loop (P := P) (w := w) (F := F) hF cs l ByteArray.empty hl
    rw [foldl_push, show (ByteArray.mk (ByteArray.empty.data ++ l.toArray)) = ⟨l.toArray⟩ from congrArg ByteArray.mk (Array.empty_append)] at hb
    simp only [convert, Sem.run_bind, run_underlying hs, run_underlying hd, run_underlying he, Result.andThen_ok, Conv.bytesToString, g1]
    rw [← Array.forIn_toList]
    rw [hb _ (fun n q => by simp)]
    simp

end Go.Proofs.YtmikcpgkppkmiaaW.Ai
