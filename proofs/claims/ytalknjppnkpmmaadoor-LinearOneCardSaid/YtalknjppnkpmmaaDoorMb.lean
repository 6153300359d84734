/-
 The small machine and Go's: what is built in, maps, append. Of no program.
-/
import Derived.Test.YtalknjppnkpmmaaDoorMa
set_option linter.unusedVariables false
set_option linter.unusedSimpArgs false
namespace Go.Proofs.YtalknjppnkpmmaaDoorW.Ai
section
variable {P : Program} {nb lim : Nat} {r : Rho} {h h' : AH} {w : World} {e : Env} {a : Act} {v : Value} {o : Oper}
theorem builtin_run {b : Builtin} {A : Array Operand} {T : Array TypeId} (ho : o.op = .call { callee := .builtin b, args := A, argTypes := T }) :
  ∃ cs, (execOp a.eval o).run P w = (builtin b T o.type cs (A.map a.eval)).run P w := by
 rw [execOp, ho]
 simp only [resolve, invoke, Sem.run_bind, Sem.run_pure, Result.andThen_ok]
 exact ⟨_, rfl⟩
theorem arr1 {A : Array Operand} {x : Operand} (hA : A.toList = [x]) : A = #[x] := by apply Array.ext'; simpa using hA
theorem arr2 {A : Array Operand} {x y : Operand} (hA : A.toList = [x, y]) : A = #[x, y] := by apply Array.ext'; simpa using hA
theorem good_lenS (hr : HR nb r h w) {A : Array Operand} {T : Array TypeId} (ho : o.op = .call { callee := .builtin .len, args := A, argTypes := T }) {x : Operand} (hA : A.toList = [x]) {t : TypeId} (hT : T[0]? = some t) (hu : P.underlying t = some .string) (hx : VR r (ev e x) (a.eval x)) {s : ByteArray} (hs : ev e x = .string s) : Good P nb lim r h w o a (.int .i64 s.size) h := by
 obtain rfl := arr1 hA
 rw [hs] at hx
 have hx' := hx.string_inv
 refine Good.same hr (v' := .int .i64 s.size) ?_ (.int _ _)
 obtain ⟨cs, hc⟩ := builtin_run (P := P) (w := w) (a := a) ho
 rw [hc]
 simp [builtin, Builtin.len_, hT, run_underlying hu, hx', goInt]
theorem good_lenL (hr : HR nb r h w) {A : Array Operand} {T : Array TypeId} (ho : o.op = .call { callee := .builtin .len, args := A, argTypes := T }) {x : Operand} (hA : A.toList = [x]) {t el : TypeId} (hT : T[0]? = some t) (hu : P.underlying t = some (.slice el)) (hx : VR r (ev e x) (a.eval x)) {B : Option Addr} {n c : Nat} (hs : ev e x = .slice B n c) : Good P nb lim r h w o a (.int .i64 n) h := by
 obtain rfl := arr1 hA
 rw [hs] at hx
 obtain ⟨B', d, hx', _⟩ := hx.slice_inv
 refine Good.same hr (v' := .int .i64 n) ?_ (.int _ _)
 obtain ⟨cs, hc⟩ := builtin_run (P := P) (w := w) (a := a) ho
 rw [hc]
 simp [builtin, Builtin.len_, hT, run_underlying hu, hx', goInt]
theorem good_lenM0 (hr : HR nb r h w) {A : Array Operand} {T : Array TypeId} (ho : o.op = .call { callee := .builtin .len, args := A, argTypes := T }) {x : Operand} (hA : A.toList = [x]) {t kt el : TypeId} (hT : T[0]? = some t) (hu : P.underlying t = some (.map kt el)) (hx : VR r (ev e x) (a.eval x)) (hs : ev e x = .map none) : Good P nb lim r h w o a (.int .i64 0) h := by
 obtain rfl := arr1 hA
 rw [hs] at hx
 have hx' : a.eval x = .map none := by generalize a.eval x = z at hx; cases hx; rfl
 refine Good.same hr (v' := .int .i64 0) ?_ (.int _ _)
 obtain ⟨cs, hc⟩ := builtin_run (P := P) (w := w) (a := a) ho
 rw [hc]
 simp [builtin, Builtin.len_, hT, run_underlying hu, hx', goInt]
theorem run_getMap {g : Nat} {ces : Array MapEntry} {clk : Nat} (hg : w.heap[g]? = some (.map ces clk)) : (getObj g).run P w = .ok (.map ces clk) w := by simp [getObj, Sem.run, hg]
theorem VR.map_inv {b : Nat} {x : Value} (hx : VR r (.map (some b)) x) : ∃ i, r b = some i ∧ x = .map (some i.blk) := by
 cases hx with
 | map _ i h => exact ⟨i, h, rfl⟩
theorem good_lenM (hr : HR nb r h w) {A : Array Operand} {T : Array TypeId} (ho : o.op = .call { callee := .builtin .len, args := A, argTypes := T }) {x : Operand} (hA : A.toList = [x]) {t kt el : TypeId} (hT : T[0]? = some t) (hu : P.underlying t = some (.map kt el)) (hx : VR r (ev e x) (a.eval x)) {b : Nat} {es : List (Value × Value)} (hs : ev e x = .map (some b)) (hb : h[b]? = some (.map es)) : Good P nb lim r h w o a (.int .i64 es.length) h := by
 obtain rfl := arr1 hA
 rw [hs] at hx
 obtain ⟨i, hi, hx'⟩ := hx.map_inv
 obtain ⟨ces, clk, g1, g2⟩ := hr.map hi hb
 refine Good.same hr (v' := .int .i64 es.length) ?_ (.int _ _)
 obtain ⟨cs, hc⟩ := builtin_run (P := P) (w := w) (a := a) ho
 rw [hc]
 have : ces.size = es.length := by have := g2.1; simpa using this.symm
 simp [builtin, Builtin.len_, hT, run_underlying hu, hx', goInt, run_getMap g1, this]
theorem good_lenArr (hr : HR nb r h w) {A : Array Operand} {T : Array TypeId} (ho : o.op = .call { callee := .builtin .len, args := A, argTypes := T }) {x : Operand} (hA : A.toList = [x]) {t el : TypeId} {n : Nat} (hT : T[0]? = some t) (hu : P.underlying t = some (.array n el) ∨ ∃ u, P.underlying t = some (.pointer u) ∧ P.underlying u = some (.array n el)) : Good P nb lim r h w o a (.int .i64 n) h := by
 obtain rfl := arr1 hA
 refine Good.same hr (v' := .int .i64 n) ?_ (.int _ _)
 obtain ⟨cs, hc⟩ := builtin_run (P := P) (w := w) (a := a) ho
 rw [hc]
 rcases hu with hu | ⟨u, hu, hu2⟩
 ·simp [builtin, Builtin.len_, hT, run_underlying hu, goInt]
 ·simp [builtin, Builtin.len_, hT, run_underlying hu, run_underlying hu2, goInt]
theorem foldl_min {mx : Bool} : ∀ (l : List Value) (l' : List Value) (x x' z : Value), VL r l l' → VR r x x' → l.foldlM (minmax2 mx) x = some z →
  (l'.foldlM (if mx then Builtin.max2 else Builtin.min2) x').run P w = .ok z w ∧ (∃ k n, z = .int k n) ∨ (l = [] ∧ z = x)
 | [], l', x, x', z, _, _, ha => by simp at ha; exact .inr ⟨rfl, ha.symm⟩
 | y :: l, l', x, x', z, hl, hx, ha => by
  left
  obtain ⟨y', l', rfl, h1, h2⟩ := hl.cons_inv
  rw [List.foldlM_cons] at ha
  cases hm : minmax2 mx x y with
  | none => simp [hm] at ha
  | some q =>
   simp only [hm] at ha
   have hm' := hm
   unfold minmax2 at hm'
   split at hm'
   ·rename_i k p k' p'
    injection hm' with hm'
    obtain rfl := hx.int_inv
    obtain rfl := h1.int_inv
    have hq : ((if mx then Builtin.max2 else Builtin.min2) (.int k p) (.int k' p')).run P w = .ok q w := by
     cases mx <;> simp [Builtin.max2, Builtin.min2, ← hm']
    rw [List.foldlM_cons]
    simp only [Sem.run_bind, hq, Result.andThen_ok]
    rcases foldl_min l l' q q z h2 (by rw [← hm']; exact .int _ _) ha with ⟨h3, h4⟩ | ⟨rfl, rfl⟩
    ·exact ⟨h3, h4⟩
    ·obtain rfl := h2.nil_inv
     exact ⟨by simp, _, _, hm'.symm⟩
   ·cases hm'
theorem good_minmax (hr : HR nb r h w) {A : Array Operand} {T : Array TypeId} {mx : Bool} (ho : o.op = .call { callee := .builtin (if mx then .max else .min), args := A, argTypes := T }) (hE : ∀ x ∈ A.toList, VR r (ev e x) (a.eval x)) {x : Value} {l : List Value} (hl : A.toList.map (ev e) = x :: l) (ha : l.foldlM (minmax2 mx) x = some v) : Good P nb lim r h w o a v h := by
 have h1 := VL.map hE
 rw [hl] at h1
 obtain ⟨x', l', h2, h3, h4⟩ := h1.cons_inv
 obtain ⟨cs, hc⟩ := builtin_run (P := P) (w := w) (a := a) ho
 have hA : (A.map a.eval).toList = x' :: l' := by rw [← h2]; simp
 rcases foldl_min (P := P) (w := w) (mx := mx) l l' x x' v h4 h3 ha with ⟨h5, k, n, rfl⟩ | ⟨rfl, rfl⟩
 ·refine Good.same hr (v' := .int k n) ?_ (.int _ _)
  rw [hc]
  cases mx
  ·simp only [Bool.false_eq_true, if_false] at h5 ⊢
   simp only [builtin, Builtin.min_, hA, Sem.run_bind, h5, Result.andThen_ok, Sem.run_pure]
  ·simp only [if_true] at h5 ⊢
   simp only [builtin, Builtin.max_, hA, Sem.run_bind, h5, Result.andThen_ok, Sem.run_pure]
 ·refine Good.same hr (v' := x') ?_ h3
  obtain rfl := h4.nil_inv
  rw [hc]
  cases mx
  ·simp only [Bool.false_eq_true, if_false]
   simp only [builtin, Builtin.min_, hA]
   rfl
  ·simp only [if_true]
   simp only [builtin, Builtin.max_, hA]
   rfl
theorem good_copy (hr : HR nb r h w) (hlim : nb ≤ lim) {A : Array Operand} {T : Array TypeId} (ho : o.op = .call { callee := .builtin .copy, args := A, argTypes := T }) {x y : Operand} (hA : A.toList = [x, y]) {t el : TypeId} (hT : T[0]? = some t) (hu : P.underlying t = some (.slice el)) {size : Nat} (hs : Rs.size P el = some size) (hx : VR r (ev e x) (a.eval x)) (hy : VR r (ev e y) (a.eval y))
  {B : Option Addr} {n c m : Nat} (hxe : ev e x = .slice B n c) (hm : aLen (ev e y) = some m) {cs : List Value} (hcs : aElems size h (min m n) (ev e y) = some cs)
  (ha : (match B with | none => some h | some ⟨b, q, _⟩ => aWrite lim h b q cs) = some h') (hn : n * size ≤ c * size → True) (hcl : ∀ q, B = some q → cs = [] ∨ 0 < c) : Good P nb lim r h w o a (.int .i64 (min m n : Nat)) h' := by
 obtain rfl := arr2 hA
 rw [hxe] at hx
 obtain ⟨B', d, hx', h2, h3, h4⟩ := hx.slice_inv
 obtain ⟨vs, g1, g2⟩ := elems_run (P := P) hr hcs hy
 obtain ⟨bs, hc⟩ := builtin_run (P := P) (w := w) (a := a) ho
 have hl := len_run (P := P) (w := w) hm hy
 cases B with
 | none =>
  obtain ⟨rfl, rfl, rfl, rfl⟩ := h3 rfl
  simp only at ha
  injection ha with ha
  subst ha
  refine Good.same hr (v' := .int .i64 (min m 0 : Nat)) ?_ (.int _ _)
  rw [hc]
  simp [builtin, Builtin.copy_, hT, run_underlying hu, hx', hl, run_size hs, g1, goInt, Nat.min_def]
  have g1' := g1
  simp at g1'
  simp [g1']
 | some A0 =>
  obtain ⟨b, q, z⟩ := A0
  obtain ⟨h5, i, y', rfl, h6, h7, h8⟩ := h4 _ _ _ rfl
  simp only at ha
  obtain ⟨w', k1, k2⟩ := Post.write (P := P) hr h6 hlim ha g2 h7 (fun hne => h8 ((hcl _ rfl).resolve_left hne))
  refine Good.value (v' := .int .i64 (min m n : Nat)) (w' := w') ?_ k2 (.int _ _)
  rw [hc]
  have e1 : Nat.min m n = min m n := rfl
  simp [builtin, Builtin.copy_, hT, run_underlying hu, hx', hl, run_size hs, e1, g1, goInt, k1]
theorem good_clear (hr : HR nb r h w) (hlim : nb ≤ lim) {A : Array Operand} {T : Array TypeId} (ho : o.op = .call { callee := .builtin .clear, args := A, argTypes := T }) {x : Operand} (hA : A.toList = [x]) {t el : TypeId} (hT : T[0]? = some t) (hu : P.underlying t = some (.slice el)) {z : List Value} (hz : Rs.zero P el = some z) (hx : VR r (ev e x) (a.eval x))
  {B : Option Addr} {n c : Nat} (hxe : ev e x = .slice B n c)
  (ha : (match B with | none => some h | some ⟨b, q, _⟩ => aWrite lim h b q (reps z n)) = some h') : Good P nb lim r h w o a (.tuple #[]) h' := by
 obtain rfl := arr1 hA
 rw [hxe] at hx
 obtain ⟨B', d, hx', h2, h3, h4⟩ := hx.slice_inv
 obtain ⟨bs, hc⟩ := builtin_run (P := P) (w := w) (a := a) ho
 obtain ⟨zv, z1, z2, z3, z4⟩ := run_zero (w := w) hz
 cases B with
 | none =>
  obtain ⟨rfl, rfl, rfl, rfl⟩ := h3 rfl
  simp only at ha
  injection ha with ha
  subst ha
  refine Good.same hr (v' := .tuple #[]) ?_ (VR.undef _)
  rw [hc]
  simp [builtin, Builtin.clear_, hT, run_underlying hu, hx']
 | some A0 =>
  obtain ⟨b, q, zz⟩ := A0
  obtain ⟨h5, i, y', rfl, h6, h7, h8⟩ := h4 _ _ _ rfl
  simp only at ha
  have hfl : VL r (reps z n) (reps z n) := VL.flat (reps_flat z4 _).1
  obtain ⟨w', k1, k2⟩ := Post.write (P := P) hr h6 hlim ha hfl h7 (fun hne => h8 (by
   rcases Nat.eq_zero_or_pos n with h0 | h0
   ·subst h0; exact absurd rfl hne
   ·omega))
  refine Good.value (v' := .tuple #[]) (w' := w') ?_ k2 (VR.undef _)
  rw [hc]
  rcases Nat.eq_zero_or_pos n with h0 | h0
  ·subst h0
   simp only [reps, storeCells, Sem.run_pure] at k1
   injection k1 with _ k1
   subst k1
   simp [builtin, Builtin.clear_, hT, run_underlying hu, hx']
  ·obtain ⟨n', rfl⟩ : ∃ n', n = n' + 1 := ⟨n - 1, by omega⟩
   have hzc : (Builtin.zeroCells zv.cells (n' + 1)).toList = reps z (n' + 1) := by
    unfold Builtin.zeroCells
    rcases Nat.eq_zero_or_pos zv.cells.size with h0 | h0
    ·have : z = [] := by rw [← z2]; exact List.eq_nil_of_length_eq_zero (by simpa using h0)
     rw [h0, this]
     have : reps ([] : List Value) (n' + 1) = [] := List.eq_nil_of_length_eq_zero (by rw [reps_length]; simp)
     rw [this]
     simp
    ·rw [← z2]
     exact reps_array zv.cells h0 (n' + 1)
   simp [builtin, Builtin.clear_, hT, run_underlying hu, hx', z1, hzc, k1]
theorem bytes_loop {F : Value → ByteArray → Sem (ForInStep ByteArray)} (hF : ∀ n q, (F (.int .u8 n) q).run P w = .ok (.yield (q.push (UInt8.ofNat n.toNat))) w) : ∀ (cs : List Value) (l : List UInt8) (s : ByteArray), aBytes cs = some l →
  (forIn (m := Sem) cs s F).run P w = .ok (l.foldl ByteArray.push s) w
 | [], l, s, h => by simp [aBytes] at h; subst h; simp
 | c :: cs, l, s, h => by
  unfold aBytes at h
  split at h
  ·rename_i he; cases he
  ·rename_i n r he
   injection he with h1 h2
   subst h1; subst h2
   cases hr : aBytes cs with
   | none => simp [hr] at h
   | some l' =>
    simp [hr] at h
    subst h
    simp only [List.forIn_cons, Sem.run_bind, hF, Result.andThen_ok, List.foldl_cons]
    exact bytes_loop hF cs l' _ hr
  ·cases h
theorem foldl_push : ∀ (l : List UInt8) (s : ByteArray), l.foldl ByteArray.push s = ⟨s.data ++ l.toArray⟩
 | [], s => by cases s; simp
 | b :: l, s => by
  rw [List.foldl_cons, foldl_push l]
  cases s
  simp [ByteArray.push]
theorem aBytes_inv : ∀ {cs cs' : List Value} {l : List UInt8}, aBytes cs = some l → VL r cs cs' → cs' = cs
 | [], cs', l, _, hv => hv.nil_inv
 | c :: cs, cs', l, h, hv => by
  obtain ⟨c', cs', rfl, h1, h2⟩ := hv.cons_inv
  unfold aBytes at h
  split at h
  ·rename_i he; cases he
  ·rename_i n r he
   injection he with e1 e2
   subst e1; subst e2
   cases hr : aBytes cs with
   | none => simp [hr] at h
   | some l' => rw [h1.int_inv, aBytes_inv hr h2]
  ·cases h
theorem good_bytesStr (hr : HR nb r h w) {s d el : TypeId} {x : Operand} (ho : o.op = .convert s d x) (hs : P.underlying s = some (.slice el)) (hd : P.underlying d = some .string) (he : P.underlying el = some (.int .u8)) (hv : VR r (ev e x) (a.eval x)) {B : Option Addr} {n c : Nat} (hx : ev e x = .slice B n c) {cs : List Value} (hcs : aElems 1 h n (.slice B n c) = some cs) {l : List UInt8} (hl : aBytes cs = some l) :
  Good P nb lim r h w o a (.string ⟨l.toArray⟩) h := by
 rw [hx] at hv
 obtain ⟨vs, g1, g2⟩ := elems_run (P := P) hr hcs hv
 obtain ⟨B', d', hx', h2, h3, h4⟩ := hv.slice_inv
 refine Good.same hr (v' := .string ⟨l.toArray⟩) ?_ (.string _)
 rw [execOp, ho]
 have hvs := aBytes_inv hl g2
 rw [hx'] at g1
 simp only [hx']
 cases B' with
 | none =>
  have : cs = [] := by
   cases B with
   | none => simp [aElems] at hcs; exact hcs
   | some A0 =>
    obtain ⟨b, q, z⟩ := A0
    obtain ⟨_, i, y, hy, _⟩ := h4 b q z rfl
    cases hy
  subst this
  simp [aBytes] at hl
  subst hl
  simp [convert, run_underlying hs, run_underlying hd, run_underlying he, Conv.bytesToString]
  rfl
 | some y =>
  simp only [Builtin.firstCells, Nat.mul_one] at g1
  rw [hvs] at g1
  have hb := fun (F : Value → ByteArray → Sem (ForInStep ByteArray)) hF => bytes_loop (P := P) (w := w) (F := F) hF cs l ByteArray.empty hl
  rw [foldl_push, show (ByteArray.mk (ByteArray.empty.data ++ l.toArray)) = ⟨l.toArray⟩ from congrArg ByteArray.mk (Array.empty_append)] at hb
  simp only [convert, Sem.run_bind, run_underlying hs, run_underlying hd, run_underlying he, Result.andThen_ok, Conv.bytesToString, g1]
  rw [← Array.forIn_toList]
  rw [hb _ (fun n q => by simp)]
  simp
end
section
variable {P : Program} {nb lim : Nat} {r : Rho} {h h' : AH} {w : World} {e : Env} {a : Act} {v : Value} {o : Oper}
/-! ### maps -/
def KeyK (kk : Nat) (dt : TypeDesc) : Prop := (kk = 1 ∧ ∃ q, dt = .int q) ∨ (kk = 2 ∧ dt = .string)
theorem keyOk_inv {t : TypeId} {kk : Nat} (hk : Rs.keyOk P t = some kk) : ∃ dt, P.underlying t = some dt ∧ KeyK kk dt := by
 unfold Rs.keyOk at hk
 split at hk
 ·rename_i q hu; injection hk with hk; exact ⟨_, hu, .inl ⟨hk.symm, q, rfl⟩⟩
 ·rename_i hu; injection hk with hk; exact ⟨_, hu, .inr ⟨hk.symm, rfl⟩⟩
 ·cases hk
theorem checkKey_run {b : Bool} {t : TypeId} {dt : TypeDesc} {kk : Nat} (hu : P.underlying t = some dt) (hk : KeyK kk dt) (v : Value) : (Instr.checkKey b 10000 t v).run P w = .ok () w := by
 rw [Instr.checkKey, Sem.run_bind, run_underlying hu]
 rcases hk with ⟨_, q, rfl⟩ | ⟨_, rfl⟩ <;> rfl
theorem bytes_beq {x y : ByteArray} : (x == y) = true ↔ x = y := by
 rw [beq_toListBytes, beq_iff_eq, ByteArray.toList_eq, ByteArray.toList_eq]
 constructor
 ·intro h
  cases x
  cases y
  simp at h
  rw [h]
 ·intro h; rw [h]
theorem sameNow_of {kk : Nat} {dt : TypeDesc} (hk : KeyK kk dt) {x y : Value} {b : Bool} (he : eqK kk x y = some b) : Instr.sameNow dt x y = some b ∧ (b = true → y = x) := by
 rcases hk with ⟨rfl, q, rfl⟩ | ⟨rfl, rfl⟩
 ·obtain ⟨k, p, p', rfl, rfl, rfl⟩ := eqK1 he
  exact ⟨by simp [Instr.sameNow], fun h => by simp at h; rw [h]⟩
 ·obtain ⟨p, p', rfl, rfl, rfl⟩ := eqK2 he
  exact ⟨by simp [Instr.sameNow], fun h => by rw [bytes_beq.1 h]⟩
theorem eqK_self {kk : Nat} {x y x' : Value} {b : Bool} (he : eqK kk x y = some b) (hv : VR r x x') : x' = x := by
 unfold eqK at he
 split at he <;> first | (cases he; done) | (cases hv; rfl)
theorem findNow_of {kk : Nat} {dt : TypeDesc} (hk : KeyK kk dt) {k k' : Value} (hv : VR r k k') : ∀ (es : List (Value × Value)) (ces : List MapEntry) (i : Nat) (res : Option Value), ME r es ces → mapFind kk k es = some res →
  (res = none ∧ Instr.findNow dt k' ces i = some none ∧ ∀ x, mapPut kk k x es = es ++ [(k, x)]) ∨
  (∃ v j u q, res = some v ∧ Instr.findNow dt k' ces i = some (some (i + j, u)) ∧ VR r v u ∧ ces[j]? = some q ∧ q.key = k ∧ k' = k ∧ j < es.length ∧ ∀ x, mapPut kk k x es = es.set j (k, x))
 | [], ces, i, res, hm, hf => by
  have : ces = [] := List.eq_nil_of_length_eq_zero hm.1.symm
  subst this
  simp [mapFind] at hf
  exact .inl ⟨hf.symm, rfl, fun x => rfl⟩
 | (k1, v1) :: es, ces, i, res, hm, hf => by
  cases ces with
  | nil => have := hm.1; simp at this
  | cons c ces =>
   have h0 := hm.2 0 (k1, v1) c rfl rfl
   have hm' : ME r es ces := ⟨by have := hm.1; simpa using this, fun j e c he hc => hm.2 (j + 1) e c (by simpa using he) (by simpa using hc)⟩
   simp only [mapFind] at hf
   cases he : eqK kk k k1 with
   | none => simp [he] at hf
   | some b =>
    obtain ⟨h1, h2⟩ := sameNow_of hk he
    have hkk := eqK_self he hv
    subst hkk
    have h3 : Instr.sameNow dt k' c.key = some b := by rw [h0.1]; exact h1
    cases b with
    | true =>
     simp [he] at hf
     refine .inr ⟨v1, 0, c.val, c, hf.symm, by simp [Instr.findNow, h3], h0.2, rfl, by rw [h0.1]; exact h2 rfl, rfl, by simp, fun x => by simp [mapPut, he]⟩
    | false =>
     simp [he] at hf
     rcases findNow_of hk hv es ces (i + 1) res hm' hf with ⟨g1, g2, g3⟩ | ⟨v, j, u, q, g1, g2, g3, g4, g5, g6, g7, g8⟩
     ·exact .inl ⟨g1, by simp [Instr.findNow, h3, g2], fun x => by simp [mapPut, he, g3]⟩
     ·exact .inr ⟨v, j + 1, u, q, g1, by simp [Instr.findNow, h3, g2]; omega, g3, by simpa using g4, g5, g6, by simp; omega, fun x => by simp [mapPut, he, g8]⟩
theorem findKey_of {t : TypeId} {dt : TypeDesc} (hu : P.underlying t = some dt) {k : Value} {ces : List MapEntry} {q : Option (Nat × Value)} (hf : Instr.findNow dt k ces 0 = some q) : (Instr.findKey t k ces).run P w = .ok q w := by
 unfold Instr.findKey
 simp [run_underlying hu, hf]
theorem good_lookup0 (hr : HR nb r h w) {t kt et : TypeId} {m k : Operand} {ok : Bool} (ho : o.op = .lookup t m k ok) (hu : P.underlying t = some (.map kt et)) {kk : Nat} (hk : Rs.keyOk P kt = some kk) {z : Value} (hz : Rs.zero1 P et = some z) (hm : VR r (ev e m) (a.eval m)) (hme : ev e m = .map none) :
  Good P nb lim r h w o a (lookV z ok none) h := by
 obtain ⟨dt, hd, hK⟩ := keyOk_inv hk
 obtain ⟨z1, z2⟩ := run_zero1 (w := w) hz
 rw [hme] at hm
 have hm' : a.eval m = .map none := by generalize a.eval m = q at hm; cases hm; rfl
 have hfk : (Instr.findKey kt (a.eval k) []).run P w = .ok none w := findKey_of hd (by simp [Instr.findNow])
 refine Good.same hr (v' := if ok then .tuple #[z, .bool false] else z) ?_ ?_
 ·rw [execOp, ho]
  simp [Instr.lookup, run_underlying hu, hm', checkKey_run hd hK, hfk, z1]
 ·cases ok
  ·exact VR.flat z2
  ·exact VR.tupleL (VL.cons (VR.flat z2) (VL.cons (.bool _) (VL.nil _)))
theorem good_lookup (hr : HR nb r h w) {t kt et : TypeId} {m k : Operand} {ok : Bool} (ho : o.op = .lookup t m k ok) (hu : P.underlying t = some (.map kt et)) {kk : Nat} (hk : Rs.keyOk P kt = some kk) {z : Value} (hz : Rs.zero1 P et = some z) (hm : VR r (ev e m) (a.eval m)) (hv : VR r (ev e k) (a.eval k)) {b : Nat} (hme : ev e m = .map (some b)) {es : List (Value × Value)} (hb : h[b]? = some (.map es)) {res : Option Value} (hf : mapFind kk (ev e k) es = some res) :
  Good P nb lim r h w o a (lookV z ok res) h := by
 obtain ⟨dt, hd, hK⟩ := keyOk_inv hk
 obtain ⟨z1, z2⟩ := run_zero1 (w := w) hz
 rw [hme] at hm
 obtain ⟨i, hi, hm'⟩ := hm.map_inv
 obtain ⟨ces, clk, g1, g2⟩ := hr.map hi hb
 rcases findNow_of hK hv es ces.toList 0 res g2 hf with ⟨rfl, k1, k2⟩ | ⟨v, j, u, q, rfl, k1, k2, k3⟩
 ·have hfk := findKey_of (w := w) hd k1
  refine Good.same hr (v' := if ok then .tuple #[z, .bool false] else z) ?_ ?_
  ·rw [execOp, ho]
   simp [Instr.lookup, run_underlying hu, hm', run_getMap g1, checkKey_run hd hK, hfk, z1]
  ·cases ok
   ·exact VR.flat z2
   ·exact VR.tupleL (VL.cons (VR.flat z2) (VL.cons (.bool _) (VL.nil _)))
 ·have hfk := findKey_of (w := w) hd k1
  refine Good.same hr (v' := if ok then .tuple #[u, .bool true] else u) ?_ ?_
  ·rw [execOp, ho]
   simp [Instr.lookup, run_underlying hu, hm', run_getMap g1, checkKey_run hd hK, hfk, z1]
  ·cases ok
   ·exact k2
   ·exact VR.tupleL (VL.cons k2 (VL.cons (.bool _) (VL.nil _)))
theorem setObj_run {g : Nat} {ces : Array MapEntry} {clk : Nat} (hg : w.heap[g]? = some (.map ces clk)) (x : Obj) : (setObj g x).run P w = .ok () { w with heap := w.heap.setIfInBounds g x } := by simp [setObj, Sem.run, hg]
theorem sameBits_self {kk : Nat} {v : Value} {b : Bool} (he : eqK kk v v = some b) : Instr.sameBits 10000 v v = true := by
 cases v <;> unfold eqK at he <;> (try (split at he <;> cases ‹Value.bool _ = _›; done)) <;> first
  | (simp [Instr.sameBits]; done)
  | exact bytes_beq.2 rfl
  | (split at he <;> simp_all; done)
theorem good_mapSet (hr : HR nb r h w) (hlim : nb ≤ lim) {t kt et : TypeId} {m k x : Operand} (ho : o.op = .mapUpdate t m k x ∨ o.op = .insert t m k x) (hu : P.underlying t = some (.map kt et)) {kk : Nat} (hk : Rs.keyOk P kt = some kk) (hm : VR r (ev e m) (a.eval m)) (hv : VR r (ev e k) (a.eval k)) (hx : VR r (ev e x) (a.eval x)) {b : Nat} (hme : ev e m = .map (some b)) {es : List (Value × Value)} (hb : h[b]? = some (.map es)) (hl : lim ≤ b) (hkk : (eqK kk (ev e k) (ev e k)).isSome = true) {res : Option Value} (hf : mapFind kk (ev e k) es = some res) :
  Good P nb lim r h w o a undef (h.set b (.map (mapPut kk (ev e k) (ev e x) es))) := by
 obtain ⟨dt, hd, hK⟩ := keyOk_inv hk
 rw [hme] at hm
 obtain ⟨i, hi, hm'⟩ := hm.map_inv
 obtain ⟨ces, clk, g1, g2⟩ := hr.map hi hb
 have hown := hr.mine hi (Nat.le_trans hlim hl)
 obtain ⟨q0, hq0⟩ := Option.isSome_iff_exists.1 hkk
 have hke := eqK_self hq0 hv
 have hlt : i.blk < w.heap.size := hr.bd hi (by rw [hb]; rfl)
 have turn : ∀ (ces' : Array MapEntry) clk' es', ME r es' ces'.toList → Post nb lim r h w r (h.set b (.map es')) { w with heap := w.heap.setIfInBounds i.blk (.map ces' clk') } := fun ces' clk' es' hme => by
  refine Post.turn hr hi hown hl (by rw [hb]; rfl) (o := .map ces' clk') (fun c hc => ?_) ?_ (by simp) rfl rfl rfl hme
  ·simp [Array.getElem?_setIfInBounds, Ne.symm hc]
  ·simp [Array.getElem?_setIfInBounds, hlt]
 rcases findNow_of hK hv es ces.toList 0 res g2 hf with ⟨rfl, k1, k2⟩ | ⟨v, j, u, q, rfl, k1, k2, k3, k4, k5, k6, k7⟩
 ·have hfk := findKey_of (w := w) hd k1
  rw [k2]
  refine Good.skip (w' := { w with heap := w.heap.setIfInBounds i.blk (.map (ces.push { key := a.eval k, val := a.eval x, born := clk }) (clk + 1)) }) ?_ (turn _ _ _ ?_)
  ·rw [execOp]
   rcases ho with ho | ho <;> rw [ho] <;> simp [Instr.mapUpdate, run_underlying hu, hm', run_getMap g1, checkKey_run hd hK, hfk, setObj_run g1]
  ·refine ⟨by have := g2.1; simp; simpa using this, fun n e' c' he hc => ?_⟩
   simp only [Array.toList_push] at hc
   rw [List.getElem?_append] at he hc
   rw [← g2.1] at hc
   split at he
   ·rename_i hn; rw [if_pos hn] at hc; exact g2.2 n e' c' he hc
   ·rename_i hn
    rw [if_neg hn] at hc
    generalize n - es.length = p at he hc
    cases p with
    | zero => simp at he hc; subst he; subst hc; exact ⟨hke, hx⟩
    | succ p => simp at he
 ·have hfk := findKey_of (w := w) hd k1
  rw [k7]
  rw [k5] at hfk
  have hcj : ces[j]? = some q := by simpa using k3
  have hsame : Instr.sameBits 10000 q.key (ev e k) = true := by
   rw [k4]
   exact sameBits_self hq0
  have hstay : (Instr.keyThatStays q.key (ev e k)).run P w = .ok (ev e k) w := by unfold Instr.keyThatStays; rw [if_pos hsame]; rfl
  refine Good.skip (w' := { w with heap := w.heap.setIfInBounds i.blk (.map (ces.modify j fun c => { c with key := ev e k, val := a.eval x }) clk) }) ?_ (turn _ _ _ ?_)
  ·rw [execOp]
   rcases ho with ho | ho <;> rw [ho] <;> simp [Instr.mapUpdate, run_underlying hu, hm', hke, run_getMap g1, checkKey_run hd hK, hfk, hcj, hstay, setObj_run g1]
  ·refine ⟨by have := g2.1; simp; simpa using this, fun n e' c' he hc => ?_⟩
   rw [Array.toList_modify, List.getElem?_modify] at hc
   rw [List.getElem?_set] at he
   by_cases hn : j = n
   ·subst hn
    rw [if_pos rfl, if_pos k6] at he
    injection he with he
    subst he
    simp [hcj] at hc
    subst hc
    exact ⟨rfl, hx⟩
   ·rw [if_neg hn] at he
    simp [hn] at hc
    exact g2.2 n e' c' he (by simpa using hc)
end
section
variable {P : Program} {nb lim : Nat} {r : Rho} {h h' : AH} {w : World} {e : Env} {a : Act} {v : Value} {o : Oper}
theorem growBy_le (n : Nat) : ∀ (k c : Nat), c ≤ n + n / 4 + 192 → Builtin.growBy n k c ≤ n + n / 4 + 192
 | 0, c, h => h
 | k + 1, c, h => by
  unfold Builtin.growBy
  split
  ·exact h
  ·exact growBy_le n k _ (by omega)
theorem nextslicecap_le {n d : Nat} (h : d < n) : Builtin.nextslicecap n d ≤ n + n / 4 + 768 := by
 unfold Builtin.nextslicecap
 split
 ·omega
 ·split
  ·omega
  ·have := growBy_le n 4 d (by omega)
   omega
structure App (P : Program) (w : World) (T : Array TypeId) (x' : Value) (el : TypeId) (size bytes n : Nat) (vs : List Value) : Prop where
 t0 : ∃ t, T[0]? = some t ∧ P.underlying t = some (.slice el)
 sizeOf : Rs.size P el = some size
 bytesOf : Rs.bytes P el = some bytes
 zero : ∃ z, Rs.zero P el = some z
 tail : (∃ u d, T[1]? = some u ∧ P.underlying u = some d ∧ (d = .string ∨ ∃ q, d = .slice q) ∧ (Builtin.lenOf x').run P w = .ok n w ∧ ∀ w', w'.heap = w.heap → (Builtin.firstCells size n x').run P w' = .ok vs.toArray w') ∨
  (∃ u k z, T[1]? = some u ∧ P.underlying u = some (.int k) ∧ x' = .int .i64 n ∧ (n : Int) < 2 ^ 62 ∧ n * bytes ≤ 2 ^ 48 ∧ Rs.zero P el = some z ∧ vs = reps z n)
theorem append_in {T : Array TypeId} {ty : TypeId} {B : Option Addr} {len d n size bytes : Nat} {x' : Value} {el : TypeId} {vs : List Value} (A : App P w T x' el size bytes n vs) (hn : len + n ≤ d) :
    (Builtin.append_ T ty #[.slice B len d, x']).run P w = ((match B with | some b => storeCells (b.add (len * size)) vs | none => pure () : Sem Unit).run P w).andThen fun _ w' => .ok (.slice B (len + n) d) w' := by
  obtain ⟨t, ht, hu⟩ := A.t0
  obtain ⟨bi, b1, b2⟩ := run_bytes (w := w) A.bytesOf
  obtain ⟨z, hz⟩ := A.zero
  obtain ⟨zv, z1, z2, z3, z4⟩ := run_zero (w := w) hz
  rcases A.tail with ⟨u, du, hu1, hu2, hu3, hl, hf⟩ | ⟨u, k, z', hu1, hu2, rfl, h62, hb, hz', rfl⟩
  · have hf' := hf w rfl
    rcases hu3 with rfl | ⟨q, rfl⟩ <;> (cases B <;> simp [Builtin.append_, ht, hu1, run_underlying hu, run_underlying hu2, run_size A.sizeOf, hl, hn, hf'])
  · rw [hz] at hz'
    injection hz' with hz'
    subst hz'
    have hw : IntKind.i64.wrap (n : Int) = n := by rw [IntKind.wrap_i64]; omega
    have hbb : ¬ ((n : Int) * (bytes : Int) > 2 ^ 48) := by have : ((n * bytes : Nat) : Int) ≤ 2 ^ 48 := by exact_mod_cast hb
                                                            rw [Int.natCast_mul] at this; omega
    have hbb' : ¬ (281474976710656 < (n : Int) * (bytes : Int)) := by omega
    have hsz : Rs.size P el = some z.length := z3
    have hsize : size = z.length := by rw [A.sizeOf] at hsz; injection hsz
    have hn0 : ¬ ((n : Int) < 0) := by omega
    by_cases h0 : n * size = 0
    · have hr0 : reps z n = [] := List.eq_nil_of_length_eq_zero (by rw [reps_length, ← hsize]; exact h0)
      cases B <;> simp [Builtin.append_, ht, hu1, run_underlying hu, run_underlying hu2, run_size A.sizeOf, asInt, asIntOf, hw, hn0, b1, b2, hbb', hn, h0, hr0, storeCells]
    · have hzc : (Builtin.zeroCells zv.cells n).toList = reps z n := by
        unfold Builtin.zeroCells
        rw [← z2]
        refine reps_array zv.cells ?_ n
        have : zv.cells.size = z.length := by rw [← z2]; simp
        rw [this, ← hsize]
        exact Nat.pos_of_ne_zero fun h => h0 (by rw [h, Nat.mul_zero])
      cases B <;> simp [Builtin.append_, ht, hu1, run_underlying hu, run_underlying hu2, run_size A.sizeOf, asInt, asIntOf, hw, hn0, b1, b2, hbb', hn, h0, z1, hzc]
theorem append_new {T : Array TypeId} {ty : TypeId} {B : Option Addr} {len d n size bytes : Nat} {x' : Value} {el : TypeId} {vs old : List Value} (A : App P w T x' el size bytes n vs) (hn : ¬ len + n ≤ d) (hlim : (len + n + (len + n) / 4 + 768) * bytes ≤ 2 ^ 48) (h62 : len + n < 2 ^ 62) (hb0 : 0 < bytes)
  (hold : ∀ w' : World, w'.heap = w.heap → (Builtin.firstCells size len (.slice B len d)).run P w' = .ok old.toArray w') :
  ∃ (cap : Nat) (rest : Array Value), (len + n ≤ cap ∧ cap ≤ 9223372036854775807) ∧ rest.size = (cap - (len + n)) * size ∧
   (Builtin.append_ T ty #[.slice B len d, x']).run P w = .ok (.slice (some ⟨w.heap.size, 0, none⟩) (len + n) cap) (w.drew.alloc (.cells (old.toArray ++ (vs.toArray ++ rest)) el)) := by
 obtain ⟨t, ht, hu⟩ := A.t0
 obtain ⟨bi, b1, b2⟩ := run_bytes (w := w) A.bytesOf
 obtain ⟨bi', b1', b2'⟩ := run_bytes (w := w.drew) A.bytesOf
 obtain ⟨z, hz⟩ := A.zero
 obtain ⟨zv, z1, z2, z3, z4⟩ := run_zero (w := w) hz
 obtain ⟨zv', z1', z2', _, _⟩ := run_zero (w := w.drew) hz
 have hsize : size = z.length := by have := A.sizeOf; rw [z3] at this; injection this with this; exact this.symm
 have hzs' : zv'.cells.size = size := by rw [hsize, ← z2']; simp
 have hbig : ¬ (Builtin.nextslicecap (len + n) d * bytes > 2 ^ 48) := by
  have := nextslicecap_le (n := len + n) (d := d) (by omega)
  have := Nat.mul_le_mul_right bytes this
  omega
 have hbig' : ¬ (281474976710656 < Builtin.nextslicecap (len + n) d * bytes) := by omega
 have hmax : ¬ (((len + n : Nat) : Int) > IntKind.i64.max) := by
  have : IntKind.i64.max = 9223372036854775807 := by decide
  omega
 have hmax' : ¬ (IntKind.i64.max < (len : Int) + (n : Int)) := by
  have : IntKind.i64.max = 9223372036854775807 := by decide
  omega
 have hm3 : ¬ (9223372036854775807 < (len : Int) + (n : Int)) := by omega
 have hforced : (Question.appendCap (len + n) d el).forced = false := rfl
 let cap := (Question.appendCap (len + n) d el).cut (w.tape w.drawn (.appendCap (len + n) d el))
 have hcap : len + n ≤ cap := by show len + n ≤ len + n + _ % _; omega
 have hcap63 : cap ≤ 9223372036854775807 := by
  show len + n + w.tape w.drawn (.appendCap (len + n) d el) % (2 ^ 63 - (len + n)) ≤ _
  have := Nat.mod_lt (w.tape w.drawn (.appendCap (len + n) d el)) (show 0 < 2 ^ 63 - (len + n) by omega)
  omega
 have hq := hold w.drew rfl
 have hzc : ∀ m, (Builtin.zeroCells zv'.cells m).size = m * size := fun m => by simp [Builtin.zeroCells, hzs']
 refine ⟨cap, Builtin.zeroCells zv'.cells (cap - (len + n)), ⟨hcap, hcap63⟩, hzc _, ?_⟩
 rcases A.tail with ⟨u, du, hu1, hu2, hu3, hl, hf⟩ | ⟨u, k, z', hu1, hu2, rfl, h62', hb, hz', rfl⟩
 ·have hf' := hf w.drew rfl
  rcases hu3 with rfl | ⟨q, rfl⟩ <;> (simp [Builtin.append_, ht, hu1, run_underlying hu, run_underlying hu2, run_size A.sizeOf, hl, hn, b1, b2, hbig', hforced, b1', b2', hq, hf', z1', newRow, cap, Nat.ne_of_gt hb0, hmax', hm3])
 ·rw [hz] at hz'
  injection hz' with hz'
  subst hz'
  have hw : IntKind.i64.wrap (n : Int) = n := by rw [IntKind.wrap_i64]; omega
  have hbb' : ¬ (281474976710656 < (n : Int) * (bytes : Int)) := by
   have : ((n * bytes : Nat) : Int) ≤ 2 ^ 48 := by exact_mod_cast hb
   rw [Int.natCast_mul] at this
   omega
  have hn0 : ¬ ((n : Int) < 0) := by omega
  by_cases h0 : n * size = 0
  ·have hr0 : reps z n = [] := List.eq_nil_of_length_eq_zero (by rw [reps_length, ← hsize]; exact h0)
   simp [Builtin.append_, ht, hu1, run_underlying hu, run_underlying hu2, run_size A.sizeOf, asInt, asIntOf, hw, hn0, b1, b2, hbb', hn, h0, hr0, hbig', hforced, b1', b2', hq, z1', newRow, cap, Nat.ne_of_gt hb0, hmax', hm3]
  ·have hzc' : Builtin.zeroCells zv'.cells n = (reps z n).toArray := by
    apply Array.ext'
    unfold Builtin.zeroCells
    rw [← z2']
    have := reps_array zv'.cells (by rw [hzs']; exact Nat.pos_of_ne_zero fun h => h0 (by rw [h, Nat.mul_zero])) n
    simpa using this
   simp [Builtin.append_, ht, hu1, run_underlying hu, run_underlying hu2, run_size A.sizeOf, asInt, asIntOf, hw, hn0, b1, b2, hbb', hn, h0, hbig', hforced, b1', b2', hq, z1', hzc', newRow, cap, Nat.ne_of_gt hb0, hmax', hm3]
end
section
variable {P : Program} {nb lim : Nat} {r : Rho} {h h' : AH} {w : World} {e : Env} {a : Act} {v : Value} {o : Oper}
theorem Post.kill (hr : HR nb r h w) (b : Nat) : Post nb lim r h w r (h.set b .dead) w := by
 have get : ∀ {c : Nat} {y : Blk}, (h.set b .dead)[c]? = some y → live (some y) = true → h[c]? = some y := fun {c y} hy hl => by
  rw [List.getElem?_set] at hy
  split at hy
  ·split at hy
   ·injection hy with hy; subst hy; cases hl
   ·cases hy
  ·exact hy
 have back : ∀ {c : Nat}, live (h.set b .dead)[c]? = true → live h[c]? = true := fun {c} hl => by
  cases hy : (h.set b .dead)[c]? with
  | none => rw [hy] at hl; cases hl
  | some y => rw [hy] at hl; rw [get hy hl]; exact hl
 refine ⟨⟨fun hb hh => hr.cells hb (get hh rfl), fun hb ho hh => hr.own hb ho (get hh rfl), fun {c c' i i'} hb hb' ho hl hl' he => ?_, fun hb hh => hr.map hb (get hh rfl), fun hb hl => hr.bd hb (back hl), hr.mine, hr.glob⟩, Rho.Le.refl r, fun h => .inl h, by simp, rfl, rfl, rfl, Nat.le_refl _, fun _ _ _ => rfl⟩
 have back : ∀ {c : Nat}, live (h.set b .dead)[c]? = true → live h[c]? = true := fun {c} hl => by
  cases hy : (h.set b .dead)[c]? with
  | none => rw [hy] at hl; cases hl
  | some y => rw [hy] at hl; rw [get hy hl]; exact hl
 exact hr.inj hb hb' ho (back hl) (back hl') he
theorem Post.reuse (hr : HR nb r h w) {b base : Nat} {i : Im} {cs0 cs : List Value} {ccs : Array Value} {t : TypeId} {w' : World} (hb : r b = some i) (hown : i.own = true) (hlim : lim ≤ b) (hlive : h[b]? = some (.cells cs0)) (hf : r h.length = none)
  (hw : ∀ k, k ≠ i.blk → w'.heap[k]? = w.heap[k]?) (hwb : w'.heap[i.blk]? = some (.cells ccs t (0, 0))) (hs : w'.heap.size = w.heap.size) (hos : w'.os = w.os) (htp : w'.tape = w.tape) (hout : w'.output = w.output)
  (h1 : ccs.size = i.csz) (h2 : base + cs.length ≤ i.csz) (h3 : ∀ (j : Nat) u, cs[j]? = some u → ∃ v, ccs[base + j]? = some v ∧ VR r u v) :
  Post nb lim r h w (r.put h.length ⟨i.blk, base, i.csz, true⟩) (h.set b .dead ++ [.cells cs]) w' := by
 have hlt : b < h.length := (List.getElem?_eq_some_iff.1 hlive).1
 have hle := Rho.put_le (r := r) (i := ⟨i.blk, base, i.csz, true⟩) hf
 have get : ∀ {c : Nat} {y : Blk}, (h.set b .dead ++ [.cells cs])[c]? = some y → live (some y) = true → (c = h.length ∧ y = .cells cs) ∨ (c ≠ b ∧ c ≠ h.length ∧ h[c]? = some y) := fun {c y} hy hl => by
  rw [List.getElem?_append] at hy
  split at hy
  ·rename_i hc
   simp at hc
   by_cases hbc : b = c
   ·subst hbc
    rw [List.getElem?_set_self hc] at hy
    injection hy with hy; subst hy; cases hl
   ·rw [List.getElem?_set_ne hbc] at hy
    exact .inr ⟨fun h => hbc h.symm, by omega, hy⟩
  ·rename_i hc
   have hl2 := (List.getElem?_eq_some_iff.1 hy).1
   simp at hc hl2
   have : c = h.length := by omega
   subst this
   simp at hy
   exact .inl ⟨rfl, hy.symm⟩
 have far : ∀ {c : Nat} {j : Im} {y : Blk}, r c = some j → c ≠ b → h[c]? = some y → live (some y) = true → j.blk ≠ i.blk := fun {c j y} hc hne hy hl he =>
  hne (hr.inj hb hc hown (by rw [hlive]; rfl) (by rw [hy]; exact hl) he.symm).symm
 refine ⟨⟨?_, ?_, ?_, ?_, ?_, ?_, ?_⟩, hle, ?_, by simp, hos, htp, hout, by omega, fun c hc hn => hw c fun he => hn ⟨b, i, hlim, hlt, hb, hown, he.symm⟩⟩
 ·intro c j ds hc hh q u hu
  rcases get hh rfl with ⟨rfl, hy⟩ | ⟨g1, g2, g3⟩
  ·injection hy with hy
   subst hy
   rcases Rho.put_inv hc with ⟨_, rfl⟩ | ⟨hne, _⟩
   ·obtain ⟨v, hv, k⟩ := h3 q u hu
    exact ⟨v, by rw [cell_of_cells hwb]; exact hv, k.mono hle⟩
   ·exact absurd rfl hne
  ·rcases Rho.put_inv hc with ⟨rfl, _⟩ | ⟨_, hc'⟩
   ·exact absurd rfl g2
   ·obtain ⟨v, hv, k⟩ := hr.cells hc' g3 q u hu
    refine ⟨v, ?_, k.mono hle⟩
    unfold World.cell? at *
    rw [hw _ (far hc' g1 g3 rfl)]
    exact hv
 ·intro c j ds hc ho hh
  rcases get hh rfl with ⟨rfl, hy⟩ | ⟨g1, g2, g3⟩
  ·injection hy with hy
   subst hy
   rcases Rho.put_inv hc with ⟨_, rfl⟩ | ⟨hne, _⟩
   ·exact ⟨_, _, hwb, h1, h2⟩
   ·exact absurd rfl hne
  ·rcases Rho.put_inv hc with ⟨rfl, _⟩ | ⟨_, hc'⟩
   ·exact absurd rfl g2
   ·rw [hw _ (far hc' g1 g3 rfl)]
    exact hr.own hc' ho g3
 ·intro c c' j j' hc hc' ho hl hl' he
  have key : ∀ {c : Nat} {j : Im}, (r.put h.length ⟨i.blk, base, i.csz, true⟩) c = some j → live (h.set b .dead ++ [.cells cs])[c]? = true → (c = h.length ∧ j.blk = i.blk) ∨ (c ≠ b ∧ r c = some j ∧ live h[c]? = true ∧ j.blk ≠ i.blk) := fun {c j} hc hl => by
   cases hy : (h.set b .dead ++ [.cells cs])[c]? with
   | none => rw [hy] at hl; cases hl
   | some y =>
    rw [hy] at hl
    rcases get hy hl with ⟨rfl, _⟩ | ⟨g1, g2, g3⟩
    ·rcases Rho.put_inv hc with ⟨_, rfl⟩ | ⟨hne, _⟩
     ·exact .inl ⟨rfl, rfl⟩
     ·exact absurd rfl hne
    ·rcases Rho.put_inv hc with ⟨rfl, _⟩ | ⟨_, hc'⟩
     ·exact absurd rfl g2
     ·exact .inr ⟨g1, hc', by rw [g3]; exact hl, far hc' g1 g3 hl⟩
  rcases key hc hl with ⟨k1, k2⟩ | ⟨k1, k2, k3, k4⟩ <;> rcases key hc' hl' with ⟨m1, m2⟩ | ⟨m1, m2, m3, m4⟩
  ·rw [k1, m1]
  ·exact absurd (he.symm.trans k2) m4
  ·exact absurd (he.trans m2) k4
  ·exact hr.inj k2 m2 ho k3 m3 he
 ·intro c j es hc hh
  rcases get hh rfl with ⟨rfl, hy⟩ | ⟨g1, g2, g3⟩
  ·cases hy
  ·rcases Rho.put_inv hc with ⟨rfl, _⟩ | ⟨_, hc'⟩
   ·exact absurd rfl g2
   ·obtain ⟨ces, clk, k1, k2⟩ := hr.map hc' g3
    exact ⟨ces, clk, by rw [hw _ (far hc' g1 g3 rfl)]; exact k1, k2.mono hle⟩
 ·intro c j hc hl
  rw [hs]
  rcases Rho.put_inv hc with ⟨_, e⟩ | ⟨hne, hc'⟩
  ·rw [e]; show i.blk < _; exact hr.bd hb (by rw [hlive]; rfl)
  ·refine hr.bd hc' ?_
   cases hy : (h.set b .dead ++ [.cells cs])[c]? with
   | none => rw [hy] at hl; cases hl
   | some y =>
    rw [hy] at hl
    rcases get hy hl with ⟨rfl, _⟩ | ⟨_, _, g3⟩
    ·exact absurd rfl hne
    ·rw [g3]; exact hl
 ·intro c j hc hn
  rcases Rho.put_inv hc with ⟨rfl, rfl⟩ | ⟨_, hc'⟩
  ·rfl
  ·exact hr.mine hc' hn
 ·intro p hp
  obtain ⟨⟨t, z, g1⟩, g2⟩ := hr.glob p hp
  refine ⟨⟨t, z, by rw [hw _ (Ne.symm (g2 hb hown))]; exact g1⟩, fun {c j} hc ho => ?_⟩
  rcases Rho.put_inv hc with ⟨_, rfl⟩ | ⟨_, hc'⟩
  ·exact (g2 hb hown : i.blk ≠ p.1)
  ·exact g2 hc' ho
 ·intro c j hc
  rcases Rho.put_inv hc with ⟨rfl, rfl⟩ | ⟨_, hc'⟩
  ·exact .inr ⟨Nat.le_refl _, by simp, rfl, .inr ⟨b, i, hlim, hlt, hb, hown, rfl⟩⟩
  ·exact .inl hc'
theorem aElems_length {size n : Nat} {s : Value} {cs : List Value} (ha : aElems size h n s = some cs) (hs : ∀ t, s ≠ .string t) (hn : ∀ c m, s = .slice none c m → n = 0) : cs.length = n * size := by
 unfold aElems at ha
 split at ha
 ·injection ha with ha; subst ha; rw [hn _ _ rfl]; simp
 ·split at ha
  ·rename_i b q m n' c hh
   split at ha
   ·rename_i h0; injection ha with ha; subst ha; simp [h0]
   cases hc : cellsOf h b with
   | none => simp [hc] at ha
   | some ds =>
    simp only [hc, Option.bind_some] at ha
    split at ha
    ·injection ha with ha; subst ha; simp; omega
    ·cases ha
  ·cases ha
 ·exact absurd rfl (hs _)
 ·cases ha
theorem drew_post (hr : HR nb r h w) : Post nb lim r h w r h w.drew := ⟨hr.same rfl, Rho.Le.refl r, fun h => .inl h, Nat.le_refl _, rfl, rfl, rfl, Nat.le_refl _, fun _ _ _ => rfl⟩
theorem append_core (hr : HR nb r h w) (hlim : nb ≤ lim) {T : Array TypeId} {ty : TypeId} {s s' x' : Value} {el : TypeId} {size bytes n : Nat} {news vs : List Value} (A : App P w T x' el size bytes n vs) (hv : VL r news vs) (hlen : news.length = n * size) (hs : VR r s s') (hs0 : 0 < size)
  (ha : aAppend lim size bytes h s n news = some (v, h')) (hf : Fresh r h h') :
  ∃ v' w' r', (Builtin.append_ T ty #[s', x']).run P w = .ok v' w' ∧ Post nb lim r h w r' h' w' ∧ VR r' v v' := by
 unfold aAppend at ha
 split at ha
 case h_2 => cases ha
 rename_i B len cap
 have hvl := hv.1
 split at ha
 ·-- there is room
  rename_i hroom
  obtain ⟨B', d, rfl, hd, hB0, hB1⟩ := hs.slice_inv
  have hrun := append_in (w := w) (ty := ty) (B := B') (len := len) (d := d) A (by omega)
  cases B with
  | none =>
   obtain ⟨rfl, rfl, rfl, rfl⟩ := hB0 rfl
   simp only at ha
   injection ha with ha
   injection ha with e1 e2
   subst e1; subst e2
   have hn0 : n = 0 := by omega
   subst hn0
   refine ⟨_, w, r, hrun, Post.refl hr, .slc0⟩
  | some A0 =>
   obtain ⟨b, q, m⟩ := A0
   simp only at ha
   cases hw : aWrite lim h b (q + len * size) news with
   | none => simp [hw] at ha
   | some h2 =>
    simp [hw] at ha
    obtain ⟨rfl, rfl⟩ := ha
    obtain ⟨hle, i, y, rfl, hi, hy, ho⟩ := hB1 b q m rfl
    obtain ⟨w', k1, k2⟩ := Post.write (P := P) hr hi hlim hw hv (a := y.add (len * size)) (by rw [add_block]; exact hy) (fun hne => by
     have hc : 0 < cap := by
      rcases Nat.eq_zero_or_pos cap with h0 | h0
      ·have : n = 0 := by omega
       subst this
       simp at hlen
       exact absurd hlen hne
      ·exact h0
     obtain ⟨o1, o2⟩ := ho hc
     have := add_of o1 o2 (len * size)
     exact ⟨by rw [this.1]; omega, this.2⟩)
    simp only [k1, Result.andThen_ok] at hrun
    refine ⟨_, w', r, hrun, k2, ?_⟩
    cases hs with
    | slc _ _ _ _ i' a' g1 g2 g3 g4 => exact .slc _ _ _ _ i' _ g1 g2 g3 (by omega)
    | slcIn _ _ z _ _ _ i' a' g1 g2 g3 g4 g5 g6 => exact .slcIn _ _ z _ _ _ i' _ g1 g2 g3 (by omega) g5 g6
 ·rename_i hroom
  split at ha
  ·rename_i hcond
   obtain ⟨hbig, h62, hb0, hok⟩ := hcond
   cases hold : aElems size h len (.slice B len cap) with
   | none => simp [hold] at ha
   | some old =>
    simp only [hold, Option.bind_some] at ha
    obtain ⟨B', d, rfl, hd, hB0, hB1⟩ := hs.slice_inv
    have holdlen : old.length = len * size := aElems_length hold (fun t => by simp) (fun c m he => by injection he with e1 e2 e3; subst e1; exact (hB0 rfl).2.1)
    obtain ⟨os, ho1', ho2⟩ := elems_run2 (P := P) hr hold hs
    have holdr := ho2.1
    -- a new block
    have fresh : ∀ (h0 : AH), h0.length = h.length → HR nb r h0 w → Post nb lim r h w r h0 w → ¬ len + n ≤ d → r h.length = none →
      ∃ v' w' r', (Builtin.append_ T ty #[.slice B' len d, x']).run P w = .ok v' w' ∧ Post nb lim r h w r' (h0 ++ [.cells (old ++ news)]) w' ∧ VR r' (.slice (some ⟨h.length, 0, some size⟩) (len + n) (len + n)) v' := by
     intro h0 hl0 hr0 hp0 hnd hfr
     obtain ⟨c, rest, ⟨c1, c63⟩, c2, c3⟩ := append_new (w := w) (ty := ty) A hnd hbig h62 hb0 ho1'
     have hr1 : HR nb r h0 w.drew := hr0.same rfl
     have hsz : (os.toArray ++ (vs.toArray ++ rest)).size = c * size := by
      simp only [Array.size_append, List.size_toArray, c2, ← holdr, holdlen, ← hvl, hlen]
      rw [← Nat.add_assoc, ← Nat.add_mul, ← Nat.add_mul]
      congr 1
      omega
     have hpa := Post.alloc (lim := lim) (x := .cells (old ++ news)) (o := .cells (os.toArray ++ (vs.toArray ++ rest)) el) (csz := c * size) hr1 (by rw [hl0]; exact hfr) ⟨rfl, hsz, by
       rw [List.length_append, holdlen, hlen, ← Nat.add_mul]; exact Nat.mul_le_mul_right _ c1, fun j u hu => by
       obtain ⟨u', g1, g2⟩ := (ho2.append hv).get hu
       refine ⟨u', ?_, g2⟩
       have hj : j < (os ++ vs).length := (List.getElem?_eq_some_iff.1 g1).1
       have e : (os.toArray ++ (vs.toArray ++ rest)).toList = (os ++ vs) ++ rest.toList := by simp
       rw [← Array.getElem?_toList, e, List.getElem?_append_left hj]
       exact g1⟩
     rw [hl0] at hpa
     refine ⟨_, _, _, c3, hp0.trans ((drew_post hr0).trans hpa (fun b h1 h2 => by omega)) (fun b h1 h2 => by rw [hl0] at h2; omega), ?_⟩
     exact .slcIn _ _ _ _ _ _ ⟨w.heap.size, 0, c * size, true⟩ _ (Rho.put_same _ _) rfl (fun _ => ⟨rfl, rfl⟩) (Nat.le_refl _) c1 (fun _ _ => ⟨by simp, c63⟩)
    have hfr : r h.length = none := by
     have hh : h.length < h'.length := by
      cases B with
      | none => simp only at ha; injection ha with ha; injection ha with e1 e2; subst e2; simp
      | some A0 =>
       obtain ⟨b, q, m⟩ := A0
       cases m with
       | none => simp only at ha; injection ha with ha; injection ha with e1 e2; subst e2; simp
       | some z =>
        simp only at ha
        split at ha
        ·cases hc : cellsOf h b with
         | none => simp [hc] at ha
         | some ds =>
          simp only [hc, Option.bind_some] at ha
          split at ha
          ·injection ha with ha; injection ha with e1 e2; subst e2; simp
          ·cases ha
        ·cases ha
     exact hf _ (Nat.le_refl _) hh
    cases B with
    | none =>
     simp only at ha
     injection ha with ha
     injection ha with e1 e2
     subst e1; subst e2
     obtain ⟨rfl, rfl, rfl, rfl⟩ := hB0 rfl
     exact fresh h rfl hr (Post.refl hr) (by omega) hfr
    | some A0 =>
     obtain ⟨b, q, m⟩ := A0
     cases m with
     | none =>
      simp only at ha
      injection ha with ha
      injection ha with e1 e2
      subst e1; subst e2
      have : d = cap := by cases hs; rfl
      subst this
      exact fresh h rfl hr (Post.refl hr) hroom hfr
     | some z =>
      simp only at ha
      split at ha
      ·rename_i hz
       obtain ⟨hlb, rfl⟩ := hz
       cases hc : cellsOf h b with
       | none => simp [hc] at ha
       | some ds =>
        simp only [hc, Option.bind_some] at ha
        split at ha
        ·rename_i hds
         injection ha with ha
         injection ha with e1 e2
         subst e1; subst e2
         by_cases hnd : len + n ≤ d
         ·-- Go has room: the old block is taken
          obtain ⟨hle, i, y, rfl, hi, hy, _⟩ := hB1 b q _ rfl
          have hown := hr.mine hi (Nat.le_trans hlim hlb)
          obtain ⟨ccs, t, g1, g2, g3⟩ := hr.own hi hown (cellsOf_iff.1 hc)
          have hd0 : 0 < d := by omega
          obtain ⟨o1, o2, hcs⟩ : y.off = i.base + q ∧ y.spot = none ∧ (i.base + q + d * z ≤ i.csz ∧ d ≤ 9223372036854775807) := by
           cases hs with
           | slcIn _ _ _ _ _ _ i' a' k1 k2 k3 k4 k5 k6 =>
            rw [hi] at k1
            injection k1 with k1
            subst k1
            exact ⟨(k3 (.inr ⟨hown, hd0⟩)).1, (k3 (.inr ⟨hown, hd0⟩)).2, k6 hown hd0⟩
          obtain ⟨yb, yo, ys⟩ := y
          simp only at hy o1 o2
          subst hy; subst o1; subst o2
          have hrun := append_in (w := w) (ty := ty) (B := some ⟨i.blk, i.base + q, none⟩) (len := len) (d := d) A hnd
          have hne : (len + n) * z ≤ d * z := Nat.mul_le_mul_right _ hnd
          have hvsl : vs.length = n * z := by rw [← hvl, hlen]
          rw [Nat.add_mul] at hne
          simp only [addr_add] at hrun
          rw [run_storeCells_at P i.blk (i.base + q + len * z) t vs 0 ccs w g1 (by rw [g2]; omega) (fun u hu => by
           have := hv.all_cellOk hok
           rw [List.all_eq_true] at this
           have := this u hu
           cases u <;> simp_all [cellOk, Value.oneCell'])] at hrun
          simp only [Result.andThen_ok, Nat.add_zero] at hrun
          have hccs : ccs.size = i.csz := g2
          refine ⟨_, _, _, hrun, Post.reuse (base := i.base + q) hr hi hown hlb (cellsOf_iff.1 hc) hfr (fun k hk => setRow_other w i.blk k _ hk) (setRow_heap w i.blk ccs _ t _ g1) (by simp) rfl rfl rfl ?_ ?_ ?_, .slcIn _ _ _ _ _ _ ⟨i.blk, i.base + q, i.csz, true⟩ _ (Rho.put_same _ _) rfl (fun _ => ⟨by simp, rfl⟩) (Nat.le_refl _) hnd (fun _ _ => ⟨by simpa using hcs.1, hcs.2⟩)⟩
          ·simp
           omega
          ·rw [List.length_append, holdlen, hlen]
           omega
          ·intro j u hu
           have e : (ccs.toList.take (i.base + q + len * z) ++ vs ++ ccs.toList.drop (i.base + q + len * z + vs.length)).toArray[i.base + q + j]? = (over ccs.toList (i.base + q + len * z) vs)[i.base + q + j]? := by simp [over]
           rw [e, over_get _ _ _ (by simp; omega)]
           rw [List.getElem?_append] at hu
           split at hu
           ·rename_i hj
            rw [if_neg (by omega)]
            -- an old cell
            have : aElems z h len (.slice (some ⟨b, q, some z⟩) len cap) = some ((ds.drop q).take (len * z)) := by
             have hold' := hold
             simp only [aElems, hc, Option.bind_some] at hold' ⊢
             by_cases p1 : len ≤ cap
             ·rw [if_pos p1] at hold' ⊢
              rw [if_neg (by omega)] at hold' ⊢
              by_cases p2 : q + len * z ≤ ds.length
              ·rw [if_pos p2]
              ·rw [if_neg p2] at hold'; cases hold'
             ·rw [if_neg p1] at hold'; cases hold'
            rw [this] at hold
            injection hold with hold
            rw [← hold, List.getElem?_take] at hu
            split at hu
            ·rw [List.getElem?_drop] at hu
             obtain ⟨u', g4, g5⟩ := hr.cells hi (cellsOf_iff.1 hc) (q + j) u hu
             exact ⟨u', by rw [cell_of_cells g1] at g4; rw [Nat.add_assoc]; simpa using g4, g5⟩
            ·cases hu
           ·rename_i hj
            obtain ⟨u', g4, g5⟩ := hv.get hu
            have hju := (List.getElem?_eq_some_iff.1 hu).1
            rw [if_pos (by omega), show i.base + q + j - (i.base + q + len * z) = j - old.length by omega]
            exact ⟨u', g4, g5⟩
         ·exact fresh (h.set b .dead) (by simp) (Post.kill (lim := lim) hr b).hr (Post.kill hr b) hnd hfr
        ·cases ha
      ·cases ha
  ·cases ha
end
section
variable {P : Program} {nb lim : Nat} {r : Rho} {h h' : AH} {w : World} {e : Env} {a : Act} {v : Value} {o : Oper}
def Enters (P : Program) (f : FuncId) : Prop := ∀ (args : Array Value) (w : World), (callFunc f args).run P w = .ok (.enter f args) w
def CallS (P : Program) (nb : Nat) (call : Callee) : Prop :=
 ∀ (lim : Nat) (f : FuncId) (args : List Value) (h : AH) (v : Value) (h' : AH) (r : Rho) (w : World) (args' : List Value), nb ≤ lim → lim ≤ h.length → call lim f args h = some (v, h') → HR nb r h w → Fresh r h h' → VL r args args' →
  Enters P f ∧ Calls P f args'.toArray w (fun e w' => ∃ r' v', e = .returned v' ∧ Post nb lim r h w r' h' w' ∧ VR r' v v')
theorem VR.func_inv {fn : Fn} {f c : Array Value} {x : Value} (hx : VR r (.func fn f c) x) : ∃ f' c', x = .func fn f' c' ∧ VL r f.toList f'.toList ∧ VL r c.toList c'.toList := by
 cases hx with
 | func _ _ f' _ c' h1 h2 k1 k2 => exact ⟨f', c', rfl, VL.of_arr h1 k1, VL.of_arr h2 k2⟩
theorem good_call {call : Callee} (hc : CallS P nb call) (hr : HR nb r h w) (hlim : nb ≤ lim) (hll : lim ≤ h.length) {c : Call} (ho : o.op = .call c) {f : Operand} (hcal : c.callee = .value f) (hfx : VR r (ev e f) (a.eval f)) (hE : ∀ x ∈ c.args.toList, VR r (ev e x) (a.eval x))
  {g : FuncId} {first captured : Array Value} (hfe : ev e f = .func (.func g) first captured) (ha : call lim g (first.toList ++ c.args.toList.map (ev e) ++ captured.toList) h = some (v, h')) (hf : Fresh r h h') : Good P nb lim r h w o a v h' := by
 rw [hfe] at hfx
 obtain ⟨f', c', h1, h2, h3⟩ := hfx.func_inv
 obtain ⟨k1, k2⟩ := hc lim g _ h v h' r w ((f'.toList ++ c.args.toList.map a.eval) ++ c'.toList) hlim hll ha hr hf ((h2.append (VL.map hE)).append h3)
 intro K Q hK
 unfold Oper.wp
 have hex : (execOp a.eval o).run P w = .ok (.enter g ((f'.toList ++ c.args.toList.map a.eval) ++ c'.toList).toArray) w := by
  rw [execOp, ho]
  have hk := k1 ((f'.toList ++ c.args.toList.map a.eval) ++ c'.toList).toArray w
  have e1 : (f' ++ c.args.map a.eval) ++ c' = ((f'.toList ++ c.args.toList.map a.eval) ++ c'.toList).toArray := by
   apply Array.ext'
   simp
  simp only [resolve, hcal, h1, Deferred.ofValue, Sem.run_bind, Sem.run_pure, Result.andThen_ok, invoke, e1, hk]
 rw [hex, Oper.upon_enter]
 refine k2.mono fun e' w' he => ?_
 obtain ⟨r', v', rfl, p1, p2⟩ := he
 exact hK r' v' w' p1 p2
theorem nilLen {x x' : Value} {m : Nat} (hx : VR r x x') : ∀ c, x ≠ .slice none m c ∨ m = 0 := fun c => by
 by_cases h0 : m = 0
 ·exact .inr h0
 ·refine .inl fun he => ?_
  rw [he] at hx
  cases hx
  exact h0 rfl
theorem newsLen' {size n m : Nat} {x : Value} {cs : List Value} (hcs : aElems size h n x = some cs) (hn : n ≤ m) (hm : aLen x = some m) (hnil : ∀ c, x ≠ .slice none m c ∨ m = 0) : cs.length = n * size := by
 unfold aLen at hm
 split at hm
 ·rename_i A l c
  injection hm with hm
  subst hm
  refine aElems_length hcs (fun t => by simp) (fun c' m' he => ?_)
  injection he with e1 e2 e3
  subst e1
  rcases hnil c with h1 | h1
  ·exact absurd rfl h1
  ·omega
 ·rename_i s
  injection hm with hm
  subst hm
  unfold aElems at hcs
  simp only at hcs
  split at hcs
  ·rename_i h1
   injection hcs with hcs
   subst hcs
   subst h1
   have : (s.extract 0 n).size = n := by rw [ByteArray.size_extract]; omega
   rw [Array.length_toList, Array.size_map, Nat.mul_one]
   exact this
  ·cases hcs
 ·cases hm
theorem rop_good {call : Callee} (hc : CallS P nb call) (hr : HR nb r h w) (hlim : nb ≤ lim) (hll : lim ≤ h.length) {p : ROp} (hp : Rs.rop P o.op = some p) (hE : ∀ x ∈ o.op.operands.toList, VR r (ev e x) (a.eval x)) (ha : aop call lim e h p = some (v, h')) (hf : Fresh r h h') : Good P nb lim r h w o a v h' := by
  unfold Rs.rop at hp
  split at hp
  case isFalse => cases hp
  rename_i hok
  generalize hop : o.op = op at *
  cases op with
  | move x =>
    injection hp with hp; subst hp
    injection ha with ha; injection ha with h1 h2; subst h1; subst h2
    exact good_mv hr (.inl hop) (hE x (by simp [Op.operands]))
  | assign x =>
    injection hp with hp; subst hp
    injection ha with ha; injection ha with h1 h2; subst h1; subst h2
    exact good_mv hr (.inr hop) (hE x (by simp [Op.operands]))
  | pick c x y =>
    injection hp with hp; subst hp
    simp only [aop] at ha
    split at ha
    · rename_i t ht
      injection ha with ha; injection ha with h1 h2; subst h1; subst h2
      exact good_pick hr hop ht (hE c (by simp [Op.operands])) (hE x (by simp [Op.operands])) (hE y (by simp [Op.operands]))
    · cases ha
  | alloc t =>
    obtain ⟨z, hz, rfl⟩ := Option.map_eq_some_iff.1 hp
    simp only [aop] at ha
    injection ha with ha; injection ha with h1 h2; subst h1; subst h2
    exact good_new hr hop hz hf
  | box t x =>
    injection hp with hp; subst hp
    exact good_box hr hop (hE x (by simp [Op.operands])) ha hf
  | build t ps =>
    have hE' : ∀ x ∈ ps.toList.map (·.2), VR r (ev e x) (a.eval x) := fun x hx => hE x (by simpa [Op.operands] using hx)
    simp only at hp
    split at hp
    · rename_i fs hu
      split at hp
      · cases hp
      · rename_i hs
        obtain ⟨z, hz, hp⟩ := Option.bind_eq_some_iff.1 hp
        obtain ⟨qs, hq, rfl⟩ := Option.map_eq_some_iff.1 hp
        simp only [aop] at ha
        obtain ⟨cs, hcs, hv⟩ := Option.map_eq_some_iff.1 ha
        injection hv with h1 h2; subst h1; subst h2
        exact good_buildS hr hop hu (by rw [Bool.not_eq_false] at hs; exact hs) hz hq hE' hcs
    · rename_i n el hu
      obtain ⟨z, hz, hp⟩ := Option.bind_eq_some_iff.1 hp
      obtain ⟨m, hm, rfl⟩ := Option.map_eq_some_iff.1 hp
      simp only [aop] at ha
      obtain ⟨cs, hcs, hv⟩ := Option.map_eq_some_iff.1 ha
      injection hv with h1 h2; subst h1; subst h2
      exact good_buildA hr hop hu hz hm hE' hcs
    · cases hp
  | buildSlice t len ps =>
    have hE' : ∀ x ∈ ps.toList.map (·.2), VR r (ev e x) (a.eval x) := fun x hx => hE x (by simpa [Op.operands] using hx)
    obtain ⟨el, hel, hp⟩ := Option.bind_eq_some_iff.1 hp
    obtain ⟨z, hz, hp⟩ := Option.bind_eq_some_iff.1 hp
    split at hp
    · rename_i hl
      injection hp with hp; subst hp
      simp only [aop] at ha
      obtain ⟨cs, hcs, hv⟩ := Option.bind_eq_some_iff.1 ha
      split at hv
      · rename_i hcok
        injection hv with hv; injection hv with h1 h2; subst h1; subst h2
        have hu : P.underlying t = some (.slice el) := by
          unfold Rs.elemOfSlice at hel
          split at hel
          · injection hel with hel; subst hel; assumption
          · cases hel
        exact good_buildSlice hr hop hu hz hl.1 hl.2 hE' hcs hcok hf
      · cases hv
    · cases hp
  | load t x =>
    obtain ⟨n, hn, rfl⟩ := Option.map_eq_some_iff.1 hp
    simp only [aop] at ha
    obtain ⟨u, hu, hv⟩ := Option.map_eq_some_iff.1 ha
    injection hv with h1 h2; subst h1; subst h2
    exact good_load hr hop hn (hE x (by simp [Op.operands])) hu
  | store t x y =>
    obtain ⟨n, hn, rfl⟩ := Option.map_eq_some_iff.1 hp
    simp only [aop] at ha
    obtain ⟨u, hu, hv⟩ := Option.map_eq_some_iff.1 ha
    injection hv with h1 h2; subst h1; subst h2
    exact good_store hr hlim hop hn (hE x (by simp [Op.operands])) (hE y (by simp [Op.operands])) hu
  | nilCheck x =>
    injection hp with hp; subst hp
    exact good_nilCheck hr hop (hE x (by simp [Op.operands])) ha
  | binOp op t x y yt =>
    have hx := hE x (by simp [Op.operands])
    have hy := hE y (by simp [Op.operands])
    have eqcase : ∀ neg : Bool, o.op = .binOp (if neg then .neq else .eql) t x y yt → Rs.eqOp P neg (if neg then .neq else .eql) t x y = some p → Good P nb lim r h w o a v h' := by
      intro neg hop hp
      unfold Rs.eqOp at hp
      split at hp
      · injection hp with hp; subst hp
        simp only [aop] at ha
        obtain ⟨u, hu, hv⟩ := Option.map_eq_some_iff.1 ha
        injection hv with h1 h2; subst h1; subst h2
        exact good_bin hr hop hx hy hu
      · injection hp with hp; subst hp
        simp only [aop] at ha
        obtain ⟨u, hu, hv⟩ := Option.map_eq_some_iff.1 ha
        injection hv with h1 h2; subst h1; subst h2
        exact good_bin hr hop hx hy hu
      · rename_i hu
        injection hp with hp; subst hp
        simp only [aop] at ha
        obtain ⟨b, hb, hv⟩ := Option.map_eq_some_iff.1 ha
        injection hv with h1 h2; subst h1; subst h2
        exact good_eq hr hop (.inl ⟨hu, rfl⟩) hx hy hb
      · rename_i fs hu
        obtain ⟨ks, hks, rfl⟩ := Option.map_eq_some_iff.1 hp
        simp only [aop] at ha
        obtain ⟨b, hb, hv⟩ := Option.map_eq_some_iff.1 ha
        injection hv with h1 h2; subst h1; subst h2
        exact good_eq hr hop (.inr ⟨⟨fs, hu⟩, ks, rfl, hks⟩) hx hy hb
      · obtain ⟨k, hk, hp⟩ := Option.bind_eq_some_iff.1 hp
        split at hp
        · rename_i hn
          injection hp with hp; subst hp
          simp only [aop] at ha
          obtain ⟨b, hb, hv⟩ := Option.map_eq_some_iff.1 ha
          injection hv with h1 h2; subst h1; subst h2
          exact good_isNil hr hop hk (z := x) (.inl ⟨hn, rfl⟩) hx hb
        · split at hp
          · rename_i hn
            injection hp with hp; subst hp
            simp only [aop] at ha
            obtain ⟨b, hb, hv⟩ := Option.map_eq_some_iff.1 ha
            injection hv with h1 h2; subst h1; subst h2
            exact good_isNil hr hop hk (z := y) (.inr ⟨hn, rfl⟩) hy hb
          · cases hp
    cases op <;> simp only at hp <;>
      first
      | exact eqcase false hop hp
      | exact eqcase true hop hp
      | (injection hp with hp; subst hp
         simp only [aop] at ha
         obtain ⟨u, hu, hv⟩ := Option.map_eq_some_iff.1 ha
         injection hv with h1 h2; subst h1; subst h2
         exact good_bin hr hop hx hy hu)
  | unOp op t x =>
    injection hp with hp; subst hp
    simp only [aop] at ha
    obtain ⟨u, hu, hv⟩ := Option.map_eq_some_iff.1 ha
    injection hv with h1 h2; subst h1; subst h2
    exact good_un hr hop (hE x (by simp [Op.operands])) hu
  | convert s d x =>
    have hx := hE x (by simp [Op.operands])
    simp only at hp
    split at hp
    · rename_i ds k hs hd
      injection hp with hp; subst hp
      simp only [aop] at ha
      split at ha
      · rename_i j n hxe
        injection ha with ha; injection ha with h1 h2; subst h1; subst h2
        exact good_conv hr hop hs hd hxe hx
      · cases ha
    · rename_i hs hd
      injection hp with hp; subst hp
      simp only [aop] at ha
      split at ha
      · rename_i s' hxe
        injection ha with ha; injection ha with h1 h2; subst h1; subst h2
        exact good_convStr hr hop hs hd hxe hx
      · cases ha
    · rename_i el hs hd
      split at hp
      · rename_i he
        injection hp with hp; subst hp
        simp only [aop] at ha
        split at ha
        · rename_i B n c hxe
          obtain ⟨cs, hcs, ha⟩ := Option.bind_eq_some_iff.1 ha
          obtain ⟨l, hl, hv⟩ := Option.map_eq_some_iff.1 ha
          injection hv with h1 h2; subst h1; subst h2
          exact good_bytesStr hr hop hs hd he hx hxe hcs hl
        · cases ha
      · cases hp
    · cases hp
  | makeInterface t x =>
    simp only at hp
    split at hp
    · cases hp
    · cases hp
    · rename_i hn1 hn2
      injection hp with hp; subst hp
      simp only [aop] at ha
      injection ha with ha; injection ha with h1 h2; subst h1; subst h2
      refine good_iface hr hop ?_ (hE x (by simp [Op.operands]))
      cases hu : P.underlying t with
      | none => exact absurd hu hn2
      | some d => exact ⟨d, rfl, fun ms hd => hn1 ms (by rw [hu, hd])⟩
  | makeFunc fn x y =>
    injection hp with hp; subst hp
    simp only [aop] at ha
    injection ha with ha; injection ha with h1 h2; subst h1; subst h2
    exact good_func hr hop (fun z hz => hE z (by simp [Op.operands] at hz ⊢; exact .inl hz)) (fun z hz => hE z (by simp [Op.operands] at hz ⊢; exact .inr hz))
  | makeMap t rs =>
    cases rs with
    | some _ => cases hp
    | none =>
      injection hp with hp; subst hp
      simp only [aop] at ha
      injection ha with ha; injection ha with h1 h2; subst h1; subst h2
      exact good_mkMap hr hop hf
  | makeSlice t l c =>
    obtain ⟨el, hel, hp⟩ := Option.bind_eq_some_iff.1 hp
    obtain ⟨z, hz, hp⟩ := Option.bind_eq_some_iff.1 hp
    obtain ⟨by_, hb, hp⟩ := Option.bind_eq_some_iff.1 hp
    have hu : P.underlying t = some (.slice el) := by
      unfold Rs.elemOfSlice at hel
      split at hel
      · injection hel with hel; subst hel; assumption
      · cases hel
    split at hp
    · rename_i hpos
      injection hp with hp; subst hp
      simp only [aop] at ha
      split at ha
      · rename_i li ci hl hci
        split at ha
        · rename_i hcond
          injection ha with ha; injection ha with h1 h2; subst h1; subst h2
          exact good_mkSlice hr hop hu hz hpos.1 hb hl hci (hE l (by simp [Op.operands])) (hE c (by simp [Op.operands])) hcond hf
        · cases ha
      · cases ha
    · cases hp
  | slice t x lo hi mx =>
    have hx := hE x (by simp [Op.operands])
    have h1 : ∀ z, lo = some z → VR r (ev e z) (a.eval z) := fun z hz => hE z (by simp [Op.operands, hz])
    have h2 : ∀ z, hi = some z → VR r (ev e z) (a.eval z) := fun z hz => hE z (by simp [Op.operands, hz])
    have h3 : ∀ z, mx = some z → VR r (ev e z) (a.eval z) := fun z hz => hE z (by simp [Op.operands, hz])
    have arr : ∀ n el, (P.underlying t = some (.array n el) ∨ ∃ at_, P.underlying t = some (.pointer at_) ∧ P.underlying at_ = some (.array n el)) → (Rs.size P el).map (fun s => ROp.sliceArr n s x lo hi mx) = some p → Good P nb lim r h w o a v h' := by
      intro n el hu hp
      obtain ⟨s, hs, rfl⟩ := Option.map_eq_some_iff.1 hp
      simp only [aop] at ha
      split at ha
      · rename_i b q hxe
        obtain ⟨u, hu', hv⟩ := Option.map_eq_some_iff.1 ha
        injection hv with e1 e2; subst e1; subst e2
        exact good_sliceArr hr hop hu hs hxe hx h1 h2 h3 hu'
      · cases ha
    simp only at hp
    split at hp
    · rename_i hu
      split at hp
      · rename_i hmx
        injection hp with hp; subst hp
        obtain rfl : mx = none := by simpa using hmx
        simp only [aop] at ha
        split at ha
        · rename_i s hxe
          obtain ⟨j, hj, ha⟩ := Option.bind_eq_some_iff.1 ha
          obtain ⟨i, hi', hv⟩ := Option.map_eq_some_iff.1 ha
          injection hv with e1 e2; subst e1; subst e2
          exact good_sliceStr hr hop hu hxe hx h1 h2 hj hi'
        · cases ha
      · cases hp
    · rename_i el hu
      obtain ⟨n, hn, rfl⟩ := Option.map_eq_some_iff.1 hp
      simp only [aop] at ha
      obtain ⟨u, hu', hv⟩ := Option.map_eq_some_iff.1 ha
      injection hv with e1 e2; subst e1; subst e2
      exact good_slice hr hop hu hn hx h1 h2 h3 hu'
    · rename_i at_ hu
      split at hp
      · rename_i n el hu2
        exact arr n el (.inr ⟨at_, hu, hu2⟩) hp
      · cases hp
    · rename_i n el hu
      exact arr n el (.inl hu) hp
    · cases hp
  | fieldAddr t x i =>
    simp only at hp
    split at hp
    · rename_i fs hu
      obtain ⟨f, hfi, hp⟩ := Option.bind_eq_some_iff.1 hp
      obtain ⟨n, hn, hp⟩ := Option.bind_eq_some_iff.1 hp
      split at hp
      · cases hp
      · rename_i h0
        injection hp with hp; subst hp
        simp only [aop] at ha
        split at ha
        · rename_i b q hxe
          injection ha with ha; injection ha with e1 e2; subst e1; subst e2
          exact good_fieldAddr hr hop hu hfi hn h0 hxe (hE x (by simp [Op.operands]))
        · cases ha
    · cases hp
  | field t x i =>
    simp only at hp
    split at hp
    · rename_i fs hu
      obtain ⟨f, hfi, hp⟩ := Option.bind_eq_some_iff.1 hp
      obtain ⟨n, hn, rfl⟩ := Option.map_eq_some_iff.1 hp
      simp only [aop] at ha
      split at ha
      · rename_i cs hxe
        obtain ⟨u, hu', hv⟩ := Option.map_eq_some_iff.1 ha
        injection hv with e1 e2; subst e1; subst e2
        exact good_field hr hop hu hfi hn hxe (hE x (by simp [Op.operands])) hu'
      · cases ha
    · cases hp
  | indexAddr t x i =>
    have hx := hE x (by simp [Op.operands])
    have hi := hE i (by simp [Op.operands])
    simp only at hp
    split at hp
    · rename_i n el hu
      obtain ⟨s, hs, rfl⟩ := Option.map_eq_some_iff.1 hp
      simp only [aop] at ha
      split at ha
      · rename_i b q k j hxe hie
        split at ha
        · rename_i h0
          injection ha with ha; injection ha with e1 e2; subst e1; subst e2
          exact good_idxAddrArr hr hop hu hs hxe hie hx hi h0
        · cases ha
      · cases ha
    · rename_i el hu
      obtain ⟨s, hs, rfl⟩ := Option.map_eq_some_iff.1 hp
      simp only [aop] at ha
      split at ha
      · rename_i b q m n c k j hxe hie
        split at ha
        · rename_i h0
          injection ha with ha; injection ha with e1 e2; subst e1; subst e2
          exact good_idxAddr hr hop hu hs hxe hie hx hi h0
        · cases ha
      · cases ha
    · cases hp
  | index t x i =>
    have hx := hE x (by simp [Op.operands])
    have hi := hE i (by simp [Op.operands])
    simp only at hp
    split at hp
    · rename_i n el hu
      obtain ⟨s, hs, hp⟩ := Option.bind_eq_some_iff.1 hp
      obtain ⟨g, hg, rfl⟩ := Option.map_eq_some_iff.1 hp
      simp only [aop] at ha
      split at ha
      · rename_i cs k j hxe hie
        split at ha
        · rename_i h0
          obtain ⟨u, hu', hv⟩ := Option.map_eq_some_iff.1 ha
          injection hv with e1 e2; subst e1; subst e2
          exact good_idxArr hr hop hu hs hg hxe hie hx hi h0 hu'
        · cases ha
      · cases ha
    · rename_i hu
      injection hp with hp; subst hp
      simp only [aop] at ha
      split at ha
      · rename_i s k j hxe hie
        split at ha
        · rename_i h0
          obtain ⟨u, hu', hv⟩ := Option.map_eq_some_iff.1 ha
          injection hv with e1 e2; subst e1; subst e2
          exact good_idxStr hr hop hu hxe hie hx hi h0 hu'
        · cases ha
      · cases ha
    · cases hp
  | lookup t m k ok =>
    have hm := hE m (by simp [Op.operands])
    have hk := hE k (by simp [Op.operands])
    simp only at hp
    split at hp
    · rename_i kt et hu
      obtain ⟨kk, hkk, hp⟩ := Option.bind_eq_some_iff.1 hp
      obtain ⟨z, hz, rfl⟩ := Option.map_eq_some_iff.1 hp
      simp only [aop] at ha
      split at ha
      · rename_i hme
        injection ha with ha; injection ha with e1 e2; subst e1; subst e2
        exact good_lookup0 hr hop hu hkk hz hm hme
      · rename_i b hme
        split at ha
        · rename_i es hb
          obtain ⟨res, hres, hv⟩ := Option.map_eq_some_iff.1 ha
          injection hv with e1 e2; subst e1; subst e2
          exact good_lookup hr hop hu hkk hz hm hk hme hb hres
        · cases ha
      · cases ha
    · cases hp
  | mapUpdate t m k x =>
    have hm := hE m (by simp [Op.operands])
    have hk := hE k (by simp [Op.operands])
    have hx := hE x (by simp [Op.operands])
    simp only at hp
    split at hp
    · rename_i kt et hu
      obtain ⟨kk, hkk, rfl⟩ := Option.map_eq_some_iff.1 hp
      simp only [aop] at ha
      split at ha
      · rename_i b hme
        split at ha
        · rename_i es hb
          split at ha
          · rename_i hcond
            obtain ⟨res, hres, hv⟩ := Option.map_eq_some_iff.1 ha
            injection hv with e1 e2; subst e1; subst e2
            exact good_mapSet hr hlim (.inl hop) hu hkk hm hk hx hme hb hcond.1 hcond.2.1 hres
          · cases ha
        · cases ha
      · cases ha
    · cases hp
  | insert t m k x =>
    have hm := hE m (by simp [Op.operands])
    have hk := hE k (by simp [Op.operands])
    have hx := hE x (by simp [Op.operands])
    simp only at hp
    split at hp
    · rename_i kt et hu
      obtain ⟨kk, hkk, rfl⟩ := Option.map_eq_some_iff.1 hp
      simp only [aop] at ha
      split at ha
      · rename_i b hme
        split at ha
        · rename_i es hb
          split at ha
          · rename_i hcond
            obtain ⟨res, hres, hv⟩ := Option.map_eq_some_iff.1 ha
            injection hv with e1 e2; subst e1; subst e2
            exact good_mapSet hr hlim (.inr hop) hu hkk hm hk hx hme hb hcond.1 hcond.2.1 hres
          · cases ha
        · cases ha
      · cases ha
    · cases hp
  | extract x i =>
    injection hp with hp; subst hp
    simp only [aop] at ha
    split at ha
    · rename_i vs hxe
      obtain ⟨u, hu', hv⟩ := Option.map_eq_some_iff.1 ha
      injection hv with e1 e2; subst e1; subst e2
      exact good_extract hr hop hxe (hE x (by simp [Op.operands])) hu'
    · cases ha
  | call c =>
    obtain ⟨cal, args, ts⟩ := c
    have hA : ∀ x ∈ args.toList, VR r (ev e x) (a.eval x) := fun x hx => hE x (by simp [Op.operands, Call.operands] at hx ⊢; exact .inr hx)
    cases cal with
    | value f =>
      injection hp with hp; subst hp
      simp only [aop] at ha
      split at ha
      · rename_i g first captured hfe
        exact good_call hc hr hlim hll hop rfl (hE f (by simp [Op.operands, Call.operands])) hA hfe ha hf
      · cases ha
    | invoke _ _ => cases hp
    | builtin b =>
      simp only at hp
      unfold Rs.builtin at hp
      split at hp
      · -- append
        rename_i s x hargs
        have hs := hA s (by rw [hargs]; simp)
        have hx := hA x (by rw [hargs]; simp)
        obtain rfl := arr2 hargs
        split at hp
        · rename_i t u ht hu1
          obtain ⟨el, hel, hp⟩ := Option.bind_eq_some_iff.1 hp
          obtain ⟨n, hn, hp⟩ := Option.bind_eq_some_iff.1 hp
          obtain ⟨by_, hb, hp⟩ := Option.bind_eq_some_iff.1 hp
          have hu : P.underlying t = some (.slice el) := by
            unfold Rs.elemOfSlice at hel
            split at hel
            · injection hel with hel; subst hel; assumption
            · cases hel
          obtain ⟨bs, hbr⟩ := builtin_run (P := P) (w := w) (a := a) hop
          split at hp
          · rename_i hpos
            split at hp
            · rename_i k hu2
              obtain ⟨z, hz, rfl⟩ := Option.map_eq_some_iff.1 hp
              simp only [aop] at ha
              split at ha
              · rename_i m hxe
                split at ha
                · rename_i hm
                  obtain ⟨m0, m1, m2⟩ := hm
                  obtain ⟨m', rfl⟩ := Int.eq_ofNat_of_zero_le m0
                  simp only [Int.toNat_natCast] at ha
                  rw [hxe] at hx
                  have hx' := hx.int_inv
                  obtain ⟨zv, z1, z2, z3, z4⟩ := run_zero (w := w) hz
                  have hnz : n = z.length := by rw [z3] at hn; injection hn with hn; exact hn.symm
                  subst hnz
                  obtain ⟨v', w', r', g1, g2, g3⟩ := append_core (T := ts) (ty := o.type) (x' := a.eval x) hr hlim ⟨⟨t, ht, hu⟩, hn, hb, ⟨z, hz⟩, .inr ⟨u, k, z, hu1, hu2, by rw [hx'], m1, by exact_mod_cast m2, hz, rfl⟩⟩ (VL.flat (reps_flat z4 m').1) (reps_length z m') hs hpos.1 ha hf
                  refine Good.value (w' := w') ?_ g2 g3
                  rw [hbr]
                  simp only [List.map_toArray, List.map_cons, List.map_nil, builtin, Sem.run_bind, g1, Result.andThen_ok, Sem.run_pure]
                · cases ha
              · cases ha
            · rename_i hu2
              obtain ⟨z, hz, rfl⟩ := Option.map_eq_some_iff.1 hp
              simp only [aop] at ha
              obtain ⟨m, hm, ha⟩ := Option.bind_eq_some_iff.1 ha
              obtain ⟨news, hnews, ha⟩ := Option.bind_eq_some_iff.1 ha
              obtain ⟨vs, g4, g5⟩ := elems_run2 (P := P) hr hnews hx
              have hl := len_run (P := P) (w := w) hm hx
              have hlen : news.length = m * n := newsLen' hnews (Nat.le_refl _) hm (nilLen hx)
              obtain ⟨v', w', r', g1, g2, g3⟩ := append_core (T := ts) (ty := o.type) (x' := a.eval x) hr hlim ⟨⟨t, ht, hu⟩, hn, hb, ⟨z, hz⟩, .inl ⟨u, _, hu1, hu2, .inl rfl, hl, g4⟩⟩ g5 hlen hs hpos.1 ha hf
              refine Good.value (w' := w') ?_ g2 g3
              rw [hbr]
              simp only [List.map_toArray, List.map_cons, List.map_nil, builtin, Sem.run_bind, g1, Result.andThen_ok, Sem.run_pure]
            · rename_i q hu2
              obtain ⟨z, hz, rfl⟩ := Option.map_eq_some_iff.1 hp
              simp only [aop] at ha
              obtain ⟨m, hm, ha⟩ := Option.bind_eq_some_iff.1 ha
              obtain ⟨news, hnews, ha⟩ := Option.bind_eq_some_iff.1 ha
              obtain ⟨vs, g4, g5⟩ := elems_run2 (P := P) hr hnews hx
              have hl := len_run (P := P) (w := w) hm hx
              have hlen : news.length = m * n := newsLen' hnews (Nat.le_refl _) hm (nilLen hx)
              obtain ⟨v', w', r', g1, g2, g3⟩ := append_core (T := ts) (ty := o.type) (x' := a.eval x) hr hlim ⟨⟨t, ht, hu⟩, hn, hb, ⟨z, hz⟩, .inl ⟨u, _, hu1, hu2, .inr ⟨q, rfl⟩, hl, g4⟩⟩ g5 hlen hs hpos.1 ha hf
              refine Good.value (w' := w') ?_ g2 g3
              rw [hbr]
              simp only [List.map_toArray, List.map_cons, List.map_nil, builtin, Sem.run_bind, g1, Result.andThen_ok, Sem.run_pure]
            · cases hp
          · cases hp
        · cases hp
      · -- len
        rename_i x hargs
        have hx := hA x (by rw [hargs]; simp)
        split at hp
        · rename_i t ht
          split at hp
          · rename_i hu
            injection hp with hp; subst hp
            simp only [aop] at ha
            cases hxe : ev e x <;> simp [hxe] at ha
            obtain ⟨rfl, rfl⟩ := ha
            exact good_lenS hr hop hargs ht hu hx hxe
          · rename_i el hu
            injection hp with hp; subst hp
            simp only [aop] at ha
            cases hxe : ev e x <;> simp [hxe] at ha
            obtain ⟨rfl, rfl⟩ := ha
            exact good_lenL hr hop hargs ht hu hx hxe
          · rename_i kt et hu
            injection hp with hp; subst hp
            simp only [aop] at ha
            cases hxe : ev e x <;> simp [hxe] at ha
            rename_i q
            cases q with
            | none =>
              simp at ha
              obtain ⟨rfl, rfl⟩ := ha
              exact good_lenM0 hr hop hargs ht hu hx hxe
            | some b =>
              simp only at ha
              split at ha
              · rename_i es hb
                injection ha with ha; injection ha with e1 e2; subst e1; subst e2
                exact good_lenM hr hop hargs ht hu hx hxe hb
              · cases ha
          · rename_i n el hu
            injection hp with hp; subst hp
            simp only [aop] at ha
            injection ha with ha; injection ha with e1 e2; subst e1; subst e2
            exact good_lenArr hr hop hargs ht (.inl hu)
          · rename_i u hu
            split at hp
            · rename_i n el hu2
              injection hp with hp; subst hp
              simp only [aop] at ha
              injection ha with ha; injection ha with e1 e2; subst e1; subst e2
              exact good_lenArr hr hop hargs ht (.inr ⟨u, hu, hu2⟩)
            · cases hp
          · cases hp
        · cases hp
      · -- cap
        rename_i x hargs
        have hx := hA x (by rw [hargs]; simp)
        split at hp
        · rename_i t ht
          obtain ⟨el, hel, rfl⟩ := Option.map_eq_some_iff.1 hp
          have hu : P.underlying t = some (.slice el) := by
            unfold Rs.elemOfSlice at hel
            split at hel
            · injection hel with hel; subst hel; assumption
            · cases hel
          obtain rfl := arr1 hargs
          obtain ⟨cs, hcs⟩ := builtin_run (P := P) (w := w) (a := a) hop
          simp only [aop] at ha
          split at ha
          · rename_i n c hxe
            injection ha with ha; injection ha with e1 e2; subst e1; subst e2
            rw [hxe] at hx
            obtain ⟨B, d, hx', _, h3, _⟩ := hx.slice_inv
            obtain ⟨rfl, rfl, rfl, rfl⟩ := h3 rfl
            refine Good.same hr (v' := .int .i64 0) ?_ (.int _ _)
            rw [hcs]
            simp [builtin, Builtin.cap_, ht, run_underlying hu, hx', goInt]
          · rename_i b q n c hxe
            injection ha with ha; injection ha with e1 e2; subst e1; subst e2
            rw [hxe] at hx
            have hx' : ∃ y, a.eval x = .slice (some y) n c := by
              generalize a.eval x = z at hx
              cases hx
              exact ⟨_, rfl⟩
            obtain ⟨y, hx'⟩ := hx'
            refine Good.same hr (v' := .int .i64 c) ?_ (.int _ _)
            rw [hcs]
            simp [builtin, Builtin.cap_, ht, run_underlying hu, hx', goInt]
          · cases ha
        · cases hp
      · -- copy
        rename_i d s hargs
        have hd := hA d (by rw [hargs]; simp)
        have hs := hA s (by rw [hargs]; simp)
        split at hp
        · rename_i t ht
          obtain ⟨el, hel, hp⟩ := Option.bind_eq_some_iff.1 hp
          obtain ⟨n, hn, rfl⟩ := Option.map_eq_some_iff.1 hp
          have hu : P.underlying t = some (.slice el) := by
            unfold Rs.elemOfSlice at hel
            split at hel
            · injection hel with hel; subst hel; assumption
            · cases hel
          simp only [aop] at ha
          split at ha
          · rename_i B len c hde
            obtain ⟨m, hm, ha⟩ := Option.bind_eq_some_iff.1 ha
            obtain ⟨cs, hcs, ha⟩ := Option.bind_eq_some_iff.1 ha
            have hcl : ∀ q, B = some q → cs = [] ∨ 0 < c := fun q hq => by
              rcases Nat.eq_zero_or_pos c with h0 | h0
              · left
                rw [hde] at hd
                obtain ⟨_, _, _, _, _, h4⟩ := hd.slice_inv
                obtain ⟨b0, q0, m0⟩ := q
                have := (h4 _ _ _ hq).1
                have hl0 : len = 0 := by omega
                subst hl0
                have := newsLen' hcs (Nat.min_le_left _ _) hm (nilLen hs)
                simp at this
                exact this
              · exact .inr h0
            cases B with
            | none =>
              simp only at ha
              injection ha with ha; injection ha with e1 e2; subst e1; subst e2
              exact good_copy hr hlim hop hargs ht hu hn hd hs hde hm hcs rfl (fun _ => trivial) hcl
            | some q =>
              obtain ⟨b, q, z⟩ := q
              simp only at ha
              obtain ⟨h2, hw, hv⟩ := Option.map_eq_some_iff.1 ha
              injection hv with e1 e2; subst e1; subst e2
              exact good_copy hr hlim hop hargs ht hu hn hd hs hde hm hcs hw (fun _ => trivial) hcl
          · cases ha
        · cases hp
      · -- min
        injection hp with hp; subst hp
        simp only [aop] at ha
        split at ha
        · cases ha
        · rename_i x l hl
          obtain ⟨u, hu, hv⟩ := Option.map_eq_some_iff.1 ha
          injection hv with e1 e2; subst e1; subst e2
          exact good_minmax (mx := false) hr hop hA hl hu
      · injection hp with hp; subst hp
        simp only [aop] at ha
        split at ha
        · cases ha
        · rename_i x l hl
          obtain ⟨u, hu, hv⟩ := Option.map_eq_some_iff.1 ha
          injection hv with e1 e2; subst e1; subst e2
          exact good_minmax (mx := true) hr hop hA hl hu
      · -- clear
        rename_i x hargs
        have hx := hA x (by rw [hargs]; simp)
        split at hp
        · rename_i t ht
          obtain ⟨el, hel, hp⟩ := Option.bind_eq_some_iff.1 hp
          obtain ⟨z, hz, rfl⟩ := Option.map_eq_some_iff.1 hp
          have hu : P.underlying t = some (.slice el) := by
            unfold Rs.elemOfSlice at hel
            split at hel
            · injection hel with hel; subst hel; assumption
            · cases hel
          simp only [aop] at ha
          split at ha
          · rename_i n c hxe
            injection ha with ha; injection ha with e1 e2; subst e1; subst e2
            exact good_clear hr hlim hop hargs ht hu hz hx hxe rfl
          · rename_i b q m n c hxe
            obtain ⟨h2, hw, hv⟩ := Option.map_eq_some_iff.1 ha
            injection hv with e1 e2; subst e1; subst e2
            exact good_clear hr hlim hop hargs ht hu hz hx hxe hw
          · cases ha
        · cases hp
      · cases hp
  | _ => cases hp
theorem ropT_some {call : Callee} {op : Op} {x : Value × AH} (ha : aop call lim e h (Rs.ropT P op) = some x) : Rs.rop P op = some (Rs.ropT P op) := by
 unfold Rs.ropT at *
 cases hr : Rs.rop P op with
 | none => rw [hr] at ha; simp [aop] at ha
 | some p => rfl
end
section
variable {P : Program} {nb lim : Nat} {r : Rho} {h h' : AH} {w : World} {e : Env} {a : Act} {v : Value} {o : Oper}
def Pre (lim : Nat) (h h' : AH) : Prop := h.length ≤ h'.length ∧ ∀ b, b < lim → b < h.length → h'[b]? = h[b]?
theorem Pre.refl (lim : Nat) (h : AH) : Pre lim h h := ⟨Nat.le_refl _, fun _ _ _ => rfl⟩
theorem Pre.trans {h1 h2 h3 : AH} (p : Pre lim h1 h2) (q : Pre lim h2 h3) : Pre lim h1 h3 :=
 ⟨Nat.le_trans p.1 q.1, fun b h0 hb => (q.2 b h0 (Nat.lt_of_lt_of_le hb p.1)).trans (p.2 b h0 hb)⟩
theorem Pre.mono {l2 : Nat} (p : Pre l2 h h') (hl : lim ≤ l2) : Pre lim h h' := ⟨p.1, fun b h0 hb => p.2 b (Nat.lt_of_lt_of_le h0 hl) hb⟩
theorem Pre.push (x : Blk) : Pre lim h (h ++ [x]) := ⟨by simp, fun b _ hb => List.getElem?_append_left hb⟩
theorem Pre.set {b : Nat} (hb : lim ≤ b) (x : Blk) : Pre lim h (h.set b x) := ⟨by simp, fun c h0 _ => List.getElem?_set_ne (by omega)⟩
def CallP (call : Callee) : Prop := ∀ (lim : Nat) (f : FuncId) (args : List Value) (h : AH) (v : Value) (h' : AH), lim ≤ h.length → call lim f args h = some (v, h') → Pre lim h h'
theorem aWrite_pre {b q : Nat} {us : List Value} (hw : aWrite lim h b q us = some h') : Pre lim h h' := by
 rcases aWrite_inv hw with ⟨_, rfl⟩ | ⟨_, hl, _, cs, _, _, rfl⟩
 ·exact Pre.refl _ _
 ·exact Pre.set hl _
theorem aAppend_pre {size bytes n : Nat} {s : Value} {news : List Value} (ha : aAppend lim size bytes h s n news = some (v, h')) : Pre lim h h' := by
 unfold aAppend at ha
 split at ha
 ·split at ha
  ·split at ha
   ·injection ha with ha; injection ha with e1 e2; subst e2; exact Pre.refl _ _
   ·obtain ⟨h2, hw, hv⟩ := Option.map_eq_some_iff.1 ha
    injection hv with e1 e2; subst e2
    exact aWrite_pre hw
  ·split at ha
   ·obtain ⟨old, _, ha⟩ := Option.bind_eq_some_iff.1 ha
    split at ha
    ·injection ha with ha; injection ha with e1 e2; subst e2; exact Pre.push _
    ·injection ha with ha; injection ha with e1 e2; subst e2; exact Pre.push _
    ·split at ha
     ·rename_i hc
      obtain ⟨cs, _, ha⟩ := Option.bind_eq_some_iff.1 ha
      split at ha
      ·injection ha with ha; injection ha with e1 e2; subst e2
       exact (Pre.set hc.1 _).trans (Pre.push _)
      ·cases ha
     ·cases ha
   ·cases ha
 ·cases ha
theorem aop_pre {call : Callee} (hc : CallP call) (hll : lim ≤ h.length) {p : ROp} (ha : aop call lim e h p = some (v, h')) : Pre lim h h' := by
 have same : ∀ {α : Type} {x : Option α} {f : α → Value}, (x.map fun y => (f y, h)) = some (v, h') → Pre lim h h' := fun {α x f} hx => by
  obtain ⟨y, _, hv⟩ := Option.map_eq_some_iff.1 hx
  injection hv with e1 e2; subst e2; exact Pre.refl _ _
 have one : ∀ {u : Value}, some (u, h) = some (v, h') → Pre lim h h' := fun {u} hx => by
  injection hx with hx; injection hx with e1 e2; subst e2; exact Pre.refl _ _
 have pushed : ∀ {u : Value} {x : Blk}, some (u, h ++ [x]) = some (v, h') → Pre lim h h' := fun {u x} hx => by
  injection hx with hx; injection hx with e1 e2; subst e2; exact Pre.push _
 cases p <;> simp only [aop] at ha
 case mv => exact one ha
 case pick => split at ha; exact one ha; cases ha
 case new => exact pushed ha
 case box =>
  unfold aBox at ha
  split at ha
  ·exact pushed ha
  ·cases ha
 case build => exact same ha
 case buildSlice =>
  obtain ⟨cs, _, ha⟩ := Option.bind_eq_some_iff.1 ha
  split at ha
  ·exact pushed ha
  ·cases ha
 case load => exact same ha
 case store =>
  obtain ⟨h2, hw, hv⟩ := Option.map_eq_some_iff.1 ha
  injection hv with e1 e2; subst e2
  obtain ⟨b, q, _, _, hw⟩ := aStore_inv hw
  exact aWrite_pre hw
 case nilCheck => split at ha; exact one ha; exact one ha; cases ha
 case bin => exact same ha
 case eq => exact same ha
 case isNil => exact same ha
 case un => exact same ha
 case conv => split at ha; exact one ha; cases ha
 case convStr => split at ha; exact one ha; cases ha
 case bytesStr =>
  split at ha
  ·obtain ⟨cs, _, ha⟩ := Option.bind_eq_some_iff.1 ha
   exact same ha
  ·cases ha
 case iface => exact one ha
 case func => exact one ha
 case mkMap => exact pushed ha
 case mkSlice =>
  split at ha
  ·split at ha
   ·exact pushed ha
   ·cases ha
  ·cases ha
 case slice => exact same ha
 case sliceArr => split at ha; exact same ha; cases ha
 case sliceStr =>
  split at ha
  ·obtain ⟨j, _, ha⟩ := Option.bind_eq_some_iff.1 ha
   exact same ha
  ·cases ha
 case fieldAddr => split at ha; exact one ha; cases ha
 case field => split at ha; exact same ha; cases ha
 case idxAddr =>
  split at ha
  ·split at ha
   ·exact one ha
   ·cases ha
  ·cases ha
 case idxAddrArr =>
  split at ha
  ·split at ha
   ·exact one ha
   ·cases ha
  ·cases ha
 case idxArr =>
  split at ha
  ·split at ha
   ·exact same ha
   ·cases ha
  ·cases ha
 case idxStr =>
  split at ha
  ·split at ha
   ·exact same ha
   ·cases ha
  ·cases ha
 case lookup =>
  split at ha
  ·exact one ha
  ·split at ha
   ·exact same ha
   ·cases ha
  ·cases ha
 case mapSet =>
  split at ha
  ·split at ha
   ·split at ha
    ·rename_i hl
     obtain ⟨y, _, hv⟩ := Option.map_eq_some_iff.1 ha
     injection hv with e1 e2; subst e2
     exact Pre.set hl.1 _
    ·cases ha
   ·cases ha
  ·cases ha
 case extract => split at ha; exact same ha; cases ha
 case call => split at ha; exact hc _ _ _ _ _ _ hll ha; cases ha
 case append =>
  obtain ⟨n, _, ha⟩ := Option.bind_eq_some_iff.1 ha
  obtain ⟨cs, _, ha⟩ := Option.bind_eq_some_iff.1 ha
  exact aAppend_pre ha
 case appendZeros =>
  split at ha
  ·split at ha
   ·exact aAppend_pre ha
   ·cases ha
  ·cases ha
 case len =>
  split at ha
  ·exact one ha
  ·exact one ha
  ·exact one ha
  ·split at ha
   ·exact one ha
   ·cases ha
  ·cases ha
 case lenArr => exact one ha
 case cap => split at ha; exact one ha; exact one ha; cases ha
 case fail => cases ha
 case copy =>
  split at ha
  ·obtain ⟨m, _, ha⟩ := Option.bind_eq_some_iff.1 ha
   obtain ⟨cs, _, ha⟩ := Option.bind_eq_some_iff.1 ha
   split at ha
   ·exact one ha
   ·obtain ⟨h2, hw, hv⟩ := Option.map_eq_some_iff.1 ha
    injection hv with e1 e2; subst e2
    exact aWrite_pre hw
  ·cases ha
 case minmax => split at ha; cases ha; exact same ha
 case clear =>
  split at ha
  ·exact one ha
  ·obtain ⟨h2, hw, hv⟩ := Option.map_eq_some_iff.1 ha
   injection hv with e1 e2; subst e2
   exact aWrite_pre hw
  ·cases ha
theorem lim_le {q : Bool} (hl : lim ≤ h.length) : lim ≤ (if q then h.length else lim) := by cases q <;> simp [hl]
theorem lim_ge {q : Bool} (hl : lim ≤ h.length) : (if q then h.length else lim) ≤ h.length := by cases q <;> simp [hl]
theorem aopc_inv {call : Callee} {o : RO} {x : Value × AH} (ha : aopc call lim e h o = some x) : o.av.all (apart e o.op) = true ∧ aop call (if o.q then h.length else lim) e h o.op = some x := by
 unfold aopc at ha
 split at ha
 ·exact ⟨by assumption, ha⟩
 ·cases ha
theorem aops_pre {call : Callee} (hc : CallP call) : ∀ {l : List RO} {e : Env} {h : AH} {e' : Env} {h' : AH}, lim ≤ h.length → aops call lim l e h = some (e', h') → Pre lim h h'
 | [], e, h, e', h', _, ha => by simp only [aops] at ha; injection ha with ha; injection ha with e1 e2; subst e2; exact Pre.refl _ _
 | o :: l, e, h, e', h', hl, ha => by
  simp only [aops] at ha
  split at ha
  ·obtain ⟨⟨v, h1⟩, h2, ha⟩ := Option.bind_eq_some_iff.1 ha
   have p := (aop_pre hc (lim_ge hl) (aopc_inv h2).2).mono (lim_le hl)
   exact p.trans (aops_pre hc (Nat.le_trans hl p.1) ha)
  ·exact aops_pre hc hl ha
/-! ### frames -/
structure ER (r : Rho) (e : Env) (a : Act) (nt : Nat) : Prop where
 tmps : ∀ t, VR r (e t) (a.tmps.getD t undef)
 size : a.tmps.size = nt
theorem ER.mono {s : Rho} {nt : Nat} (hl : r.Le s) (h : ER r e a nt) : ER s e a nt := ⟨fun t => (h.tmps t).mono hl, h.size⟩
theorem opd_of {x : Operand} (hx : opdOk x = true) (ht : ∀ t, x = .tmp t → VR r (e t) (a.tmps.getD t undef)) : VR r (ev e x) (a.eval x) := by
 cases x with
 | tmp t => exact ht t rfl
 | const v => exact VR.flatV hx
 | global g => cases hx
 | func f => exact .func _ _ _ _ _ rfl rfl (fun i u v hu _ => by simp at hu) (fun i u v hu _ => by simp at hu)
theorem ER.opd {nt : Nat} (h : ER r e a nt) {x : Operand} (hx : opdOk x = true) : VR r (ev e x) (a.eval x) := opd_of hx fun t _ => h.tmps t
theorem getD_put (a : Act) (d : Option Tmp) (v : Value) (t : Nat) (hd : ∀ x, d = some x → x < a.tmps.size) : (a.put d v).tmps.getD t undef = if d = some t then v else a.tmps.getD t undef := by
 cases d with
 | none => rfl
 | some x =>
  have hx := hd x rfl
  simp only [Act.put, Option.some.injEq, Array.getD_eq_getD_getElem?, Array.getElem?_setIfInBounds]
  by_cases h0 : x = t
  ·subst h0; simp [hx]
  ·simp [h0]
theorem put_size (a : Act) (d : Option Tmp) (v : Value) : (a.put d v).tmps.size = a.tmps.size := by cases d <;> simp [Act.put]
theorem put_defers (a : Act) (d : Option Tmp) (v : Value) : (a.put d v).defers = a.defers := by cases d <;> rfl
theorem ER.put {nt : Nat} {d : Option Nat} {u : Value} (h : ER r e a nt) (hd : ∀ x, d = some x → x < nt) (hv : VR r v u) : ER r (upd e d v) (a.put d u) nt := by
 refine ⟨fun t => ?_, by rw [put_size]; exact h.size⟩
 rw [getD_put a d u t (fun x hx => by rw [h.size]; exact hd x hx)]
 cases d with
 | none => simpa [upd] using h.tmps t
 | some x =>
  simp only [upd, Option.some.injEq]
  by_cases h0 : t = x
  ·subst h0; simp [hv]
  ·rw [if_neg h0, if_neg (Ne.symm h0)]; exact h.tmps t
theorem rop_ok {op : Op} {p : ROp} (hp : Rs.rop P op = some p) : op.operands.toList.all opdOk = true := by
 unfold Rs.rop at hp
 split at hp
 ·assumption
 ·cases hp
theorem wanted_of {ops : Array Oper} {o : Oper} {g : Option (Nat × Bool)} (hg : Rs.rguard ops o = some g) {ro : RO} (hro : ro.guard = g) (ht : ∀ t b, g = some (t, b) → VR r (e t) (a.tmps.getD t undef)) : Region.wanted o (yielded ops a.tmps) = wanted e ro := by
 unfold Rs.rguard at hg
 unfold Region.wanted Ai.wanted
 rw [hro]
 split at hg
 ·rename_i h0
  injection hg with hg
  subst hg
  simp [h0]
 ·rename_i j b h0
  split at hg
  ·rename_i t h1
   injection hg with hg
   subst hg
   have hv := ht t b rfl
   simp only [h0]
   unfold yielded
   rw [h1]
   simp only [Option.bind_some]
   have e1 : a.tmps.getD t undef = (a.tmps[t]?).getD undef := by simp
   rw [e1] at hv
   cases h2 : a.tmps[t]? with
   | none =>
    rw [h2] at hv
    simp only [Option.getD_none] at hv
    generalize hq : e t = q at hv
    cases hv with
    | tuple xs ys h3 h4 => simp [isBool]
   | some u =>
    rw [h2] at hv
    simp only [Option.getD_some] at hv
    generalize hq : e t = q at hv
    cases hv <;> first | (simp [isBool]; done) | (simp [isBool, Bool.beq_comm])
  ·cases hg
theorem ropers_cons {nt : Nat} {ops : Array Oper} {q : Nat → Bool} {av : Nat → List Operand} {o : Oper} {i : Nat} {r : List (Oper × Nat)} {l : List RO} (h : Rs.ropers P nt ops q av ((o, i) :: r) = some l) :
  ∃ p g l', Rs.ropT P o.op = p ∧ Rs.rguard ops o = some g ∧ (∀ x, o.dst = some x → x < nt) ∧ Rs.ropers P nt ops q av r = some l' ∧ l = ⟨o.dst, p, g, q i, av i⟩ :: l' := by
 simp only [Rs.ropers] at h
 obtain ⟨g, hg, h⟩ := Option.bind_eq_some_iff.1 h
 split at h
 ·rename_i hd
  obtain ⟨l', hl, rfl⟩ := Option.map_eq_some_iff.1 h
  exact ⟨_, g, l', rfl, hg, (fun x hx => by rw [hx] at hd; simpa [Rs.dstOk] using hd), hl, rfl⟩
 ·cases h
theorem Fresh.left {h1 : AH} (hf : Fresh r h h') (hl : h1.length ≤ h'.length) : Fresh r h h1 := fun b h0 h2 => hf b h0 (Nat.lt_of_lt_of_le h2 hl)
theorem Post.fresh {h1 h2 : AH} {r1 : Rho} {w1 : World} (p : Post nb lim r h w r1 h1 w1) (hf : Fresh r h h2) : Fresh r1 h1 h2 := fun b h0 h3 => by
 cases hb : r1 b with
 | none => rfl
 | some i =>
  rcases p.new hb with h4 | ⟨_, h4, _⟩
  ·rw [hf b (Nat.le_trans p.len h0) h3] at h4; cases h4
  ·omega
theorem aops_seq {call : Callee} (hc : CallS P nb call) (hp : CallP call) {nt : Nat} {ops : Array Oper} {q : Nat → Bool} {av : Nat → List Operand} {Q : Exit → Act → World → Prop} (hlim : nb ≤ lim) :
  ∀ (pairs : List (Oper × Nat)) (l : List RO) (e : Env) (h : AH) (e' : Env) (h' : AH) (r : Rho) (a : Act) (w : World), (∀ x ∈ pairs, ops[x.2]? = some x.1) → Rs.ropers P nt ops q av pairs = some l → aops call lim l e h = some (e', h') → HR nb r h w → ER r e a nt → Fresh r h h' → lim ≤ h.length →
   (∀ r' a' w', Post nb lim r h w r' h' w' → ER r' e' a' nt → a'.defers = a.defers → Q .normal a' w') → wpOps P ops Q (pairs.map (·.2)) a w
 | [], l, e, h, e', h', r, a, w, _, hr_, ha, hr, he, _, _, hK => by
  simp only [Rs.ropers] at hr_
  injection hr_ with hr_
  subst hr_
  simp only [aops] at ha
  injection ha with ha
  injection ha with e1 e2
  subst e1; subst e2
  exact hK r a w (Post.refl hr) he rfl
 | (o, i) :: pairs, l, e, h, e', h', r, a, w, hm, hr_, ha, hr, he, hf, hl, hK => by
  obtain ⟨p, g, l', h1, h2, h3, h4, rfl⟩ := ropers_cons hr_
  have hoi : ops[i]? = some o := hm (o, i) (by simp)
  simp only [aops] at ha
  have hwant := wanted_of (e := e) (a := a) h2 (ro := ⟨o.dst, p, g, q i, av i⟩) rfl (fun t b _ => he.tmps t)
  simp only [List.map_cons, wpOps, hoi, hwant]
  split at ha
  ·rename_i hw
   rw [if_pos hw]
   obtain ⟨⟨v, h1'⟩, ha1, ha2⟩ := Option.bind_eq_some_iff.1 ha
   replace ha1 := (aopc_inv ha1).2
   simp only at ha1 ha2
   have pre := aop_pre hp (lim_ge hl) ha1
   have pre2 := (aops_pre hp (Nat.le_trans hl pre.1) ha2)
   have hlq : nb ≤ (if q i then h.length else lim) := Nat.le_trans hlim (lim_le hl)
   subst h1
   have h1 := ropT_some (P := P) ha1
   have hok := rop_ok h1
   refine .inl (rop_good hc hr hlq (lim_ge hl) h1 (fun x hx => he.opd (by rw [List.all_eq_true] at hok; exact hok x hx)) ha1 (hf.left pre2.1) _ _ fun r' v' w' p1 p2 => ?_)
   have p1' := p1.mono (lim_le (q := q i) hl)
   refine aops_seq hc hp hlim pairs l' _ _ e' h' r' _ w' (fun x hx => hm x (by simp [hx])) h4 ha2 p1.hr ((he.mono p1.le).put h3 p2) (p1'.fresh hf) (Nat.le_trans hl pre.1) fun r2 a2 w2 q1 q2 q3 => hK r2 a2 w2 (p1'.trans q1 (hf.left pre2.1)) q2 (by rw [q3, put_defers])
  ·rename_i hw
   rw [if_neg hw]
   exact aops_seq hc hp hlim pairs l' _ _ e' h' r _ w (fun x hx => hm x (by simp [hx])) h4 ha hr (he.put h3 (VR.undef _)) hf hl fun r2 a2 w2 q1 q2 q3 => hK r2 a2 w2 q1 q2 (by rw [q3, put_defers])
end
end Go.Proofs.YtalknjppnkpmmaaDoorW.Ai
