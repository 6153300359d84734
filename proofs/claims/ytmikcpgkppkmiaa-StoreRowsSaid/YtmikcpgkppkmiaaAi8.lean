/-
  The small machine and Go's: more operations. Of no program.
-/
import Derived.Test.YtmikcpgkppkmiaaAi7
set_option linter.unusedVariables false
set_option linter.unusedSimpArgs false
namespace Go.Proofs.YtmikcpgkppkmiaaW.Ai
variable {P : Program} {nb lim : Nat} {r : Rho} {h h' : AH} {w : World} {e : Env} {a : Act} {v : Value} {o : Oper}

theorem mapM_fields : ∀ (fs : List Field), (∀ f ∈ fs, ∃ n, Rs.size P f.type = some n) → ∃ l, (fs.mapM fun f => (do pure (f.offset, ← sizeOf f.type) : Sem (Nat × Nat))).run P w = .ok l w ∧ l.length = fs.length ∧ ∀ (i : Nat) f, fs[i]? = some f → ∃ n, Rs.size P f.type = some n ∧ l[i]? = some (f.offset, n)
  | [], _ => ⟨[], by simp, rfl, fun i f hf => by simp at hf⟩
  | f :: fs, hs => by
    obtain ⟨n, hn⟩ := hs f (by simp)
    obtain ⟨l, h1, h2, h3⟩ := mapM_fields fs (fun g hg => hs g (by simp [hg]))
    refine ⟨(f.offset, n) :: l, ?_, by simp [h2], fun i g hg => ?_⟩
    · rw [List.mapM_cons]
      simp only [Sem.run_bind, run_size hn, Result.andThen_ok, Sem.run_pure, h1]
    · cases i with
      | zero => simp at hg; subst hg; exact ⟨n, hn, rfl⟩
      | succ i => simpa using h3 i g (by simpa using hg)

theorem mapM_opt {α β : Type} {f : α → Option β} : ∀ {xs : List α} {ys : List β}, xs.mapM f = some ys → ys.length = xs.length ∧ ∀ (i : Nat) x y, xs[i]? = some x → ys[i]? = some y → f x = some y
  | [], ys, h => by simp at h; subst h; exact ⟨rfl, fun i x y hx => by simp at hx⟩
  | x :: xs, ys, h => by
    rw [List.mapM_cons] at h
    cases h1 : f x with
    | none => simp [h1] at h
    | some y =>
      cases h2 : xs.mapM f with
      | none => simp [h1, h2] at h
      | some zs =>
        simp [h1, h2] at h
        subst h
        obtain ⟨h3, h4⟩ := mapM_opt h2
        refine ⟨by simp [h3], fun i a b ha hb => ?_⟩
        cases i with
        | zero => simp at ha hb; subst ha; subst hb; exact h1
        | succ i => exact h4 i a b (by simpa using ha) (by simpa using hb)

theorem good_buildS (hr : HR nb r h w) {t : TypeId} {ps : Array (Nat × Operand)} (ho : o.op = .build t ps) {fs : Array Field} (hu : P.underlying t = some (.struct fs)) (hs : (fs.toList.all fun f => (Rs.size P f.type).isSome) = true) {z : List Value} (hz : Rs.zero P t = some z)
    {qs : List (Nat × Nat × Operand)} (hq : (ps.toList.mapM fun (p : Nat × Operand) => (fs[p.1]?).bind fun f => (Rs.size P f.type).map fun n => (f.offset, n, p.2)) = some qs)
    (hE : ∀ x ∈ ps.toList.map (·.2), VR r (ev e x) (a.eval x)) {cs : List Value} (ha : aFill e z qs = some cs) : Good P nb lim r h w o a (.agg cs.toArray) h := by
  obtain ⟨zv, z1, z2, z3, z4⟩ := run_zero (w := w) hz
  obtain ⟨l, m1, m2, m3⟩ := mapM_fields (P := P) (w := w) fs.toList (fun f hf => by
    rw [List.all_eq_true] at hs
    exact Option.isSome_iff_exists.1 (hs f hf))
  obtain ⟨q1, q2⟩ := mapM_opt hq
  have hmap : ps.toList.map (·.2) = qs.map (·.2.2) := by
    apply List.ext_getElem?
    intro i
    simp only [List.getElem?_map]
    cases hp : ps.toList[i]? with
    | none => rw [List.getElem?_eq_none (by rw [q1]; exact List.getElem?_eq_none_iff.1 hp)]; rfl
    | some p =>
      have hi : i < qs.length := by rw [q1]; exact (List.getElem?_eq_some_iff.1 hp).1
      have := q2 i p _ hp (List.getElem?_eq_getElem hi)
      rw [List.getElem?_eq_getElem hi]
      cases hf : fs[p.1]? with
      | none => simp [hf] at this
      | some f =>
        cases hn : Rs.size P f.type with
        | none => simp [hf, hn] at this
        | some n =>
          simp [hf, hn] at this
          simp [← this]
  obtain ⟨D, f1, f2⟩ := fill_run (r := r) (e := e) (ρ := a.eval) (place := (l.toArray[·]?)) ps.toList qs hmap (fun i p q hp hq' => by
      have := q2 i p q hp hq'
      cases hf : fs[p.1]? with
      | none => simp [hf] at this
      | some f =>
        cases hn : Rs.size P f.type with
        | none => simp [hf, hn] at this
        | some n =>
          simp [hf, hn] at this
          obtain ⟨n', g1, g2⟩ := m3 p.1 f (by simpa using hf)
          rw [hn] at g1
          injection g1 with g1
          subst g1
          simpa [← this] using g2)
    (fun x hx => hE x (by rw [hmap]; exact hx)) z zv.cells cs (by rw [z2]; exact VL.flat (by simp only [List.all_eq_true, Bool.and_eq_true] at z4 ⊢; exact fun x hx => (z4 x hx).1)) ha
  refine Good.same hr (v' := .agg D) ?_ (VR.agg' (by simpa using f2))
  have hm : (fs.mapM fun f => (do pure (f.offset, ← sizeOf f.type) : Sem (Nat × Nat))).run P w = .ok l.toArray w := by
    rw [Array.mapM_eq_mapM_toList]
    simp only [Sem.run_map, m1, Result.andThen_ok]
  have e1 : (ps.map fun x => (x.fst, a.eval x.snd)).toList = ps.toList.map fun p => (p.1, a.eval p.2) := by simp
  rw [execOp, ho]
  simp only [Instr.build, Sem.run_bind, z1, Result.andThen_ok, run_underlying hu]
  rw [hm]
  simp only [Result.andThen_ok, e1, f1]
  rfl

theorem good_buildA (hr : HR nb r h w) {t : TypeId} {ps : Array (Nat × Operand)} (ho : o.op = .build t ps) {m : Nat} {el : TypeId} (hu : P.underlying t = some (.array m el)) {z : List Value} (hz : Rs.zero P t = some z) {n : Nat} (hn : Rs.size P el = some n)
    (hE : ∀ x ∈ ps.toList.map (·.2), VR r (ev e x) (a.eval x)) {cs : List Value} (ha : aFill e z (ps.toList.map fun p => (p.1 * n, n, p.2)) = some cs) : Good P nb lim r h w o a (.agg cs.toArray) h := by
  obtain ⟨zv, z1, z2, z3, z4⟩ := run_zero (w := w) hz
  obtain ⟨D, f1, f2⟩ := fill_run (r := r) (e := e) (ρ := a.eval) (place := fun i => some (i * n, n)) ps.toList _ (by simp) (fun i p q hp hq' => by
      simp only [List.getElem?_map, hp, Option.map_some] at hq'
      injection hq' with hq'
      subst hq'
      rfl)
    (fun x hx => hE x (by simpa using hx)) z zv.cells cs (by rw [z2]; exact VL.flat (by simp only [List.all_eq_true, Bool.and_eq_true] at z4 ⊢; exact fun x hx => (z4 x hx).1)) ha
  refine Good.same hr (v' := .agg D) ?_ (VR.agg' (by simpa using f2))
  have e1 : (ps.map fun x => (x.fst, a.eval x.snd)).toList = ps.toList.map fun p => (p.1, a.eval p.2) := by simp
  rw [execOp, ho]
  simp only [Instr.build, Sem.run_bind, z1, Result.andThen_ok, run_underlying hu, run_size hn, e1, f1]
  rfl

theorem good_buildSlice (hr : HR nb r h w) {t : TypeId} {len : Nat} {ps : Array (Nat × Operand)} (ho : o.op = .buildSlice t len ps) {el : TypeId} (hu : P.underlying t = some (.slice el)) {z : List Value} (hz : Rs.zero P el = some z) (hz0 : 0 < z.length) (hlen : len * z.length ≤ 2 ^ 24)
    (hE : ∀ x ∈ ps.toList.map (·.2), VR r (ev e x) (a.eval x)) {cs : List Value} (ha : aFill e (reps z len) (ps.toList.map fun p => (p.1 * z.length, z.length, p.2)) = some cs) (hok : cs.all cellOk = true) (hf : Fresh r h (h ++ [.cells cs])) :
    Good P nb lim r h w o a (.slice (some ⟨h.length, 0, none⟩) len len) (h ++ [.cells cs]) := by
  obtain ⟨zv, z1, z2, z3, z4⟩ := run_zero (w := w) hz
  have hfl : VL r (reps z len) (reps z len) := VL.flat (reps_flat z4 len).1
  have hzs : zv.cells.size = z.length := by rw [← z2]; simp
  obtain ⟨C, hC, hCr⟩ : ∃ C : Array Value, C.toList = reps z len ∧ (len * z.length = 0 ∧ C = #[] ∨ len * z.length ≠ 0 ∧ C = (Array.range (len * z.length)).map (fun i => zv.cells[i % zv.cells.size]!)) := by
    by_cases h0 : len * z.length = 0
    · have : reps z len = [] := List.eq_nil_of_length_eq_zero (by rw [reps_length, h0])
      exact ⟨#[], by rw [this], .inl ⟨h0, rfl⟩⟩
    · refine ⟨_, ?_, .inr ⟨h0, rfl⟩⟩
      rw [← z2, show zv.cells.toList.length = zv.cells.size by simp]
      exact reps_array zv.cells (by omega) len
  obtain ⟨D, f1, f2⟩ := fill_run (r := r) (e := e) (ρ := a.eval) (place := fun i => some (i * z.length, z.length)) ps.toList _ (by simp) (fun i p q hp hq' => by
      simp only [List.getElem?_map, hp, Option.map_some] at hq'
      injection hq' with hq'
      subst hq'
      rfl)
    (fun x hx => hE x (by simpa using hx)) (reps z len) C cs (by rw [hC]; exact hfl) ha
  have e1 : (ps.map fun x => (x.fst, a.eval x.snd)).toList = ps.toList.map fun p => (p.1, a.eval p.2) := by simp
  refine Good.value (w' := w.alloc (.cells D el)) (v' := .slice (some ⟨w.heap.size, 0, none⟩) len len) ?_
    (Post.alloc (csz := D.size) hr (hf _ (Nat.le_refl _) (by simp)) ⟨rfl, rfl, by have := f2.1; simp at this; omega, fun j u hu => ?_⟩) (.slc _ _ _ _ ⟨w.heap.size, 0, _, true⟩ _ (Rho.put_same _ _) rfl (fun _ => ⟨rfl, rfl⟩) (Nat.le_refl _))
  · rw [execOp, ho]
    simp only [Instr.buildSlice, Sem.run_bind, run_underlying hu, run_size z3, Result.andThen_ok, if_neg (Nat.not_lt.2 hlen)]
    rcases hCr with ⟨h0, rfl⟩ | ⟨h0, rfl⟩
    · have er : Array.range (len * z.length) = #[] := by rw [h0]; rfl
      simp only [if_pos h0, Sem.run_pure, Result.andThen_ok, er, e1, List.map_toArray, Array.map_empty, Sem.run_bind, List.map_nil]
      rw [f1]
      simp [newRow]
    · simp only [if_neg h0, Sem.run_bind, z1, Sem.run_pure, Result.andThen_ok, e1, f1]
      simp [newRow]
  · obtain ⟨u', g1, g2⟩ := f2.get hu
    exact ⟨u', by simpa using g1, g2⟩

theorem VR.int_inv {k : IntKind} {n : Int} {x : Value} (hx : VR r (.int k n) x) : x = .int k n := by cases hx; rfl
theorem VR.string_inv {s : ByteArray} {x : Value} (hx : VR r (.string s) x) : x = .string s := by cases hx; rfl
theorem VR.bool_inv {s : Bool} {x : Value} (hx : VR r (.bool s) x) : x = .bool s := by cases hx; rfl

theorem good_conv (hr : HR nb r h w) {s d : TypeId} {x : Operand} (ho : o.op = .convert s d x) {ds : TypeDesc} (hs : P.underlying s = some ds) {k : IntKind} (hd : P.underlying d = some (.int k)) {j : IntKind} {n : Int} (hx : ev e x = .int j n) (hv : VR r (ev e x) (a.eval x)) : Good P nb lim r h w o a (.int k (k.wrap n)) h := by
  rw [hx] at hv
  have h1 := hv.int_inv
  refine Good.same hr (v' := .int k (k.wrap n)) ?_ (.int _ _)
  rw [execOp, ho]
  simp [convert, run_underlying hs, run_underlying hd, h1, Conv.intToInt]
theorem good_convStr (hr : HR nb r h w) {s d : TypeId} {x : Operand} (ho : o.op = .convert s d x) {ds : TypeDesc} (hs : P.underlying s = some ds) (hd : P.underlying d = some .string) {n : ByteArray} (hx : ev e x = .string n) (hv : VR r (ev e x) (a.eval x)) : Good P nb lim r h w o a (.string n) h := by
  rw [hx] at hv
  have h1 := hv.string_inv
  refine Good.same hr (v' := .string n) ?_ (.string _)
  rw [execOp, ho]
  simp [convert, run_underlying hs, run_underlying hd, h1]
theorem good_iface (hr : HR nb r h w) {t : TypeId} {x : Operand} (ho : o.op = .makeInterface t x) (ht : ∃ d, P.underlying t = some d ∧ ∀ ms, d ≠ .interface ms) (hv : VR r (ev e x) (a.eval x)) : Good P nb lim r h w o a (.iface t (ev e x)) h := by
  obtain ⟨d, hd, hn⟩ := ht
  refine Good.same hr (v' := .iface t (a.eval x)) ?_ (.iface _ _ _ hv)
  rw [execOp, ho]
  cases d <;> first | (exact absurd rfl (hn _)) | simp [Instr.makeInterface, run_underlying hd]
theorem VL.map {xs : List Operand} {f g : Operand → Value} (hx : ∀ x ∈ xs, VR r (f x) (g x)) : VL r (xs.map f) (xs.map g) := by
  induction xs with
  | nil => exact VL.nil r
  | cons x xs ih => exact VL.cons (hx x (by simp)) (ih fun y hy => hx y (by simp [hy]))
theorem good_func (hr : HR nb r h w) {fn : Fn} {x y : Array Operand} (ho : o.op = .makeFunc fn x y) (hx : ∀ z ∈ x.toList, VR r (ev e z) (a.eval z)) (hy : ∀ z ∈ y.toList, VR r (ev e z) (a.eval z)) :
    Good P nb lim r h w o a (.func fn (x.toList.map (ev e)).toArray (y.toList.map (ev e)).toArray) h := by
  refine Good.same hr (v' := .func fn (x.map a.eval) (y.map a.eval)) (by rw [execOp, ho]; simp [Instr.makeFunc]) ?_
  have h1 := VL.map hx
  have h2 := VL.map hy
  have e1 : VL r (x.toList.map (ev e)).toArray.toList (x.map a.eval).toList := by simpa using h1
  have e2 : VL r (y.toList.map (ev e)).toArray.toList (y.map a.eval).toList := by simpa using h2
  exact .func fn _ _ _ _ e1.arr.1 e2.arr.1 e1.arr.2 e2.arr.2
theorem good_mkMap (hr : HR nb r h w) {t : TypeId} (ho : o.op = .makeMap t none) (hf : Fresh r h (h ++ [.map []])) : Good P nb lim r h w o a (.map (some h.length)) (h ++ [.map []]) := by
  refine Good.value (w' := w.alloc (.map #[] 0)) (v' := .map (some w.heap.size)) (by rw [execOp, ho]; simp [Instr.makeMap])
    (Post.alloc (csz := 0) hr (hf _ (Nat.le_refl _) (by simp)) ⟨rfl, fun i e c he => by simp at he⟩) (.map _ ⟨w.heap.size, 0, _, true⟩ (Rho.put_same _ _))
theorem good_mkSlice (hr : HR nb r h w) {t : TypeId} {lo co : Operand} (ho : o.op = .makeSlice t lo co) {el : TypeId} (hu : P.underlying t = some (.slice el)) {z : List Value} (hz : Rs.zero P el = some z) (hz0 : 0 < z.length) {by_ : Nat} (hb : Rs.bytes P el = some by_) {l c : Int} (hl : ev e lo = .int .i64 l) (hc : ev e co = .int .i64 c)
    (hvl : VR r (ev e lo) (a.eval lo)) (hvc : VR r (ev e co) (a.eval co)) (h0 : 0 ≤ l ∧ l ≤ c ∧ (by_ : Int) * c ≤ 2 ^ 48 ∧ c < 2 ^ 62) (hf : Fresh r h (h ++ [.cells (reps z c.toNat)])) :
    Good P nb lim r h w o a (.slice (some ⟨h.length, 0, none⟩) l.toNat c.toNat) (h ++ [.cells (reps z c.toNat)]) := by
  obtain ⟨zv, z1, z2, z3, z4⟩ := run_zero (w := w) hz
  obtain ⟨bi, b1, b2⟩ := run_bytes (w := w) hb
  rw [hl] at hvl
  rw [hc] at hvc
  have e1 := hvl.int_inv
  have e2 := hvc.int_inv
  obtain ⟨g0, g1, g2, g3⟩ := h0
  have w1 : IntKind.i64.wrap l = l := by rw [IntKind.wrap_i64]; omega
  have w2 : IntKind.i64.wrap c = c := by rw [IntKind.wrap_i64]; omega
  have hzs : zv.cells.size = z.length := by rw [← z2]; simp
  obtain ⟨C, hC, hCr⟩ : ∃ C : Array Value, C.toList = reps z c.toNat ∧ ((if c.toNat * z.length = 0 then (pure #[] : Sem (Array Value)) else (do pure (← zeroValue el).cells)).run P w).andThen (fun x w' => Result.ok ((Array.range (c.toNat * z.length)).map (fun i => x[i % x.size]!)) w') = .ok C w := by
    by_cases h0 : c.toNat * z.length = 0
    · refine ⟨#[], ?_, by rw [h0]; simp⟩
      have : reps z c.toNat = [] := List.eq_nil_of_length_eq_zero (by rw [reps_length, h0])
      rw [this]
    · refine ⟨(Array.range (c.toNat * z.length)).map (fun i => zv.cells[i % zv.cells.size]!), ?_, by simp [h0, z1]⟩
      rw [← z2, show zv.cells.toList.length = zv.cells.size by simp]
      exact reps_array zv.cells (by omega) c.toNat
  refine Good.value (w' := w.alloc (.cells C el)) (v' := .slice (some ⟨w.heap.size, 0, none⟩) l.toNat c.toNat) ?_
    (Post.alloc (csz := C.size) hr (hf _ (Nat.le_refl _) (by simp)) ⟨rfl, rfl, by rw [← hC]; simp, fun j u hu => ?_⟩) (.slc _ _ _ _ ⟨w.heap.size, 0, _, true⟩ _ (Rho.put_same _ _) rfl (fun _ => ⟨rfl, rfl⟩) (by omega))
  · rw [execOp, ho]
    have q1 : (decide (c < 0) || decide ((by_ : Int) * c > 2 ^ 48)) = false := by simp; omega
    by_cases h0 : c.toNat * z.length = 0
    · have hCe : C = #[] := by
        apply Array.ext'
        rw [hC]
        exact List.eq_nil_of_length_eq_zero (by rw [reps_length, h0])
      subst hCe
      have er : Array.range 0 = #[] := rfl
      have hq : ∀ (x y : Sem Value), (if 2 ^ 48 < (by_ : Int) * c then x else y) = y := fun x y => if_neg (by omega)
      simp [Instr.makeSlice, run_underlying hu, e1, e2, asInt, asIntOf, b1, b2, w1, w2, run_size z3, h0, newRow, er, show ¬ c < 0 by omega, show ¬ l < 0 by omega, show ¬ c < l by omega, show ¬ (2 ^ 48 < (by_ : Int) * c) by omega, show ¬ (281474976710656 < (by_ : Int) * c) by omega]
    · simp only [if_neg h0, Sem.run_bind, z1, Result.andThen_ok, Sem.run_pure] at hCr
      injection hCr with hCr
      simp [Instr.makeSlice, run_underlying hu, e1, e2, asInt, asIntOf, b1, b2, w1, w2, run_size z3, h0, newRow, z1, show ¬ c < 0 by omega, show ¬ l < 0 by omega, show ¬ c < l by omega, show ¬ (281474976710656 < (by_ : Int) * c) by omega, hCr]
  · have hfl : VL r (reps z c.toNat) (reps z c.toNat) := VL.flat (reps_flat z4 _).1
    obtain ⟨u', g1, g2⟩ := hfl.get hu
    exact ⟨u', by rw [← Array.getElem?_toList, hC]; exact g1, g2⟩

theorem good_fieldAddr (hr : HR nb r h w) {t : TypeId} {x : Operand} {i : Nat} (ho : o.op = .fieldAddr t x i) {fs : Array Field} (hu : P.underlying t = some (.struct fs)) {f : Field} (hf : fs[i]? = some f) {n : Nat} (hn : Rs.size P f.type = some n) (h0 : n ≠ 0) {b q : Nat} (hx : ev e x = .pointer (some ⟨b, q, none⟩)) (hv : VR r (ev e x) (a.eval x)) :
    Good P nb lim r h w o a (.pointer (some ⟨b, q + f.offset, none⟩)) h := by
  rw [hx] at hv
  obtain ⟨j, hj, h1⟩ := hv.ptr_inv
  refine Good.same hr (v' := .pointer (some ⟨j.blk, j.base + (q + f.offset), none⟩)) ?_ (.ptr _ _ _ hj)
  rw [execOp, ho]
  simp [Instr.fieldAt, run_underlying hu, hf, h1, Instr.sureAddr, fieldPlace, run_size hn, h0, addr_add, Nat.add_assoc]
theorem good_field (hr : HR nb r h w) {t : TypeId} {x : Operand} {i : Nat} (ho : o.op = .field t x i) {fs : Array Field} (hu : P.underlying t = some (.struct fs)) {f : Field} (hf : fs[i]? = some f) {n : Option Nat} (hn : Rs.aggN P f.type = some n) {cs : Array Value} (hx : ev e x = .agg cs) (hv : VR r (ev e x) (a.eval x)) (hl : loadAt n cs.toList f.offset = some v) :
    Good P nb lim r h w o a v h := by
  rw [hx] at hv
  obtain ⟨ys, h1, h2⟩ := hv.agg_inv
  obtain ⟨v', h3, h4⟩ := part_run (P := P) (w := w) hn h2 hl
  refine Good.same hr (v' := v') ?_ h4
  rw [execOp, ho]
  simp [Instr.field, run_underlying hu, hf, h1, asAgg, h3]
theorem VR.slice_inv {A : Option Addr} {n c : Nat} {x : Value} (hv : VR r (.slice A n c) x) : ∃ B d, x = .slice B n d ∧ c ≤ d ∧ (A = none → B = none ∧ n = 0 ∧ c = 0 ∧ d = 0) ∧
    ∀ b q m, A = some ⟨b, q, m⟩ → n ≤ c ∧ ∃ i y, B = some y ∧ r b = some i ∧ y.block = i.blk ∧ (0 < c → y.off = i.base + q ∧ y.spot = none) := by
  cases hv with
  | slc0 => exact ⟨none, 0, rfl, Nat.le_refl _, fun _ => ⟨rfl, rfl, rfl, rfl⟩, fun b q m h => by cases h⟩
  | slc b o n c i y h1 h2 h3 h4 => exact ⟨some y, c, rfl, Nat.le_refl _, (fun h => by cases h), fun b q m h => by injection h with h; injection h with e1 e2 e3; subst e1; subst e2; exact ⟨h4, i, y, rfl, h1, h2, h3⟩⟩
  | slcIn b o s n c d i y h1 h2 h3 h4 h5 h6 => exact ⟨some y, d, rfl, h5, (fun h => by cases h), fun b q m h => by injection h with h; injection h with e1 e2 e3; subst e1; subst e2; exact ⟨h4, i, y, rfl, h1, h2, fun hc => h3 (.inl hc)⟩⟩
theorem good_idxAddr (hr : HR nb r h w) {t : TypeId} {x y : Operand} (ho : o.op = .indexAddr t x y) {el : TypeId} (hu : P.underlying t = some (.slice el)) {s : Nat} (hs : Rs.size P el = some s) {b q : Nat} {m : Option Nat} {n c : Nat} {k : IntKind} {j : Int} (hx : ev e x = .slice (some ⟨b, q, m⟩) n c) (hy : ev e y = .int k j) (hvx : VR r (ev e x) (a.eval x)) (hvy : VR r (ev e y) (a.eval y)) (h0 : 0 ≤ j ∧ j < n) :
    Good P nb lim r h w o a (.pointer (some ⟨b, q + j.toNat * s, none⟩)) h := by
  rw [hx] at hvx
  rw [hy] at hvy
  obtain ⟨B, d, h1, h2, h3, h4⟩ := hvx.slice_inv
  obtain ⟨h5, i, y', rfl, h6, h7, h8⟩ := h4 _ _ _ rfl
  obtain ⟨h9, h10⟩ := h8 (by omega)
  have e2 := hvy.int_inv
  obtain ⟨yb, yo, ys⟩ := y'
  simp only at h7 h9 h10
  subst h7; subst h9; subst h10
  refine Good.same hr (v' := .pointer (some ⟨i.blk, i.base + (q + j.toNat * s), none⟩)) ?_ (.ptr _ _ _ h6)
  rw [execOp, ho]
  simp [Instr.indexAt, run_underlying hu, h1, e2, asIntOf, run_size hs, h0.1, h0.2, addr_add, Nat.add_assoc]
theorem good_idxAddrArr (hr : HR nb r h w) {t : TypeId} {x y : Operand} (ho : o.op = .indexAddr t x y) {el : TypeId} {n : Nat} (hu : P.underlying t = some (.array n el)) {s : Nat} (hs : Rs.size P el = some s) {b q : Nat} {k : IntKind} {j : Int} (hx : ev e x = .pointer (some ⟨b, q, none⟩)) (hy : ev e y = .int k j) (hvx : VR r (ev e x) (a.eval x)) (hvy : VR r (ev e y) (a.eval y)) (h0 : 0 ≤ j ∧ j < n) :
    Good P nb lim r h w o a (.pointer (some ⟨b, q + j.toNat * s, none⟩)) h := by
  rw [hx] at hvx
  rw [hy] at hvy
  obtain ⟨i, h6, h1⟩ := hvx.ptr_inv
  have e2 := hvy.int_inv
  refine Good.same hr (v' := .pointer (some ⟨i.blk, i.base + (q + j.toNat * s), none⟩)) ?_ (.ptr _ _ _ h6)
  rw [execOp, ho]
  simp [Instr.indexAt, run_underlying hu, h1, e2, asIntOf, Instr.sureAddr, run_size hs, h0.1, h0.2, addr_add, Nat.add_assoc]
theorem good_idxArr (hr : HR nb r h w) {t : TypeId} {x y : Operand} (ho : o.op = .index t x y) {el : TypeId} {n : Nat} (hu : P.underlying t = some (.array n el)) {s : Nat} (hs : Rs.size P el = some s) {g : Option Nat} (hg : Rs.aggN P el = some g) {cs : Array Value} {k : IntKind} {j : Int} (hx : ev e x = .agg cs) (hy : ev e y = .int k j) (hvx : VR r (ev e x) (a.eval x)) (hvy : VR r (ev e y) (a.eval y)) (h0 : 0 ≤ j ∧ j < n) (hl : loadAt g cs.toList (j.toNat * s) = some v) :
    Good P nb lim r h w o a v h := by
  rw [hx] at hvx
  rw [hy] at hvy
  obtain ⟨ys, h1, h2⟩ := hvx.agg_inv
  have e2 := hvy.int_inv
  obtain ⟨v', h3, h4⟩ := part_run (P := P) (w := w) hg h2 hl
  refine Good.same hr (v' := v') ?_ h4
  rw [execOp, ho]
  simp [Instr.index, run_underlying hu, h1, e2, asIntOf, run_size hs, h0.1, h0.2, h3]
theorem good_idxStr (hr : HR nb r h w) {t : TypeId} {x y : Operand} (ho : o.op = .index t x y) (hu : P.underlying t = some .string) {s : ByteArray} {k : IntKind} {j : Int} (hx : ev e x = .string s) (hy : ev e y = .int k j) (hvx : VR r (ev e x) (a.eval x)) (hvy : VR r (ev e y) (a.eval y)) (h0 : 0 ≤ j) {b : UInt8} (hb : s[j.toNat]? = some b) :
    Good P nb lim r h w o a (.int .u8 b.toNat) h := by
  rw [hx] at hvx
  rw [hy] at hvy
  have e1 := hvx.string_inv
  have e2 := hvy.int_inv
  refine Good.same hr (v' := .int .u8 b.toNat) ?_ (.int _ _)
  rw [execOp, ho]
  simp [Instr.index, run_underlying hu, e1, e2, asIntOf, h0, hb]
theorem good_extract (hr : HR nb r h w) {x : Operand} {i : Nat} (ho : o.op = .extract x i) {vs : Array Value} (hx : ev e x = .tuple vs) (hv : VR r (ev e x) (a.eval x)) (hl : vs[i]? = some v) : Good P nb lim r h w o a v h := by
  rw [hx] at hv
  obtain ⟨ys, h1, h2⟩ := hv.tuple_inv
  obtain ⟨v', h3, h4⟩ := h2.get (by simpa using hl)
  refine Good.same hr (v' := v') ?_ h4
  rw [execOp, ho]
  have h5 : ys[i]? = some v' := by simpa using h3
  simp [Instr.extract, h1, h5]

end Go.Proofs.YtmikcpgkppkmiaaW.Ai
