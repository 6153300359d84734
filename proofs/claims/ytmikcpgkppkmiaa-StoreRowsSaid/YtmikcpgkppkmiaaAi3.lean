/-
  The small machine and Go's: how values and heaps of the one stand for those of the other. Of no program.
-/
import Derived.Test.YtmikcpgkppkmiaaAi2
import Derived.Below
set_option linter.unusedVariables false
set_option linter.unusedSimpArgs false
namespace Go.Proofs.YtmikcpgkppkmiaaW.Ai

/-- What a block of the small machine stands for: a block of Go's, where its first cell is there, how many cells that block has, whether the call made it. -/
structure Im where
  blk : Nat
  base : Nat
  csz : Nat
  own : Bool
abbrev Rho := Nat → Option Im
def Rho.Le (r s : Rho) : Prop := ∀ b i, r b = some i → s b = some i
theorem Rho.Le.refl (r : Rho) : r.Le r := fun _ _ h => h
theorem Rho.Le.trans {r s t : Rho} (h : r.Le s) (k : s.Le t) : r.Le t := fun b i x => k b i (h b i x)

inductive VR (r : Rho) : Value → Value → Prop where
  | bool (b : Bool) : VR r (.bool b) (.bool b)
  | int (k : IntKind) (n : Int) : VR r (.int k n) (.int k n)
  | string (s : ByteArray) : VR r (.string s) (.string s)
  | ptr0 : VR r (.pointer none) (.pointer none)
  | ptr (b o : Nat) (i : Im) (h : r b = some i) : VR r (.pointer (some ⟨b, o, none⟩)) (.pointer (some ⟨i.blk, i.base + o, none⟩))
  | slc0 : VR r (.slice none 0 0) (.slice none 0 0)
  | slc (b o n c : Nat) (i : Im) (a : Addr) (h : r b = some i) (hb : a.block = i.blk) (ho : 0 < c → a.off = i.base + o ∧ a.spot = none) (hn : n ≤ c) : VR r (.slice (some ⟨b, o, none⟩) n c) (.slice (some a) n c)
  | slcIn (b o s n c d : Nat) (i : Im) (a : Addr) (h : r b = some i) (hb : a.block = i.blk) (ho : 0 < c ∨ i.own = true ∧ 0 < d → a.off = i.base + o ∧ a.spot = none) (hn : n ≤ c) (hc : c ≤ d) (hs : i.own = true → 0 < d → i.base + o + d * s ≤ i.csz) :
      VR r (.slice (some ⟨b, o, some s⟩) n c) (.slice (some a) n d)
  | map0 : VR r (.map none) (.map none)
  | map (b : Nat) (i : Im) (h : r b = some i) : VR r (.map (some b)) (.map (some i.blk))
  | func (fn : Fn) (f f' c c' : Array Value) (h1 : f.size = f'.size) (h2 : c.size = c'.size) (k1 : ∀ (i : Nat) u v, f[i]? = some u → f'[i]? = some v → VR r u v) (k2 : ∀ (i : Nat) u v, c[i]? = some u → c'[i]? = some v → VR r u v) : VR r (.func fn f c) (.func fn f' c')
  | nilFunc : VR r .nilFunc .nilFunc
  | nilIface : VR r .nilIface .nilIface
  | iface (t : TypeId) (v v' : Value) (h : VR r v v') : VR r (.iface t v) (.iface t v')
  | agg (xs ys : Array Value) (h1 : xs.size = ys.size) (k1 : ∀ (i : Nat) u v, xs[i]? = some u → ys[i]? = some v → VR r u v) : VR r (.agg xs) (.agg ys)
  | tuple (xs ys : Array Value) (h1 : xs.size = ys.size) (k1 : ∀ (i : Nat) u v, xs[i]? = some u → ys[i]? = some v → VR r u v) : VR r (.tuple xs) (.tuple ys)

theorem VR.mono {r s : Rho} (hl : r.Le s) {x y : Value} (h : VR r x y) : VR s x y := by
  induction h with
  | bool b => exact .bool b
  | int k n => exact .int k n
  | string s => exact .string s
  | ptr0 => exact .ptr0
  | ptr b o i h => exact .ptr b o i (hl _ _ h)
  | slc0 => exact .slc0
  | slc b o n c i a h hb ho hn => exact .slc b o n c i a (hl _ _ h) hb ho hn
  | slcIn b o z n c d i a h hb ho hn hc hs => exact .slcIn b o z n c d i a (hl _ _ h) hb ho hn hc hs
  | map0 => exact .map0
  | map b i h => exact .map b i (hl _ _ h)
  | func fn f f' c c' h1 h2 _ _ k1 k2 => exact .func fn f f' c c' h1 h2 k1 k2
  | nilFunc => exact .nilFunc
  | nilIface => exact .nilIface
  | iface t v v' _ ih => exact .iface t v v' ih
  | agg xs ys h1 _ k1 => exact .agg xs ys h1 k1
  | tuple xs ys h1 _ k1 => exact .tuple xs ys h1 k1

theorem VR.undef (r : Rho) : VR r undef undef := .tuple #[] #[] rfl (fun i u v h _ => by simp at h)

/-- Lists of values. -/
def VL (r : Rho) (xs ys : List Value) : Prop := xs.length = ys.length ∧ ∀ (i : Nat) u v, xs[i]? = some u → ys[i]? = some v → VR r u v
theorem VL.mono {r s : Rho} (hl : r.Le s) {xs ys : List Value} (h : VL r xs ys) : VL s xs ys := ⟨h.1, fun i u v hu hv => (h.2 i u v hu hv).mono hl⟩
theorem VL.nil (r : Rho) : VL r [] [] := ⟨rfl, fun i u v h _ => by simp at h⟩
theorem VL.cons {r : Rho} {x y : Value} {xs ys : List Value} (h : VR r x y) (k : VL r xs ys) : VL r (x :: xs) (y :: ys) :=
  ⟨by simp [k.1], fun i u v hu hv => by
    cases i with
    | zero => simp at hu hv; subst hu; subst hv; exact h
    | succ i => exact k.2 i u v (by simpa using hu) (by simpa using hv)⟩
theorem VL.cons_inv {r : Rho} {x : Value} {xs zs : List Value} (h : VL r (x :: xs) zs) : ∃ y ys, zs = y :: ys ∧ VR r x y ∧ VL r xs ys := by
  cases zs with
  | nil => simp [VL] at h
  | cons y ys => exact ⟨y, ys, rfl, h.2 0 x y rfl rfl, by have := h.1; simpa using this, fun i u v hu hv => h.2 (i + 1) u v (by simpa using hu) (by simpa using hv)⟩
theorem VL.nil_inv {r : Rho} {zs : List Value} (h : VL r [] zs) : zs = [] := List.eq_nil_of_length_eq_zero h.1.symm
theorem VL.get {r : Rho} {xs ys : List Value} (h : VL r xs ys) {i : Nat} {u : Value} (hu : xs[i]? = some u) : ∃ v, ys[i]? = some v ∧ VR r u v := by
  have hi : i < xs.length := (List.getElem?_eq_some_iff.1 hu).1
  have hy : ys[i]? = some (ys[i]'(h.1 ▸ hi)) := List.getElem?_eq_getElem _
  exact ⟨_, hy, h.2 i u _ hu hy⟩
theorem VL.append {r : Rho} {xs ys xs' ys' : List Value} (h : VL r xs ys) (k : VL r xs' ys') : VL r (xs ++ xs') (ys ++ ys') :=
  ⟨by simp [h.1, k.1], fun i u v hu hv => by
    rw [List.getElem?_append] at hu hv
    rw [← h.1] at hv
    split at hu
    · rename_i hi; rw [if_pos hi] at hv; exact h.2 i u v hu hv
    · rename_i hi; rw [if_neg hi] at hv; exact k.2 _ u v hu hv⟩
theorem VL.take {r : Rho} {xs ys : List Value} (h : VL r xs ys) (n : Nat) : VL r (xs.take n) (ys.take n) :=
  ⟨by simp [h.1], fun i u v hu hv => by
    rw [List.getElem?_take] at hu hv
    split at hu
    · rename_i hi; rw [if_pos hi] at hv; exact h.2 i u v hu hv
    · simp at hu⟩
theorem VL.drop {r : Rho} {xs ys : List Value} (h : VL r xs ys) (n : Nat) : VL r (xs.drop n) (ys.drop n) :=
  ⟨by simp [h.1], fun i u v hu hv => by
    rw [List.getElem?_drop] at hu hv
    exact h.2 _ u v hu hv⟩
theorem VL.over {r : Rho} {xs ys us vs : List Value} (h : VL r xs ys) (k : VL r us vs) (o : Nat) : VL r (over xs o us) (over ys o vs) := by
  unfold Ai.over
  rw [k.1]
  exact ((h.take o).append k).append (h.drop _)
theorem VL.of_arr {r : Rho} {xs ys : Array Value} (h1 : xs.size = ys.size) (k1 : ∀ (i : Nat) u v, xs[i]? = some u → ys[i]? = some v → VR r u v) : VL r xs.toList ys.toList :=
  ⟨by simpa using h1, fun i u v hu hv => k1 i u v (by simpa using hu) (by simpa using hv)⟩
theorem VL.arr {r : Rho} {xs ys : Array Value} (h : VL r xs.toList ys.toList) : xs.size = ys.size ∧ ∀ (i : Nat) u v, xs[i]? = some u → ys[i]? = some v → VR r u v :=
  ⟨by simpa using h.1, fun i u v hu hv => h.2 i u v (by simpa using hu) (by simpa using hv)⟩
theorem VR.agg' {r : Rho} {xs ys : Array Value} (h : VL r xs.toList ys.toList) : VR r (.agg xs) (.agg ys) := .agg _ _ h.arr.1 h.arr.2
theorem VR.tuple' {r : Rho} {xs ys : Array Value} (h : VL r xs.toList ys.toList) : VR r (.tuple xs) (.tuple ys) := .tuple _ _ h.arr.1 h.arr.2
theorem VR.aggL {r : Rho} {xs ys : List Value} (h : VL r xs ys) : VR r (.agg xs.toArray) (.agg ys.toArray) := VR.agg' (by simpa using h)
theorem VR.tupleL {r : Rho} {xs ys : List Value} (h : VL r xs ys) : VR r (.tuple xs.toArray) (.tuple ys.toArray) := VR.tuple' (by simpa using h)
theorem VR.agg_inv {r : Rho} {xs : Array Value} {y : Value} (h : VR r (.agg xs) y) : ∃ ys, y = .agg ys ∧ VL r xs.toList ys.toList := by
  cases h with
  | agg _ ys h1 k1 => exact ⟨ys, rfl, VL.of_arr h1 k1⟩
theorem VR.tuple_inv {r : Rho} {xs : Array Value} {y : Value} (h : VR r (.tuple xs) y) : ∃ ys, y = .tuple ys ∧ VL r xs.toList ys.toList := by
  cases h with
  | tuple _ ys h1 k1 => exact ⟨ys, rfl, VL.of_arr h1 k1⟩
theorem VR.cells {r : Rho} {x y : Value} (h : VR r x y) : VL r x.cells.toList y.cells.toList := by
  cases h with
  | agg xs ys h1 k1 => exact VL.of_arr h1 k1
  | _ => exact VL.cons (by constructor <;> assumption) (VL.nil r)
theorem VR.cells_size {r : Rho} {x y : Value} (h : VR r x y) : y.cells.size = x.cells.size := by simpa using h.cells.1.symm
theorem VR.cellOk {r : Rho} {x y : Value} (h : VR r x y) : Ai.cellOk y = Ai.cellOk x := by cases h <;> rfl
theorem VL.all_cellOk {r : Rho} {xs ys : List Value} (h : VL r xs ys) (k : xs.all cellOk = true) : ys.all cellOk = true := by
  rw [List.all_eq_true] at k ⊢
  intro y hy
  obtain ⟨i, hi, rfl⟩ := List.getElem_of_mem hy
  have hx : i < xs.length := h.1 ▸ hi
  rw [(h.2 i _ _ (List.getElem?_eq_getElem hx) (List.getElem?_eq_getElem hi)).cellOk]
  exact k _ (List.getElem_mem hx)

theorem VR.flat {r : Rho} {v : Value} (h : flat v = true) : VR r v v := by
  cases v with
  | bool b => exact .bool b
  | int k n => exact .int k n
  | string s => exact .string s
  | pointer a => cases a with
    | none => exact .ptr0
    | some a => simp [Ai.flat] at h
  | slice a n c => cases a with
    | none =>
      cases n with
      | zero => cases c with
        | zero => exact .slc0
        | succ c => simp [Ai.flat] at h
      | succ n => simp [Ai.flat] at h
    | some a => simp [Ai.flat] at h
  | map a => cases a with
    | none => exact .map0
    | some a => simp [Ai.flat] at h
  | func fn a b =>
    simp only [Ai.flat, Bool.and_eq_true, Array.isEmpty_iff] at h
    obtain ⟨rfl, rfl⟩ := h
    exact .func fn _ _ _ _ rfl rfl (fun i u v hu _ => by simp at hu) (fun i u v hu _ => by simp at hu)
  | nilFunc => exact .nilFunc
  | nilIface => exact .nilIface
  | float _ _ => simp [Ai.flat] at h
  | complex _ _ _ => simp [Ai.flat] at h
  | chan _ => simp [Ai.flat] at h
  | iface _ _ => simp [Ai.flat] at h
  | agg _ => simp [Ai.flat] at h
  | tuple _ => simp [Ai.flat] at h
theorem VL.flat {r : Rho} : ∀ {l : List Value}, l.all Ai.flat = true → VL r l l
  | [], _ => VL.nil r
  | x :: l, h => by
    rw [List.all_cons, Bool.and_eq_true] at h
    exact VL.cons (VR.flat h.1) (VL.flat h.2)
theorem VR.flatV {r : Rho} {v : Value} (h : flatV v = true) : VR r v v := by
  cases v with
  | agg cs => exact VR.agg' (VL.flat (by simpa [Ai.flatV] using h))
  | tuple cs =>
    have : cs = #[] := by simpa [Ai.flatV] using h
    subst this
    exact VR.undef r
  | _ => exact VR.flat h
/-- What has no address stands for itself alone. -/
theorem VR.eq_of_flat {r : Rho} {v v' : Value} (h : VR r v v') (hf : Ai.flat v = true) : v' = v := by
  cases h <;> first | rfl | (simp [Ai.flat] at hf; done) | skip
  rename_i fn f f' c c' h1 h2 k1 k2
  simp only [Ai.flat, Bool.and_eq_true, Array.isEmpty_iff] at hf
  obtain ⟨rfl, rfl⟩ := hf
  rw [Array.eq_empty_of_size_eq_zero h1.symm, Array.eq_empty_of_size_eq_zero h2.symm]

/-! ### heaps -/
def live (x : Option Blk) : Bool :=
  match x with
  | some (.cells _) | some (.map _) => true
  | _ => false
/-- A map's entries. -/
def ME (r : Rho) (es : List (Value × Value)) (cs : List MapEntry) : Prop :=
  es.length = cs.length ∧ ∀ (i : Nat) e c, es[i]? = some e → cs[i]? = some c → c.key = e.1 ∧ VR r e.2 c.val
theorem ME.mono {r s : Rho} (hl : r.Le s) {es : List (Value × Value)} {cs : List MapEntry} (h : ME r es cs) : ME s es cs :=
  ⟨h.1, fun i e c he hc => ⟨(h.2 i e c he hc).1, (h.2 i e c he hc).2.mono hl⟩⟩

structure HR (nb : Nat) (r : Rho) (h : AH) (w : World) : Prop where
  cells : ∀ {b i cs}, r b = some i → h[b]? = some (.cells cs) → ∀ (j : Nat) u, cs[j]? = some u → ∃ v, w.cell? ⟨i.blk, i.base + j, none⟩ = some v ∧ VR r u v
  own : ∀ {b i cs}, r b = some i → i.own = true → h[b]? = some (.cells cs) → ∃ ccs t, w.heap[i.blk]? = some (.cells ccs t (0, 0)) ∧ ccs.size = i.csz ∧ i.base + cs.length ≤ i.csz
  inj : ∀ {b b' i i'}, r b = some i → r b' = some i' → i.own = true → live h[b]? = true → live h[b']? = true → i.blk = i'.blk → b = b'
  map : ∀ {b i es}, r b = some i → h[b]? = some (.map es) → ∃ ces clk, w.heap[i.blk]? = some (.map ces clk) ∧ ME r es ces.toList
  bd : ∀ {b i}, r b = some i → live h[b]? = true → i.blk < w.heap.size
  mine : ∀ {b i}, r b = some i → nb ≤ b → i.own = true

/-- Go's blocks that may be written. -/
def Chg (lim : Nat) (r : Rho) (h : AH) (c : Nat) : Prop := ∃ b i, lim ≤ b ∧ b < h.length ∧ r b = some i ∧ i.own = true ∧ i.blk = c

def Fresh (r : Rho) (h h' : AH) : Prop := ∀ b, h.length ≤ b → b < h'.length → r b = none

structure Post (nb lim : Nat) (r : Rho) (h : AH) (w : World) (r' : Rho) (h' : AH) (w' : World) : Prop where
  hr : HR nb r' h' w'
  le : r.Le r'
  new : ∀ {b i}, r' b = some i → r b = some i ∨ (h.length ≤ b ∧ b < h'.length ∧ i.own = true ∧ (w.heap.size ≤ i.blk ∨ Chg lim r h i.blk))
  len : h.length ≤ h'.length
  os : w'.os = w.os
  tape : w'.tape = w.tape
  output : w'.output = w.output
  size : w.heap.size ≤ w'.heap.size
  keep : ∀ c, c < w.heap.size → ¬ Chg lim r h c → w'.heap[c]? = w.heap[c]?

theorem Post.refl {nb lim : Nat} {r : Rho} {h : AH} {w : World} (hr : HR nb r h w) : Post nb lim r h w r h w :=
  ⟨hr, Rho.Le.refl r, fun h => .inl h, Nat.le_refl _, rfl, rfl, rfl, Nat.le_refl _, fun _ _ _ => rfl⟩

theorem Post.chg {nb lim : Nat} {r r1 : Rho} {h h1 : AH} {w w1 : World} (p : Post nb lim r h w r1 h1 w1) (hf : Fresh r h h1) {c : Nat} (hc : Chg lim r1 h1 c) : w.heap.size ≤ c ∨ Chg lim r h c := by
  obtain ⟨b, i, h0, h2, h3, h4, h5⟩ := hc
  rcases p.new h3 with h6 | ⟨_, _, _, h6⟩
  · by_cases hb : b < h.length
    · exact .inr ⟨b, i, h0, hb, h6, h4, h5⟩
    · rw [hf b (by omega) h2] at h6; cases h6
  · rw [← h5]; exact h6

theorem Post.trans {nb lim : Nat} {r r1 r2 : Rho} {h h1 h2 : AH} {w w1 w2 : World} (p : Post nb lim r h w r1 h1 w1) (q : Post nb lim r1 h1 w1 r2 h2 w2) (hf : Fresh r h h1) : Post nb lim r h w r2 h2 w2 where
  hr := q.hr
  le := p.le.trans q.le
  new := fun {b i} hb => by
    rcases q.new hb with h3 | ⟨h3, h4, h5, h6⟩
    · rcases p.new h3 with h7 | ⟨h7, h8, h9⟩
      · exact .inl h7
      · exact .inr ⟨h7, Nat.lt_of_lt_of_le h8 q.len, h9⟩
    · refine .inr ⟨Nat.le_trans p.len h3, h4, h5, ?_⟩
      rcases h6 with h6 | h6
      · exact .inl (Nat.le_trans p.size h6)
      · exact p.chg hf h6
  len := Nat.le_trans p.len q.len
  os := q.os.trans p.os
  tape := q.tape.trans p.tape
  output := q.output.trans p.output
  size := Nat.le_trans p.size q.size
  keep := fun c hc hn => by
    rw [q.keep c (Nat.lt_of_lt_of_le hc p.size) (fun hx => (p.chg hf hx).elim (fun h => absurd hc (by omega)) hn), p.keep c hc hn]

theorem Chg.mono {lim lim' : Nat} {r : Rho} {h : AH} {c : Nat} (hl : lim ≤ lim') (hc : Chg lim' r h c) : Chg lim r h c := by
  obtain ⟨b, i, h0, h2⟩ := hc
  exact ⟨b, i, Nat.le_trans hl h0, h2⟩
theorem Post.mono {nb lim lim' : Nat} {r r1 : Rho} {h h1 : AH} {w w1 : World} (p : Post nb lim' r h w r1 h1 w1) (hl : lim ≤ lim') : Post nb lim r h w r1 h1 w1 :=
  ⟨p.hr, p.le, fun hb => (p.new hb).imp id fun ⟨a, b, c, d⟩ => ⟨a, b, c, d.imp id (Chg.mono hl)⟩, p.len, p.os, p.tape, p.output, p.size, fun c hc hn => p.keep c hc fun hx => hn (hx.mono hl)⟩

/-- A heap that has the same blocks serves. -/
theorem HR.same {nb : Nat} {r : Rho} {h : AH} {w w' : World} (hr : HR nb r h w) (he : w'.heap = w.heap) : HR nb r h w' where
  cells := fun {b i cs} hb hh j u hu => by
    obtain ⟨v, hv, k⟩ := hr.cells hb hh j u hu
    exact ⟨v, by unfold World.cell? at *; rw [he]; exact hv, k⟩
  own := fun {b i cs} hb ho hh => by rw [he]; exact hr.own hb ho hh
  inj := hr.inj
  map := fun {b i es} hb hh => by rw [he]; exact hr.map hb hh
  bd := fun {b i} hb hl => by rw [he]; exact hr.bd hb hl
  mine := hr.mine

end Go.Proofs.YtmikcpgkppkmiaaW.Ai
