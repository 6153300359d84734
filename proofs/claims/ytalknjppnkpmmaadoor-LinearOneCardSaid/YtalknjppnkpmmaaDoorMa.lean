/-
 The small machine and Go's: how values and heaps of the one stand for those of the other. Of no program.
-/
import Derived.Test.YtalknjppnkpmmaaDoorAi2
import Derived.Below
import Derived.Laws.CopyRow
import Derived.Laws.Rows
import Derived.Laws.Entries
import Derived.Laws.StructEq
set_option linter.unusedVariables false
set_option linter.unusedSimpArgs false
namespace Go.Proofs.YtalknjppnkpmmaaDoorW.Ai
section
structure Im where
 blk : Nat
 base : Nat
 csz : Nat
 own : Bool
abbrev Rho := Nat → Option Im
def Rho.Le (r s : Rho) : Prop := ∀ b i, r b = some i → s b = some i
theorem Rho.Le.refl (r : Rho) : r.Le r := fun _ _ h => h
theorem Rho.Le.trans {r s t : Rho} (h : r.Le s) (k : s.Le t) : r.Le t := fun b i x => k b i (h b i x)
inductive VR (r : Rho) : Value → Value → Prop where
 | bool (b : Bool) : VR r (.bool b) (.bool b)
 | int (k : IntKind) (n : Int) : VR r (.int k n) (.int k n)
 | string (s : ByteArray) : VR r (.string s) (.string s)
 | ptr0 : VR r (.pointer none) (.pointer none)
 | ptr (b o : Nat) (i : Im) (h : r b = some i) : VR r (.pointer (some ⟨b, o, none⟩)) (.pointer (some ⟨i.blk, i.base + o, none⟩))
 | slc0 : VR r (.slice none 0 0) (.slice none 0 0)
 | slc (b o n c : Nat) (i : Im) (a : Addr) (h : r b = some i) (hb : a.block = i.blk) (ho : 0 < c → a.off = i.base + o ∧ a.spot = none) (hn : n ≤ c) : VR r (.slice (some ⟨b, o, none⟩) n c) (.slice (some a) n c)
 | slcIn (b o s n c d : Nat) (i : Im) (a : Addr) (h : r b = some i) (hb : a.block = i.blk) (ho : 0 < c ∨ i.own = true ∧ 0 < d → a.off = i.base + o ∧ a.spot = none) (hn : n ≤ c) (hc : c ≤ d) (hs : i.own = true → 0 < d → i.base + o + d * s ≤ i.csz ∧ d ≤ 9223372036854775807) :
   VR r (.slice (some ⟨b, o, some s⟩) n c) (.slice (some a) n d)
 | map0 : VR r (.map none) (.map none)
 | map (b : Nat) (i : Im) (h : r b = some i) : VR r (.map (some b)) (.map (some i.blk))
 | func (fn : Fn) (f f' c c' : Array Value) (h1 : f.size = f'.size) (h2 : c.size = c'.size) (k1 : ∀ (i : Nat) u v, f[i]? = some u → f'[i]? = some v → VR r u v) (k2 : ∀ (i : Nat) u v, c[i]? = some u → c'[i]? = some v → VR r u v) : VR r (.func fn f c) (.func fn f' c')
 | nilFunc : VR r .nilFunc .nilFunc
 | nilIface : VR r .nilIface .nilIface
 | iface (t : TypeId) (v v' : Value) (h : VR r v v') : VR r (.iface t v) (.iface t v')
 | agg (xs ys : Array Value) (h1 : xs.size = ys.size) (k1 : ∀ (i : Nat) u v, xs[i]? = some u → ys[i]? = some v → VR r u v) : VR r (.agg xs) (.agg ys)
 | tuple (xs ys : Array Value) (h1 : xs.size = ys.size) (k1 : ∀ (i : Nat) u v, xs[i]? = some u → ys[i]? = some v → VR r u v) : VR r (.tuple xs) (.tuple ys)
theorem VR.mono {r s : Rho} (hl : r.Le s) {x y : Value} (h : VR r x y) : VR s x y := by
 induction h with
 | bool b => exact .bool b
 | int k n => exact .int k n
 | string s => exact .string s
 | ptr0 => exact .ptr0
 | ptr b o i h => exact .ptr b o i (hl _ _ h)
 | slc0 => exact .slc0
 | slc b o n c i a h hb ho hn => exact .slc b o n c i a (hl _ _ h) hb ho hn
 | slcIn b o z n c d i a h hb ho hn hc hs => exact .slcIn b o z n c d i a (hl _ _ h) hb ho hn hc hs
 | map0 => exact .map0
 | map b i h => exact .map b i (hl _ _ h)
 | func fn f f' c c' h1 h2 _ _ k1 k2 => exact .func fn f f' c c' h1 h2 k1 k2
 | nilFunc => exact .nilFunc
 | nilIface => exact .nilIface
 | iface t v v' _ ih => exact .iface t v v' ih
 | agg xs ys h1 _ k1 => exact .agg xs ys h1 k1
 | tuple xs ys h1 _ k1 => exact .tuple xs ys h1 k1
theorem VR.undef (r : Rho) : VR r undef undef := .tuple #[] #[] rfl (fun i u v h _ => by simp at h)
def VL (r : Rho) (xs ys : List Value) : Prop := xs.length = ys.length ∧ ∀ (i : Nat) u v, xs[i]? = some u → ys[i]? = some v → VR r u v
theorem VL.mono {r s : Rho} (hl : r.Le s) {xs ys : List Value} (h : VL r xs ys) : VL s xs ys := ⟨h.1, fun i u v hu hv => (h.2 i u v hu hv).mono hl⟩
theorem VL.nil (r : Rho) : VL r [] [] := ⟨rfl, fun i u v h _ => by simp at h⟩
theorem VL.cons {r : Rho} {x y : Value} {xs ys : List Value} (h : VR r x y) (k : VL r xs ys) : VL r (x :: xs) (y :: ys) :=
 ⟨by simp [k.1], fun i u v hu hv => by
  cases i with
  | zero => simp at hu hv; subst hu; subst hv; exact h
  | succ i => exact k.2 i u v (by simpa using hu) (by simpa using hv)⟩
theorem VL.cons_inv {r : Rho} {x : Value} {xs zs : List Value} (h : VL r (x :: xs) zs) : ∃ y ys, zs = y :: ys ∧ VR r x y ∧ VL r xs ys := by
 cases zs with
 | nil => simp [VL] at h
 | cons y ys => exact ⟨y, ys, rfl, h.2 0 x y rfl rfl, by have := h.1; simpa using this, fun i u v hu hv => h.2 (i + 1) u v (by simpa using hu) (by simpa using hv)⟩
theorem VL.nil_inv {r : Rho} {zs : List Value} (h : VL r [] zs) : zs = [] := List.eq_nil_of_length_eq_zero h.1.symm
theorem VL.get {r : Rho} {xs ys : List Value} (h : VL r xs ys) {i : Nat} {u : Value} (hu : xs[i]? = some u) : ∃ v, ys[i]? = some v ∧ VR r u v := by
 have hi : i < xs.length := (List.getElem?_eq_some_iff.1 hu).1
 have hy : ys[i]? = some (ys[i]'(h.1 ▸ hi)) := List.getElem?_eq_getElem _
 exact ⟨_, hy, h.2 i u _ hu hy⟩
theorem VL.append {r : Rho} {xs ys xs' ys' : List Value} (h : VL r xs ys) (k : VL r xs' ys') : VL r (xs ++ xs') (ys ++ ys') :=
 ⟨by simp [h.1, k.1], fun i u v hu hv => by
  rw [List.getElem?_append] at hu hv
  rw [← h.1] at hv
  split at hu
  ·rename_i hi; rw [if_pos hi] at hv; exact h.2 i u v hu hv
  ·rename_i hi; rw [if_neg hi] at hv; exact k.2 _ u v hu hv⟩
theorem VL.take {r : Rho} {xs ys : List Value} (h : VL r xs ys) (n : Nat) : VL r (xs.take n) (ys.take n) :=
 ⟨by simp [h.1], fun i u v hu hv => by
  rw [List.getElem?_take] at hu hv
  split at hu
  ·rename_i hi; rw [if_pos hi] at hv; exact h.2 i u v hu hv
  ·simp at hu⟩
theorem VL.drop {r : Rho} {xs ys : List Value} (h : VL r xs ys) (n : Nat) : VL r (xs.drop n) (ys.drop n) :=
 ⟨by simp [h.1], fun i u v hu hv => by
  rw [List.getElem?_drop] at hu hv
  exact h.2 _ u v hu hv⟩
theorem VL.over {r : Rho} {xs ys us vs : List Value} (h : VL r xs ys) (k : VL r us vs) (o : Nat) : VL r (over xs o us) (over ys o vs) := by
 unfold Ai.over
 rw [k.1]
 exact ((h.take o).append k).append (h.drop _)
theorem VL.of_arr {r : Rho} {xs ys : Array Value} (h1 : xs.size = ys.size) (k1 : ∀ (i : Nat) u v, xs[i]? = some u → ys[i]? = some v → VR r u v) : VL r xs.toList ys.toList :=
 ⟨by simpa using h1, fun i u v hu hv => k1 i u v (by simpa using hu) (by simpa using hv)⟩
theorem VL.arr {r : Rho} {xs ys : Array Value} (h : VL r xs.toList ys.toList) : xs.size = ys.size ∧ ∀ (i : Nat) u v, xs[i]? = some u → ys[i]? = some v → VR r u v :=
 ⟨by simpa using h.1, fun i u v hu hv => h.2 i u v (by simpa using hu) (by simpa using hv)⟩
theorem VR.agg' {r : Rho} {xs ys : Array Value} (h : VL r xs.toList ys.toList) : VR r (.agg xs) (.agg ys) := .agg _ _ h.arr.1 h.arr.2
theorem VR.tuple' {r : Rho} {xs ys : Array Value} (h : VL r xs.toList ys.toList) : VR r (.tuple xs) (.tuple ys) := .tuple _ _ h.arr.1 h.arr.2
theorem VR.aggL {r : Rho} {xs ys : List Value} (h : VL r xs ys) : VR r (.agg xs.toArray) (.agg ys.toArray) := VR.agg' (by simpa using h)
theorem VR.tupleL {r : Rho} {xs ys : List Value} (h : VL r xs ys) : VR r (.tuple xs.toArray) (.tuple ys.toArray) := VR.tuple' (by simpa using h)
theorem VR.agg_inv {r : Rho} {xs : Array Value} {y : Value} (h : VR r (.agg xs) y) : ∃ ys, y = .agg ys ∧ VL r xs.toList ys.toList := by
 cases h with
 | agg _ ys h1 k1 => exact ⟨ys, rfl, VL.of_arr h1 k1⟩
theorem VR.tuple_inv {r : Rho} {xs : Array Value} {y : Value} (h : VR r (.tuple xs) y) : ∃ ys, y = .tuple ys ∧ VL r xs.toList ys.toList := by
 cases h with
 | tuple _ ys h1 k1 => exact ⟨ys, rfl, VL.of_arr h1 k1⟩
theorem VR.cells {r : Rho} {x y : Value} (h : VR r x y) : VL r x.cells.toList y.cells.toList := by
 cases h with
 | agg xs ys h1 k1 => exact VL.of_arr h1 k1
 | _ => exact VL.cons (by constructor <;> assumption) (VL.nil r)
theorem VR.cells_size {r : Rho} {x y : Value} (h : VR r x y) : y.cells.size = x.cells.size := by simpa using h.cells.1.symm
theorem VR.cellOk {r : Rho} {x y : Value} (h : VR r x y) : Ai.cellOk y = Ai.cellOk x := by cases h <;> rfl
theorem VL.all_cellOk {r : Rho} {xs ys : List Value} (h : VL r xs ys) (k : xs.all cellOk = true) : ys.all cellOk = true := by
 rw [List.all_eq_true] at k ⊢
 intro y hy
 obtain ⟨i, hi, rfl⟩ := List.getElem_of_mem hy
 have hx : i < xs.length := h.1 ▸ hi
 rw [(h.2 i _ _ (List.getElem?_eq_getElem hx) (List.getElem?_eq_getElem hi)).cellOk]
 exact k _ (List.getElem_mem hx)
theorem VR.flat {r : Rho} {v : Value} (h : flat v = true) : VR r v v := by
 cases v with
 | bool b => exact .bool b
 | int k n => exact .int k n
 | string s => exact .string s
 | pointer a => cases a with
  | none => exact .ptr0
  | some a => simp [Ai.flat] at h
 | slice a n c => cases a with
  | none =>
   cases n with
   | zero => cases c with
    | zero => exact .slc0
    | succ c => simp [Ai.flat] at h
   | succ n => simp [Ai.flat] at h
  | some a => simp [Ai.flat] at h
 | map a => cases a with
  | none => exact .map0
  | some a => simp [Ai.flat] at h
 | func fn a b =>
  simp only [Ai.flat, Bool.and_eq_true, Array.isEmpty_iff] at h
  obtain ⟨rfl, rfl⟩ := h
  exact .func fn _ _ _ _ rfl rfl (fun i u v hu _ => by simp at hu) (fun i u v hu _ => by simp at hu)
 | nilFunc => exact .nilFunc
 | nilIface => exact .nilIface
 | float _ _ => simp [Ai.flat] at h
 | complex _ _ _ => simp [Ai.flat] at h
 | chan _ => simp [Ai.flat] at h
 | iface _ _ => simp [Ai.flat] at h
 | agg _ => simp [Ai.flat] at h
 | tuple _ => simp [Ai.flat] at h
theorem VL.flat {r : Rho} : ∀ {l : List Value}, l.all Ai.flat = true → VL r l l
 | [], _ => VL.nil r
 | x :: l, h => by
  rw [List.all_cons, Bool.and_eq_true] at h
  exact VL.cons (VR.flat h.1) (VL.flat h.2)
theorem VR.flatV {r : Rho} {v : Value} (h : flatV v = true) : VR r v v := by
 cases v with
 | agg cs => exact VR.agg' (VL.flat (by simpa [Ai.flatV] using h))
 | tuple cs =>
  have : cs = #[] := by simpa [Ai.flatV] using h
  subst this
  exact VR.undef r
 | _ => exact VR.flat h
theorem VR.eq_of_flat {r : Rho} {v v' : Value} (h : VR r v v') (hf : Ai.flat v = true) : v' = v := by
 cases h <;> first | rfl | (simp [Ai.flat] at hf; done) | skip
 rename_i fn f f' c c' h1 h2 k1 k2
 simp only [Ai.flat, Bool.and_eq_true, Array.isEmpty_iff] at hf
 obtain ⟨rfl, rfl⟩ := hf
 rw [Array.eq_empty_of_size_eq_zero h1.symm, Array.eq_empty_of_size_eq_zero h2.symm]
/-! ### heaps -/
def live (x : Option Blk) : Bool :=
 match x with
 | some (.cells _) | some (.map _) => true
 | _ => false
def ME (r : Rho) (es : List (Value × Value)) (cs : List MapEntry) : Prop :=
 es.length = cs.length ∧ ∀ (i : Nat) e c, es[i]? = some e → cs[i]? = some c → c.key = e.1 ∧ VR r e.2 c.val
theorem ME.mono {r s : Rho} (hl : r.Le s) {es : List (Value × Value)} {cs : List MapEntry} (h : ME r es cs) : ME s es cs :=
 ⟨h.1, fun i e c he hc => ⟨(h.2 i e c he hc).1, (h.2 i e c he hc).2.mono hl⟩⟩
def gTabs : List (Nat × Array Value) := [(0, #[.int .u64 1, .int .u64 10, .int .u64 100, .int .u64 1000, .int .u64 10000, .int .u64 100000, .int .u64 1000000, .int .u64 10000000, .int .u64 100000000, .int .u64 1000000000, .int .u64 10000000000, .int .u64 100000000000, .int .u64 1000000000000, .int .u64 10000000000000, .int .u64 100000000000000, .int .u64 1000000000000000, .int .u64 10000000000000000, .int .u64 100000000000000000, .int .u64 1000000000000000000, .int .u64 10000000000000000000])]
structure HR (nb : Nat) (r : Rho) (h : AH) (w : World) : Prop where
 cells : ∀ {b i cs}, r b = some i → h[b]? = some (.cells cs) → ∀ (j : Nat) u, cs[j]? = some u → ∃ v, w.cell? ⟨i.blk, i.base + j, none⟩ = some v ∧ VR r u v
 own : ∀ {b i cs}, r b = some i → i.own = true → h[b]? = some (.cells cs) → ∃ ccs t, w.heap[i.blk]? = some (.cells ccs t (0, 0)) ∧ ccs.size = i.csz ∧ i.base + cs.length ≤ i.csz
 inj : ∀ {b b' i i'}, r b = some i → r b' = some i' → i.own = true → live h[b]? = true → live h[b']? = true → i.blk = i'.blk → b = b'
 map : ∀ {b i es}, r b = some i → h[b]? = some (.map es) → ∃ ces clk, w.heap[i.blk]? = some (.map ces clk) ∧ ME r es ces.toList
 bd : ∀ {b i}, r b = some i → live h[b]? = true → i.blk < w.heap.size
 mine : ∀ {b i}, r b = some i → nb ≤ b → i.own = true
 glob : ∀ p, p ∈ gTabs → (∃ t z, w.heap[p.1]? = some (.cells p.2 t z)) ∧ ∀ {b i}, r b = some i → i.own = true → i.blk ≠ p.1
def Chg (lim : Nat) (r : Rho) (h : AH) (c : Nat) : Prop := ∃ b i, lim ≤ b ∧ b < h.length ∧ r b = some i ∧ i.own = true ∧ i.blk = c
def Fresh (r : Rho) (h h' : AH) : Prop := ∀ b, h.length ≤ b → b < h'.length → r b = none
structure Post (nb lim : Nat) (r : Rho) (h : AH) (w : World) (r' : Rho) (h' : AH) (w' : World) : Prop where
 hr : HR nb r' h' w'
 le : r.Le r'
 new : ∀ {b i}, r' b = some i → r b = some i ∨ (h.length ≤ b ∧ b < h'.length ∧ i.own = true ∧ (w.heap.size ≤ i.blk ∨ Chg lim r h i.blk))
 len : h.length ≤ h'.length
 os : w'.os = w.os
 tape : w'.tape = w.tape
 output : w'.output = w.output
 size : w.heap.size ≤ w'.heap.size
 keep : ∀ c, c < w.heap.size → ¬ Chg lim r h c → w'.heap[c]? = w.heap[c]?
theorem Post.refl {nb lim : Nat} {r : Rho} {h : AH} {w : World} (hr : HR nb r h w) : Post nb lim r h w r h w :=
 ⟨hr, Rho.Le.refl r, fun h => .inl h, Nat.le_refl _, rfl, rfl, rfl, Nat.le_refl _, fun _ _ _ => rfl⟩
theorem Post.chg {nb lim : Nat} {r r1 : Rho} {h h1 : AH} {w w1 : World} (p : Post nb lim r h w r1 h1 w1) (hf : Fresh r h h1) {c : Nat} (hc : Chg lim r1 h1 c) : w.heap.size ≤ c ∨ Chg lim r h c := by
 obtain ⟨b, i, h0, h2, h3, h4, h5⟩ := hc
 rcases p.new h3 with h6 | ⟨_, _, _, h6⟩
 ·by_cases hb : b < h.length
  ·exact .inr ⟨b, i, h0, hb, h6, h4, h5⟩
  ·rw [hf b (by omega) h2] at h6; cases h6
 ·rw [← h5]; exact h6
theorem Post.trans {nb lim : Nat} {r r1 r2 : Rho} {h h1 h2 : AH} {w w1 w2 : World} (p : Post nb lim r h w r1 h1 w1) (q : Post nb lim r1 h1 w1 r2 h2 w2) (hf : Fresh r h h1) : Post nb lim r h w r2 h2 w2 where
 hr := q.hr
 le := p.le.trans q.le
 new := fun {b i} hb => by
  rcases q.new hb with h3 | ⟨h3, h4, h5, h6⟩
  ·rcases p.new h3 with h7 | ⟨h7, h8, h9⟩
   ·exact .inl h7
   ·exact .inr ⟨h7, Nat.lt_of_lt_of_le h8 q.len, h9⟩
  ·refine .inr ⟨Nat.le_trans p.len h3, h4, h5, ?_⟩
   rcases h6 with h6 | h6
   ·exact .inl (Nat.le_trans p.size h6)
   ·exact p.chg hf h6
 len := Nat.le_trans p.len q.len
 os := q.os.trans p.os
 tape := q.tape.trans p.tape
 output := q.output.trans p.output
 size := Nat.le_trans p.size q.size
 keep := fun c hc hn => by
  rw [q.keep c (Nat.lt_of_lt_of_le hc p.size) (fun hx => (p.chg hf hx).elim (fun h => absurd hc (by omega)) hn), p.keep c hc hn]
theorem Chg.mono {lim lim' : Nat} {r : Rho} {h : AH} {c : Nat} (hl : lim ≤ lim') (hc : Chg lim' r h c) : Chg lim r h c := by
 obtain ⟨b, i, h0, h2⟩ := hc
 exact ⟨b, i, Nat.le_trans hl h0, h2⟩
theorem Post.mono {nb lim lim' : Nat} {r r1 : Rho} {h h1 : AH} {w w1 : World} (p : Post nb lim' r h w r1 h1 w1) (hl : lim ≤ lim') : Post nb lim r h w r1 h1 w1 :=
 ⟨p.hr, p.le, fun hb => (p.new hb).imp id fun ⟨a, b, c, d⟩ => ⟨a, b, c, d.imp id (Chg.mono hl)⟩, p.len, p.os, p.tape, p.output, p.size, fun c hc hn => p.keep c hc fun hx => hn (hx.mono hl)⟩
theorem HR.same {nb : Nat} {r : Rho} {h : AH} {w w' : World} (hr : HR nb r h w) (he : w'.heap = w.heap) : HR nb r h w' where
 cells := fun {b i cs} hb hh j u hu => by
  obtain ⟨v, hv, k⟩ := hr.cells hb hh j u hu
  exact ⟨v, by unfold World.cell? at *; rw [he]; exact hv, k⟩
 own := fun {b i cs} hb ho hh => by rw [he]; exact hr.own hb ho hh
 inj := hr.inj
 map := fun {b i es} hb hh => by rw [he]; exact hr.map hb hh
 bd := fun {b i} hb hl => by rw [he]; exact hr.bd hb hl
 mine := hr.mine
 glob := fun p hp => ⟨by rw [he]; exact (hr.glob p hp).1, (hr.glob p hp).2⟩
end
section
variable {P : Program} {nb lim : Nat} {r : Rho} {h : AH} {w : World}
theorem cellsOf_iff {b : Nat} {cs : List Value} : cellsOf h b = some cs ↔ h[b]? = some (.cells cs) := by
 unfold cellsOf
 cases hb : h[b]? with
 | none => simp
 | some x => cases x <;> simp
theorem cell_of_cells {b o : Nat} {cs : Array Value} {t : TypeId} {fr : Nat × Nat} (hb : w.heap[b]? = some (.cells cs t fr)) : w.cell? ⟨b, o, none⟩ = cs[o]? := by simp [World.cell?, hb]
theorem addr_add (g o n : Nat) : (⟨g, o, none⟩ : Addr).add n = ⟨g, o + n, none⟩ := by unfold Addr.add; split <;> simp_all
theorem exists_list {α : Type} (n : Nat) (p : Nat → α → Prop) (h : ∀ i, i < n → ∃ a, p i a) : ∃ xs : List α, xs.length = n ∧ ∀ i a, xs[i]? = some a → p i a := by
 induction n with
 | zero => exact ⟨[], rfl, fun i a hi => by simp at hi⟩
 | succ n ih =>
  obtain ⟨xs, hl, hx⟩ := ih (fun i hi => h i (by omega))
  obtain ⟨a, ha⟩ := h n (by omega)
  refine ⟨xs ++ [a], by simp [hl], fun i b hi => ?_⟩
  by_cases hlt : i < n
  ·rw [List.getElem?_append_left (by omega)] at hi
   exact hx i b hi
  ·have : i = n := by
    have := (List.getElem?_eq_some_iff.1 hi).1
    simp at this
    omega
   subst this
   rw [List.getElem?_append_right (by omega), hl] at hi
   simp at hi
   subst hi
   exact ha
theorem HR.reads (hr : HR nb r h w) {b o n : Nat} {i : Im} {cs : List Value} (hb : r b = some i) (hh : cellsOf h b = some cs) (hn : o + n ≤ cs.length) :
  ∃ vs, VL r ((cs.drop o).take n) vs ∧ vs.length = n ∧ ∀ j v, vs[j]? = some v → w.cell? ⟨i.blk, i.base + o + j, none⟩ = some v := by
 obtain ⟨vs, hl, hv⟩ := exists_list n (fun j v => w.cell? ⟨i.blk, i.base + o + j, none⟩ = some v ∧ ∀ u, cs[o + j]? = some u → VR r u v) (fun j hj => by
  have hj' : o + j < cs.length := by omega
  obtain ⟨v, h1, h2⟩ := hr.cells hb (cellsOf_iff.1 hh) (o + j) _ (List.getElem?_eq_getElem hj')
  rw [← Nat.add_assoc] at h1
  exact ⟨v, h1, fun u hu => by rw [List.getElem?_eq_getElem hj'] at hu; injection hu with hu; subst hu; exact h2⟩)
 refine ⟨vs, ⟨by simp [hl]; omega, fun j u v hu hv' => (hv j v hv').2 u ?_⟩, hl, fun j v hj => (hv j v hj).1⟩
 rw [List.getElem?_take] at hu
 split at hu
 ·rwa [List.getElem?_drop] at hu
 ·cases hu
theorem HR.loads (hr : HR nb r h w) {b o n : Nat} {i : Im} {cs : List Value} (hb : r b = some i) (hh : cellsOf h b = some cs) (hn : o + n ≤ cs.length) {a : Addr} (ha : a.block = i.blk) (ho : 0 < n → a.off = i.base + o ∧ a.spot = none) :
  ∃ vs, VL r ((cs.drop o).take n) vs ∧ (loadCells a n).run P w = .ok vs.toArray w := by
 obtain ⟨vs, h1, h2, h3⟩ := hr.reads hb hh hn
 refine ⟨vs, h1, ?_⟩
 rcases Nat.eq_zero_or_pos n with h0 | h0
 ·subst h0
  obtain rfl : vs = [] := List.eq_nil_of_length_eq_zero h2
  rfl
 ·obtain ⟨e1, e2⟩ := ho h0
  subst h2
  refine run_loadCells_list w a vs fun j v hj => ?_
  obtain ⟨ab, ao, as⟩ := a
  simp only at ha e1 e2
  subst ha; subst e1; subst e2
  rw [addr_add]
  exact h3 j v hj
/-! ### new blocks -/
def Rho.put (r : Rho) (b : Nat) (i : Im) : Rho := fun c => if c = b then some i else r c
theorem Rho.put_le {b : Nat} {i : Im} (hf : r b = none) : r.Le (r.put b i) := fun c j hc => by
 unfold Rho.put
 split
 ·rename_i he; subst he; rw [hf] at hc; cases hc
 ·exact hc
theorem Rho.put_same (b : Nat) (i : Im) : (r.put b i) b = some i := by simp [Rho.put]
theorem Rho.put_inv {b c : Nat} {i j : Im} (hc : (r.put b i) c = some j) : (c = b ∧ j = i) ∨ (c ≠ b ∧ r c = some j) := by
 unfold Rho.put at hc
 split at hc
 ·rename_i he; injection hc with hc; exact .inl ⟨he, hc.symm⟩
 ·rename_i he; exact .inr ⟨he, hc⟩
theorem heap_push_old (o : Obj) {k : Nat} (hk : k < w.heap.size) : (w.alloc o).heap[k]? = w.heap[k]? := heap_alloc_old w o k hk
theorem heap_push_new (o : Obj) : (w.alloc o).heap[w.heap.size]? = some o := heap_alloc_new w o
theorem heap_push_size (o : Obj) : (w.alloc o).heap.size = w.heap.size + 1 := by
 show (w.heap.push o).size = _
 exact Array.size_push _
def BlkR (r : Rho) (csz : Nat) : Blk → Obj → Prop
 | .cells cs, .cells ccs _ fr => fr = (0, 0) ∧ ccs.size = csz ∧ cs.length ≤ csz ∧ ∀ (j : Nat) u, cs[j]? = some u → ∃ v, ccs[j]? = some v ∧ VR r u v
 | .map es, .map ces _ => ME r es ces.toList
 | _, _ => False
theorem Post.alloc (hr : HR nb r h w) {x : Blk} {o : Obj} {csz : Nat} (hf : r h.length = none) (hx : BlkR r csz x o) :
  Post nb lim r h w (r.put h.length ⟨w.heap.size, 0, csz, true⟩) (h ++ [x]) (w.alloc o) := by
 have hle := Rho.put_le (r := r) (i := ⟨w.heap.size, 0, csz, true⟩) hf
 have old : ∀ {b : Nat}, b ≠ h.length → b < (h ++ [x]).length → (h ++ [x])[b]? = h[b]? := fun hb hl => by
  rw [List.getElem?_append_left (by simp at hl; omega)]
 have get : ∀ {b : Nat} {y : Blk}, (h ++ [x])[b]? = some y → b ≠ h.length → h[b]? = some y := fun {b y} hy hb => by
  rw [← old hb (List.getElem?_eq_some_iff.1 hy).1]; exact hy
 have new : ∀ {y : Blk}, (h ++ [x])[h.length]? = some y → y = x := fun {y} hy => by simpa using hy.symm
 have lv : ∀ {b : Nat}, live (h ++ [x])[b]? = true → b ≠ h.length → live h[b]? = true := fun {b} hl hne => by
  cases hy : (h ++ [x])[b]? with
  | none => rw [hy] at hl; cases hl
  | some y => rw [get hy hne]; rw [hy] at hl; exact hl
 refine ⟨⟨?_, ?_, ?_, ?_, ?_, ?_, ?_⟩, hle, ?_, by simp, rfl, rfl, rfl, by rw [heap_push_size]; omega, fun c hc _ => heap_push_old o hc⟩
 ·intro b i cs hb hh j u hu
  rcases Rho.put_inv hb with ⟨rfl, rfl⟩ | ⟨hne, hb'⟩
  ·have := new hh
   subst this
   cases o <;> simp only [BlkR] at hx
   obtain ⟨rfl, h1, h2, h3⟩ := hx
   obtain ⟨v, hv, k⟩ := h3 j u hu
   exact ⟨v, by rw [cell_of_cells (heap_push_new _)]; simpa using hv, k.mono hle⟩
  ·obtain ⟨v, hv, k⟩ := hr.cells hb' (get hh hne) j u hu
   refine ⟨v, ?_, k.mono hle⟩
   unfold World.cell? at *
   rw [heap_push_old o (hr.bd hb' (by rw [get hh hne]; rfl))]
   exact hv
 ·intro b i cs hb ho hh
  rcases Rho.put_inv hb with ⟨rfl, rfl⟩ | ⟨hne, hb'⟩
  ·have := new hh
   subst this
   cases o <;> simp only [BlkR] at hx
   obtain ⟨rfl, h1, h2, h3⟩ := hx
   exact ⟨_, _, heap_push_new _, h1, by simpa using h2⟩
  ·rw [heap_push_old o (hr.bd hb' (by rw [get hh hne]; rfl))]
   exact hr.own hb' ho (get hh hne)
 ·intro b b' i i' hb hb' ho hl hl' he
  rcases Rho.put_inv hb with ⟨rfl, rfl⟩ | ⟨hne, h1⟩ <;> rcases Rho.put_inv hb' with ⟨rfl, rfl⟩ | ⟨hne', h1'⟩
  ·rfl
  ·exact absurd he (Nat.ne_of_gt (hr.bd h1' (lv hl' hne')))
  ·exact absurd he (Nat.ne_of_lt (hr.bd h1 (lv hl hne)))
  ·exact hr.inj h1 h1' ho (lv hl hne) (lv hl' hne') he
 ·intro b i es hb hh
  rcases Rho.put_inv hb with ⟨rfl, rfl⟩ | ⟨hne, hb'⟩
  ·have := new hh
   subst this
   cases o <;> simp only [BlkR] at hx
   exact ⟨_, _, heap_push_new _, hx.mono hle⟩
  ·obtain ⟨ces, clk, h1, h2⟩ := hr.map hb' (get hh hne)
   exact ⟨ces, clk, by rw [heap_push_old o (hr.bd hb' (by rw [get hh hne]; rfl))]; exact h1, h2.mono hle⟩
 ·intro b i hb hl
  rcases Rho.put_inv hb with ⟨rfl, rfl⟩ | ⟨hne, hb'⟩
  ·rw [heap_push_size]; exact Nat.lt_succ_self _
  ·have := hr.bd hb' (lv hl hne)
   rw [heap_push_size]
   omega
 ·intro b i hb hn
  rcases Rho.put_inv hb with ⟨rfl, rfl⟩ | ⟨hne, hb'⟩
  ·rfl
  ·exact hr.mine hb' hn
 ·intro p hp
  obtain ⟨⟨t, z, g1⟩, g2⟩ := hr.glob p hp
  have hlt := (Array.getElem?_eq_some_iff.1 g1).1
  refine ⟨⟨t, z, by rw [heap_push_old o hlt]; exact g1⟩, fun {b i} hb ho => ?_⟩
  rcases Rho.put_inv hb with ⟨rfl, rfl⟩ | ⟨hne, hb'⟩
  ·exact Nat.ne_of_gt hlt
  ·exact g2 hb' ho
 ·intro b i hb
  rcases Rho.put_inv hb with ⟨rfl, rfl⟩ | ⟨hne, hb'⟩
  ·exact .inr ⟨Nat.le_refl _, by simp, rfl, .inl (Nat.le_refl _)⟩
  ·exact .inl hb'
/-! ### writes -/
theorem Post.turn (hr : HR nb r h w) {b : Nat} {i : Im} {x : Blk} {o : Obj} {w' : World} (hb : r b = some i) (hown : i.own = true) (hlim : lim ≤ b) (hlive : live h[b]? = true)
  (hw : ∀ k, k ≠ i.blk → w'.heap[k]? = w.heap[k]?) (hwb : w'.heap[i.blk]? = some o) (hs : w'.heap.size = w.heap.size) (hos : w'.os = w.os) (htp : w'.tape = w.tape) (hout : w'.output = w.output)
  (hx : match x, o with
   | .cells cs, .cells ccs _ fr => fr = (0, 0) ∧ ccs.size = i.csz ∧ i.base + cs.length ≤ i.csz ∧ ∀ (j : Nat) u, cs[j]? = some u → ∃ v, ccs[i.base + j]? = some v ∧ VR r u v
   | .map es, .map ces _ => ME r es ces.toList
   | _, _ => False) :
  Post nb lim r h w r (h.set b x) w' := by
 have hlt : b < h.length := by
  rcases Nat.lt_or_ge b h.length with h0 | h0
  ·exact h0
  ·rw [List.getElem?_eq_none h0] at hlive; cases hlive
 have get : ∀ {c : Nat} {y : Blk}, (h.set b x)[c]? = some y → c ≠ b → h[c]? = some y := fun {c y} hy hc => by
  rw [List.getElem?_set_ne (Ne.symm hc)] at hy; exact hy
 have new : ∀ {y : Blk}, (h.set b x)[b]? = some y → y = x := fun {y} hy => by
  rw [List.getElem?_set_self hlt] at hy; simpa using hy.symm
 have back : ∀ {c : Nat}, live (h.set b x)[c]? = true → live h[c]? = true := fun {c} hl => by
  by_cases he : c = b
  ·subst he; exact hlive
  ·rwa [List.getElem?_set_ne (Ne.symm he)] at hl
 have far : ∀ {c : Nat} {j : Im}, r c = some j → c ≠ b → live h[c]? = true → w'.heap[j.blk]? = w.heap[j.blk]? := fun {c j} hc hne hl =>
  hw _ fun he => hne (hr.inj hb hc hown hlive hl he.symm).symm
 refine ⟨⟨?_, ?_, ?_, ?_, ?_, ?_, ?_⟩, Rho.Le.refl r, fun h => .inl h, by simp, hos, htp, hout, by omega, fun c hc hn => hw c fun he => hn ⟨b, i, hlim, hlt, hb, hown, he.symm⟩⟩
 ·intro c j cs hc hh q u hu
  by_cases he : c = b
  ·subst he
   have := new hh
   subst this
   rw [hb] at hc
   injection hc with hc
   subst hc
   cases o <;> simp only at hx
   obtain ⟨rfl, h1, h2, h3⟩ := hx
   obtain ⟨v, hv, k⟩ := h3 q u hu
   exact ⟨v, by rw [cell_of_cells hwb]; exact hv, k⟩
  ·obtain ⟨v, hv, k⟩ := hr.cells hc (get hh he) q u hu
   refine ⟨v, ?_, k⟩
   unfold World.cell? at *
   rw [far hc he (by rw [get hh he]; rfl)]
   exact hv
 ·intro c j cs hc ho hh
  by_cases he : c = b
  ·subst he
   have := new hh
   subst this
   rw [hb] at hc
   injection hc with hc
   subst hc
   cases o <;> simp only at hx
   obtain ⟨rfl, h1, h2, h3⟩ := hx
   exact ⟨_, _, hwb, h1, h2⟩
  ·rw [far hc he (by rw [get hh he]; rfl)]
   exact hr.own hc ho (get hh he)
 ·intro c c' j j' hc hc' ho hl hl' he
  exact hr.inj hc hc' ho (back hl) (back hl') he
 ·intro c j es hc hh
  by_cases he : c = b
  ·subst he
   have := new hh
   subst this
   rw [hb] at hc
   injection hc with hc
   subst hc
   cases o <;> simp only at hx
   exact ⟨_, _, hwb, hx⟩
  ·obtain ⟨ces, clk, h1, h2⟩ := hr.map hc (get hh he)
   exact ⟨ces, clk, by rw [far hc he (by rw [get hh he]; rfl)]; exact h1, h2⟩
 ·intro c j hc hl
  rw [hs]
  exact hr.bd hc (back hl)
 ·intro c j hc hn
  exact hr.mine hc hn
 ·intro p hp
  obtain ⟨⟨t, z, g1⟩, g2⟩ := hr.glob p hp
  exact ⟨⟨t, z, by rw [hw _ (Ne.symm (g2 hb hown))]; exact g1⟩, g2⟩
theorem over_length (cs : List Value) (o : Nat) (us : List Value) (hn : o + us.length ≤ cs.length) : (over cs o us).length = cs.length := by
 unfold over
 simp
 omega
theorem over_get (cs : List Value) (o : Nat) (us : List Value) (hn : o + us.length ≤ cs.length) (j : Nat) : (over cs o us)[j]? = if o ≤ j ∧ j < o + us.length then us[j - o]? else cs[j]? := by
 unfold over
 rw [List.append_assoc, List.getElem?_append, List.length_take, Nat.min_eq_left (by omega)]
 split
 ·rename_i hj
  rw [if_neg (by omega), List.getElem?_take, if_pos hj]
 ·rename_i hj
  rw [List.getElem?_append]
  split
  ·rename_i hj2
   rw [if_pos (by omega)]
  ·rename_i hj2
   rw [if_neg (by omega), List.getElem?_drop]
   congr 1
   omega
theorem aWrite_inv {b o : Nat} {us : List Value} {h' : AH} (hw : aWrite lim h b o us = some h') : (us = [] ∧ h' = h) ∨
  (us ≠ [] ∧ lim ≤ b ∧ us.all cellOk = true ∧ ∃ cs, cellsOf h b = some cs ∧ o + us.length ≤ cs.length ∧ h' = h.set b (.cells (over cs o us))) := by
 unfold aWrite at hw
 split at hw
 ·rename_i h0; injection hw with hw; exact .inl ⟨h0, hw.symm⟩
 ·rename_i h0
  split at hw
  ·rename_i h1
   cases hc : cellsOf h b with
   | none => rw [hc] at hw; cases hw
   | some cs =>
    rw [hc] at hw
    simp only [Option.bind_some] at hw
    split at hw
    ·rename_i h2; injection hw with hw; exact .inr ⟨h0, h1.1, h1.2, cs, rfl, h2, hw.symm⟩
    ·cases hw
  ·cases hw
theorem Post.write (hr : HR nb r h w) {b o : Nat} {i : Im} {us vs : List Value} {h' : AH} (hb : r b = some i) (hlim : nb ≤ lim) (hw : aWrite lim h b o us = some h') (hv : VL r us vs) {a : Addr} (ha : a.block = i.blk) (hao : us ≠ [] → a.off = i.base + o ∧ a.spot = none) :
  ∃ w', (storeCells a vs).run P w = .ok () w' ∧ Post nb lim r h w r h' w' := by
 rcases aWrite_inv hw with ⟨rfl, rfl⟩ | ⟨h0, hl, h1, cs, hc, hn, rfl⟩
 ·obtain rfl := hv.nil_inv
  exact ⟨w, rfl, Post.refl hr⟩
 ·obtain ⟨e1, e2⟩ := hao h0
  obtain ⟨ab, ao, as⟩ := a
  simp only at ha e1 e2
  subst ha; subst e1; subst e2
  have hown := hr.mine hb (Nat.le_trans hlim hl)
  obtain ⟨ccs, t, g1, g2, g3⟩ := hr.own hb hown (cellsOf_iff.1 hc)
  have hlen := hv.1
  refine ⟨_, run_storeCells_at P i.blk (i.base + o) t vs 0 ccs w g1 (by rw [g2]; omega) (fun v hv' => ?_), ?_⟩
  ·have := hv.all_cellOk h1
   rw [List.all_eq_true] at this
   have := this v hv'
   cases v <;> simp_all [cellOk, Value.oneCell']
  ·refine Post.turn hr hb hown hl (by rw [cellsOf_iff.1 hc]; rfl) (fun k hk => setRow_other w i.blk k _ hk) (setRow_heap w i.blk ccs _ t _ g1) (by simp) rfl rfl rfl ?_
   simp only [Nat.add_zero]
   refine ⟨trivial, ?_, ?_, fun j u hu => ?_⟩
   ·simp
    omega
   ·rw [over_length cs o us hn]; exact g3
   ·have hlj : j < cs.length := by have := (List.getElem?_eq_some_iff.1 hu).1; rw [over_length cs o us hn] at this; exact this
    rw [over_get cs o us hn] at hu
    have e : (ccs.toList.take (i.base + o) ++ vs ++ ccs.toList.drop (i.base + o + vs.length)).toArray[i.base + j]? = (over ccs.toList (i.base + o) vs)[i.base + j]? := by simp [over]
    rw [e, over_get _ _ _ (by simp; omega)]
    split at hu
    ·rename_i hj
     rw [if_pos (by omega), show i.base + j - (i.base + o) = j - o by omega]
     exact hv.get hu
    ·rename_i hj
     rw [if_neg (by omega)]
     obtain ⟨v, hv1, hv2⟩ := hr.cells hb (cellsOf_iff.1 hc) j u hu
     exact ⟨v, by rw [cell_of_cells g1] at hv1; simpa using hv1, hv2⟩
end
section
variable {P : Program} {nb lim : Nat} {r : Rho} {h : AH} {w : World}
/-! ### types -/
theorem run_size {t : TypeId} {n : Nat} (hs : Rs.size P t = some n) : (sizeOf t).run P w = .ok n w := by
 unfold Rs.size at hs
 cases hi : P.info? t with
 | none => simp [hi] at hs
 | some i =>
  simp [hi] at hs
  simp [sizeOf, typeInfo, hi, hs]
theorem run_bytes {t : TypeId} {n : Nat} (hs : Rs.bytes P t = some n) : ∃ i, (typeInfo t).run P w = .ok i w ∧ i.bytes = n := by
 unfold Rs.bytes at hs
 cases hi : P.info? t with
 | none => simp [hi] at hs
 | some i =>
  simp [hi] at hs
  exact ⟨i, by simp [typeInfo, hi], hs⟩
theorem run_aggN {t : TypeId} {n : Option Nat} (hs : Rs.aggN P t = some n) : (isAgg t).run P w = .ok n.isSome w ∧ ∀ m, n = some m → Rs.size P t = some m := by
  unfold Rs.aggN at hs
  cases hu : P.underlying t with
  | none => simp [hu] at hs
  | some d =>
    rw [hu] at hs
    cases d <;> simp only at hs <;>
      first
      | (injection hs with hs; subst hs; exact ⟨by simp [isAgg, run_underlying hu], fun m hm => by cases hm⟩)
      | (cases hz : Rs.size P t with
         | none => simp [hz] at hs
         | some m => simp [hz] at hs; subst hs; exact ⟨by simp [isAgg, run_underlying hu], fun m' hm => by injection hm with hm; rw [hm]⟩)
theorem run_zero {t : TypeId} {z : List Value} (hs : Rs.zero P t = some z) : ∃ v, (zeroValue t).run P w = .ok v w ∧ v.cells.toList = z ∧ Rs.size P t = some z.length ∧ z.all (fun c => flat c && cellOk c) = true := by
 unfold Rs.zero at hs
 cases hi : P.info? t with
 | none => simp [hi] at hs
 | some i =>
  cases hz : i.zero with
  | none => simp [hi, hz] at hs
  | some v =>
   cases hn : Rs.size P t with
   | none => simp [hi, hz, hn] at hs
   | some n =>
    simp only [hi, Option.bind_some, hz, hn] at hs
    split at hs
    ·rename_i hc
     injection hs with hs
     subst hs
     exact ⟨v, by simp [zeroValue, typeInfo, hi, hz], rfl, by simp [hc.1], hc.2⟩
    ·cases hs
theorem run_zero1 {t : TypeId} {z : Value} (hs : Rs.zero1 P t = some z) : (zeroValue t).run P w = .ok z w ∧ flat z = true := by
 unfold Rs.zero1 at hs
 cases hi : P.info? t with
 | none => simp [hi] at hs
 | some i =>
  cases hz : i.zero with
  | none => simp [hi, hz] at hs
  | some v =>
   simp only [hi, Option.bind_some, hz] at hs
   split at hs
   ·rename_i hc
    injection hs with hs
    subst hs
    exact ⟨by simp [zeroValue, typeInfo, hi, hz], hc.1⟩
   ·cases hs
/-! ### values out of cells -/
theorem aLoad_inv {n : Option Nat} {x v : Value} (hl : aLoad n h x = some v) : ∃ b o cs, x = .pointer (some ⟨b, o, none⟩) ∧ cellsOf h b = some cs ∧ loadAt n cs o = some v := by
 unfold aLoad at hl
 split at hl
 ·rename_i b o
  cases hc : cellsOf h b with
  | none => simp [hc] at hl
  | some cs => exact ⟨b, o, cs, rfl, hc, by simpa [hc] using hl⟩
 ·cases hl
theorem VR.ptr_inv {b o : Nat} {x : Value} (hv : VR r (.pointer (some ⟨b, o, none⟩)) x) : ∃ i, r b = some i ∧ x = .pointer (some ⟨i.blk, i.base + o, none⟩) := by
 cases hv with
 | ptr _ _ i hi => exact ⟨i, hi, rfl⟩
theorem loadVar_run (hr : HR nb r h w) {t : TypeId} {n : Option Nat} (hn : Rs.aggN P t = some n) {x x' v : Value} (hl : aLoad n h x = some v) (hx : VR r x x') :
  ∃ a v', x' = .pointer (some a) ∧ (loadVar t a).run P w = .ok v' w ∧ VR r v v' := by
 obtain ⟨b, o, cs, rfl, hc, hl⟩ := aLoad_inv hl
 obtain ⟨i, hi, rfl⟩ := hx.ptr_inv
 obtain ⟨h1, h2⟩ := run_aggN (w := w) hn
 refine ⟨⟨i.blk, i.base + o, none⟩, ?_⟩
 cases n with
 | none =>
  simp only [loadAt] at hl
  obtain ⟨v', h3, h4⟩ := hr.cells hi (cellsOf_iff.1 hc) o v hl
  refine ⟨v', rfl, ?_, h4⟩
  simp [loadVar, h1, h3]
 | some n =>
  simp only [loadAt] at hl
  split at hl
  ·rename_i hle
   injection hl with hl
   subst hl
   obtain ⟨vs, h3, h4⟩ := hr.loads (P := P) hi hc hle (a := ⟨i.blk, i.base + o, none⟩) rfl (fun _ => ⟨rfl, rfl⟩)
   refine ⟨.agg vs.toArray, rfl, ?_, VR.aggL h3⟩
   simp [loadVar, h1, run_size (h2 n rfl), h4]
  ·cases hl
theorem part_run {t : TypeId} {n : Option Nat} (hn : Rs.aggN P t = some n) {cs cs' : Array Value} (hcs : VL r cs.toList cs'.toList) {o : Nat} {v : Value} (hl : loadAt n cs.toList o = some v) :
  ∃ v', (part t cs' o).run P w = .ok v' w ∧ VR r v v' := by
 obtain ⟨h1, h2⟩ := run_aggN (w := w) hn
 cases n with
 | none =>
  simp only [loadAt] at hl
  obtain ⟨v', h3, h4⟩ := hcs.get hl
  refine ⟨v', ?_, h4⟩
  have h5 : cs'[o]? = some v' := by simpa using h3
  simp [part, h1, h5]
 | some n =>
  simp only [loadAt] at hl
  split at hl
  ·rename_i hle
   injection hl with hl
   subst hl
   refine ⟨.agg (cs'.extract o (o + n)), by simp [part, h1, run_size (h2 n rfl)], ?_⟩
   refine VR.agg' ?_
   have := (hcs.drop o).take n
   simpa [Array.toList_extract, List.extract_eq_take_drop] using this
  ·cases hl
/-! ### the shape of an operation's case -/
def Good (P : Program) (nb lim : Nat) (r : Rho) (h : AH) (w : World) (o : Oper) (a : Act) (v : Value) (h' : AH) : Prop :=
 ∀ (K : Act → World → Prop) (Q : Exit → Act → World → Prop), (∀ r' v' w', Post nb lim r h w r' h' w' → VR r' v v' → K (a.put o.dst v') w') → o.wp P a w K Q
theorem Good.value {o : Oper} {a : Act} {v v' : Value} {h' : AH} {r' : Rho} {w' : World} (he : (execOp a.eval o).run P w = .ok (.value v') w') (hp : Post nb lim r h w r' h' w') (hv : VR r' v v') : Good P nb lim r h w o a v h' :=
 fun K Q hK => by unfold Oper.wp; rw [he]; exact hK r' v' w' hp hv
theorem Good.same {o : Oper} {a : Act} {v v' : Value} (hr : HR nb r h w) (he : (execOp a.eval o).run P w = .ok (.value v') w) (hv : VR r v v') : Good P nb lim r h w o a v h := Good.value he (Post.refl hr) hv
theorem Good.skip {o : Oper} {a : Act} {h' : AH} {r' : Rho} {w' : World} (he : (execOp a.eval o).run P w = .ok .skip w') (hp : Post nb lim r h w r' h' w') : Good P nb lim r h w o a undef h' :=
 fun K Q hK => by unfold Oper.wp; rw [he]; exact hK r' _ w' hp (VR.undef _)
/-! ### whole numbers, texts -/
theorem eqGuard_int {op : BinOp} {t : TypeId} {x y : Operand} {k k' : IntKind} {a b : Int} : (eqGuard op t x y (.int k a) (.int k' b)).run P w = .ok () w := by
 unfold eqGuard
 split <;> simp
theorem eqGuard_string {op : BinOp} {t : TypeId} {x y : Operand} {a b : ByteArray} : (eqGuard op t x y (.string a) (.string b)).run P w = .ok () w := by
 unfold eqGuard
 split <;> simp
theorem aBin_int {op : BinOp} {t : TypeId} {k k' : IntKind} {a b : Int} {v : Value} (hb : aBin op (.int k a) (.int k' b) = some v) : (binOp op t (.int k a) (.int k' b)).run P w = .ok v w ∧ flat v = true := by
 cases op <;> simp only [aBin] at hb <;>
  first
  | (split at hb <;> first | (cases hb; done) | (split at hb <;> first | (cases hb; done) | (injection hb with hb; subst hb; rename_i h1 h2; subst h1; simp [binOp, Op.intDiv, h2, flat])) | (injection hb with hb; subst hb; rename_i h1; first | (subst h1; simp [binOp, Op.intArith, Op.intBits, Op.intCmp, flat]; done) | (simp [binOp, Op.shift, h1, flat]; done)))
  | (cases hb; done)
theorem aBin_string {op : BinOp} {t : TypeId} {a b : ByteArray} {v : Value} (hb : aBin op (.string a) (.string b) = some v) : (binOp op t (.string a) (.string b)).run P w = .ok v w ∧ flat v = true := by
 cases op <;> simp only [aBin] at hb <;>
  first
  | (cases hb; done)
  | (injection hb with hb; subst hb; simp [binOp, Op.stringOp, flat]; done)
  | (split at hb <;> first | (cases hb; done) | (injection hb with hb; subst hb; rename_i h1; simp only [binOp, Op.stringOp, if_neg h1]; exact ⟨rfl, rfl⟩))
theorem bin_run {op : BinOp} {t : TypeId} {x y : Operand} {u v : Value} {z : Value} (hb : aBin op u v = some z) : (do eqGuard op t x y u v; binOp op t u v : Sem Value).run P w = .ok z w ∧ flat z = true ∧ (∀ u', VR r u u' → u' = u) ∧ (∀ v', VR r v v' → v' = v) := by
 have hb' := hb
 unfold aBin at hb
 split at hb
 ·rename_i k a k' b
  have := aBin_int (P := P) (w := w) (t := t) hb'
  exact ⟨by rw [Sem.run_bind, eqGuard_int]; exact this.1, this.2, fun u' h => by cases h; rfl, fun u' h => by cases h; rfl⟩
 ·rename_i a b
  have := aBin_string (P := P) (w := w) (t := t) hb'
  exact ⟨by rw [Sem.run_bind, eqGuard_string]; exact this.1, this.2, fun u' h => by cases h; rfl, fun u' h => by cases h; rfl⟩
 ·cases hb
end
section
variable {P : Program} {nb lim : Nat} {r : Rho} {h : AH} {w : World}
/-! ### == of structs -/
theorem part_run' {t : TypeId} {n : Option Nat} (hn : Rs.aggN P t = some n) {cs : Array Value} {o : Nat} {v : Value} (hl : loadAt n cs.toList o = some v) : (part t cs o).run P w = .ok v w := by
 obtain ⟨h1, h2⟩ := run_aggN (w := w) hn
 cases n with
 | none =>
  simp only [loadAt] at hl
  have h5 : cs[o]? = some v := by simpa using hl
  simp [part, h1, h5]
 | some n =>
  simp only [loadAt] at hl
  split at hl
  ·injection hl with hl
   subst hl
   have e : cs.extract o (o + n) = (List.take n (List.drop o cs.toList)).toArray := by
    apply Array.ext'
    simp [Array.toList_extract, List.extract_eq_take_drop]
   simp [part, h1, run_size (h2 n rfl), e]
  ·cases hl
def isAggV : Value → Bool
 | .agg _ => true
 | _ => false
theorem eqKs_length : ∀ {ks : List Nat} {xs ys : List Value} {b : Bool}, eqKs ks xs ys = some b → xs.length = ks.length ∧ ys.length = ks.length
 | [], [], [], _, _ => ⟨rfl, rfl⟩
 | [], [], _ :: _, _, h => by simp [eqKs] at h
 | [], _ :: _, _, _, h => by simp [eqKs] at h
 | _ :: _, [], _, _, h => by simp [eqKs] at h
 | _ :: _, _ :: _, [], _, h => by simp [eqKs] at h
 | k :: ks, x :: xs, y :: ys, b, h => by
  simp only [eqKs] at h
  cases h1 : eqK k x y with
  | none => simp [h1] at h
  | some c =>
   cases h2 : eqKs ks xs ys with
   | none => simp [h1, h2] at h
   | some d =>
    have := eqKs_length h2
    exact ⟨by simp [this.1], by simp [this.2]⟩
theorem eqKs_append : ∀ {ks ls : List Nat} {xs ys : List Value} {b : Bool}, eqKs (ks ++ ls) xs ys = some b →
  ∃ c d, eqKs ks (xs.take ks.length) (ys.take ks.length) = some c ∧ eqKs ls (xs.drop ks.length) (ys.drop ks.length) = some d ∧ b = (c && d)
 | [], ls, xs, ys, b, h => ⟨true, b, by simp [eqKs], by simpa using h, by simp⟩
 | k :: ks, ls, xs, ys, b, h => by
  cases xs with
  | nil => simp [eqKs] at h
  | cons x xs =>
   cases ys with
   | nil => simp [eqKs] at h
   | cons y ys =>
    simp only [List.cons_append, eqKs] at h
    cases h1 : eqK k x y with
    | none => simp [h1] at h
    | some c =>
     cases h2 : eqKs (ks ++ ls) xs ys with
     | none => simp [h1, h2] at h
     | some d =>
      simp [h1, h2] at h
      obtain ⟨c', d', e1, e2, e3⟩ := eqKs_append h2
      exact ⟨c && c', d', by simp [eqKs, h1, e1], by simpa using e2, by rw [← h, e3, Bool.and_assoc]⟩
theorem eqFields_run {kd : TypeId → Option (List Nat)} {D : Nat}
  (hkd : ∀ t ks, kd t = some ks → ∀ X Y b n, Rs.aggN P t = some n → (isAggV X = n.isSome) → (isAggV Y = n.isSome) → eqKs ks X.cells.toList Y.cells.toList = some b → (Op.equalIn D t X Y).run P w = .ok b w) (xs ys : Array Value) :
  ∀ (fs : List Field) (o : Nat) (ks : List Nat), Rs.kindsF P kd fs o = some ks → ∀ b, eqKs ks (xs.toList.drop o) (ys.toList.drop o) = some b → (Op.eqFields D xs ys fs).run P w = .ok b w
 | [], o, ks, hk, b, hb => by
  simp only [Rs.kindsF] at hk
  injection hk with hk
  subst hk
  have hl := eqKs_length hb
  have h1 := List.eq_nil_of_length_eq_zero hl.1
  have h2 := List.eq_nil_of_length_eq_zero hl.2
  rw [h1, h2] at hb
  simp [eqKs] at hb
  subst hb
  simp [Op.eqFields]
 | f :: fs, o, ks, hk, b, hb => by
  simp only [Rs.kindsF] at hk
  split at hk
  ·rename_i hc
   obtain ⟨hof, hnm⟩ := hc
   cases h1 : kd f.type with
   | none => simp [h1] at hk
   | some k1 =>
    rw [h1] at hk
    simp only [Option.bind_some] at hk
    split at hk
    ·rename_i hag
     cases h2 : Rs.kindsF P kd fs (o + k1.length) with
     | none => simp [h2] at hk
     | some k2 =>
      rw [h2] at hk
      simp only [Option.map_some] at hk
      injection hk with hk
      subst hk
      have hlen := eqKs_length hb
      rw [List.length_append, List.length_drop, List.length_drop] at hlen
      obtain ⟨c, d, e1, e2, rfl⟩ := eqKs_append hb
      rw [List.drop_drop, List.drop_drop] at e2
      have ih := eqFields_run hkd xs ys fs (o + k1.length) k2 h2 d e2
      have hnm' : f.name ≠ "_" := by simpa using hnm
      have hlk := eqKs_length e1
      obtain ⟨X, Y, n, hX, hY, hn, gX, gY, gE⟩ : ∃ X Y n, loadAt n xs.toList o = some X ∧ loadAt n ys.toList o = some Y ∧ Rs.aggN P f.type = some n ∧ isAggV X = n.isSome ∧ isAggV Y = n.isSome ∧ eqKs k1 X.cells.toList Y.cells.toList = some c := by
       rcases hag with ⟨hag, hpos⟩ | ⟨hag, h1l⟩
       ·refine ⟨.agg (List.take k1.length (List.drop o xs.toList)).toArray, .agg (List.take k1.length (List.drop o ys.toList)).toArray, some k1.length, ?_, ?_, hag, ?_, ?_, ?_⟩
        ·simp only [loadAt]; rw [if_pos]; simp at hlk ⊢; omega
        ·simp only [loadAt]; rw [if_pos]; simp at hlk ⊢; omega
        ·rfl
        ·rfl
        ·simpa [Value.cells] using e1
       ·rw [h1l] at e1
        have a1 : o < xs.toList.length := by simp at hlk ⊢; omega
        have a2 : o < ys.toList.length := by simp at hlk ⊢; omega
        have t1 : ∀ (l : List Value) (h : o < l.length), (l.drop o).take 1 = [l[o]] := fun l h => by
         rw [List.drop_eq_getElem_cons h]; rfl
        rw [t1 _ a1, t1 _ a2] at e1
        have notagg : ∀ (u v : Value), eqKs k1 [u] [v] = some c → isAggV u = false ∧ isAggV v = false ∧ eqKs k1 u.cells.toList v.cells.toList = some c := by
         intro u v hh
         cases k1 with
         | nil => simp at h1l
         | cons q qs =>
          have : qs = [] := List.eq_nil_of_length_eq_zero (by simpa using h1l)
          subst this
          have hh' := hh
          simp only [eqKs] at hh
          cases hq : eqK q u v with
          | none => simp [hq] at hh
          | some z =>
           unfold eqK at hq
           split at hq <;> first | (cases hq; done) | exact ⟨rfl, rfl, by simpa [Value.cells] using hh'⟩
        obtain ⟨n1, n2, n3⟩ := notagg _ _ e1
        exact ⟨_, _, none, by simp only [loadAt]; exact List.getElem?_eq_getElem a1, by simp only [loadAt]; exact List.getElem?_eq_getElem a2, hag, n1, n2, n3⟩
      rw [← hof] at hX hY
      have p1 := part_run' (w := w) hn hX
      have p2 := part_run' (w := w) hn hY
      have p3 := hkd f.type k1 h1 X Y c n hn gX gY gE
      rw [Op.eqFields, if_pos hnm']
      simp only [Sem.run_bind, p1, p2, p3, Result.andThen_ok]
      cases c
      ·simp
      ·simpa using ih
    ·cases hk
  ·cases hk
theorem eqK0 {X Y : Value} {b : Bool} (h : eqK 0 X Y = some b) : ∃ p q, X = .bool p ∧ Y = .bool q ∧ b = (p == q) := by
 cases X <;> cases Y <;> simp [eqK] at h
 exact ⟨_, _, rfl, rfl, h.symm⟩
theorem eqK1 {X Y : Value} {b : Bool} (h : eqK 1 X Y = some b) : ∃ k p q, X = .int k p ∧ Y = .int k q ∧ b = (p == q) := by
 cases X <;> cases Y <;> simp [eqK] at h
 obtain ⟨rfl, h⟩ := h
 exact ⟨_, _, _, rfl, rfl, h.symm⟩
theorem eqK2 {X Y : Value} {b : Bool} (h : eqK 2 X Y = some b) : ∃ p q, X = .string p ∧ Y = .string q ∧ b = (p == q) := by
 cases X <;> cases Y <;> simp [eqK] at h
 exact ⟨_, _, rfl, rfl, h.symm⟩
theorem equalIn_run : ∀ (d : Nat) (t : TypeId) (ks : List Nat), Rs.kinds P d t = some ks → ∀ D, d ≤ D → ∀ X Y b n, Rs.aggN P t = some n → (isAggV X = n.isSome) → (isAggV Y = n.isSome) → eqKs ks X.cells.toList Y.cells.toList = some b → (Op.equalIn D t X Y).run P w = .ok b w
 | 0, _, _, h, _, _, _, _, _, _, _, _, _, _ => by simp [Rs.kinds] at h
 | d + 1, t, ks, h, D, hD, X, Y, b, n, hn, hX, hY, he => by
  obtain ⟨D, rfl⟩ : ∃ q, D = q + 1 := ⟨D - 1, by omega⟩
  simp only [Rs.kinds] at h
  have one : ∀ k, ks = [k] → n = none → ∃ z, eqK k X Y = some z ∧ z = b := by
   intro k hk hn0
   subst hk; subst hn0
   have c1 : X.cells = #[X] := by cases X <;> first | rfl | (simp [isAggV] at hX)
   have c2 : Y.cells = #[Y] := by cases Y <;> first | rfl | (simp [isAggV] at hY)
   rw [c1, c2] at he
   simp only [eqKs] at he
   cases hq : eqK k X Y with
   | none => simp [hq] at he
   | some z => simp [hq] at he; exact ⟨z, rfl, he⟩
  cases hu : P.underlying t with
  | none => simp [hu] at h
  | some dsc =>
   rw [hu] at h
   cases dsc <;> simp only at h <;> try (cases h; done)
   ·injection h with h; subst h
    have hn0 : n = none := by simp [Rs.aggN, hu] at hn; exact hn.symm
    obtain ⟨z, hz, rfl⟩ := one 0 rfl hn0
    obtain ⟨p, q, rfl, rfl, rfl⟩ := eqK0 hz
    exact run_equalIn_bool' w D t p q hu
   ·injection h with h; subst h
    have hn0 : n = none := by simp [Rs.aggN, hu] at hn; exact hn.symm
    obtain ⟨z, hz, rfl⟩ := one 1 rfl hn0
    obtain ⟨k, p, q, rfl, rfl, rfl⟩ := eqK1 hz
    exact run_equalIn_int w D t _ _ _ _ hu
   ·injection h with h; subst h
    have hn0 : n = none := by simp [Rs.aggN, hu] at hn; exact hn.symm
    obtain ⟨z, hz, rfl⟩ := one 2 rfl hn0
    obtain ⟨p, q, rfl, rfl, rfl⟩ := eqK2 hz
    rw [run_equalIn_string w D t _ _ hu, beq_toListBytes]
   ·rename_i fs
    split at h
    ·rename_i hst
     obtain ⟨m, rfl⟩ : ∃ m, n = some m := by
      simp [Rs.aggN, hu] at hn
      obtain ⟨m, _, hm⟩ := hn
      exact ⟨m, hm.symm⟩
     obtain ⟨xs, rfl⟩ : ∃ xs, X = .agg xs := by cases X <;> first | exact ⟨_, rfl⟩ | (simp [isAggV] at hX)
     obtain ⟨ys, rfl⟩ : ∃ ys, Y = .agg ys := by cases Y <;> first | exact ⟨_, rfl⟩ | (simp [isAggV] at hY)
     rw [run_equalIn_struct (P := P) w D t xs ys (by simp [Program.fieldsOf, hu]) hst]
     have hf : P.fieldsOf t = fs := by simp [Program.fieldsOf, hu]
     rw [hf]
     exact eqFields_run (fun t ks hk X Y b n a1 a2 a3 a4 => equalIn_run d t ks hk D (by omega) X Y b n a1 a2 a3 a4) xs ys fs.toList 0 ks h b (by simpa [Value.cells] using he)
    ·cases h
/-! ### parts of an aggregate -/
theorem foldl_set (off : Nat) : ∀ (vs : List Value) (k : Nat) (A : Array Value), off + k + vs.length ≤ A.size →
  ((vs.zipIdx k).foldl (fun cs (p : Value × Nat) => cs.setIfInBounds (off + p.2) p.1) A).toList = over A.toList (off + k) vs
 | [], k, A, _ => by simp [over]
 | v :: vs, k, A, hl => by
  simp only [List.length_cons] at hl
  rw [List.zipIdx_cons, List.foldl_cons, foldl_set off vs (k + 1) _ (by simp; omega)]
  apply List.ext_getElem?
  intro j
  rw [over_get _ _ _ (by simp; omega), over_get _ _ _ (by simp; omega)]
  simp only [Array.toList_setIfInBounds, List.getElem?_set, List.length_cons, Array.length_toList]
  by_cases h1 : j = off + k
  ·subst h1
   rw [if_neg (by omega), if_pos rfl, if_pos (by omega), if_pos (by omega)]
   simp
  ·by_cases h2 : off + (k + 1) ≤ j ∧ j < off + (k + 1) + vs.length
   ·rw [if_pos h2, if_pos (by omega), show j - (off + k) = (j - (off + (k + 1))) + 1 by omega, List.getElem?_cons_succ]
   ·rw [if_neg h2, if_neg (by omega), if_neg (by omega)]
theorem fill_run {e : Env} {ρ : Operand → Value} {place : Nat → Option (Nat × Nat)} :
  ∀ (ps : List (Nat × Operand)) (qs : List (Nat × Nat × Operand)), ps.map (·.2) = qs.map (·.2.2) → (∀ (i : Nat) p q, ps[i]? = some p → qs[i]? = some q → place p.1 = some (q.1, q.2.1)) →
   (∀ x ∈ qs.map (·.2.2), VR r (ev e x) (ρ x)) → ∀ (cs : List Value) (C : Array Value) (out : List Value), VL r cs C.toList → aFill e cs qs = some out →
   ∃ D, Instr.fill place C (ps.map fun p => (p.1, ρ p.2)) = some D ∧ VL r out D.toList
 | [], [], _, _, _, cs, C, out, hc, ha => by
  simp only [aFill] at ha
  injection ha with ha
  subst ha
  exact ⟨C, rfl, hc⟩
 | [], _ :: _, h, _, _, _, _, _, _, _ => by simp at h
 | _ :: _, [], h, _, _, _, _, _, _, _ => by simp at h
 | (i, x) :: ps, (off, size, y) :: qs, h, hp, hv, cs, C, out, hc, ha => by
  simp only [List.map_cons, List.cons.injEq] at h
  obtain ⟨rfl, h⟩ := h
  have h0 := hp 0 (i, x) (off, size, x) rfl rfl
  simp only at h0
  have hx := hv x (by simp)
  simp only [aFill] at ha
  split at ha
  ·cases ha
  ·rename_i hcond
   have hcond' : (ev e x).cells.size = size ∧ off + size ≤ cs.length := by
    constructor
    ·exact Decidable.byContradiction fun h => hcond (.inl h)
    ·exact Nat.le_of_not_lt fun h => hcond (.inr h)
   obtain ⟨hsz, hle⟩ := hcond'
   have hC : C.size = cs.length := by have := hc.1; simpa using this.symm
   have hsz' : (ρ x).cells.size = size := by rw [hx.cells_size, hsz]
   have hl := hx.cells
   have hfold := foldl_set off (ρ x).cells.toList 0 C (by simp; omega)
   have e1 : ((ρ x).cells.zipIdx.foldl (fun cs (c, j) => cs.setIfInBounds (off + j) c) C).toList = over C.toList off (ρ x).cells.toList := by
    rw [← Array.foldl_toList, Array.toList_zipIdx]
    simpa using hfold
   obtain ⟨D, h1, h2⟩ := fill_run ps qs h (fun j p q a b => hp (j + 1) p q (by simpa using a) (by simpa using b)) (fun z hz => hv z (by simp at hz ⊢; exact .inr hz)) (over cs off (ev e x).cells.toList) ((ρ x).cells.zipIdx.foldl (fun cs (c, j) => cs.setIfInBounds (off + j) c) C) out (by rw [e1]; exact hc.over hl off) ha
   refine ⟨D, ?_, h2⟩
   simp only [List.map_cons, Instr.fill, h0]
   rw [if_neg (by simp [hsz']; omega)]
   exact h1
theorem reps_length (z : List Value) (n : Nat) : (reps z n).length = n * z.length := by
 induction n with
 | zero => simp [reps]
 | succ n ih => simp [reps, ih, Nat.succ_mul, Nat.add_comm]
theorem reps_get (z : List Value) (hz : 0 < z.length) : ∀ (n j : Nat), j < n * z.length → (reps z n)[j]? = z[j % z.length]?
 | 0, j, h => by simp at h
 | n + 1, j, h => by
  rw [reps, List.getElem?_append]
  split
  ·rename_i hj; rw [Nat.mod_eq_of_lt hj]
  ·rename_i hj
   rw [reps_get z hz n (j - z.length) (by rw [Nat.succ_mul] at h; omega)]
   congr 1
   rw [Nat.mod_eq_sub_mod (Nat.le_of_not_lt hj)]
theorem reps_array (z : Array Value) (hz : 0 < z.size) (n : Nat) : ((Array.range (n * z.size)).map (fun i => z[i % z.size]!)).toList = reps z.toList n := by
 apply List.ext_getElem?
 intro j
 by_cases hj : j < n * z.size
 ·rw [reps_get z.toList (by simpa using hz) n j (by simpa using hj)]
  have hm : j % z.size < z.size := Nat.mod_lt _ hz
  simp [hj, hm]
 ·rw [List.getElem?_eq_none (by simp; omega), List.getElem?_eq_none (by rw [reps_length]; simp; omega)]
theorem reps_flat {z : List Value} (hz : z.all (fun c => flat c && cellOk c) = true) (n : Nat) : (reps z n).all flat = true ∧ (reps z n).all cellOk = true := by
 have h1 : z.all flat = true ∧ z.all cellOk = true := by
  simp only [List.all_eq_true, Bool.and_eq_true] at hz ⊢
  exact ⟨fun x hx => (hz x hx).1, fun x hx => (hz x hx).2⟩
 induction n with
 | zero => simp [reps]
 | succ n ih => simp only [reps, List.all_append, Bool.and_eq_true]; exact ⟨⟨h1.1, ih.1⟩, ⟨h1.2, ih.2⟩⟩
end
section
variable {P : Program} {nb lim : Nat} {r : Rho} {h h' : AH} {w : World} {dst : Option Tmp} {ty : TypeId} {pos : String} {after : Array Edge} {guard : Option (Nat × Bool)} {e : Env} {a : Act} {v : Value}
theorem good_mv (hr : HR nb r h w) {x : Operand} {o : Oper} (ho : o.op = .move x ∨ o.op = .assign x) (hx : VR r (ev e x) (a.eval x)) : Good P nb lim r h w o a (ev e x) h :=
 Good.same hr (by rcases ho with ho | ho <;> simp [execOp, ho]) hx
theorem good_pick (hr : HR nb r h w) {c x y : Operand} {o : Oper} (ho : o.op = .pick c x y) {t : Bool} (hc : ev e c = .bool t) (hc' : VR r (ev e c) (a.eval c)) (hx : VR r (ev e x) (a.eval x)) (hy : VR r (ev e y) (a.eval y)) :
  Good P nb lim r h w o a (if t then ev e x else ev e y) h := by
 rw [hc] at hc'
 have h1 : a.eval c = .bool t := by
  generalize a.eval c = z at hc'
  cases hc'
  rfl
 refine Good.same hr (v' := if t then a.eval x else a.eval y) (by simp [execOp, ho, h1, asBool]) ?_
 cases t <;> simp [hx, hy]
theorem good_new (hr : HR nb r h w) {t : TypeId} {z : List Value} {o : Oper} (ho : o.op = .alloc t) (hz : Rs.zero P t = some z) (hf : Fresh r h (h ++ [.cells z])) :
  Good P nb lim r h w o a (.pointer (some ⟨h.length, 0, none⟩)) (h ++ [.cells z]) := by
 obtain ⟨v, h1, h2, h3, h4⟩ := run_zero (w := w) hz
 have hfl : VL r z z := VL.flat (by simp only [List.all_eq_true, Bool.and_eq_true] at h4 ⊢; exact fun x hx => (h4 x hx).1)
 refine Good.value (w' := w.alloc (.cells v.cells t)) (v' := .pointer (some ⟨w.heap.size, 0 + 0, none⟩)) (by simp [execOp, ho, Instr.alloc, h1, newVar, newRow])
  (Post.alloc (csz := v.cells.size) hr (hf _ (Nat.le_refl _) (by simp)) ⟨rfl, rfl, by rw [← h2]; simp, fun j u hu => ?_⟩) (.ptr _ _ ⟨w.heap.size, 0, _, true⟩ (Rho.put_same _ _))
 obtain ⟨u', g1, g2⟩ := hfl.get hu
 exact ⟨u', by rw [← Array.getElem?_toList, h2]; exact g1, g2⟩
theorem good_box (hr : HR nb r h w) {t : TypeId} {x : Operand} {o : Oper} (ho : o.op = .box t x) (hx : VR r (ev e x) (a.eval x)) (ha : aBox h (ev e x) = some (v, h')) (hf : Fresh r h h') : Good P nb lim r h w o a v h' := by
 unfold aBox at ha
 split at ha
 ·injection ha with ha
  injection ha with h1 h2
  subst h1; subst h2
  refine Good.value (w' := w.alloc (.cells (a.eval x).cells t)) (v' := .pointer (some ⟨w.heap.size, 0 + 0, none⟩)) (by simp [execOp, ho, Instr.box, newVar, newRow])
   (Post.alloc (csz := (a.eval x).cells.size) hr (hf _ (Nat.le_refl _) (by simp)) ⟨rfl, rfl, by simp [hx.cells_size], fun j u hu => ?_⟩) (.ptr _ _ ⟨w.heap.size, 0, _, true⟩ (Rho.put_same _ _))
  obtain ⟨u', g1, g2⟩ := hx.cells.get hu
  exact ⟨u', by simpa using g1, g2⟩
 ·cases ha
theorem good_load (hr : HR nb r h w) {t : TypeId} {n : Option Nat} {x : Operand} {o : Oper} (ho : o.op = .load t x) (hn : Rs.aggN P t = some n) (hx : VR r (ev e x) (a.eval x)) (ha : aLoad n h (ev e x) = some v) : Good P nb lim r h w o a v h := by
 obtain ⟨ad, v', h1, h2, h3⟩ := loadVar_run (P := P) hr hn ha hx
 exact Good.same hr (v' := v') (by simp [execOp, ho, h1, Instr.loadAt, Instr.sureAddr, h2]) h3
theorem aStore_inv {n : Nat} {x y : Value} (ha : aStore lim n h x y = some h') : ∃ b o, x = .pointer (some ⟨b, o, none⟩) ∧ y.cells.size = n ∧ aWrite lim h b o y.cells.toList = some h' := by
 unfold aStore at ha
 split at ha
 ·split at ha
  ·exact ⟨_, _, rfl, ‹_›, ha⟩
  ·cases ha
 ·cases ha
theorem good_store (hr : HR nb r h w) (hlim : nb ≤ lim) {t : TypeId} {n : Nat} {x y : Operand} {o : Oper} (ho : o.op = .store t x y) (hn : Rs.size P t = some n) (hx : VR r (ev e x) (a.eval x)) (hy : VR r (ev e y) (a.eval y)) (ha : aStore lim n h (ev e x) (ev e y) = some h') : Good P nb lim r h w o a undef h' := by
 obtain ⟨b, of, hxe, hsz, ha⟩ := aStore_inv ha
 rw [hxe] at hx
 obtain ⟨i, hi, hx'⟩ := hx.ptr_inv
 obtain ⟨w', g1, g2⟩ := Post.write (P := P) hr hi hlim ha hy.cells (a := ⟨i.blk, i.base + of, none⟩) rfl (fun _ => ⟨rfl, rfl⟩)
 refine Good.skip (w' := w') ?_ g2
 have hsz' : (a.eval y).cells.size = n := by rw [hy.cells_size, hsz]
 simp [execOp, ho, hx', Instr.storeAt, Instr.sureAddr, storeVar, run_size hn, hsz', g1]
theorem good_nilCheck (hr : HR nb r h w) {x : Operand} {o : Oper} (ho : o.op = .nilCheck x) (hx : VR r (ev e x) (a.eval x))
  (ha : (match ev e x with
   | .pointer (some a) => some (Value.pointer (some a), h)
   | .func (.func f) a b => some (.func (.func f) a b, h)
   | _ => none) = some (v, h')) : Good P nb lim r h w o a v h' := by
 generalize hu : ev e x = u at ha hx
 split at ha
 ·injection ha with ha
  injection ha with h1 h2
  subst h1; subst h2
  generalize hz : a.eval x = z at hx
  cases hx with
  | ptr b o' i hi => exact Good.same hr (v' := .pointer (some ⟨i.blk, i.base + o', none⟩)) (by simp [execOp, ho, hz]) (.ptr _ _ _ hi)
 ·injection ha with ha
  injection ha with h1 h2
  subst h1; subst h2
  generalize hz : a.eval x = z at hx
  cases hx with
  | func fn f f' c c' e1 e2 k1 k2 => exact Good.same hr (v' := .func (.func _) f' c') (by simp [execOp, ho, hz]) (.func _ _ _ _ _ e1 e2 k1 k2)
 ·cases ha
theorem good_bin (hr : HR nb r h w) {op : BinOp} {t yt : TypeId} {x y : Operand} {o : Oper} (ho : o.op = .binOp op t x y yt) (hx : VR r (ev e x) (a.eval x)) (hy : VR r (ev e y) (a.eval y)) (ha : aBin op (ev e x) (ev e y) = some v) : Good P nb lim r h w o a v h := by
 obtain ⟨h1, h2, h3, h4⟩ := bin_run (P := P) (w := w) (r := r) (t := t) (x := x) (y := y) ha
 have e1 := h3 _ hx
 have e2 := h4 _ hy
 refine Good.same hr (v' := v) ?_ (VR.flat h2)
 rw [execOp, ho]
 simp only [e1, e2]
 rw [Sem.run_bind, h1]
 rfl
theorem good_un (hr : HR nb r h w) {op : UnOp} {t : TypeId} {x : Operand} {o : Oper} (ho : o.op = .unOp op t x) (hx : VR r (ev e x) (a.eval x)) (ha : aUn op (ev e x) = some v) : Good P nb lim r h w o a v h := by
 generalize hu : ev e x = u at ha hx
 generalize hz : a.eval x = z at hx
 cases u <;> simp only [aUn] at ha <;> try (cases ha; done)
 ·cases hx
  cases op <;> simp at ha
  subst ha
  exact Good.same hr (v' := .bool _) (by simp [execOp, ho, hz, Op.unary]) (.bool _)
 ·cases hx
  cases op <;> simp at ha
  subst ha
  exact Good.same hr (v' := .int _ _) (by simp [execOp, ho, hz, Op.unary, Op.intArith]) (.int _ _)
theorem aEq_inv {l : List Nat} {x y : Value} {b : Bool} (ha : aEq (some l) x y = some b) : ∃ xs ys, x = .agg xs ∧ y = .agg ys ∧ eqKs l xs.toList ys.toList = some b := by
 cases x <;> cases y <;> simp [aEq] at ha
 exact ⟨_, _, rfl, rfl, ha⟩
theorem good_eq (hr : HR nb r h w) {neg : Bool} {t yt : TypeId} {x y : Operand} {o : Oper} (ho : o.op = .binOp (if neg then .neq else .eql) t x y yt) {ks : Option (List Nat)}
  (hk : (P.underlying t = some .bool ∧ ks = none) ∨ ((∃ fs, P.underlying t = some (.struct fs)) ∧ ∃ l, ks = some l ∧ Rs.eqKinds P t = some l))
  (hx : VR r (ev e x) (a.eval x)) (hy : VR r (ev e y) (a.eval y)) {b : Bool} (ha : aEq ks (ev e x) (ev e y) = some b) : Good P nb lim r h w o a (.bool (if neg then !b else b)) h := by
 refine Good.same hr (v' := .bool (if neg then !b else b)) ?_ (.bool _)
 generalize hu : ev e x = u at ha hx
 generalize hz : a.eval x = z at hx
 generalize hu2 : ev e y = u2 at ha hy
 generalize hz2 : a.eval y = z2 at hy
 rcases hk with ⟨hb, rfl⟩ | ⟨⟨fs, hs⟩, l, rfl, hl⟩
 ·simp only [aEq] at ha
  obtain ⟨p, q, rfl, rfl, rfl⟩ := eqK0 ha
  cases hx
  cases hy
  have h1 := run_equalIn_bool' w 9999 t p q hb
  cases neg <;> simp [execOp, ho, hz, hz2, eqGuard, binOp, Op.equal, Op.maxDepth, h1]
 ·unfold Rs.eqKinds at hl
  split at hl
  ·rename_i hg
   obtain ⟨xs, ys, rfl, rfl, ha⟩ := aEq_inv ha
   ·obtain ⟨xs', rfl, hxs⟩ := hx.agg_inv
    obtain ⟨ys', rfl, hys⟩ := hy.agg_inv
    have hxf : ∀ (l : List Nat) (xs ys xs' ys' : List Value) b, VL r xs xs' → VL r ys ys' → eqKs l xs ys = some b → xs' = xs ∧ ys' = ys := by
     intro l
     induction l with
     | nil =>
      intro xs ys xs' ys' b h1 h2 h3
      have := eqKs_length h3
      obtain rfl := List.eq_nil_of_length_eq_zero this.1
      obtain rfl := List.eq_nil_of_length_eq_zero this.2
      exact ⟨h1.nil_inv, h2.nil_inv⟩
     | cons k l ih =>
      intro xs ys xs' ys' b h1 h2 h3
      cases xs with
      | nil => simp [eqKs] at h3
      | cons p xs =>
       cases ys with
       | nil => simp [eqKs] at h3
       | cons q ys =>
        obtain ⟨p', xs', rfl, g1, g2⟩ := h1.cons_inv
        obtain ⟨q', ys', rfl, g3, g4⟩ := h2.cons_inv
        simp only [eqKs] at h3
        cases hq : eqK k p q with
        | none => simp [hq] at h3
        | some c =>
         cases hq2 : eqKs l xs ys with
         | none => simp [hq, hq2] at h3
         | some d =>
          obtain ⟨rfl, rfl⟩ := ih xs ys xs' ys' d g2 g4 hq2
          have : p' = p ∧ q' = q := by
           unfold eqK at hq
           split at hq <;> first | (cases hq; done) | (cases g1; cases g3; exact ⟨rfl, rfl⟩)
          exact ⟨by rw [this.1], by rw [this.2]⟩
    obtain ⟨e1, e2⟩ := hxf _ _ _ _ _ _ hxs hys ha
    have e1 := Array.ext' e1
    have e2 := Array.ext' e2
    subst e1; subst e2
    have ha' : eqKs l xs'.toList ys'.toList = some b := ha
    have hn : ∃ n, Rs.aggN P t = some (some n) := by
     unfold Rs.aggN
     rw [hs]
     simp only
     unfold Rs.size
     unfold Program.underlying at hs
     cases hi : P.info? t with
     | none => simp [hi] at hs
     | some i => exact ⟨i.size, rfl⟩
    obtain ⟨n, hn⟩ := hn
    have h1 := equalIn_run (w := w) 8 t l hl 10000 (by omega) (.agg xs') (.agg ys') b (some n) hn rfl rfl ha'
    cases neg <;> simp [execOp, ho, hz, hz2, run_eqGuard_agg _ _ _ _ _ _ _ hg, run_eql_struct, run_neq_struct, h1]
  ·cases hl
theorem isNilConst_eq {k : Nat} {x : Operand} (hx : Rs.isNilConst k x = true) :
  (k = 0 ∧ x = .const (.slice none 0 0)) ∨ (k = 1 ∧ x = .const (.pointer none)) ∨ (k = 2 ∧ x = .const (.map none)) ∨ (k = 3 ∧ x = .const .nilFunc) ∨ (k = 4 ∧ x = .const .nilIface) := by
 unfold Rs.isNilConst at hx
 split at hx <;> first | (cases hx; done) | simp
theorem equal_nil {t : TypeId} {k : Nat} (hk : Rs.nilKind P t = some k) {z n : Value} {b : Bool} (hn : Rs.isNilConst k (.const n) = true) (hz : aIsNil k z = some b) :
  (Op.equal t z n).run P w = .ok b w ∧ (Op.equal t n z).run P w = .ok b w := by
 unfold Rs.nilKind at hk
 split at hk <;> first | (cases hk; done) | skip
 all_goals
  rename_i hu
  injection hk with hk
  subst hk
  rcases isNilConst_eq hn with ⟨e, h1⟩ | ⟨e, h1⟩ | ⟨e, h1⟩ | ⟨e, h1⟩ | ⟨e, h1⟩ <;> first | (cases e; done) | skip
  injection h1 with h1
  subst h1
  unfold Op.equal Op.maxDepth
  cases z <;> simp [aIsNil] at hz
 all_goals
  subst hz
  constructor <;> (rw [Op.equalIn, Sem.run_bind, run_underlying hu]; simp only [Result.andThen_ok])
 all_goals
  first
  | rfl
  | (rename_i q _ _; cases q <;> rfl)
  | (rename_i q; cases q <;> rfl)
theorem eqGuard_nil {op : BinOp} {t : TypeId} {k : Nat} {x y : Operand} {u v : Value} {b : Bool} {n : Value} (hn : Rs.isNilConst k (.const n) = true) (hz : aIsNil k u = some b ∧ y = .const n ∧ v = n ∨ aIsNil k v = some b ∧ x = .const n ∧ u = n) : (eqGuard op t x y u v).run P w = .ok () w := by
 rcases isNilConst_eq hn with ⟨rfl, h1⟩ | ⟨rfl, h1⟩ | ⟨rfl, h1⟩ | ⟨rfl, h1⟩ | ⟨rfl, h1⟩ <;> injection h1 with h1 <;> subst h1 <;> rcases hz with ⟨hz, rfl, rfl⟩ | ⟨hz, rfl, rfl⟩
 all_goals
  first | (cases u <;> simp [aIsNil] at hz <;> unfold eqGuard <;> cases op <;> simp; done) | (cases v <;> simp [aIsNil] at hz <;> unfold eqGuard <;> cases op <;> simp; done)
theorem good_isNil (hr : HR nb r h w) {neg : Bool} {t yt : TypeId} {x y : Operand} {o : Oper} (ho : o.op = .binOp (if neg then .neq else .eql) t x y yt) {k : Nat} (hk : Rs.nilKind P t = some k)
  {z : Operand} (hz : (Rs.isNilConst k y = true ∧ z = x) ∨ (Rs.isNilConst k x = true ∧ z = y)) (hx : VR r (ev e z) (a.eval z)) {b : Bool} (ha : aIsNil k (ev e z) = some b) : Good P nb lim r h w o a (.bool (if neg then !b else b)) h := by
 have hb : aIsNil k (a.eval z) = some b := by
  generalize ev e z = u at ha hx
  generalize a.eval z = u' at hx
  unfold aIsNil at ha
  split at ha <;> first | (cases ha; done) | (cases hx <;> exact ha)
 refine Good.same hr (v' := .bool (if neg then !b else b)) ?_ (.bool _)
 have hc : ∀ {n : Operand}, Rs.isNilConst k n = true → ∃ v, n = .const v ∧ a.eval n = v := fun {n} hn => by
  rcases isNilConst_eq hn with ⟨_, rfl⟩ | ⟨_, rfl⟩ | ⟨_, rfl⟩ | ⟨_, rfl⟩ | ⟨_, rfl⟩ <;> exact ⟨_, rfl, rfl⟩
 have noint : ∀ (u v : Value), aIsNil k u = some b → Rs.isNilConst k (.const v) = true → ∀ op : BinOp, op = .eql ∨ op = .neq → (binOp op t u v = (do let q ← Op.equal t u v; pure (.bool (if op = .neq then !q else q)))) ∧ (binOp op t v u = (do let q ← Op.equal t v u; pure (.bool (if op = .neq then !q else q)))) := by
  intro u v h1 h2 op hop
  rcases isNilConst_eq h2 with ⟨rfl, h3⟩ | ⟨rfl, h3⟩ | ⟨rfl, h3⟩ | ⟨rfl, h3⟩ | ⟨rfl, h3⟩ <;> injection h3 with h3 <;> subst h3 <;> cases u <;> simp [aIsNil] at h1 <;> rcases hop with rfl | rfl <;> exact ⟨rfl, rfl⟩
 rcases hz with ⟨hn, rfl⟩ | ⟨hn, rfl⟩
 ·obtain ⟨v, rfl, hv⟩ := hc hn
  have h1 := equal_nil (w := w) hk hn hb
  have h2 := noint _ _ hb hn (if neg then .neq else .eql) (by cases neg <;> simp)
  have h3 := eqGuard_nil (P := P) (w := w) (op := if neg then .neq else .eql) (t := t) (x := z) (y := .const v) hn (.inl ⟨hb, rfl, rfl⟩)
  rw [execOp, ho]
  simp only [hv]
  cases neg <;> simp only [if_true, if_false, Bool.false_eq_true] at h2 h3 ⊢ <;> rw [h2.1] <;> simp [h3, h1.1]
 ·obtain ⟨v, rfl, hv⟩ := hc hn
  have h1 := equal_nil (w := w) hk hn hb
  have h2 := noint _ _ hb hn (if neg then .neq else .eql) (by cases neg <;> simp)
  have h3 := eqGuard_nil (P := P) (w := w) (op := if neg then .neq else .eql) (t := t) (y := z) (x := .const v) hn (.inr ⟨hb, rfl, rfl⟩)
  rw [execOp, ho]
  simp only [hv]
  cases neg <;> simp only [if_true, if_false, Bool.false_eq_true] at h2 h3 ⊢ <;> rw [h2.2] <;> simp [h3, h1.2]
end
section
variable {P : Program} {nb lim : Nat} {r : Rho} {h h' : AH} {w : World} {e : Env} {a : Act} {v : Value} {o : Oper}
theorem mapM_fields : ∀ (fs : List Field), (∀ f ∈ fs, ∃ n, Rs.size P f.type = some n) → ∃ l, (fs.mapM fun f => (do pure (f.offset, ← sizeOf f.type) : Sem (Nat × Nat))).run P w = .ok l w ∧ l.length = fs.length ∧ ∀ (i : Nat) f, fs[i]? = some f → ∃ n, Rs.size P f.type = some n ∧ l[i]? = some (f.offset, n)
 | [], _ => ⟨[], by simp, rfl, fun i f hf => by simp at hf⟩
 | f :: fs, hs => by
  obtain ⟨n, hn⟩ := hs f (by simp)
  obtain ⟨l, h1, h2, h3⟩ := mapM_fields fs (fun g hg => hs g (by simp [hg]))
  refine ⟨(f.offset, n) :: l, ?_, by simp [h2], fun i g hg => ?_⟩
  ·rw [List.mapM_cons]
   simp only [Sem.run_bind, run_size hn, Result.andThen_ok, Sem.run_pure, h1]
  ·cases i with
   | zero => simp at hg; subst hg; exact ⟨n, hn, rfl⟩
   | succ i => simpa using h3 i g (by simpa using hg)
theorem mapM_opt {α β : Type} {f : α → Option β} : ∀ {xs : List α} {ys : List β}, xs.mapM f = some ys → ys.length = xs.length ∧ ∀ (i : Nat) x y, xs[i]? = some x → ys[i]? = some y → f x = some y
 | [], ys, h => by simp at h; subst h; exact ⟨rfl, fun i x y hx => by simp at hx⟩
 | x :: xs, ys, h => by
  rw [List.mapM_cons] at h
  cases h1 : f x with
  | none => simp [h1] at h
  | some y =>
   cases h2 : xs.mapM f with
   | none => simp [h1, h2] at h
   | some zs =>
    simp [h1, h2] at h
    subst h
    obtain ⟨h3, h4⟩ := mapM_opt h2
    refine ⟨by simp [h3], fun i a b ha hb => ?_⟩
    cases i with
    | zero => simp at ha hb; subst ha; subst hb; exact h1
    | succ i => exact h4 i a b (by simpa using ha) (by simpa using hb)
theorem good_buildS (hr : HR nb r h w) {t : TypeId} {ps : Array (Nat × Operand)} (ho : o.op = .build t ps) {fs : Array Field} (hu : P.underlying t = some (.struct fs)) (hs : (fs.toList.all fun f => (Rs.size P f.type).isSome) = true) {z : List Value} (hz : Rs.zero P t = some z)
  {qs : List (Nat × Nat × Operand)} (hq : (ps.toList.mapM fun (p : Nat × Operand) => (fs[p.1]?).bind fun f => (Rs.size P f.type).map fun n => (f.offset, n, p.2)) = some qs)
  (hE : ∀ x ∈ ps.toList.map (·.2), VR r (ev e x) (a.eval x)) {cs : List Value} (ha : aFill e z qs = some cs) : Good P nb lim r h w o a (.agg cs.toArray) h := by
 obtain ⟨zv, z1, z2, z3, z4⟩ := run_zero (w := w) hz
 obtain ⟨l, m1, m2, m3⟩ := mapM_fields (P := P) (w := w) fs.toList (fun f hf => by
  rw [List.all_eq_true] at hs
  exact Option.isSome_iff_exists.1 (hs f hf))
 obtain ⟨q1, q2⟩ := mapM_opt hq
 have hmap : ps.toList.map (·.2) = qs.map (·.2.2) := by
  apply List.ext_getElem?
  intro i
  simp only [List.getElem?_map]
  cases hp : ps.toList[i]? with
  | none => rw [List.getElem?_eq_none (by rw [q1]; exact List.getElem?_eq_none_iff.1 hp)]; rfl
  | some p =>
   have hi : i < qs.length := by rw [q1]; exact (List.getElem?_eq_some_iff.1 hp).1
   have := q2 i p _ hp (List.getElem?_eq_getElem hi)
   rw [List.getElem?_eq_getElem hi]
   cases hf : fs[p.1]? with
   | none => simp [hf] at this
   | some f =>
    cases hn : Rs.size P f.type with
    | none => simp [hf, hn] at this
    | some n =>
     simp [hf, hn] at this
     simp [← this]
 obtain ⟨D, f1, f2⟩ := fill_run (r := r) (e := e) (ρ := a.eval) (place := (l.toArray[·]?)) ps.toList qs hmap (fun i p q hp hq' => by
   have := q2 i p q hp hq'
   cases hf : fs[p.1]? with
   | none => simp [hf] at this
   | some f =>
    cases hn : Rs.size P f.type with
    | none => simp [hf, hn] at this
    | some n =>
     simp [hf, hn] at this
     obtain ⟨n', g1, g2⟩ := m3 p.1 f (by simpa using hf)
     rw [hn] at g1
     injection g1 with g1
     subst g1
     simpa [← this] using g2)
  (fun x hx => hE x (by rw [hmap]; exact hx)) z zv.cells cs (by rw [z2]; exact VL.flat (by simp only [List.all_eq_true, Bool.and_eq_true] at z4 ⊢; exact fun x hx => (z4 x hx).1)) ha
 refine Good.same hr (v' := .agg D) ?_ (VR.agg' (by simpa using f2))
 have hm : (fs.mapM fun f => (do pure (f.offset, ← sizeOf f.type) : Sem (Nat × Nat))).run P w = .ok l.toArray w := by
  rw [Array.mapM_eq_mapM_toList]
  simp only [Sem.run_map, m1, Result.andThen_ok]
 have e1 : (ps.map fun x => (x.fst, a.eval x.snd)).toList = ps.toList.map fun p => (p.1, a.eval p.2) := by simp
 rw [execOp, ho]
 simp only [Instr.build, Sem.run_bind, z1, Result.andThen_ok, run_underlying hu]
 rw [hm]
 simp only [Result.andThen_ok, e1, f1]
 rfl
theorem good_buildA (hr : HR nb r h w) {t : TypeId} {ps : Array (Nat × Operand)} (ho : o.op = .build t ps) {m : Nat} {el : TypeId} (hu : P.underlying t = some (.array m el)) {z : List Value} (hz : Rs.zero P t = some z) {n : Nat} (hn : Rs.size P el = some n)
  (hE : ∀ x ∈ ps.toList.map (·.2), VR r (ev e x) (a.eval x)) {cs : List Value} (ha : aFill e z (ps.toList.map fun p => (p.1 * n, n, p.2)) = some cs) : Good P nb lim r h w o a (.agg cs.toArray) h := by
 obtain ⟨zv, z1, z2, z3, z4⟩ := run_zero (w := w) hz
 obtain ⟨D, f1, f2⟩ := fill_run (r := r) (e := e) (ρ := a.eval) (place := fun i => some (i * n, n)) ps.toList _ (by simp) (fun i p q hp hq' => by
   simp only [List.getElem?_map, hp, Option.map_some] at hq'
   injection hq' with hq'
   subst hq'
   rfl)
  (fun x hx => hE x (by simpa using hx)) z zv.cells cs (by rw [z2]; exact VL.flat (by simp only [List.all_eq_true, Bool.and_eq_true] at z4 ⊢; exact fun x hx => (z4 x hx).1)) ha
 refine Good.same hr (v' := .agg D) ?_ (VR.agg' (by simpa using f2))
 have e1 : (ps.map fun x => (x.fst, a.eval x.snd)).toList = ps.toList.map fun p => (p.1, a.eval p.2) := by simp
 rw [execOp, ho]
 simp only [Instr.build, Sem.run_bind, z1, Result.andThen_ok, run_underlying hu, run_size hn, e1, f1]
 rfl
theorem good_buildSlice (hr : HR nb r h w) {t : TypeId} {len : Nat} {ps : Array (Nat × Operand)} (ho : o.op = .buildSlice t len ps) {el : TypeId} (hu : P.underlying t = some (.slice el)) {z : List Value} (hz : Rs.zero P el = some z) (hz0 : 0 < z.length) (hlen : len * z.length ≤ 2 ^ 24)
  (hE : ∀ x ∈ ps.toList.map (·.2), VR r (ev e x) (a.eval x)) {cs : List Value} (ha : aFill e (reps z len) (ps.toList.map fun p => (p.1 * z.length, z.length, p.2)) = some cs) (hok : cs.all cellOk = true) (hf : Fresh r h (h ++ [.cells cs])) :
  Good P nb lim r h w o a (.slice (some ⟨h.length, 0, none⟩) len len) (h ++ [.cells cs]) := by
 obtain ⟨zv, z1, z2, z3, z4⟩ := run_zero (w := w) hz
 have hfl : VL r (reps z len) (reps z len) := VL.flat (reps_flat z4 len).1
 have hzs : zv.cells.size = z.length := by rw [← z2]; simp
 obtain ⟨C, hC, hCr⟩ : ∃ C : Array Value, C.toList = reps z len ∧ (len * z.length = 0 ∧ C = #[] ∨ len * z.length ≠ 0 ∧ C = (Array.range (len * z.length)).map (fun i => zv.cells[i % zv.cells.size]!)) := by
  by_cases h0 : len * z.length = 0
  ·have : reps z len = [] := List.eq_nil_of_length_eq_zero (by rw [reps_length, h0])
   exact ⟨#[], by rw [this], .inl ⟨h0, rfl⟩⟩
  ·refine ⟨_, ?_, .inr ⟨h0, rfl⟩⟩
   rw [← z2, show zv.cells.toList.length = zv.cells.size by simp]
   exact reps_array zv.cells (by omega) len
 obtain ⟨D, f1, f2⟩ := fill_run (r := r) (e := e) (ρ := a.eval) (place := fun i => some (i * z.length, z.length)) ps.toList _ (by simp) (fun i p q hp hq' => by
   simp only [List.getElem?_map, hp, Option.map_some] at hq'
   injection hq' with hq'
   subst hq'
   rfl)
  (fun x hx => hE x (by simpa using hx)) (reps z len) C cs (by rw [hC]; exact hfl) ha
 have e1 : (ps.map fun x => (x.fst, a.eval x.snd)).toList = ps.toList.map fun p => (p.1, a.eval p.2) := by simp
 refine Good.value (w' := w.alloc (.cells D el)) (v' := .slice (some ⟨w.heap.size, 0, none⟩) len len) ?_
  (Post.alloc (csz := D.size) hr (hf _ (Nat.le_refl _) (by simp)) ⟨rfl, rfl, by have := f2.1; simp at this; omega, fun j u hu => ?_⟩) (.slc _ _ _ _ ⟨w.heap.size, 0, _, true⟩ _ (Rho.put_same _ _) rfl (fun _ => ⟨rfl, rfl⟩) (Nat.le_refl _))
 ·rw [execOp, ho]
  simp only [Instr.buildSlice, Sem.run_bind, run_underlying hu, run_size z3, Result.andThen_ok, if_neg (Nat.not_lt.2 hlen)]
  rcases hCr with ⟨h0, rfl⟩ | ⟨h0, rfl⟩
  ·have er : Array.range (len * z.length) = #[] := by rw [h0]; rfl
   simp only [if_pos h0, Sem.run_pure, Result.andThen_ok, er, e1, List.map_toArray, Array.map_empty, Sem.run_bind, List.map_nil]
   rw [f1]
   simp [newRow]
  ·simp only [if_neg h0, Sem.run_bind, z1, Sem.run_pure, Result.andThen_ok, e1, f1]
   simp [newRow]
 ·obtain ⟨u', g1, g2⟩ := f2.get hu
  exact ⟨u', by simpa using g1, g2⟩
theorem VR.int_inv {k : IntKind} {n : Int} {x : Value} (hx : VR r (.int k n) x) : x = .int k n := by cases hx; rfl
theorem VR.string_inv {s : ByteArray} {x : Value} (hx : VR r (.string s) x) : x = .string s := by cases hx; rfl
theorem VR.bool_inv {s : Bool} {x : Value} (hx : VR r (.bool s) x) : x = .bool s := by cases hx; rfl
theorem good_conv (hr : HR nb r h w) {s d : TypeId} {x : Operand} (ho : o.op = .convert s d x) {ds : TypeDesc} (hs : P.underlying s = some ds) {k : IntKind} (hd : P.underlying d = some (.int k)) {j : IntKind} {n : Int} (hx : ev e x = .int j n) (hv : VR r (ev e x) (a.eval x)) : Good P nb lim r h w o a (.int k (k.wrap n)) h := by
 rw [hx] at hv
 have h1 := hv.int_inv
 refine Good.same hr (v' := .int k (k.wrap n)) ?_ (.int _ _)
 rw [execOp, ho]
 simp [convert, run_underlying hs, run_underlying hd, h1, Conv.intToInt]
theorem good_convStr (hr : HR nb r h w) {s d : TypeId} {x : Operand} (ho : o.op = .convert s d x) {ds : TypeDesc} (hs : P.underlying s = some ds) (hd : P.underlying d = some .string) {n : ByteArray} (hx : ev e x = .string n) (hv : VR r (ev e x) (a.eval x)) : Good P nb lim r h w o a (.string n) h := by
 rw [hx] at hv
 have h1 := hv.string_inv
 refine Good.same hr (v' := .string n) ?_ (.string _)
 rw [execOp, ho]
 simp [convert, run_underlying hs, run_underlying hd, h1]
theorem good_iface (hr : HR nb r h w) {t : TypeId} {x : Operand} (ho : o.op = .makeInterface t x) (ht : ∃ d, P.underlying t = some d ∧ ∀ ms, d ≠ .interface ms) (hv : VR r (ev e x) (a.eval x)) : Good P nb lim r h w o a (.iface t (ev e x)) h := by
 obtain ⟨d, hd, hn⟩ := ht
 refine Good.same hr (v' := .iface t (a.eval x)) ?_ (.iface _ _ _ hv)
 rw [execOp, ho]
 cases d <;> first | (exact absurd rfl (hn _)) | simp [Instr.makeInterface, run_underlying hd]
theorem VL.map {xs : List Operand} {f g : Operand → Value} (hx : ∀ x ∈ xs, VR r (f x) (g x)) : VL r (xs.map f) (xs.map g) := by
 induction xs with
 | nil => exact VL.nil r
 | cons x xs ih => exact VL.cons (hx x (by simp)) (ih fun y hy => hx y (by simp [hy]))
theorem good_func (hr : HR nb r h w) {fn : Fn} {x y : Array Operand} (ho : o.op = .makeFunc fn x y) (hx : ∀ z ∈ x.toList, VR r (ev e z) (a.eval z)) (hy : ∀ z ∈ y.toList, VR r (ev e z) (a.eval z)) :
  Good P nb lim r h w o a (.func fn (x.toList.map (ev e)).toArray (y.toList.map (ev e)).toArray) h := by
 refine Good.same hr (v' := .func fn (x.map a.eval) (y.map a.eval)) (by rw [execOp, ho]; simp [Instr.makeFunc]) ?_
 have h1 := VL.map hx
 have h2 := VL.map hy
 have e1 : VL r (x.toList.map (ev e)).toArray.toList (x.map a.eval).toList := by simpa using h1
 have e2 : VL r (y.toList.map (ev e)).toArray.toList (y.map a.eval).toList := by simpa using h2
 exact .func fn _ _ _ _ e1.arr.1 e2.arr.1 e1.arr.2 e2.arr.2
theorem good_mkMap (hr : HR nb r h w) {t : TypeId} (ho : o.op = .makeMap t none) (hf : Fresh r h (h ++ [.map []])) : Good P nb lim r h w o a (.map (some h.length)) (h ++ [.map []]) := by
 refine Good.value (w' := w.alloc (.map #[] 0)) (v' := .map (some w.heap.size)) (by rw [execOp, ho]; simp [Instr.makeMap])
  (Post.alloc (csz := 0) hr (hf _ (Nat.le_refl _) (by simp)) ⟨rfl, fun i e c he => by simp at he⟩) (.map _ ⟨w.heap.size, 0, _, true⟩ (Rho.put_same _ _))
theorem good_mkSlice (hr : HR nb r h w) {t : TypeId} {lo co : Operand} (ho : o.op = .makeSlice t lo co) {el : TypeId} (hu : P.underlying t = some (.slice el)) {z : List Value} (hz : Rs.zero P el = some z) (hz0 : 0 < z.length) {by_ : Nat} (hb : Rs.bytes P el = some by_) {l c : Int} (hl : ev e lo = .int .i64 l) (hc : ev e co = .int .i64 c)
  (hvl : VR r (ev e lo) (a.eval lo)) (hvc : VR r (ev e co) (a.eval co)) (h0 : 0 ≤ l ∧ l ≤ c ∧ (by_ : Int) * c ≤ 2 ^ 48 ∧ c < 2 ^ 62) (hf : Fresh r h (h ++ [.cells (reps z c.toNat)])) :
  Good P nb lim r h w o a (.slice (some ⟨h.length, 0, none⟩) l.toNat c.toNat) (h ++ [.cells (reps z c.toNat)]) := by
 obtain ⟨zv, z1, z2, z3, z4⟩ := run_zero (w := w) hz
 obtain ⟨bi, b1, b2⟩ := run_bytes (w := w) hb
 rw [hl] at hvl
 rw [hc] at hvc
 have e1 := hvl.int_inv
 have e2 := hvc.int_inv
 obtain ⟨g0, g1, g2, g3⟩ := h0
 have w1 : IntKind.i64.wrap l = l := by rw [IntKind.wrap_i64]; omega
 have w2 : IntKind.i64.wrap c = c := by rw [IntKind.wrap_i64]; omega
 have hzs : zv.cells.size = z.length := by rw [← z2]; simp
 obtain ⟨C, hC, hCr⟩ : ∃ C : Array Value, C.toList = reps z c.toNat ∧ ((if c.toNat * z.length = 0 then (pure #[] : Sem (Array Value)) else (do pure (← zeroValue el).cells)).run P w).andThen (fun x w' => Result.ok ((Array.range (c.toNat * z.length)).map (fun i => x[i % x.size]!)) w') = .ok C w := by
  by_cases h0 : c.toNat * z.length = 0
  ·refine ⟨#[], ?_, by rw [h0]; simp⟩
   have : reps z c.toNat = [] := List.eq_nil_of_length_eq_zero (by rw [reps_length, h0])
   rw [this]
  ·refine ⟨(Array.range (c.toNat * z.length)).map (fun i => zv.cells[i % zv.cells.size]!), ?_, by simp [h0, z1]⟩
   rw [← z2, show zv.cells.toList.length = zv.cells.size by simp]
   exact reps_array zv.cells (by omega) c.toNat
 refine Good.value (w' := w.alloc (.cells C el)) (v' := .slice (some ⟨w.heap.size, 0, none⟩) l.toNat c.toNat) ?_
  (Post.alloc (csz := C.size) hr (hf _ (Nat.le_refl _) (by simp)) ⟨rfl, rfl, by rw [← hC]; simp, fun j u hu => ?_⟩) (.slc _ _ _ _ ⟨w.heap.size, 0, _, true⟩ _ (Rho.put_same _ _) rfl (fun _ => ⟨rfl, rfl⟩) (by omega))
 ·rw [execOp, ho]
  have q1 : (decide (c < 0) || decide ((by_ : Int) * c > 2 ^ 48)) = false := by simp; omega
  by_cases h0 : c.toNat * z.length = 0
  ·have hCe : C = #[] := by
    apply Array.ext'
    rw [hC]
    exact List.eq_nil_of_length_eq_zero (by rw [reps_length, h0])
   subst hCe
   have er : Array.range 0 = #[] := rfl
   have hq : ∀ (x y : Sem Value), (if 2 ^ 48 < (by_ : Int) * c then x else y) = y := fun x y => if_neg (by omega)
   simp [Instr.makeSlice, run_underlying hu, e1, e2, asInt, asIntOf, b1, b2, w1, w2, run_size z3, h0, newRow, er, show ¬ c < 0 by omega, show ¬ l < 0 by omega, show ¬ c < l by omega, show ¬ (2 ^ 48 < (by_ : Int) * c) by omega, show ¬ (281474976710656 < (by_ : Int) * c) by omega]
  ·simp only [if_neg h0, Sem.run_bind, z1, Result.andThen_ok, Sem.run_pure] at hCr
   injection hCr with hCr
   simp [Instr.makeSlice, run_underlying hu, e1, e2, asInt, asIntOf, b1, b2, w1, w2, run_size z3, h0, newRow, z1, show ¬ c < 0 by omega, show ¬ l < 0 by omega, show ¬ c < l by omega, show ¬ (281474976710656 < (by_ : Int) * c) by omega, hCr]
 ·have hfl : VL r (reps z c.toNat) (reps z c.toNat) := VL.flat (reps_flat z4 _).1
  obtain ⟨u', g1, g2⟩ := hfl.get hu
  exact ⟨u', by rw [← Array.getElem?_toList, hC]; exact g1, g2⟩
theorem good_fieldAddr (hr : HR nb r h w) {t : TypeId} {x : Operand} {i : Nat} (ho : o.op = .fieldAddr t x i) {fs : Array Field} (hu : P.underlying t = some (.struct fs)) {f : Field} (hf : fs[i]? = some f) {n : Nat} (hn : Rs.size P f.type = some n) (h0 : n ≠ 0) {b q : Nat} (hx : ev e x = .pointer (some ⟨b, q, none⟩)) (hv : VR r (ev e x) (a.eval x)) :
  Good P nb lim r h w o a (.pointer (some ⟨b, q + f.offset, none⟩)) h := by
 rw [hx] at hv
 obtain ⟨j, hj, h1⟩ := hv.ptr_inv
 refine Good.same hr (v' := .pointer (some ⟨j.blk, j.base + (q + f.offset), none⟩)) ?_ (.ptr _ _ _ hj)
 rw [execOp, ho]
 simp [Instr.fieldAt, run_underlying hu, hf, h1, Instr.sureAddr, fieldPlace, run_size hn, h0, addr_add, Nat.add_assoc]
theorem good_field (hr : HR nb r h w) {t : TypeId} {x : Operand} {i : Nat} (ho : o.op = .field t x i) {fs : Array Field} (hu : P.underlying t = some (.struct fs)) {f : Field} (hf : fs[i]? = some f) {n : Option Nat} (hn : Rs.aggN P f.type = some n) {cs : Array Value} (hx : ev e x = .agg cs) (hv : VR r (ev e x) (a.eval x)) (hl : loadAt n cs.toList f.offset = some v) :
  Good P nb lim r h w o a v h := by
 rw [hx] at hv
 obtain ⟨ys, h1, h2⟩ := hv.agg_inv
 obtain ⟨v', h3, h4⟩ := part_run (P := P) (w := w) hn h2 hl
 refine Good.same hr (v' := v') ?_ h4
 rw [execOp, ho]
 simp [Instr.field, run_underlying hu, hf, h1, asAgg, h3]
theorem VR.slice_inv {A : Option Addr} {n c : Nat} {x : Value} (hv : VR r (.slice A n c) x) : ∃ B d, x = .slice B n d ∧ c ≤ d ∧ (A = none → B = none ∧ n = 0 ∧ c = 0 ∧ d = 0) ∧
  ∀ b q m, A = some ⟨b, q, m⟩ → n ≤ c ∧ ∃ i y, B = some y ∧ r b = some i ∧ y.block = i.blk ∧ (0 < c → y.off = i.base + q ∧ y.spot = none) := by
 cases hv with
 | slc0 => exact ⟨none, 0, rfl, Nat.le_refl _, fun _ => ⟨rfl, rfl, rfl, rfl⟩, fun b q m h => by cases h⟩
 | slc b o n c i y h1 h2 h3 h4 => exact ⟨some y, c, rfl, Nat.le_refl _, (fun h => by cases h), fun b q m h => by injection h with h; injection h with e1 e2 e3; subst e1; subst e2; exact ⟨h4, i, y, rfl, h1, h2, h3⟩⟩
 | slcIn b o s n c d i y h1 h2 h3 h4 h5 h6 => exact ⟨some y, d, rfl, h5, (fun h => by cases h), fun b q m h => by injection h with h; injection h with e1 e2 e3; subst e1; subst e2; exact ⟨h4, i, y, rfl, h1, h2, fun hc => h3 (.inl hc)⟩⟩
theorem good_idxAddr (hr : HR nb r h w) {t : TypeId} {x y : Operand} (ho : o.op = .indexAddr t x y) {el : TypeId} (hu : P.underlying t = some (.slice el)) {s : Nat} (hs : Rs.size P el = some s) {b q : Nat} {m : Option Nat} {n c : Nat} {k : IntKind} {j : Int} (hx : ev e x = .slice (some ⟨b, q, m⟩) n c) (hy : ev e y = .int k j) (hvx : VR r (ev e x) (a.eval x)) (hvy : VR r (ev e y) (a.eval y)) (h0 : 0 ≤ j ∧ j < n) :
  Good P nb lim r h w o a (.pointer (some ⟨b, q + j.toNat * s, none⟩)) h := by
 rw [hx] at hvx
 rw [hy] at hvy
 obtain ⟨B, d, h1, h2, h3, h4⟩ := hvx.slice_inv
 obtain ⟨h5, i, y', rfl, h6, h7, h8⟩ := h4 _ _ _ rfl
 obtain ⟨h9, h10⟩ := h8 (by omega)
 have e2 := hvy.int_inv
 obtain ⟨yb, yo, ys⟩ := y'
 simp only at h7 h9 h10
 subst h7; subst h9; subst h10
 refine Good.same hr (v' := .pointer (some ⟨i.blk, i.base + (q + j.toNat * s), none⟩)) ?_ (.ptr _ _ _ h6)
 rw [execOp, ho]
 simp [Instr.indexAt, run_underlying hu, h1, e2, asIntOf, run_size hs, h0.1, h0.2, addr_add, Nat.add_assoc]
theorem good_idxAddrArr (hr : HR nb r h w) {t : TypeId} {x y : Operand} (ho : o.op = .indexAddr t x y) {el : TypeId} {n : Nat} (hu : P.underlying t = some (.array n el)) {s : Nat} (hs : Rs.size P el = some s) {b q : Nat} {k : IntKind} {j : Int} (hx : ev e x = .pointer (some ⟨b, q, none⟩)) (hy : ev e y = .int k j) (hvx : VR r (ev e x) (a.eval x)) (hvy : VR r (ev e y) (a.eval y)) (h0 : 0 ≤ j ∧ j < n) :
  Good P nb lim r h w o a (.pointer (some ⟨b, q + j.toNat * s, none⟩)) h := by
 rw [hx] at hvx
 rw [hy] at hvy
 obtain ⟨i, h6, h1⟩ := hvx.ptr_inv
 have e2 := hvy.int_inv
 refine Good.same hr (v' := .pointer (some ⟨i.blk, i.base + (q + j.toNat * s), none⟩)) ?_ (.ptr _ _ _ h6)
 rw [execOp, ho]
 simp [Instr.indexAt, run_underlying hu, h1, e2, asIntOf, Instr.sureAddr, run_size hs, h0.1, h0.2, addr_add, Nat.add_assoc]
theorem good_idxArr (hr : HR nb r h w) {t : TypeId} {x y : Operand} (ho : o.op = .index t x y) {el : TypeId} {n : Nat} (hu : P.underlying t = some (.array n el)) {s : Nat} (hs : Rs.size P el = some s) {g : Option Nat} (hg : Rs.aggN P el = some g) {cs : Array Value} {k : IntKind} {j : Int} (hx : ev e x = .agg cs) (hy : ev e y = .int k j) (hvx : VR r (ev e x) (a.eval x)) (hvy : VR r (ev e y) (a.eval y)) (h0 : 0 ≤ j ∧ j < n) (hl : loadAt g cs.toList (j.toNat * s) = some v) :
  Good P nb lim r h w o a v h := by
 rw [hx] at hvx
 rw [hy] at hvy
 obtain ⟨ys, h1, h2⟩ := hvx.agg_inv
 have e2 := hvy.int_inv
 obtain ⟨v', h3, h4⟩ := part_run (P := P) (w := w) hg h2 hl
 refine Good.same hr (v' := v') ?_ h4
 rw [execOp, ho]
 simp [Instr.index, run_underlying hu, h1, e2, asIntOf, run_size hs, h0.1, h0.2, h3]
theorem good_idxStr (hr : HR nb r h w) {t : TypeId} {x y : Operand} (ho : o.op = .index t x y) (hu : P.underlying t = some .string) {s : ByteArray} {k : IntKind} {j : Int} (hx : ev e x = .string s) (hy : ev e y = .int k j) (hvx : VR r (ev e x) (a.eval x)) (hvy : VR r (ev e y) (a.eval y)) (h0 : 0 ≤ j) {b : UInt8} (hb : s[j.toNat]? = some b) :
  Good P nb lim r h w o a (.int .u8 b.toNat) h := by
 rw [hx] at hvx
 rw [hy] at hvy
 have e1 := hvx.string_inv
 have e2 := hvy.int_inv
 refine Good.same hr (v' := .int .u8 b.toNat) ?_ (.int _ _)
 rw [execOp, ho]
 simp [Instr.index, run_underlying hu, e1, e2, asIntOf, h0, hb]
theorem good_extract (hr : HR nb r h w) {x : Operand} {i : Nat} (ho : o.op = .extract x i) {vs : Array Value} (hx : ev e x = .tuple vs) (hv : VR r (ev e x) (a.eval x)) (hl : vs[i]? = some v) : Good P nb lim r h w o a v h := by
 rw [hx] at hv
 obtain ⟨ys, h1, h2⟩ := hv.tuple_inv
 obtain ⟨v', h3, h4⟩ := h2.get (by simpa using hl)
 refine Good.same hr (v' := v') ?_ h4
 rw [execOp, ho]
 have h5 : ys[i]? = some v' := by simpa using h3
 simp [Instr.extract, h1, h5]
end
section
variable {P : Program} {nb lim : Nat} {r : Rho} {h h' : AH} {w : World} {e : Env} {a : Act} {v : Value} {o : Oper}
/-! ### cuts -/
def VO (r : Rho) : Option Value → Option Value → Prop
 | none, none => True
 | some x, some y => VR r x y
 | _, _ => False
theorem VO.map {lo : Option Operand} (hv : ∀ x, lo = some x → VR r (ev e x) (a.eval x)) : VO r (lo.map (ev e)) (lo.map a.eval) := by
 cases lo with
 | none => trivial
 | some x => exact hv x rfl
theorem bound_some {x y : Value} {d c z : Nat} (hb : bound (some x) d c = some z) (hv : VR r x y) {c' : Nat} (hc : c ≤ c') (code : BoundsCode) : (Instr.sliceBound y c' code).run P w = .ok z w ∧ z ≤ c := by
 unfold bound at hb
 split at hb
 ·rename_i he; cases he
 ·rename_i k i he
  split at hb
  ·rename_i hi
   injection hb with hb
   subst hb
   injection he with he
   subst he
   obtain rfl := hv.int_inv
   refine ⟨?_, by omega⟩
   unfold Instr.sliceBound
   have : 0 ≤ i ∧ i ≤ (c' : Int) := ⟨hi.1, by omega⟩
   simp [asIntOf, this]
  ·cases hb
 ·cases hb
theorem bounds2 {lo hi lo' hi' : Option Value} {n c c' hh l : Nat} (hn : n ≤ c) (hc : c ≤ c') (h1 : VO r lo lo') (h2 : VO r hi hi') (b1 : bound hi n c = some hh) (b2 : bound lo 0 hh = some l) (s : Bool) :
  (Instr.sliceBounds s n c' lo' hi' none).run P w = .ok (l, hh, c') w ∧ l ≤ hh ∧ hh ≤ c := by
 cases hi <;> cases hi' <;> simp only [VO] at h2 <;> cases lo <;> cases lo' <;> simp only [VO] at h1
 ·simp [bound] at b1 b2
  subst b1; subst b2
  exact ⟨by simp [Instr.sliceBounds], Nat.zero_le _, hn⟩
 ·simp [bound] at b1
  subst b1
  have a2 := bound_some (P := P) (w := w) b2 h1 (Nat.le_refl _) .sliceB
  exact ⟨by simp [Instr.sliceBounds, a2.1], a2.2, hn⟩
 ·simp [bound] at b2
  subst b2
  have a1 := bound_some (P := P) (w := w) b1 h2 hc (if s then .sliceAcap else .sliceAlen)
  exact ⟨by simp [Instr.sliceBounds, a1.1], Nat.zero_le _, a1.2⟩
 ·have a1 := bound_some (P := P) (w := w) b1 h2 hc (if s then .sliceAcap else .sliceAlen)
  have a2 := bound_some (P := P) (w := w) b2 h1 (Nat.le_refl _) .sliceB
  exact ⟨by simp [Instr.sliceBounds, a1.1, a2.1], a2.2, a1.2⟩
theorem bounds3 {lo lo' : Option Value} {hi hi' mx mx' : Value} {n c c' x hh l : Nat} (hc : c ≤ c') (h1 : VO r lo lo') (h2 : VR r hi hi') (h3 : VR r mx mx') (b0 : bound (some mx) 0 c = some x) (b1 : bound (some hi) 0 x = some hh) (b2 : bound lo 0 hh = some l) (s : Bool) :
  (Instr.sliceBounds s n c' lo' (some hi') (some mx')).run P w = .ok (l, hh, x) w ∧ l ≤ hh ∧ hh ≤ x ∧ x ≤ c := by
 have a0 := bound_some (P := P) (w := w) b0 h3 hc (if s then .slice3Acap else .slice3Alen)
 have a1 := bound_some (P := P) (w := w) b1 h2 (Nat.le_refl _) .slice3B
 cases lo <;> cases lo' <;> simp only [VO] at h1
 ·simp [bound] at b2
  subst b2
  exact ⟨by simp [Instr.sliceBounds, a0.1, a1.1], Nat.zero_le _, a1.2, a0.2⟩
 ·have a2 := bound_some (P := P) (w := w) b2 h1 (Nat.le_refl _) .slice3C
  exact ⟨by simp [Instr.sliceBounds, a0.1, a1.1, a2.1], a2.2, a1.2, a0.2⟩
theorem add_block (y : Addr) (n : Nat) : (y.add n).block = y.block := by unfold Addr.add; split <;> rfl
theorem add_of {y : Addr} {q : Nat} (h1 : y.off = q) (h2 : y.spot = none) (n : Nat) : (y.add n).off = q + n ∧ (y.add n).spot = none := by
 unfold Addr.add
 split
 ·rename_i h0; subst h0; exact ⟨by simpa using h1, h2⟩
 ·exact ⟨by simp [h1], rfl⟩
theorem cut_exact {b q l x hh size : Nat} {i : Im} {y : Addr} (hb : r b = some i) (hy : y.block = i.blk) (ho : l < x → y.off = i.base + q ∧ y.spot = none) (hl : hh ≤ x) :
  VR r (.slice (some ⟨b, q + l * size, none⟩) (hh - l) (x - l)) (.slice (some (if x = l then y else y.add (l * size))) (hh - l) (x - l)) := by
 refine .slc _ _ _ _ i _ hb ?_ (fun hp => ?_) (by omega)
 ·split
  ·exact hy
  ·rw [add_block]; exact hy
 ·rw [if_neg (by omega)]
  obtain ⟨h1, h2⟩ := ho (by omega)
  have := add_of h1 h2 (l * size)
  exact ⟨by rw [this.1]; omega, this.2⟩
theorem cut_in {b q l c d hh size : Nat} {i : Im} {y : Addr} (hb : r b = some i) (hy : y.block = i.blk) (ho : l < c ∨ i.own = true ∧ l < d → y.off = i.base + q ∧ y.spot = none) (hl : l ≤ hh) (hh' : hh ≤ c) (hd : c ≤ d) (hs : i.own = true → 0 < d → i.base + q + d * size ≤ i.csz ∧ d ≤ 9223372036854775807) :
  VR r (.slice (some ⟨b, q + l * size, some size⟩) (hh - l) (c - l)) (.slice (some (if d = l then y else y.add (l * size))) (hh - l) (d - l)) := by
 refine .slcIn _ _ _ _ _ _ i _ hb ?_ (fun hp => ?_) (by omega) (by omega) (fun h1 h2 => ?_)
 ·split
  ·exact hy
  ·rw [add_block]; exact hy
 ·rw [if_neg (by rcases hp with hp | hp <;> omega)]
  obtain ⟨h1, h2⟩ := ho (hp.imp (fun q => by omega) fun q => ⟨q.1, by omega⟩)
  have := add_of h1 h2 (l * size)
  exact ⟨by rw [this.1]; omega, this.2⟩
 ·obtain ⟨this, this2⟩ := hs h1 (by omega)
  refine ⟨?_, by omega⟩
  have e1 : d * size = (d - l) * size + l * size := by rw [← Nat.add_mul]; congr 1; omega
  omega
theorem aSlice_run {size : Nat} {x x' v : Value} {lo hi mx lo' hi' mx' : Option Value} (ha : aSlice size x lo hi mx = some v) (hx : VR r x x') (h1 : VO r lo lo') (h2 : VO r hi hi') (h3 : VO r mx mx') :
  ∃ B n d v', x' = .slice B n d ∧ VR r v v' ∧ ∃ l hh m, (Instr.sliceBounds true n d lo' hi' mx').run P w = .ok (l, hh, m) w ∧ v' = .slice (if m = l then B else B.map (·.add (l * size))) (hh - l) (m - l) := by
 have cutinv : ∀ {b q : Nat} {m : Option Nat} {n c : Nat} {v : Value}, aCut b q m n c size lo hi mx = some v →
   (mx = none ∧ ∃ hh l, bound hi n c = some hh ∧ bound lo 0 hh = some l ∧ v = .slice (some ⟨b, q + l * size, m⟩) (hh - l) (c - l)) ∨
   (∃ mv hv x hh l, mx = some mv ∧ hi = some hv ∧ bound (some mv) 0 c = some x ∧ bound (some hv) 0 x = some hh ∧ bound lo 0 hh = some l ∧ v = .slice (some ⟨b, q + l * size, none⟩) (hh - l) (x - l)) := by
  intro b q m n c v hc
  unfold aCut at hc
  cases mx with
  | none =>
   simp only at hc
   cases b1 : bound hi n c with
   | none => simp [b1] at hc
   | some hh =>
    cases b2 : bound lo 0 hh with
    | none => simp [b1, b2] at hc
    | some l => simp [b1, b2] at hc; exact .inl ⟨rfl, hh, l, rfl, b2, hc.symm⟩
  | some mv =>
   cases hi with
   | none => simp at hc
   | some hv =>
    simp only at hc
    cases b0 : bound (some mv) 0 c with
    | none => simp [b0] at hc
    | some x =>
     cases b1 : bound (some hv) 0 x with
     | none => simp [b0, b1] at hc
     | some hh =>
      cases b2 : bound lo 0 hh with
      | none => simp [b0, b1, b2] at hc
      | some l => simp [b0, b1, b2] at hc; exact .inr ⟨mv, hv, x, hh, l, rfl, rfl, b0, b1, b2, hc.symm⟩
 unfold aSlice at ha
 split at ha
 ·rename_i n c
  cases hx
  cases hc : aCut 0 0 none 0 0 size lo hi mx with
  | none => simp [hc] at ha
  | some q =>
   simp [hc] at ha
   subst ha
   rcases cutinv hc with ⟨rfl, hh, l, b1, b2, _⟩ | ⟨mv, hv, x, hh, l, rfl, rfl, b0, b1, b2, _⟩
   ·have h3' : mx' = none := by cases mx' with | none => rfl | some _ => cases h3
    subst h3'
    obtain ⟨g1, g2, g3⟩ := bounds2 (P := P) (w := w) (Nat.le_refl 0) (Nat.le_refl 0) h1 h2 b1 b2 true
    have : l = 0 := by omega
    have : hh = 0 := by omega
    subst_vars
    exact ⟨none, 0, 0, .slice none 0 0, rfl, .slc0, 0, 0, 0, g1, rfl⟩
   ·cases mx' with
    | none => cases h3
    | some mx' =>
     cases hi' with
     | none => cases h2
     | some hi' =>
      obtain ⟨g1, g2, g3, g4⟩ := bounds3 (P := P) (w := w) (n := 0) (Nat.le_refl 0) h1 h2 h3 b0 b1 b2 true
      have : l = 0 := by omega
      have : hh = 0 := by omega
      have : x = 0 := by omega
      subst_vars
      exact ⟨none, 0, 0, .slice none 0 0, rfl, .slc0, 0, 0, 0, g1, rfl⟩
 ·rename_i b q m n c
  split at ha
  ·rename_i hm
   cases hx with
   | slc _ _ _ _ i y hb hy ho hn =>
    rcases cutinv ha with ⟨rfl, hh, l, b1, b2, rfl⟩ | ⟨mv, hv, x, hh, l, rfl, rfl, b0, b1, b2, rfl⟩
    ·have h3' : mx' = none := by cases mx' with | none => rfl | some _ => cases h3
     subst h3'
     obtain ⟨g1, g2, g3⟩ := bounds2 (P := P) (w := w) hn (Nat.le_refl c) h1 h2 b1 b2 true
     refine ⟨some y, n, c, _, rfl, cut_exact hb hy (fun hp => ho (by omega)) g3, l, hh, c, g1, ?_⟩
     split <;> rfl
    ·cases mx' with
     | none => cases h3
     | some mx' =>
      cases hi' with
      | none => cases h2
      | some hi' =>
       obtain ⟨g1, g2, g3, g4⟩ := bounds3 (P := P) (w := w) (n := n) (Nat.le_refl c) h1 h2 h3 b0 b1 b2 true
       refine ⟨some y, n, c, _, rfl, cut_exact hb hy (fun hp => ho (by omega)) g3, l, hh, x, g1, ?_⟩
       split <;> rfl
   | slcIn _ _ s _ _ d i y hb hy ho hn hd hs =>
    have hm : s = size := by simpa using hm
    subst hm
    rcases cutinv ha with ⟨rfl, hh, l, b1, b2, rfl⟩ | ⟨mv, hv, x, hh, l, rfl, rfl, b0, b1, b2, rfl⟩
    ·have h3' : mx' = none := by cases mx' with | none => rfl | some _ => cases h3
     subst h3'
     obtain ⟨g1, g2, g3⟩ := bounds2 (P := P) (w := w) hn hd h1 h2 b1 b2 true
     refine ⟨some y, n, d, _, rfl, cut_in hb hy (fun hp => ho (hp.imp (fun q => by omega) fun q => ⟨q.1, by omega⟩)) g2 g3 hd hs, l, hh, d, g1, ?_⟩
     split <;> rfl
    ·cases mx' with
     | none => cases h3
     | some mx' =>
      cases hi' with
      | none => cases h2
      | some hi' =>
       obtain ⟨g1, g2, g3, g4⟩ := bounds3 (P := P) (w := w) (n := n) hd h1 h2 h3 b0 b1 b2 true
       refine ⟨some y, n, d, _, rfl, cut_exact hb hy (fun hp => ho (.inl (by omega))) g3, l, hh, x, g1, ?_⟩
       split <;> rfl
  ·cases ha
 ·cases ha
theorem good_slice (hr : HR nb r h w) {t : TypeId} {x : Operand} {lo hi mx : Option Operand} (ho : o.op = .slice t x lo hi mx) {el : TypeId} (hu : P.underlying t = some (.slice el)) {size : Nat} (hs : Rs.size P el = some size) (hx : VR r (ev e x) (a.eval x))
  (h1 : ∀ z, lo = some z → VR r (ev e z) (a.eval z)) (h2 : ∀ z, hi = some z → VR r (ev e z) (a.eval z)) (h3 : ∀ z, mx = some z → VR r (ev e z) (a.eval z)) (ha : aSlice size (ev e x) (lo.map (ev e)) (hi.map (ev e)) (mx.map (ev e)) = some v) : Good P nb lim r h w o a v h := by
 obtain ⟨B, n, d, v', g1, g2, l, hh, m, g3, rfl⟩ := aSlice_run (P := P) (w := w) ha hx (VO.map h1) (VO.map h2) (VO.map h3)
 refine Good.same hr ?_ g2
 rw [execOp, ho]
 simp [Instr.sliceAt, Instr.slice, run_underlying hu, g1, g3, run_size hs]
theorem good_sliceArr (hr : HR nb r h w) {t : TypeId} {x : Operand} {lo hi mx : Option Operand} (ho : o.op = .slice t x lo hi mx) {el : TypeId} {n : Nat} (hu : P.underlying t = some (.array n el) ∨ ∃ at_, P.underlying t = some (.pointer at_) ∧ P.underlying at_ = some (.array n el)) {size : Nat} (hs : Rs.size P el = some size) {b q : Nat} (hxe : ev e x = .pointer (some ⟨b, q, none⟩)) (hx : VR r (ev e x) (a.eval x))
  (h1 : ∀ z, lo = some z → VR r (ev e z) (a.eval z)) (h2 : ∀ z, hi = some z → VR r (ev e z) (a.eval z)) (h3 : ∀ z, mx = some z → VR r (ev e z) (a.eval z)) (ha : aCut b q none n n size (lo.map (ev e)) (hi.map (ev e)) (mx.map (ev e)) = some v) : Good P nb lim r h w o a v h := by
 rw [hxe] at hx
 obtain ⟨i, hb, hx'⟩ := hx.ptr_inv
 have g1 := VO.map h1
 have g2 := VO.map h2
 have g3 := VO.map h3
 have key : ∃ l hh m, (Instr.sliceBounds false n n (lo.map a.eval) (hi.map a.eval) (mx.map a.eval)).run P w = .ok (l, hh, m) w ∧ VR r v (.slice (some (if m = l then (⟨i.blk, i.base + q, none⟩ : Addr) else (⟨i.blk, i.base + q, none⟩ : Addr).add (l * size))) (hh - l) (m - l)) := by
  unfold aCut at ha
  generalize lo.map (ev e) = lo1 at *
  generalize hi.map (ev e) = hi1 at *
  generalize mx.map (ev e) = mx1 at *
  generalize lo.map a.eval = lo2 at *
  generalize hi.map a.eval = hi2 at *
  generalize mx.map a.eval = mx2 at *
  cases mx1 with
  | none =>
   simp only at ha
   cases mx2 with
   | some _ => cases g3
   | none =>
    cases b1 : bound hi1 n n with
    | none => simp [b1] at ha
    | some hh =>
     cases b2 : bound lo1 0 hh with
     | none => simp [b1, b2] at ha
     | some l =>
      simp [b1, b2] at ha
      obtain ⟨k1, k2, k3⟩ := bounds2 (P := P) (w := w) (Nat.le_refl n) (Nat.le_refl n) g1 g2 b1 b2 false
      exact ⟨l, hh, n, k1, by rw [← ha]; exact cut_exact hb rfl (fun _ => ⟨rfl, rfl⟩) k3⟩
  | some mv =>
   cases mx2 with
   | none => cases g3
   | some mx2 =>
    cases hi1 with
    | none => simp at ha
    | some hv =>
     cases hi2 with
     | none => cases g2
     | some hi2 =>
      simp only at ha
      cases b0 : bound (some mv) 0 n with
      | none => simp [b0] at ha
      | some x =>
       cases b1 : bound (some hv) 0 x with
       | none => simp [b0, b1] at ha
       | some hh =>
        cases b2 : bound lo1 0 hh with
        | none => simp [b0, b1, b2] at ha
        | some l =>
         simp [b0, b1, b2] at ha
         obtain ⟨k1, k2, k3, k4⟩ := bounds3 (P := P) (w := w) (n := n) (Nat.le_refl n) g1 g2 g3 b0 b1 b2 false
         exact ⟨l, hh, x, k1, by rw [← ha]; exact cut_exact hb rfl (fun _ => ⟨rfl, rfl⟩) k3⟩
 obtain ⟨l, hh, m, k1, k2⟩ := key
 refine Good.same hr ?_ k2
 rw [execOp, ho]
 rcases hu with hu | ⟨at_, hu, hu2⟩
 ·simp [Instr.sliceAt, run_underlying hu, hx', Instr.sureAddr, k1, run_size hs]
 ·simp [Instr.sliceAt, Instr.slice, run_underlying hu, run_underlying hu2, hx', asAddr, k1, run_size hs]
theorem good_sliceStr (hr : HR nb r h w) {t : TypeId} {x : Operand} {lo hi : Option Operand} (ho : o.op = .slice t x lo hi none) (hu : P.underlying t = some .string) {s : ByteArray} (hxe : ev e x = .string s) (hx : VR r (ev e x) (a.eval x))
  (h1 : ∀ z, lo = some z → VR r (ev e z) (a.eval z)) (h2 : ∀ z, hi = some z → VR r (ev e z) (a.eval z)) {j i : Nat} (b1 : bound (hi.map (ev e)) s.size s.size = some j) (b2 : bound (lo.map (ev e)) 0 j = some i) : Good P nb lim r h w o a (.string (s.extract i j)) h := by
 rw [hxe] at hx
 have hx' := hx.string_inv
 obtain ⟨k1, k2, k3⟩ := bounds2 (P := P) (w := w) (Nat.le_refl s.size) (Nat.le_refl s.size) (VO.map h1) (VO.map h2) b1 b2 false
 refine Good.same hr (v' := .string (s.extract i j)) ?_ (.string _)
 rw [execOp, ho]
 simp [Instr.sliceAt, Instr.slice, run_underlying hu, hx', k1]
/-! ### elements -/
theorem elems_run (hr : HR nb r h w) {size n : Nat} {x x' : Value} {cs : List Value} (ha : aElems size h n x = some cs) (hx : VR r x x') : ∃ vs, (Builtin.firstCells size n x').run P w = .ok vs.toArray w ∧ VL r cs vs := by
 unfold aElems at ha
 split at ha
 ·injection ha with ha
  subst ha
  cases hx
  exact ⟨[], rfl, VL.nil r⟩
 ·rename_i b q m n' c
  split at ha
  ·rename_i hn
   split at ha
   ·rename_i h0
    injection ha with ha
    subst ha
    obtain ⟨B, d, rfl, h2, h3, h4⟩ := hx.slice_inv
    obtain ⟨h5, i, y, rfl, h6, h7, h8⟩ := h4 _ _ _ rfl
    exact ⟨[], by simp only [Builtin.firstCells, h0]; rfl, VL.nil r⟩
   cases hc : cellsOf h b with
   | none => simp [hc] at ha
   | some ds =>
    simp only [hc, Option.bind_some] at ha
    split at ha
    ·rename_i hle
     injection ha with ha
     subst ha
     obtain ⟨B, d, rfl, h2, h3, h4⟩ := hx.slice_inv
     obtain ⟨h5, i, y, rfl, h6, h7, h8⟩ := h4 _ _ _ rfl
     obtain ⟨vs, k1, k2⟩ := hr.loads (P := P) h6 hc hle h7 (fun hp => h8 (by
      rcases Nat.eq_zero_or_pos n with h0 | h0
      ·subst h0; simp at hp
      ·omega))
     exact ⟨vs, k2, k1⟩
    ·cases ha
  ·cases ha
 ·split at ha
  ·injection ha with ha
   subst ha
   obtain rfl := hx.string_inv
   refine ⟨_, ?_, VL.flat ?_⟩
   ·simp only [Builtin.firstCells, Sem.run_pure, Array.toArray_toList]
   ·rw [List.all_eq_true]
    intro x hx
    simp only [Array.toList_map, List.mem_map] at hx
    obtain ⟨q, _, rfl⟩ := hx
    rfl
  ·cases ha
 ·cases ha
theorem cell_same {w' : World} (he : w'.heap = w.heap) (x : Addr) : w'.cell? x = w.cell? x := by unfold World.cell?; rw [he]
theorem loads2 (hr : HR nb r h w) {b o n : Nat} {i : Im} {cs : List Value} (hb : r b = some i) (hh : cellsOf h b = some cs) (hn : o + n ≤ cs.length) {a : Addr} (ha : a.block = i.blk) (ho : 0 < n → a.off = i.base + o ∧ a.spot = none) :
  ∃ vs, VL r ((cs.drop o).take n) vs ∧ ∀ w' : World, w'.heap = w.heap → (loadCells a n).run P w' = .ok vs.toArray w' := by
 obtain ⟨vs, h1, h2, h3⟩ := hr.reads hb hh hn
 refine ⟨vs, h1, fun w' he => ?_⟩
 rcases Nat.eq_zero_or_pos n with h0 | h0
 ·subst h0
  obtain rfl : vs = [] := List.eq_nil_of_length_eq_zero h2
  rfl
 ·obtain ⟨e1, e2⟩ := ho h0
  subst h2
  refine run_loadCells_list w' a vs fun j v hj => ?_
  obtain ⟨ab, ao, as⟩ := a
  simp only at ha e1 e2
  subst ha; subst e1; subst e2
  rw [addr_add, cell_same he]
  exact h3 j v hj
theorem elems_run2 (hr : HR nb r h w) {size n : Nat} {x x' : Value} {cs : List Value} (ha : aElems size h n x = some cs) (hx : VR r x x') : ∃ vs, (∀ w' : World, w'.heap = w.heap → (Builtin.firstCells size n x').run P w' = .ok vs.toArray w') ∧ VL r cs vs := by
 unfold aElems at ha
 split at ha
 ·injection ha with ha
  subst ha
  cases hx
  exact ⟨[], fun _ _ => rfl, VL.nil r⟩
 ·rename_i b q m n' c
  split at ha
  ·rename_i hn
   split at ha
   ·rename_i h0
    injection ha with ha
    subst ha
    obtain ⟨B, d, rfl, h2, h3, h4⟩ := hx.slice_inv
    obtain ⟨h5, i, y, rfl, h6, h7, h8⟩ := h4 _ _ _ rfl
    exact ⟨[], fun w' _ => by simp only [Builtin.firstCells, h0]; rfl, VL.nil r⟩
   cases hc : cellsOf h b with
   | none => simp [hc] at ha
   | some ds =>
    simp only [hc, Option.bind_some] at ha
    split at ha
    ·rename_i hle
     injection ha with ha
     subst ha
     obtain ⟨B, d, rfl, h2, h3, h4⟩ := hx.slice_inv
     obtain ⟨h5, i, y, rfl, h6, h7, h8⟩ := h4 _ _ _ rfl
     obtain ⟨vs, k1, k2⟩ := loads2 (P := P) hr h6 hc hle h7 (fun hp => h8 (by
      rcases Nat.eq_zero_or_pos n with h0 | h0
      ·subst h0; simp at hp
      ·omega))
     exact ⟨vs, k2, k1⟩
    ·cases ha
  ·cases ha
 ·split at ha
  ·injection ha with ha
   subst ha
   obtain rfl := hx.string_inv
   refine ⟨_, ?_, VL.flat ?_⟩
   ·intro w' _
    simp only [Builtin.firstCells, Sem.run_pure, Array.toArray_toList]
   ·rw [List.all_eq_true]
    intro x hx
    simp only [Array.toList_map, List.mem_map] at hx
    obtain ⟨q, _, rfl⟩ := hx
    rfl
  ·cases ha
 ·cases ha
theorem len_run {x x' : Value} {n : Nat} (ha : aLen x = some n) (hx : VR r x x') : (Builtin.lenOf x').run P w = .ok n w := by
 unfold aLen at ha
 split at ha
 ·injection ha with ha; subst ha
  obtain ⟨B, d, rfl, _⟩ := hx.slice_inv
  simp [Builtin.lenOf]
 ·injection ha with ha; subst ha
  obtain rfl := hx.string_inv
  simp [Builtin.lenOf]
 ·cases ha
end
end Go.Proofs.YtalknjppnkpmmaaDoorW.Ai
