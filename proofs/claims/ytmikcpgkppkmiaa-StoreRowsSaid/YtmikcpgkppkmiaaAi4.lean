/-
  The small machine and Go's: what a read, a new block, a write leave. Of no program.
-/
import Derived.Test.YtmikcpgkppkmiaaAi3
import Derived.Laws.CopyRow
import Derived.Laws.Rows
import Derived.Laws.Entries
set_option linter.unusedVariables false
set_option linter.unusedSimpArgs false
namespace Go.Proofs.YtmikcpgkppkmiaaW.Ai
variable {P : Program} {nb lim : Nat} {r : Rho} {h : AH} {w : World}

theorem cellsOf_iff {b : Nat} {cs : List Value} : cellsOf h b = some cs ↔ h[b]? = some (.cells cs) := by
  unfold cellsOf
  cases hb : h[b]? with
  | none => simp
  | some x => cases x <;> simp
theorem cell_of_cells {b o : Nat} {cs : Array Value} {t : TypeId} {fr : Nat × Nat} (hb : w.heap[b]? = some (.cells cs t fr)) : w.cell? ⟨b, o, none⟩ = cs[o]? := by simp [World.cell?, hb]
theorem addr_add (g o n : Nat) : (⟨g, o, none⟩ : Addr).add n = ⟨g, o + n, none⟩ := by unfold Addr.add; split <;> simp_all
theorem exists_list {α : Type} (n : Nat) (p : Nat → α → Prop) (h : ∀ i, i < n → ∃ a, p i a) : ∃ xs : List α, xs.length = n ∧ ∀ i a, xs[i]? = some a → p i a := by
  induction n with
  | zero => exact ⟨[], rfl, fun i a hi => by simp at hi⟩
  | succ n ih =>
    obtain ⟨xs, hl, hx⟩ := ih (fun i hi => h i (by omega))
    obtain ⟨a, ha⟩ := h n (by omega)
    refine ⟨xs ++ [a], by simp [hl], fun i b hi => ?_⟩
    by_cases hlt : i < n
    · rw [List.getElem?_append_left (by omega)] at hi
      exact hx i b hi
    · have : i = n := by
        have := (List.getElem?_eq_some_iff.1 hi).1
        simp at this
        omega
      subst this
      rw [List.getElem?_append_right (by omega), hl] at hi
      simp at hi
      subst hi
      exact ha

/-- Cells that are read. -/
theorem HR.reads (hr : HR nb r h w) {b o n : Nat} {i : Im} {cs : List Value} (hb : r b = some i) (hh : cellsOf h b = some cs) (hn : o + n ≤ cs.length) :
    ∃ vs, VL r ((cs.drop o).take n) vs ∧ vs.length = n ∧ ∀ j v, vs[j]? = some v → w.cell? ⟨i.blk, i.base + o + j, none⟩ = some v := by
  obtain ⟨vs, hl, hv⟩ := exists_list n (fun j v => w.cell? ⟨i.blk, i.base + o + j, none⟩ = some v ∧ ∀ u, cs[o + j]? = some u → VR r u v) (fun j hj => by
    have hj' : o + j < cs.length := by omega
    obtain ⟨v, h1, h2⟩ := hr.cells hb (cellsOf_iff.1 hh) (o + j) _ (List.getElem?_eq_getElem hj')
    rw [← Nat.add_assoc] at h1
    exact ⟨v, h1, fun u hu => by rw [List.getElem?_eq_getElem hj'] at hu; injection hu with hu; subst hu; exact h2⟩)
  refine ⟨vs, ⟨by simp [hl]; omega, fun j u v hu hv' => (hv j v hv').2 u ?_⟩, hl, fun j v hj => (hv j v hj).1⟩
  rw [List.getElem?_take] at hu
  split at hu
  · rwa [List.getElem?_drop] at hu
  · cases hu

theorem HR.loads (hr : HR nb r h w) {b o n : Nat} {i : Im} {cs : List Value} (hb : r b = some i) (hh : cellsOf h b = some cs) (hn : o + n ≤ cs.length) {a : Addr} (ha : a.block = i.blk) (ho : 0 < n → a.off = i.base + o ∧ a.spot = none) :
    ∃ vs, VL r ((cs.drop o).take n) vs ∧ (loadCells a n).run P w = .ok vs.toArray w := by
  obtain ⟨vs, h1, h2, h3⟩ := hr.reads hb hh hn
  refine ⟨vs, h1, ?_⟩
  rcases Nat.eq_zero_or_pos n with h0 | h0
  · subst h0
    obtain rfl : vs = [] := List.eq_nil_of_length_eq_zero h2
    rfl
  · obtain ⟨e1, e2⟩ := ho h0
    subst h2
    refine run_loadCells_list w a vs fun j v hj => ?_
    obtain ⟨ab, ao, as⟩ := a
    simp only at ha e1 e2
    subst ha; subst e1; subst e2
    rw [addr_add]
    exact h3 j v hj

/-! ### new blocks -/
def Rho.put (r : Rho) (b : Nat) (i : Im) : Rho := fun c => if c = b then some i else r c
theorem Rho.put_le {b : Nat} {i : Im} (hf : r b = none) : r.Le (r.put b i) := fun c j hc => by
  unfold Rho.put
  split
  · rename_i he; subst he; rw [hf] at hc; cases hc
  · exact hc
theorem Rho.put_same (b : Nat) (i : Im) : (r.put b i) b = some i := by simp [Rho.put]
theorem Rho.put_inv {b c : Nat} {i j : Im} (hc : (r.put b i) c = some j) : (c = b ∧ j = i) ∨ (c ≠ b ∧ r c = some j) := by
  unfold Rho.put at hc
  split at hc
  · rename_i he; injection hc with hc; exact .inl ⟨he, hc.symm⟩
  · rename_i he; exact .inr ⟨he, hc⟩

theorem heap_push_old (o : Obj) {k : Nat} (hk : k < w.heap.size) : (w.alloc o).heap[k]? = w.heap[k]? := heap_alloc_old w o k hk
theorem heap_push_new (o : Obj) : (w.alloc o).heap[w.heap.size]? = some o := heap_alloc_new w o
theorem heap_push_size (o : Obj) : (w.alloc o).heap.size = w.heap.size + 1 := by
  show (w.heap.push o).size = _
  exact Array.size_push _

/-- A block of the small machine, one of Go's. -/
def BlkR (r : Rho) (csz : Nat) : Blk → Obj → Prop
  | .cells cs, .cells ccs _ fr => fr = (0, 0) ∧ ccs.size = csz ∧ cs.length ≤ csz ∧ ∀ (j : Nat) u, cs[j]? = some u → ∃ v, ccs[j]? = some v ∧ VR r u v
  | .map es, .map ces _ => ME r es ces.toList
  | _, _ => False

theorem Post.alloc (hr : HR nb r h w) {x : Blk} {o : Obj} {csz : Nat} (hf : r h.length = none) (hx : BlkR r csz x o) :
    Post nb lim r h w (r.put h.length ⟨w.heap.size, 0, csz, true⟩) (h ++ [x]) (w.alloc o) := by
  have hle := Rho.put_le (r := r) (i := ⟨w.heap.size, 0, csz, true⟩) hf
  have old : ∀ {b : Nat}, b ≠ h.length → b < (h ++ [x]).length → (h ++ [x])[b]? = h[b]? := fun hb hl => by
    rw [List.getElem?_append_left (by simp at hl; omega)]
  have get : ∀ {b : Nat} {y : Blk}, (h ++ [x])[b]? = some y → b ≠ h.length → h[b]? = some y := fun {b y} hy hb => by
    rw [← old hb (List.getElem?_eq_some_iff.1 hy).1]; exact hy
  have new : ∀ {y : Blk}, (h ++ [x])[h.length]? = some y → y = x := fun {y} hy => by simpa using hy.symm
  have lv : ∀ {b : Nat}, live (h ++ [x])[b]? = true → b ≠ h.length → live h[b]? = true := fun {b} hl hne => by
    cases hy : (h ++ [x])[b]? with
    | none => rw [hy] at hl; cases hl
    | some y => rw [get hy hne]; rw [hy] at hl; exact hl
  refine ⟨⟨?_, ?_, ?_, ?_, ?_, ?_⟩, hle, ?_, by simp, rfl, rfl, rfl, by rw [heap_push_size]; omega, fun c hc _ => heap_push_old o hc⟩
  · intro b i cs hb hh j u hu
    rcases Rho.put_inv hb with ⟨rfl, rfl⟩ | ⟨hne, hb'⟩
    · have := new hh
      subst this
      cases o <;> simp only [BlkR] at hx
      obtain ⟨rfl, h1, h2, h3⟩ := hx
      obtain ⟨v, hv, k⟩ := h3 j u hu
      exact ⟨v, by rw [cell_of_cells (heap_push_new _)]; simpa using hv, k.mono hle⟩
    · obtain ⟨v, hv, k⟩ := hr.cells hb' (get hh hne) j u hu
      refine ⟨v, ?_, k.mono hle⟩
      unfold World.cell? at *
      rw [heap_push_old o (hr.bd hb' (by rw [get hh hne]; rfl))]
      exact hv
  · intro b i cs hb ho hh
    rcases Rho.put_inv hb with ⟨rfl, rfl⟩ | ⟨hne, hb'⟩
    · have := new hh
      subst this
      cases o <;> simp only [BlkR] at hx
      obtain ⟨rfl, h1, h2, h3⟩ := hx
      exact ⟨_, _, heap_push_new _, h1, by simpa using h2⟩
    · rw [heap_push_old o (hr.bd hb' (by rw [get hh hne]; rfl))]
      exact hr.own hb' ho (get hh hne)
  · intro b b' i i' hb hb' ho hl hl' he
    rcases Rho.put_inv hb with ⟨rfl, rfl⟩ | ⟨hne, h1⟩ <;> rcases Rho.put_inv hb' with ⟨rfl, rfl⟩ | ⟨hne', h1'⟩
    · rfl
    · exact absurd he (Nat.ne_of_gt (hr.bd h1' (lv hl' hne')))
    · exact absurd he (Nat.ne_of_lt (hr.bd h1 (lv hl hne)))
    · exact hr.inj h1 h1' ho (lv hl hne) (lv hl' hne') he
  · intro b i es hb hh
    rcases Rho.put_inv hb with ⟨rfl, rfl⟩ | ⟨hne, hb'⟩
    · have := new hh
      subst this
      cases o <;> simp only [BlkR] at hx
      exact ⟨_, _, heap_push_new _, hx.mono hle⟩
    · obtain ⟨ces, clk, h1, h2⟩ := hr.map hb' (get hh hne)
      exact ⟨ces, clk, by rw [heap_push_old o (hr.bd hb' (by rw [get hh hne]; rfl))]; exact h1, h2.mono hle⟩
  · intro b i hb hl
    rcases Rho.put_inv hb with ⟨rfl, rfl⟩ | ⟨hne, hb'⟩
    · rw [heap_push_size]; exact Nat.lt_succ_self _
    · have := hr.bd hb' (lv hl hne)
      rw [heap_push_size]
      omega
  · intro b i hb hn
    rcases Rho.put_inv hb with ⟨rfl, rfl⟩ | ⟨hne, hb'⟩
    · rfl
    · exact hr.mine hb' hn
  · intro b i hb
    rcases Rho.put_inv hb with ⟨rfl, rfl⟩ | ⟨hne, hb'⟩
    · exact .inr ⟨Nat.le_refl _, by simp, rfl, .inl (Nat.le_refl _)⟩
    · exact .inl hb'

/-! ### writes -/
/-- One block of Go's is another one now, that of a block that may be written. -/
theorem Post.turn (hr : HR nb r h w) {b : Nat} {i : Im} {x : Blk} {o : Obj} {w' : World} (hb : r b = some i) (hown : i.own = true) (hlim : lim ≤ b) (hlive : live h[b]? = true)
    (hw : ∀ k, k ≠ i.blk → w'.heap[k]? = w.heap[k]?) (hwb : w'.heap[i.blk]? = some o) (hs : w'.heap.size = w.heap.size) (hos : w'.os = w.os) (htp : w'.tape = w.tape) (hout : w'.output = w.output)
    (hx : match x, o with
      | .cells cs, .cells ccs _ fr => fr = (0, 0) ∧ ccs.size = i.csz ∧ i.base + cs.length ≤ i.csz ∧ ∀ (j : Nat) u, cs[j]? = some u → ∃ v, ccs[i.base + j]? = some v ∧ VR r u v
      | .map es, .map ces _ => ME r es ces.toList
      | _, _ => False) :
    Post nb lim r h w r (h.set b x) w' := by
  have hlt : b < h.length := by
    rcases Nat.lt_or_ge b h.length with h0 | h0
    · exact h0
    · rw [List.getElem?_eq_none h0] at hlive; cases hlive
  have get : ∀ {c : Nat} {y : Blk}, (h.set b x)[c]? = some y → c ≠ b → h[c]? = some y := fun {c y} hy hc => by
    rw [List.getElem?_set_ne (Ne.symm hc)] at hy; exact hy
  have new : ∀ {y : Blk}, (h.set b x)[b]? = some y → y = x := fun {y} hy => by
    rw [List.getElem?_set_self hlt] at hy; simpa using hy.symm
  have back : ∀ {c : Nat}, live (h.set b x)[c]? = true → live h[c]? = true := fun {c} hl => by
    by_cases he : c = b
    · subst he; exact hlive
    · rwa [List.getElem?_set_ne (Ne.symm he)] at hl
  have far : ∀ {c : Nat} {j : Im}, r c = some j → c ≠ b → live h[c]? = true → w'.heap[j.blk]? = w.heap[j.blk]? := fun {c j} hc hne hl =>
    hw _ fun he => hne (hr.inj hb hc hown hlive hl he.symm).symm
  refine ⟨⟨?_, ?_, ?_, ?_, ?_, ?_⟩, Rho.Le.refl r, fun h => .inl h, by simp, hos, htp, hout, by omega, fun c hc hn => hw c fun he => hn ⟨b, i, hlim, hlt, hb, hown, he.symm⟩⟩
  · intro c j cs hc hh q u hu
    by_cases he : c = b
    · subst he
      have := new hh
      subst this
      rw [hb] at hc
      injection hc with hc
      subst hc
      cases o <;> simp only at hx
      obtain ⟨rfl, h1, h2, h3⟩ := hx
      obtain ⟨v, hv, k⟩ := h3 q u hu
      exact ⟨v, by rw [cell_of_cells hwb]; exact hv, k⟩
    · obtain ⟨v, hv, k⟩ := hr.cells hc (get hh he) q u hu
      refine ⟨v, ?_, k⟩
      unfold World.cell? at *
      rw [far hc he (by rw [get hh he]; rfl)]
      exact hv
  · intro c j cs hc ho hh
    by_cases he : c = b
    · subst he
      have := new hh
      subst this
      rw [hb] at hc
      injection hc with hc
      subst hc
      cases o <;> simp only at hx
      obtain ⟨rfl, h1, h2, h3⟩ := hx
      exact ⟨_, _, hwb, h1, h2⟩
    · rw [far hc he (by rw [get hh he]; rfl)]
      exact hr.own hc ho (get hh he)
  · intro c c' j j' hc hc' ho hl hl' he
    exact hr.inj hc hc' ho (back hl) (back hl') he
  · intro c j es hc hh
    by_cases he : c = b
    · subst he
      have := new hh
      subst this
      rw [hb] at hc
      injection hc with hc
      subst hc
      cases o <;> simp only at hx
      exact ⟨_, _, hwb, hx⟩
    · obtain ⟨ces, clk, h1, h2⟩ := hr.map hc (get hh he)
      exact ⟨ces, clk, by rw [far hc he (by rw [get hh he]; rfl)]; exact h1, h2⟩
  · intro c j hc hl
    rw [hs]
    exact hr.bd hc (back hl)
  · intro c j hc hn
    exact hr.mine hc hn

theorem over_length (cs : List Value) (o : Nat) (us : List Value) (hn : o + us.length ≤ cs.length) : (over cs o us).length = cs.length := by
  unfold over
  simp
  omega
theorem over_get (cs : List Value) (o : Nat) (us : List Value) (hn : o + us.length ≤ cs.length) (j : Nat) : (over cs o us)[j]? = if o ≤ j ∧ j < o + us.length then us[j - o]? else cs[j]? := by
  unfold over
  rw [List.append_assoc, List.getElem?_append, List.length_take, Nat.min_eq_left (by omega)]
  split
  · rename_i hj
    rw [if_neg (by omega), List.getElem?_take, if_pos hj]
  · rename_i hj
    rw [List.getElem?_append]
    split
    · rename_i hj2
      rw [if_pos (by omega)]
    · rename_i hj2
      rw [if_neg (by omega), List.getElem?_drop]
      congr 1
      omega

theorem aWrite_inv {b o : Nat} {us : List Value} {h' : AH} (hw : aWrite lim h b o us = some h') : (us = [] ∧ h' = h) ∨
    (us ≠ [] ∧ lim ≤ b ∧ us.all cellOk = true ∧ ∃ cs, cellsOf h b = some cs ∧ o + us.length ≤ cs.length ∧ h' = h.set b (.cells (over cs o us))) := by
  unfold aWrite at hw
  split at hw
  · rename_i h0; injection hw with hw; exact .inl ⟨h0, hw.symm⟩
  · rename_i h0
    split at hw
    · rename_i h1
      cases hc : cellsOf h b with
      | none => rw [hc] at hw; cases hw
      | some cs =>
        rw [hc] at hw
        simp only [Option.bind_some] at hw
        split at hw
        · rename_i h2; injection hw with hw; exact .inr ⟨h0, h1.1, h1.2, cs, rfl, h2, hw.symm⟩
        · cases hw
    · cases hw

theorem Post.write (hr : HR nb r h w) {b o : Nat} {i : Im} {us vs : List Value} {h' : AH} (hb : r b = some i) (hlim : nb ≤ lim) (hw : aWrite lim h b o us = some h') (hv : VL r us vs) {a : Addr} (ha : a.block = i.blk) (hao : us ≠ [] → a.off = i.base + o ∧ a.spot = none) :
    ∃ w', (storeCells a vs).run P w = .ok () w' ∧ Post nb lim r h w r h' w' := by
  rcases aWrite_inv hw with ⟨rfl, rfl⟩ | ⟨h0, hl, h1, cs, hc, hn, rfl⟩
  · obtain rfl := hv.nil_inv
    exact ⟨w, rfl, Post.refl hr⟩
  · obtain ⟨e1, e2⟩ := hao h0
    obtain ⟨ab, ao, as⟩ := a
    simp only at ha e1 e2
    subst ha; subst e1; subst e2
    have hown := hr.mine hb (Nat.le_trans hlim hl)
    obtain ⟨ccs, t, g1, g2, g3⟩ := hr.own hb hown (cellsOf_iff.1 hc)
    have hlen := hv.1
    refine ⟨_, run_storeCells_at P i.blk (i.base + o) t vs 0 ccs w g1 (by rw [g2]; omega) (fun v hv' => ?_), ?_⟩
    · have := hv.all_cellOk h1
      rw [List.all_eq_true] at this
      have := this v hv'
      cases v <;> simp_all [cellOk, Value.oneCell']
    · refine Post.turn hr hb hown hl (by rw [cellsOf_iff.1 hc]; rfl) (fun k hk => setRow_other w i.blk k _ hk) (setRow_heap w i.blk ccs _ t _ g1) (by simp) rfl rfl rfl ?_
      simp only [Nat.add_zero]
      refine ⟨trivial, ?_, ?_, fun j u hu => ?_⟩
      · simp
        omega
      · rw [over_length cs o us hn]; exact g3
      · have hlj : j < cs.length := by have := (List.getElem?_eq_some_iff.1 hu).1; rw [over_length cs o us hn] at this; exact this
        rw [over_get cs o us hn] at hu
        have e : (ccs.toList.take (i.base + o) ++ vs ++ ccs.toList.drop (i.base + o + vs.length)).toArray[i.base + j]? = (over ccs.toList (i.base + o) vs)[i.base + j]? := by simp [over]
        rw [e, over_get _ _ _ (by simp; omega)]
        split at hu
        · rename_i hj
          rw [if_pos (by omega), show i.base + j - (i.base + o) = j - o by omega]
          exact hv.get hu
        · rename_i hj
          rw [if_neg (by omega)]
          obtain ⟨v, hv1, hv2⟩ := hr.cells hb (cellsOf_iff.1 hc) j u hu
          exact ⟨v, by rw [cell_of_cells g1] at hv1; simpa using hv1, hv2⟩

end Go.Proofs.YtmikcpgkppkmiaaW.Ai
