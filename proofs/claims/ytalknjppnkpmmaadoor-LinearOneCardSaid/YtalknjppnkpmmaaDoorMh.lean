/-
 The small machine and Go's slices.Insert, which asks a slice's capacity: a function outside the small machine, by the library's contracts. Of no program.
-/
import Derived.Test.YtalknjppnkpmmaaDoorMg
import Derived.Shelf.Spec.SlicesInsertGrow
import Derived.Test.YtalknjppnkpmmaaDoorMf
set_option linter.unusedVariables false
set_option linter.unusedSimpArgs false
namespace Go.Proofs.YtalknjppnkpmmaaDoorW.Ai
section
open Go.Shelf Go.Lib
def insA (lim : Nat) (args : List Value) (h : AH) : Option (Value × AH) :=
 match args with
 | [.slice a n c, .int .i64 i, .slice (some ⟨vb, 0, none⟩) 1 1] =>
  match cellsOf h vb with
  | some [v] =>
   if n = c ∧ 0 ≤ i ∧ i ≤ n ∧ n ≤ 1000 ∧ lim ≤ vb ∧ cellOk v = true then
    match a with
    | some ⟨b, 0, some 1⟩ =>
     if lim ≤ b ∧ b ≠ vb ∧ 0 < n then
      match cellsOf h b with
      | some cs => if cs.length = n ∧ cs.all cellOk = true then some (.slice (some ⟨h.length, 0, some 1⟩) (n + 1) (n + 1), h.set b .dead ++ [.cells (cs.take i.toNat ++ v :: cs.drop i.toNat)]) else none
      | none => none
     else none
    | none => if n = 0 then some (.slice (some ⟨h.length, 0, some 1⟩) (n + 1) (n + 1), h ++ [.cells [v]]) else none
    | some ⟨_, _, none⟩ => if n = 0 then some (.slice (some ⟨h.length, 0, some 1⟩) (n + 1) (n + 1), h ++ [.cells [v]]) else none
    | _ => none
   else none
  | _ => none
 | _ => none
theorem insA_inv {lim : Nat} {args : List Value} {h h' : AH} {v : Value} (ha : insA lim args h = some (v, h')) :
    ∃ (a : Option Addr) (n : Nat) (i : Nat) (vb : Nat) (x : Value), args = [.slice a n n, .int .i64 (i : Int), .slice (some ⟨vb, 0, none⟩) 1 1] ∧ h[vb]? = some (.cells [x]) ∧ i ≤ n ∧ n ≤ 1000 ∧ lim ≤ vb ∧ cellOk x = true ∧ v = .slice (some ⟨h.length, 0, some 1⟩) (n + 1) (n + 1) ∧
      ((∃ b cs, a = some ⟨b, 0, some 1⟩ ∧ lim ≤ b ∧ b ≠ vb ∧ 0 < n ∧ h[b]? = some (.cells cs) ∧ cs.length = n ∧ cs.all cellOk = true ∧ h' = h.set b .dead ++ [.cells (cs.take i ++ x :: cs.drop i)]) ∨
       (n = 0 ∧ (a = none ∨ ∃ b o, a = some ⟨b, o, none⟩) ∧ h' = h ++ [.cells [x]])) := by
  unfold insA at ha
  split at ha
  case h_2 => cases ha
  rename_i a n c i vb
  split at ha
  case h_2 => cases ha
  rename_i x hx
  split at ha
  case isFalse => cases ha
  rename_i hc
  obtain ⟨rfl, h0, h1, h2, h3, h4⟩ := hc
  obtain ⟨j, rfl⟩ := Int.eq_ofNat_of_zero_le h0
  refine ⟨a, n, j, vb, x, rfl, cellsOf_iff.1 hx, by omega, h2, h3, h4, ?_⟩
  split at ha
  · rename_i b
    split at ha
    case isFalse => cases ha
    rename_i hb
    split at ha
    case h_2 => cases ha
    rename_i cs hcs
    split at ha
    case isFalse => cases ha
    rename_i hl
    injection ha with ha
    injection ha with e1 e2
    exact ⟨e1.symm, .inl ⟨b, cs, rfl, hb.1, hb.2.1, hb.2.2, cellsOf_iff.1 hcs, hl.1, hl.2, e2.symm⟩⟩
  · split at ha
    case isFalse => cases ha
    rename_i hn
    injection ha with ha
    injection ha with e1 e2
    exact ⟨e1.symm, .inr ⟨hn, .inl rfl, e2.symm⟩⟩
  · rename_i b o
    split at ha
    case isFalse => cases ha
    rename_i hn
    injection ha with ha
    injection ha with e1 e2
    exact ⟨e1.symm, .inr ⟨hn, .inr ⟨_, _, rfl⟩, e2.symm⟩⟩
  · cases ha
section
variable {P : Program} {nb lim : Nat} {r : Rho} {h h' : AH} {w w' : World}
structure Wrote (w w' : World) (b o : Nat) (ccs ccs' : Array Value) (t : TypeId) (vs : List Value) : Prop where
 at_ : w'.heap[b]? = some (.cells ccs' t (0, 0))
 size : ccs'.size = ccs.size
 get : ∀ j, ccs'[j]? = if o ≤ j ∧ j < o + vs.length then vs[j - o]? else ccs[j]?
 other : ∀ k, k ≠ b → w'.heap[k]? = w.heap[k]?
 hsize : w'.heap.size = w.heap.size
 os : w'.os = w.os
 tape : w'.tape = w.tape
 output : w'.output = w.output
theorem wrote (b : Nat) (t : TypeId) : ∀ (vs : List Value) (o : Nat) (w : World) (ccs : Array Value), w.heap[b]? = some (.cells ccs t (0, 0)) → o + vs.length ≤ ccs.size → ∃ ccs', Wrote w (w.setCells b o vs) b o ccs ccs' t vs
 | [], o, w, ccs, hb, hl => ⟨ccs, hb, rfl, fun j => by rw [if_neg (by simp)], fun _ _ => rfl, rfl, rfl, rfl, rfl⟩
 | v :: vs, o, w, ccs, hb, hl => by
  have hl' : o + vs.length + 1 ≤ ccs.size := by simpa [Nat.add_assoc] using hl
  have h1 : (w.setCell ⟨b, o, none⟩ v).heap[b]? = some (.cells (ccs.setIfInBounds o v) t (0, 0)) := by
   simp [World.setCell, Array.getElem?_modify, hb]
  obtain ⟨ccs', hw⟩ := wrote b t vs (o + 1) (w.setCell ⟨b, o, none⟩ v) (ccs.setIfInBounds o v) h1 (by simp; omega)
  refine ⟨ccs', hw.at_, by rw [hw.size]; simp, fun j => ?_, fun k hk => ?_, by rw [World.setCells, hw.hsize]; simp [World.setCell], by rw [World.setCells, hw.os]; rfl, by rw [World.setCells, hw.tape]; rfl, by rw [World.setCells, hw.output]; rfl⟩
  ·rw [hw.get]
   by_cases h0 : j = o
   ·subst h0
    rw [if_neg (by omega), if_pos (by simp), Array.getElem?_setIfInBounds_self_of_lt (by omega)]
    simp
   ·by_cases h2 : o + 1 ≤ j ∧ j < o + 1 + vs.length
    ·rw [if_pos h2, if_pos (by simp; omega), show j - o = (j - (o + 1)) + 1 by omega]
     simp
    ·rw [if_neg h2, if_neg (by simp; omega), Array.getElem?_setIfInBounds_ne (by omega)]
  ·rw [World.setCells, hw.other k hk]
   simp [World.setCell, Array.getElem?_modify, Ne.symm hk]
theorem alloc_lt {o : Obj} {k : Nat} (hk : k < w.heap.size) : (w.alloc o).heap[k]? = w.heap[k]? := by
 show (w.heap.push o)[k]? = _
 rw [Array.getElem?_push, if_neg (by omega)]
theorem alloc_at {o : Obj} : (w.alloc o).heap[w.heap.size]? = some o := by
 show (w.heap.push o)[w.heap.size]? = _
 simp
theorem Post.newBlock (hr : HR nb r h w) {h0 : AH} (hl0 : h0.length = h.length) (hp0 : Post nb lim r h w r h0 w) (hf : r h.length = none) {cs : List Value} {ccs : Array Value} {t : TypeId}
  (hk : ∀ k, k < w.heap.size → w'.heap[k]? = w.heap[k]?) (hn : w'.heap[w.heap.size]? = some (.cells ccs t (0, 0))) (hs : w'.heap.size = w.heap.size + 1) (hos : w'.os = w.os) (htp : w'.tape = w.tape) (hout : w'.output = w.output)
  (hsz : cs.length ≤ ccs.size) (hcells : ∀ (j : Nat) u, cs[j]? = some u → ∃ v, ccs[j]? = some v ∧ VR r u v) :
  Post nb lim r h w (r.put h.length ⟨w.heap.size, 0, ccs.size, true⟩) (h0 ++ [.cells cs]) w' := by
 have hh : w'.heap = (w.alloc (.cells ccs t (0, 0))).heap := by
  apply Array.ext_getElem?
  intro k
  by_cases h1 : k < w.heap.size
  ·rw [hk k h1, alloc_lt h1]
  ·by_cases h2 : k = w.heap.size
   ·subst h2; rw [hn, alloc_at]
   ·rw [Array.getElem?_eq_none (by omega), Array.getElem?_eq_none (by rw [World.size_alloc]; omega)]
 have hp := Post.alloc (lim := lim) (x := .cells cs) (o := .cells ccs t (0, 0)) (csz := ccs.size) hp0.hr (by rw [hl0]; exact hf) ⟨rfl, rfl, hsz, hcells⟩
 rw [hl0] at hp
 have hq : Post nb lim r h0 w (r.put h.length ⟨w.heap.size, 0, ccs.size, true⟩) (h0 ++ [.cells cs]) w' :=
  ⟨hp.hr.same hh, hp.le, hp.new, hp.len, hos, htp, hout, by rw [hh]; exact hp.size, fun c hc hn => by rw [hh]; exact hp.keep c hc hn⟩
 exact hp0.trans hq (fun b h1 h2 => by omega)
theorem oneCell_of {v : Value} (h : cellOk v = true) : v.oneCell' = true := by cases v <;> simp_all [cellOk, Value.oneCell']
theorem cellOk_all {vs : List Value} (h : vs.all cellOk = true) : ∀ v ∈ vs, v.oneCell' = true := fun v hv => oneCell_of (by rw [List.all_eq_true] at h; exact h v hv)
theorem frozen_no {b o : Nat} {ccs : Array Value} {t : TypeId} (hb : w.heap[b]? = some (.cells ccs t (0, 0))) : w.frozen? ⟨b, o, none⟩ = false := by simp [World.frozen?, hb]
theorem shape_of {b : Nat} {ccs : Array Value} {t : TypeId} (hb : w.heap[b]? = some (.cells ccs t (0, 0))) : w.shape? b = some (t, ccs.size) := by simp [World.shape?, hb]
theorem VL.one {x y : Value} (h : VR r x y) : VL r [x] [y] := VL.cons h (VL.nil r)
theorem zeroInt_size (n : Nat) : (Builtin.zeroCells (Value.int .i64 0).cells n).size = n := by simp [Builtin.zeroCells, Value.cells]
theorem insA_sound {ρ : Ren} (L : Lays2.n21 P ρ) {args args' : List Value} {v : Value} (hnb : nb ≤ lim) (ha : insA lim args h = some (v, h')) (hr : HR nb r h w) (hf : Fresh r h h') (hv : VL r args args') :
  Enters P (ρ.f 21) ∧ Calls P (ρ.f 21) args'.toArray w (fun e w' => ∃ r' v', e = .returned v' ∧ Post nb lim r h w r' h' w' ∧ VR r' v v') := by
 have hent : Enters P (ρ.f 21) := enters_of (fn := Body2.n21 ρ) L.f21 (by rfl) rfl
 refine ⟨hent, ?_⟩
 obtain ⟨a, n, i, vb, x, rfl, hvb, hi, hn, hlvb, hx, rfl, hcase⟩ := insA_inv ha
 obtain ⟨s', t1, rfl, hs, hv1⟩ := hv.cons_inv
 obtain ⟨i', t2, rfl, hi', hv2⟩ := hv1.cons_inv
 obtain ⟨y', t3, rfl, hy, hv3⟩ := hv2.cons_inv
 obtain rfl := hv3.nil_inv
 cases hi'
 have hfr : r h.length = none := hf _ (Nat.le_refl _) (by rcases hcase with ⟨b, cs, _, _, _, _, _, _, _, rfl⟩ | ⟨_, _, rfl⟩ <;> simp)
 -- the value's block
 obtain ⟨iv, av, hiv, rfl, hvblk, hvoff⟩ : ∃ (iv : Im) (av : Addr), r vb = some iv ∧ y' = .slice (some av) 1 1 ∧ av.block = iv.blk ∧ (av.off = iv.base ∧ av.spot = none) := by
  cases hy with
  | slc _ _ _ _ iv av h1 h2 h3 h4 => exact ⟨iv, av, h1, rfl, h2, by simpa using h3 (by omega)⟩
 obtain ⟨avb, avo, avs⟩ := av
 simp only at hvblk hvoff
 obtain ⟨rfl, rfl⟩ := hvoff
 subst hvblk
 have hvown := hr.mine hiv (by omega)
 obtain ⟨vccs, vt, hv4, hv5, hv6⟩ := hr.own hiv hvown hvb
 obtain ⟨x', hx1, hx2⟩ := hr.cells hiv hvb 0 x rfl
 have hvs : ∀ (j : Nat) (v : Value), [x'][j]? = some v → w.cell? ⟨iv.blk, iv.base + j, none⟩ = some v := fun j v hj => by
  cases j with
  | zero => simp at hj; subst hj; exact hx1
  | succ j => simp at hj
 have hx' : cellOk x' = true := by rw [hx2.cellOk]; exact hx
 have h1v : ∀ v ∈ [x'], v.oneCell' = true := fun v hv => by simp at hv; subst hv; exact oneCell_of hx'
 rcases hcase with ⟨b, cs, rfl, hlb, hbv, hn0, hb, hcl, hok, rfl⟩ | ⟨rfl, hanil, rfl⟩
 ·-- elements
  obtain ⟨d, ib, ab, hib, rfl, hblk, hoff, hd⟩ : ∃ (d : Nat) (ib : Im) (ab : Addr), r b = some ib ∧ s' = .slice (some ab) n d ∧ ab.block = ib.blk ∧ (ab.off = ib.base ∧ ab.spot = none) ∧ n ≤ d ∧ (ib.own = true → ib.base + d ≤ ib.csz ∧ d ≤ 9223372036854775807) := by
   cases hs with
   | slcIn _ _ _ _ _ d ib ab h1 h2 h3 h4 h5 h6 => exact ⟨d, ib, ab, h1, rfl, h2, by simpa using h3 (.inl hn0), h5, fun ho => by have := h6 ho (by omega); exact ⟨by omega, this.2⟩⟩
  obtain ⟨hd1, hd2⟩ := hd
  obtain ⟨abb, abo, abs⟩ := ab
  simp only at hblk hoff
  obtain ⟨rfl, rfl⟩ := hoff
  subst hblk
  have hown := hr.mine hib (by omega)
  obtain ⟨hd3, hd4⟩ := hd2 hown
  obtain ⟨ccs, t, hb4, hb5, hb6⟩ := hr.own hib hown hb
  have hne : iv.blk ≠ ib.blk := fun he => hbv (hr.inj hib hiv hown (by rw [hb]; rfl) (by rw [hvb]; rfl) he.symm)
  -- the elements as Go has them
  obtain ⟨ds, hdl, hds⟩ : ∃ ds : List Value, ds.length = n ∧ ∀ j v, ds[j]? = some v → w.cell? ⟨ib.blk, ib.base + j, none⟩ = some v ∧ ∃ u, cs[j]? = some u ∧ VR r u v :=
   exists_list n (fun j v => w.cell? ⟨ib.blk, ib.base + j, none⟩ = some v ∧ ∃ u, cs[j]? = some u ∧ VR r u v) (fun j hj => by
    have hj' : j < cs.length := by omega
    obtain ⟨v, h1, h2⟩ := hr.cells hib hb j _ (List.getElem?_eq_getElem hj')
    exact ⟨v, h1, _, List.getElem?_eq_getElem hj', h2⟩)
  have hvl : VL r cs ds := ⟨by omega, fun j u v hu hv => by
   obtain ⟨_, u', h1, h2⟩ := hds j v hv
   rw [hu] at h1; injection h1 with h1; subst h1; exact h2⟩
  have h1c : ∀ v ∈ ds, v.oneCell' = true := cellOk_all (hvl.all_cellOk hok)
  have hnew : VL r (cs.take i ++ x :: cs.drop i) (ds.take i ++ x' :: ds.drop i) := (hvl.take i).append (VL.cons hx2 (hvl.drop i))
  have hnl : (cs.take i ++ x :: cs.drop i).length = n + 1 := by simp; omega
  by_cases hroom : n + 1 ≤ d
  ·-- in place
   have hsp : ∀ j, j < n + 1 → (w.cell? ⟨ib.blk, ib.base + j, none⟩).isSome = true := fun j hj => by
    rw [cell_of_cells hb4, Array.getElem?_eq_getElem (by omega)]; rfl
   have key : ∀ (w' : World) (ccs' : Array Value), w'.heap[ib.blk]? = some (.cells ccs' t (0, 0)) → ccs'.size = ccs.size → (∀ k, k ≠ ib.blk → w'.heap[k]? = w.heap[k]?) → w'.heap.size = w.heap.size → w'.os = w.os → w'.tape = w.tape → w'.output = w.output →
     (∀ j, j < n + 1 → ccs'[ib.base + j]? = (ds.take i ++ x' :: ds.drop i)[j]?) →
     ∃ r' v', Ending.returned (.slice (some ⟨ib.blk, ib.base, none⟩) (n + 1) d) = .returned v' ∧ Post nb lim r h w r' (h.set b .dead ++ [.cells (cs.take i ++ x :: cs.drop i)]) w' ∧ VR r' (.slice (some ⟨h.length, 0, some 1⟩) (n + 1) (n + 1)) v' := fun w' ccs' g1 g2 g3 g4 g5 g6 g7 g8 =>
    ⟨_, _, rfl, Post.reuse (base := ib.base) hr hib hown hlb hb hfr g3 g1 g4 g5 g6 g7 (by rw [g2]; exact hb5) (by rw [hnl]; omega) (fun j u hu => by
     have hj : j < n + 1 := by rw [← hnl]; exact (List.getElem?_eq_some_iff.1 hu).1
     obtain ⟨v, h1, h2⟩ := hnew.get hu
     exact ⟨v, by rw [g8 j hj]; exact h1, h2⟩), .slcIn _ _ _ _ _ _ ⟨ib.blk, ib.base, ib.csz, true⟩ _ (Rho.put_same _ _) rfl (fun _ => ⟨by simp, rfl⟩) (Nat.le_refl _) hroom (fun _ _ => ⟨by simpa using hd3, hd4⟩)⟩
   by_cases hin : i = n
   ·subst hin
    refine (Any2.slices_Insert_int_end_room L ib.blk ib.base i d iv.blk iv.base 1 1 [x'] w (by omega) hroom hd4 rfl (fun j hj => by rw [Nat.add_assoc]; exact hsp _ (by omega)) (fun j hj => frozen_no hb4) hvs h1v).mono ?_
    rintro e w' ⟨rfl, rfl⟩
    obtain ⟨ccs', hw⟩ := wrote ib.blk t [x'] (ib.base + i) w ccs hb4 (by simp; omega)
    refine key _ ccs' hw.at_ hw.size hw.other hw.hsize hw.os hw.tape hw.output (fun j hj => ?_)
    rw [hw.get]
    have ht : ds.take i = ds := List.take_of_length_le (by omega)
    have hdr : ds.drop i = [] := List.drop_of_length_le (by omega)
    rw [ht, hdr]
    by_cases hji : j = i
    ·subst hji
     rw [if_pos (by simp), List.getElem?_append_right (by omega)]
     simp [hdl]
    ·rw [if_neg (by simp; omega), List.getElem?_append_left (by omega)]
     have hj2 : j < ds.length := by omega
     have := (hds j _ (List.getElem?_eq_getElem hj2)).1
     rw [cell_of_cells hb4] at this
     rw [this, List.getElem?_eq_getElem hj2]
   ·refine (Any2.slices_Insert_int_shift L ib.blk ib.base n d i iv.blk iv.base 1 1 ds [x'] w (by omega) (by omega) hroom hd4 hne hdl rfl (fun j v hj => (hds j v hj).1) hsp (fun j hj => frozen_no hb4) hvs h1c h1v vt t vccs.size ccs.size (shape_of hv4) (shape_of hb4) (by omega) (frozen_no hv4) (frozen_no hv4)).mono ?_
    rintro e w' ⟨rfl, rfl⟩
    have hb4' : w.drew.heap[ib.blk]? = some (.cells ccs t (0, 0)) := hb4
    obtain ⟨ccs1, hw1⟩ := wrote ib.blk t (ds.drop i) (ib.base + (i + 1)) w.drew ccs hb4' (by simp; omega)
    obtain ⟨ccs', hw⟩ := wrote ib.blk t [x'] (ib.base + i) _ ccs1 hw1.at_ (by rw [hw1.size]; simp; omega)
    refine key _ ccs' hw.at_ (hw.size.trans hw1.size) (fun k hk => (hw.other k hk).trans (hw1.other k hk)) (hw.hsize.trans hw1.hsize) (hw.os.trans hw1.os) (hw.tape.trans hw1.tape) (hw.output.trans hw1.output) (fun j hj => ?_)
    rw [hw.get, hw1.get]
    rcases Nat.lt_trichotomy j i with hji | hji | hji
    ·rw [if_neg (by simp; omega), if_neg (by omega), List.getElem?_append_left (by simp; omega), List.getElem?_take_of_lt hji]
     have hj2 : j < ds.length := by omega
     have := (hds j _ (List.getElem?_eq_getElem hj2)).1
     rw [cell_of_cells hb4] at this
     rw [this, List.getElem?_eq_getElem hj2]
    ·subst hji
     rw [if_pos (by simp), List.getElem?_append_right (by simp; omega)]
     simp
     rw [show j - min j ds.length = 0 by omega]
     simp
    ·rw [if_neg (by simp; omega), if_pos (by simp; omega), List.getElem?_append_right (by simp; omega)]
     have e1 : j - (ds.take i).length = (j - i - 1) + 1 := by simp; omega
     rw [e1, List.getElem?_cons_succ, show ib.base + j - (ib.base + (i + 1)) = j - i - 1 by omega]
  ·-- a new row
   have hdn : d = n := by omega
   subst hdn
   by_cases hin : i = d
   ·subst hin
    refine (Any2.slices_Insert_int_end_grow L (some ⟨ib.blk, ib.base, none⟩) i i iv.blk iv.base 1 1 ds [x'] w (by omega) (by omega) (by omega) (by omega) hdl rfl (fun h => by cases h) (fun a ha j v hj => by injection ha with ha; subst ha; rw [addr_add]; exact (hds j v hj).1) hvs h1v).mono ?_
    rintro e w' ⟨rfl, rfl⟩
    have hg1 := grownCap_ge w (i + 1) i (ρ.t 3)
    have hg2 : grownCap w (i + 1) i (ρ.t 3) ≤ 9223372036854775807 := by
     show i + 1 + w.tape w.drawn _ % (2 ^ 63 - (i + 1)) ≤ _
     have := Nat.mod_lt (w.tape w.drawn (.appendCap (i + 1) i (ρ.t 3))) (show 0 < 2 ^ 63 - (i + 1) by omega)
     omega
    generalize grownCap w (i + 1) i (ρ.t 3) = G at hg1 hg2
    have hcs' : ((ds ++ [x']).toArray ++ Builtin.zeroCells (Value.int .i64 0).cells (G - (i + 1))).size = G := by
     simp only [Array.size_append, zeroInt_size]; simp; omega
    refine ⟨_, _, rfl, Post.newBlock hr (h0 := h.set b .dead) (by simp) (Post.kill hr b) hfr (ccs := (ds ++ [x']).toArray ++ Builtin.zeroCells (Value.int .i64 0).cells (G - (i + 1))) (t := ρ.t 3) (fun k hk => alloc_lt (w := w.drew) hk) (alloc_at (w := w.drew)) (World.size_alloc ..) rfl rfl rfl (by rw [hnl, hcs']; exact hg1) (fun j u hu => ?_), .slcIn _ _ _ _ _ _ ⟨w.heap.size, 0, _, true⟩ _ (Rho.put_same _ _) rfl (fun _ => ⟨by simp, rfl⟩) (Nat.le_refl _) hg1 (fun _ _ => ⟨by show 0 + 0 + G * 1 ≤ Array.size _; rw [hcs']; omega, hg2⟩)⟩
    obtain ⟨v, h1, h2⟩ := hnew.get hu
    refine ⟨v, ?_, h2⟩
    have ht : ds.take i = ds := List.take_of_length_le (by omega)
    have hdr : ds.drop i = [] := List.drop_of_length_le (by omega)
    rw [ht, hdr] at h1
    rw [Array.getElem?_append_left (by have := (List.getElem?_eq_some_iff.1 h1).1; simpa using this)]
    simpa using h1
   ·refine (Any2.slices_Insert_int_grow L ib.blk ib.base d d i iv.blk iv.base 1 1 ds [x'] w (by omega) (by omega) (by omega) (by omega) (by omega) hdl rfl (fun j v hj => (hds j v hj).1) hvs h1c h1v).mono ?_
    rintro e w' ⟨rfl, rfl⟩
    have hg1 := grownCap_ge w (d + 1) d (ρ.t 3)
    have hg2 : grownCap w (d + 1) d (ρ.t 3) ≤ 9223372036854775807 := by
     show d + 1 + w.tape w.drawn _ % (2 ^ 63 - (d + 1)) ≤ _
     have := Nat.mod_lt (w.tape w.drawn (.appendCap (d + 1) d (ρ.t 3))) (show 0 < 2 ^ 63 - (d + 1) by omega)
     omega
    generalize grownCap w (d + 1) d (ρ.t 3) = G at hg1 hg2
    obtain ⟨ROW, hROW⟩ : ∃ ROW : Array Value, ROW = (ds.take i).toArray ++ Builtin.zeroCells (Value.int .i64 0).cells (d + 1 - i) ++ Builtin.zeroCells (Value.int .i64 0).cells (G - (d + 1)) := ⟨_, rfl⟩
    rw [← hROW]
    have hRs : ROW.size = G := by rw [hROW]; simp only [Array.size_append, zeroInt_size]; simp; omega
    obtain ⟨W1, hW1⟩ : ∃ W1, W1 = (w.alloc (.cells ROW (ρ.t 3))).drew := ⟨_, rfl⟩
    rw [← hW1]
    have ha1 : W1.heap[w.heap.size]? = some (.cells ROW (ρ.t 3) (0, 0)) := by rw [hW1]; exact alloc_at
    have hk1 : ∀ k, k < w.heap.size → W1.heap[k]? = w.heap[k]? := fun k hk => by rw [hW1]; exact alloc_lt hk
    obtain ⟨ccs1, hw1⟩ := wrote w.heap.size (ρ.t 3) [x'] i W1 ROW ha1 (by rw [hRs]; simp; omega)
    have ha2 : (W1.setCells w.heap.size i [x']).drew.heap[w.heap.size]? = some (.cells ccs1 (ρ.t 3) (0, 0)) := hw1.at_
    obtain ⟨ccs', hw⟩ := wrote w.heap.size (ρ.t 3) (ds.drop i) (i + 1) (W1.setCells w.heap.size i [x']).drew ccs1 ha2 (by rw [hw1.size, hRs]; simp; omega)
    have hcs' : ccs'.size = G := by rw [hw.size, hw1.size, hRs]
    refine ⟨_, _, rfl, Post.newBlock hr (h0 := h.set b .dead) (by simp) (Post.kill hr b) hfr (ccs := ccs') (t := ρ.t 3) (fun k hk => ?_) hw.at_ ?_ ?_ ?_ ?_ (by rw [hnl, hcs']; exact hg1) (fun j u hu => ?_), .slcIn _ _ _ _ _ _ ⟨w.heap.size, 0, _, true⟩ _ (Rho.put_same _ _) rfl (fun _ => ⟨by simp, rfl⟩) (Nat.le_refl _) hg1 (fun _ _ => ⟨by show 0 + 0 + G * 1 ≤ Array.size _; rw [hcs']; omega, hg2⟩)⟩
    ·exact (hw.other k (by omega)).trans ((hw1.other k (by omega)).trans (hk1 k hk))
    ·exact hw.hsize.trans (hw1.hsize.trans (by rw [hW1]; exact World.size_alloc ..))
    ·exact hw.os.trans (hw1.os.trans (by rw [hW1]; rfl))
    ·exact hw.tape.trans (hw1.tape.trans (by rw [hW1]; rfl))
    ·exact hw.output.trans (hw1.output.trans (by rw [hW1]; rfl))
    ·obtain ⟨v, h1, h2⟩ := hnew.get hu
     refine ⟨v, ?_, h2⟩
     have hj : j < d + 1 := by rw [← hnl]; exact (List.getElem?_eq_some_iff.1 hu).1
     rw [hw.get, hw1.get, ← h1]
     rcases Nat.lt_trichotomy j i with hji | hji | hji
     ·rw [if_neg (by omega), if_neg (by simp; omega), List.getElem?_append_left (by simp; omega), hROW, Array.getElem?_append_left (by simp [zeroInt_size]; omega), Array.getElem?_append_left (by simp; omega)]
      simp
     ·subst hji
      rw [if_neg (by omega), if_pos (by simp), List.getElem?_append_right (by simp; omega)]
      simp
      rw [show j - min j ds.length = 0 by omega]
      simp
     ·rw [if_pos (by simp; omega), List.getElem?_append_right (by simp; omega)]
      have e1 : j - (ds.take i).length = (j - i - 1) + 1 := by simp; omega
      rw [e1, List.getElem?_cons_succ, show j - (i + 1) = j - i - 1 by omega]
 ·-- none
  have hi0 : i = 0 := by omega
  subst hi0
  obtain ⟨B, hsB, hBn⟩ : ∃ B : Option Addr, s' = .slice B 0 0 ∧ True := by
   rcases hanil with rfl | ⟨b, o, rfl⟩
   ·cases hs; exact ⟨none, rfl, trivial⟩
   ·cases hs with
    | slc _ _ _ _ i' a' _ _ _ _ => exact ⟨some a', rfl, trivial⟩
  subst hsB
  refine (Any2.slices_Insert_int_end_grow L B 0 0 iv.blk iv.base 1 1 [] [x'] w (by omega) (by omega) (by omega) (by omega) rfl rfl (fun _ => rfl) (fun a ha j v hj => by simp at hj) hvs h1v).mono ?_
  rintro e w' ⟨rfl, rfl⟩
  have hg1 := grownCap_ge w (0 + 1) 0 (ρ.t 3)
  have hg2 : grownCap w (0 + 1) 0 (ρ.t 3) ≤ 9223372036854775807 := by
   show 0 + 1 + w.tape w.drawn _ % (2 ^ 63 - (0 + 1)) ≤ _
   have := Nat.mod_lt (w.tape w.drawn (.appendCap (0 + 1) 0 (ρ.t 3))) (show 0 < 2 ^ 63 - (0 + 1) by omega)
   omega
  generalize grownCap w (0 + 1) 0 (ρ.t 3) = G at hg1 hg2
  have hcs' : (([] ++ [x']).toArray ++ Builtin.zeroCells (Value.int .i64 0).cells (G - (0 + 1))).size = G := by
   simp only [Array.size_append, zeroInt_size]; simp; omega
  refine ⟨_, _, rfl, Post.newBlock hr (h0 := h) rfl (Post.refl hr) hfr (ccs := ([] ++ [x']).toArray ++ Builtin.zeroCells (Value.int .i64 0).cells (G - (0 + 1))) (t := ρ.t 3) (fun k hk => alloc_lt (w := w.drew) hk) (alloc_at (w := w.drew)) (World.size_alloc ..) rfl rfl rfl (by rw [hcs']; simpa using hg1) (fun j u hu => ?_), .slcIn _ _ _ _ _ _ ⟨w.heap.size, 0, _, true⟩ _ (Rho.put_same _ _) rfl (fun _ => ⟨by simp, rfl⟩) (Nat.le_refl _) hg1 (fun _ _ => ⟨by show 0 + 0 + G * 1 ≤ Array.size _; rw [hcs']; omega, hg2⟩)⟩
  cases j with
  | zero =>
   simp at hu
   subst hu
   exact ⟨x', by rw [Array.getElem?_append_left (by simp)]; rfl, hx2⟩
  | succ j => simp at hu
theorem insA_pre {args : List Value} {v : Value} (hl : lim ≤ h.length) (ha : insA lim args h = some (v, h')) : Pre lim h h' := by
 obtain ⟨a, n, i, vb, x, _, _, _, _, _, _, _, hc⟩ := insA_inv ha
 rcases hc with ⟨b, cs, _, hlb, _, _, _, _, _, rfl⟩ | ⟨_, _, rfl⟩
 ·exact (Pre.set hlb _).trans (Pre.push _)
 ·exact Pre.push _
def cutV : Value → Value
 | .slice (some ⟨b, o, some s⟩) n c => .slice (some ⟨b, o, some s⟩) n n
 | v => v
theorem VR.cut {v v' : Value} (hv : VR r v v') : VR r (cutV v) v' := by
 cases hv with
 | slcIn b o s n c d i a h hb ho hn hc hs => exact .slcIn b o s n n d i a h hb (fun hp => ho (hp.imp (fun q => by omega) id)) (Nat.le_refl _) (Nat.le_trans hn hc) hs
 | slc b o n c i a h hb ho hn => exact .slc b o n c i a h hb ho hn
 | bool b => exact .bool b
 | int k n => exact .int k n
 | string s => exact .string s
 | ptr0 => exact .ptr0
 | ptr b o i h => exact .ptr b o i h
 | slc0 => exact .slc0
 | map0 => exact .map0
 | map b i h => exact .map b i h
 | func fn f f' c c' h1 h2 k1 k2 => exact .func fn f f' c c' h1 h2 k1 k2
 | nilFunc => exact .nilFunc
 | nilIface => exact .nilIface
 | iface t v v' h => exact .iface t v v' h
 | agg xs ys h1 k1 => exact .agg xs ys h1 k1
 | tuple xs ys h1 k1 => exact .tuple xs ys h1 k1
noncomputable def cutX (F : FuncId → Option RFunc) (f : FuncId) (lim : Nat) (args : List Value) (h : AH) : Option (Value × AH) :=
 open Classical in if hk : ∃ k v h', acall noExt F k lim f args h = some (v, h') then (acall noExt F hk.choose lim f args h).map (fun r => (cutV r.1, r.2)) else none
theorem cutX_inv {F : FuncId → Option RFunc} {f : FuncId} {args : List Value} {v : Value} (ha : cutX F f lim args h = some (v, h')) : ∃ k u, acall noExt F k lim f args h = some (u, h') ∧ v = cutV u := by
 unfold cutX at ha
 split at ha
 ·obtain ⟨r, h1, h2⟩ := Option.map_eq_some_iff.1 ha
  injection h2 with e1 e2
  subst e2
  exact ⟨_, r.1, h1, e1.symm⟩
 ·cases ha
theorem Ret.cut {X : Ext} {F : FuncId → Option RFunc} {f : FuncId} {args : List Value} {Q : Value → AH → Prop} (hX : X f = some (cutX F f)) (hr : Ret noExt F lim f args h Q) : Ret X F lim f args h (fun v h' => ∃ u, Q u h' ∧ v = cutV u) := by
 obtain ⟨k, v, h1, hk, hq⟩ := hr
 have he : ∃ k v h', acall noExt F k lim f args h = some (v, h') := ⟨k, v, h1, hk⟩
 refine ⟨1, cutV v, h1, ?_, v, hq, rfl⟩
 simp only [acall, hX]
 unfold cutX
 rw [dif_pos he]
 obtain ⟨v2, h2, hk2⟩ := he.choose_spec
 have e1 := acall_mono (Nat.le_max_left k he.choose) _ _ _ _ _ hk
 have e2 := acall_mono (Nat.le_max_right k he.choose) _ _ _ _ _ hk2
 rw [e1] at e2
 injection e2 with e2
 injection e2 with q1 q2
 subst q1; subst q2
 rw [hk2]
 rfl
noncomputable def libX (F : FuncId → Option RFunc) (i d : FuncId) : Ext := fun g => if g = i then some insA else if g = d then some (cutX F d) else none
theorem libX_ok {ρ : Ren} (L : Lays2.n21 P ρ) (hm : P.follows .mixedOrders = true) (d : FuncId) : XOk P nb (libX (Rs.func P) (ρ.f 21) d) := by
 have inv : ∀ f g, libX (Rs.func P) (ρ.f 21) d f = some g → (f = ρ.f 21 ∧ g = insA) ∨ (f = d ∧ g = cutX (Rs.func P) d) := fun f g hg => by
  unfold libX at hg
  split at hg
  ·injection hg with hg; exact .inl ⟨by assumption, hg.symm⟩
  ·split at hg
   ·injection hg with hg; exact .inr ⟨by assumption, hg.symm⟩
   ·cases hg
 refine ⟨fun f g hg lim args h v h' hl ha => ?_, fun f g hg lim args h v h' r w args' hnb hlim ha hh hf hv => ?_⟩
 ·rcases inv f g hg with ⟨rfl, rfl⟩ | ⟨rfl, rfl⟩
  ·exact insA_pre hl ha
  ·obtain ⟨k, u, hk, rfl⟩ := cutX_inv ha
   exact acall_pre (P := P) (nb := nb) noExt_ok k lim _ args h u h' hl hk
 ·rcases inv f g hg with ⟨rfl, rfl⟩ | ⟨rfl, rfl⟩
  ·exact insA_sound L hnb ha hh hf hv
  ·obtain ⟨k, u, hk, rfl⟩ := cutX_inv ha
   obtain ⟨h1, h2⟩ := acall_sound noExt_ok hm k lim _ args h u h' r w args' hnb hlim hk hh hf hv
   exact ⟨h1, h2.mono fun e w' ⟨r', v', he, hp, hvr⟩ => ⟨r', v', he, hp, hvr.cut⟩⟩
def ClosedX (X : Ext) (P : Program) (f : FuncId) (v : Value) : Prop := flat v = true ∧ ∃ k, (acall X (Rs.func P) k 0 f [] []).map Prod.fst = some v
def clExtX (X : Ext) (l : List (FuncId × Value)) : Ext := fun f => match l.find? fun p => p.1 == f with
 | some p => some fun lim args h => if args.isEmpty = true then some (p.2, h) else none
 | none => X f
theorem clExtX_ok {X X0 : Ext} (hX : ∀ nb, XOk P nb X) (hX0 : ∀ nb, XOk P nb X0) (hm : P.follows .mixedOrders = true) {l : List (FuncId × Value)} (hl : ∀ p ∈ l, ClosedX X0 P p.1 p.2) : XOk P nb (clExtX X l) := by
 have inv : ∀ f g, clExtX X l f = some g → X f = some g ∨ ∃ v, ClosedX X0 P f v ∧ g = fun lim args h => if args.isEmpty = true then some (v, h) else none := fun f g hg => by
  unfold clExtX at hg
  split at hg
  ·rename_i p h1
   have h2 := List.find?_some h1
   have h3 := List.mem_of_find?_eq_some h1
   have : p.1 = f := by simpa using h2
   injection hg with hg
   exact .inr ⟨p.2, this ▸ hl p h3, hg.symm⟩
  ·exact .inl hg
 refine ⟨fun f g hg lim args h v h' hll ha => ?_, fun f g hg lim args h v h' r w args' hnb hlim ha hh hf hv => ?_⟩
 ·rcases inv f g hg with hg | ⟨u, _, rfl⟩
  ·exact (hX nb).pre f g hg lim args h v h' hll ha
  simp only at ha
  split at ha
  ·injection ha with ha; injection ha with e1 e2; subst e2; exact Pre.refl _ _
  ·cases ha
 ·rcases inv f g hg with hg | ⟨u, ⟨hfl, k, hk⟩, rfl⟩
  ·exact (hX nb).sound f g hg lim args h v h' r w args' hnb hlim ha hh hf hv
  simp only at ha
  split at ha
  ·rename_i hemp
   injection ha with ha; injection ha with e1 e2; subst e1; subst e2
   have hargs : args = [] := by simpa using hemp
   subst hargs
   obtain rfl := hv.nil_inv
   obtain ⟨⟨u', h0'⟩, hk2, hu⟩ := Option.map_eq_some_iff.1 hk
   simp only at hu
   subst hu
   have e0 : HR 0 (fun _ => none) [] w := ⟨(fun h => by cases h), (fun h => by cases h), (fun h => by cases h), (fun h => by cases h), (fun h => by cases h), (fun h => by cases h), fun p hp => ⟨(hh.glob p hp).1, fun h => by cases h⟩⟩
   obtain ⟨h1, h2⟩ := acall_sound (nb := 0) (hX0 0) hm k 0 f [] [] u' h0' (fun _ => none) w [] (Nat.le_refl _) (Nat.le_refl _) hk2 e0 (fun _ _ _ => rfl) (VL.nil _)
   refine ⟨h1, h2.mono fun e w' he => ?_⟩
   obtain ⟨r', v', rfl, p1, p2⟩ := he
   have hv' := p2.eq_of_flat hfl
   subst hv'
   have hkeep : ∀ c, c < w.heap.size → w'.heap[c]? = w.heap[c]? := fun c hc => p1.keep c hc fun hx => by
    obtain ⟨b, i, _, h4, _⟩ := hx
    simp at h4
   refine ⟨r, v', rfl, ⟨hh.keep hkeep p1.size, Rho.Le.refl _, fun h => .inl h, Nat.le_refl _, p1.os, p1.tape, p1.output, p1.size, fun c hc _ => hkeep c hc⟩, VR.flat hfl⟩
  ·cases ha
end
end
section
section
variable {X : Ext} {F : FuncId → Option RFunc} {lim : Nat} {L : Al} {h0 h : AH} {K : Value → AH → Prop} {l : List Item}
theorem OP.slice3 {sz : Nat} {x lo hi mx : Operand} {b o : Nat} {m : Option Nat} {n c i j k : Nat} (hx : lev L x = some (.slice (some ⟨b, o, m⟩) n c)) (hm : m = none ∨ m = some sz) (hlo : lev L lo = some (.int .i64 (i : Int))) (hhi : lev L hi = some (.int .i64 (j : Int))) (hmx : lev L mx = some (.int .i64 (k : Int))) (hij : i ≤ j) (hjk : j ≤ k) (hkc : k ≤ c) (hK : ∀ v, K v h) : OP X F lim (.slice sz x (some lo) (some hi) (some mx)) L h K :=
 .of (v := .slice (some ⟨b, o + i * sz, none⟩) (j - i) (k - i)) (fun _ e he => by
  simp only [aop, he.ev hx, aSlice, if_pos hm, aCut, Option.map_some, he.ev hlo, he.ev hhi, he.ev hmx, bound]
  have e1 : ((0 : Nat) : Int) ≤ k ∧ (k : Int) ≤ (c : Int) := by omega
  have e2 : ((0 : Nat) : Int) ≤ j ∧ (j : Int) ≤ (k : Int) := by omega
  have e3 : ((0 : Nat) : Int) ≤ i ∧ (i : Int) ≤ (j : Int) := by omega
  simp_all) (hK _)
theorem OL.clear1 {z : Value} {x : Operand} {b o c k : Nat} {m : Option Nat} {cs cs' : List Value} {l' : List Item} (hL : Loc h0 h l) (hlim : lim ≤ h0.length) (hx : lev L x = some (.slice (some ⟨b, o, m⟩) 1 c)) (hc : l[k]? = some (bx b cs)) (hz : cellOk z = true) (ho : o + 1 ≤ cs.length) (hcs : over cs o [z] = cs') (hl' : l.set k (bx b cs') = l') (hk : ∀ h', Loc h0 h' l' → K (.tuple #[]) h') : OP X F lim (.clear [z] x) L h K := fun e he => by
 have hcell := hL.cell hc
 refine ⟨0, .tuple #[], h.set b (.cells cs'), ?_, hk _ (hl' ▸ hL.set hc _)⟩
 have hw : aWrite lim h b o [z] = some (h.set b (.cells cs')) := by
  simp only [aWrite]
  rw [if_neg (by simp), if_pos ⟨hL.own hc hlim, by simp [hz]⟩]
  simp only [cellsOf, hcell, Option.bind_some]
  rw [if_pos (by simpa using ho), hcs]
 simp only [aop, he.ev hx]
 show Option.map (fun h => (Value.tuple #[], h)) (aWrite lim h b o [z]) = _
 rw [hw]
 rfl
theorem OL.callPut {f : Operand} {g : FuncId} {xs : List Operand} {vs : List Value} {k lo hi n n' : Nat} {a : Option Addr} {cs cs' : List Value} {W : Option Addr → Value} (hL : Loc h0 h l) (hk0 : l[k]? = some (ap lo hi 1 a n cs)) (hf : lev L f = some (.func (.func g) #[] #[])) (ha : levs L xs = some vs)
  (hr : Ret X F lim g vs h fun v h' => h.length ≤ h'.length ∧ (∀ b, (b < lo ∨ hi ≤ b) → b < h.length → h'[b]? = h[b]?) ∧ ∃ a', v = W a' ∧ Sl 1 h' a' n' n' cs' ∧ Within lo hi 1 a' n') (hk : ∀ a' h', Loc h0 h' (l.set k (sl lo hi 1 a' n' n' cs')) → K (W a') h') : OP X F lim (.call f xs) L h K :=
 .call hf ha (hr.mono fun v h' ⟨h1, h2, a', hv, hS, hW⟩ => hv ▸ hk a' h' (by
  have hset : LocB h0 h' h.length (l.set k (sl lo hi 1 a' n' n' cs')) := LocB.put hL (Nat.le_refl _) h1 hk0 rfl rfl ⟨hS, hW⟩ fun b hb hbl => h2 b hb hbl
  exact LocB.up hset h1))
theorem insert_run {g : FuncId} (hX : X g = some insA) {lo hi n i vb : Nat} {a : Option Addr} {xs : List Int} {x : Int} (hlo : lim ≤ lo) (hle : lo ≤ hi) (hhi : hi ≤ h.length) (hn : n ≤ 1000) (hA : Ap lo hi 1 h a n (ints xs)) (hi' : i ≤ n) (hvl : lim ≤ vb) (hvo : vb < lo ∨ hi ≤ vb) (hv : h[vb]? = some (.cells [.int .i64 x])) :
  Ret X F lim g [.slice a n n, .int .i64 (i : Int), .slice (some ⟨vb, 0, none⟩) 1 1] h fun v h' => h.length ≤ h'.length ∧ (∀ b, (b < lo ∨ hi ≤ b) → b < h.length → h'[b]? = h[b]?) ∧ ∃ a', v = .slice a' (n + 1) (n + 1) ∧ Ap h.length h'.length 1 h' a' (n + 1) (ints (xs.take i ++ x :: xs.drop i)) := by
 have hlen := hA.1
 rw [ints_len] at hlen
 have hcell : cellsOf h vb = some [.int .i64 x] := by simp [cellsOf, hv]
 have hcond : n = n ∧ 0 ≤ (i : Int) ∧ (i : Int) ≤ n ∧ n ≤ 1000 ∧ lim ≤ vb ∧ cellOk (.int .i64 x) = true := ⟨rfl, by omega, by omega, hn, hvl, rfl⟩
 have hnew : (ints xs).take i ++ Value.int .i64 x :: (ints xs).drop i = ints (xs.take i ++ x :: xs.drop i) := by simp [ints]
 rcases hA.2 with ⟨h0, hs⟩ | ⟨hpos, b, rfl, hb, hb1, hb2⟩
 ·subst h0
  have hxs : xs = [] := List.eq_nil_of_length_eq_zero (by omega)
  subst hxs
  have h0i : i = 0 := by omega
  subst h0i
  refine ⟨1, .slice (some ⟨h.length, 0, some 1⟩) 1 1, h ++ [.cells [.int .i64 x]], ?_, by simp, fun b hb hbl => List.getElem?_append_left hbl, some ⟨h.length, 0, some 1⟩, rfl, rfl, .inr ⟨by omega, h.length, rfl, by simp [ints], Nat.le_refl _, by simp⟩⟩
  simp only [acall, hX, insA, hcell]
  have hcond' := hcond
  simp only [true_and] at hcond'
  simp only [true_and]
  rw [if_pos hcond']
  cases a with
  | none => simp
  | some q =>
   obtain ⟨qb, qo, qm⟩ := q
   have : qm = none := hs _ rfl
   subst this
   simp
 ·have hcb : cellsOf h b = some (ints xs) := by simp [cellsOf, hb]
  have hbl := (List.getElem?_eq_some_iff.1 hb).1
  refine ⟨1, .slice (some ⟨h.length, 0, some 1⟩) (n + 1) (n + 1), h.set b .dead ++ [.cells ((ints xs).take i ++ Value.int .i64 x :: (ints xs).drop i)], ?_, by simp, fun b' hb' hbl' => ?_, some ⟨h.length, 0, some 1⟩, rfl, ?_, .inr ⟨by omega, h.length, rfl, ?_, Nat.le_refl _, by simp⟩⟩
  ·simp only [acall, hX, insA, hcell]
   have hcond' := hcond
   simp only [true_and] at hcond'
   simp only [true_and]
   rw [if_pos hcond']
   simp only [hcb]
   rw [if_pos ⟨Nat.le_trans hlo hb1, by intro he; subst he; omega, hpos⟩, if_pos ⟨by rw [ints_len]; omega, ints_ok _⟩]
   simp
  ·rw [List.getElem?_append_left (by rw [List.length_set]; exact hbl'), List.getElem?_set_ne (by omega)]
  ·rw [ints_len]; simp; omega
  ·rw [← hnew, List.getElem?_append_right (by simp), List.length_set]
   simp
end
end
end Go.Proofs.YtalknjppnkpmmaaDoorW.Ai
