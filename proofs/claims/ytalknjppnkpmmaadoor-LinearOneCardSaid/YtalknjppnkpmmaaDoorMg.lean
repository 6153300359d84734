/-
 The small machine: calls without arguments, run by the kernel; statements as a whole. Of no program.
-/
import Derived.Test.YtalknjppnkpmmaaDoorMd
import Derived.WalkKit
import Derived.ProofKit
import Derived.RowKit
import Derived.ShutString
import Derived.ChangeMaps5
set_option linter.unusedVariables false
set_option linter.unusedSimpArgs false
namespace Go.Proofs.YtalknjppnkpmmaaDoorW.Ai
section
section
variable {P : Program} {nb : Nat}
theorem HR.keep {r : Rho} {h : AH} {w w' : World} (hr : HR nb r h w) (hk : ∀ c, c < w.heap.size → w'.heap[c]? = w.heap[c]?) (hs : w.heap.size ≤ w'.heap.size) : HR nb r h w' where
 cells := fun {b i cs} hb hh j u hu => by
  obtain ⟨v, hv, k⟩ := hr.cells hb hh j u hu
  refine ⟨v, ?_, k⟩
  unfold World.cell? at *
  rw [hk _ (hr.bd hb (by rw [hh]; rfl))]
  exact hv
 own := fun {b i cs} hb ho hh => by rw [hk _ (hr.bd hb (by rw [hh]; rfl))]; exact hr.own hb ho hh
 inj := hr.inj
 map := fun {b i es} hb hh => by rw [hk _ (hr.bd hb (by rw [hh]; rfl))]; exact hr.map hb hh
 bd := fun {b i} hb hl => Nat.lt_of_lt_of_le (hr.bd hb hl) hs
 mine := hr.mine
 glob := fun p hp => ⟨by
  obtain ⟨t, z, g1⟩ := (hr.glob p hp).1
  exact ⟨t, z, by rw [hk _ (Array.getElem?_eq_some_iff.1 g1).1]; exact g1⟩, (hr.glob p hp).2⟩
end
end
section
section
variable {P : Program} {r : Rho} {h : AH} {w : World}
structure H0 (r : Rho) (h : AH) (w : World) : Prop where
 cells : ∀ {b i cs}, r b = some i → h[b]? = some (.cells cs) → ∀ (j : Nat) u, cs[j]? = some u → ∃ v, w.cell? ⟨i.blk, i.base + j, none⟩ = some v ∧ VR r u v
 own : ∀ {b i}, r b = some i → i.own = false
 dom : ∀ {b i}, r b = some i → b < h.length
 nomap : ∀ {b : Nat} {es : List (Value × Value)}, h[b]? ≠ some (Blk.map es)
 bd : ∀ {b : Nat} {i : Im}, r b = some i → live h[b]? = true → i.blk < w.heap.size
 glob : ∀ p, p ∈ gTabs → ∃ t z, w.heap[p.1]? = some (.cells p.2 t z)
theorem H0.hr (k : H0 r h w) : HR h.length r h w where
 cells := k.cells
 own := fun hb ho _ => by rw [k.own hb] at ho; cases ho
 inj := fun hb _ ho _ _ _ => by rw [k.own hb] at ho; cases ho
 map := fun _ hh => absurd hh k.nomap
 bd := k.bd
 mine := fun hb hn => absurd (k.dom hb) (by omega)
 glob := fun p hp => ⟨k.glob p hp, fun hb ho => by rw [k.own hb] at ho; cases ho⟩
theorem H0.empty (w : World) (hg : ∀ p, p ∈ gTabs → ∃ t z, w.heap[p.1]? = some (.cells p.2 t z)) : H0 (fun _ => none) [] w := ⟨(fun h => by cases h), (fun h => by cases h), (fun h => by cases h), (fun {b es} h => by simp at h), (fun h => by cases h), hg⟩
def AIs (h : AH) : CK → Value → Prop
 | .f x, v => FIs x v
 | .sl es B, v => ∃ a n cs, v = .slice a n n ∧ Sl es.length h a n n cs ∧ FRow es n cs ∧ n * B ≤ 140737488351232 ∧ n ≤ maxLen ∧ (a = none ∨ ∃ b, a = some ⟨b, 0, some es.length⟩)
def AOk (h : AH) (ks : List CK) (cs : List Value) : Prop := cs.length = ks.length ∧ ∀ (i : Nat) k c, ks[i]? = some k → cs[i]? = some c → AIs h k c
theorem AIs.pfx {h' : AH} {k : CK} {v : Value} (ha : AIs h k v) (hp : Pfx h h') : AIs h' k v := by
 cases k with
 | f x => exact ha
 | sl es B =>
  obtain ⟨a, n, cs, h1, h2, h3⟩ := ha
  exact ⟨a, n, cs, h1, h2.pfx hp, h3⟩
def Wide : CK → Prop
 | .f _ => True
 | .sl es _ => 0 < es.length
theorem add_off {a : Addr} (hs : a.spot = none) (j : Nat) : a.add j = ⟨a.block, a.off + j, none⟩ := by
 obtain ⟨b, o, s⟩ := a
 simp only at hs
 subst hs
 unfold Addr.add
 by_cases hj : j = 0
 ·subst hj; simp
 ·simp [hj]
theorem FRow.flat {es : List FK} {n : Nat} {cs : List Value} (hf : FRow es n cs) (he : 0 < es.length) {j : Nat} {u : Value} (hu : cs[j]? = some u) : Ai.flat u = true := by
 have hj := (List.getElem?_eq_some_iff.1 hu).1
 rw [hf.1] at hj
 have h1 : j / es.length < n := by rwa [Nat.div_lt_iff_lt_mul he]
 have h2 : j % es.length < es.length := Nat.mod_lt _ he
 exact (hf.2 (j / es.length) h1 (j % es.length) _ u (List.getElem?_eq_getElem h2) (by rw [Nat.mul_comm, Nat.div_add_mod]; exact hu)).flat.1
theorem H0.push (k : H0 r h w) (i : Im) (hi : i.own = false) (x : Blk) (hx : x = .dead ∨ ∃ cs, x = .cells cs ∧ i.blk < w.heap.size ∧ ∀ (j : Nat) u, cs[j]? = some u → Ai.flat u = true ∧ w.cell? ⟨i.blk, i.base + j, none⟩ = some u) :
  ∃ s : Rho, r.Le s ∧ s h.length = some i ∧ H0 s (h ++ [x]) w := by
 have hle : Rho.Le r (fun b => if b = h.length then some i else r b) := fun b j hb => by
  have := k.dom hb
  show (if b = h.length then some i else r b) = some j
  rw [if_neg (by omega)]; exact hb
 have inv : ∀ {b : Nat} {j : Im}, (fun b => if b = h.length then some i else r b) b = some j → (b = h.length ∧ j = i) ∨ (b < h.length ∧ r b = some j) := fun {b j} hb => by
  simp only at hb
  split at hb
  ·injection hb with hb; exact .inl ⟨‹_›, hb.symm⟩
  ·exact .inr ⟨k.dom hb, hb⟩
 have old : ∀ {b : Nat}, b < h.length → (h ++ [x])[b]? = h[b]? := fun hb => List.getElem?_append_left hb
 have top : (h ++ [x])[h.length]? = some x := by simp
 refine ⟨_, hle, by simp, ⟨fun {b j cs} hb hc q u hu => ?_, fun {b j} hb => ?_, fun {b j} hb => ?_, fun {b es} hb => ?_, fun {b j} hb hl => ?_, k.glob⟩⟩
 ·rcases inv hb with ⟨rfl, rfl⟩ | ⟨h1, h2⟩
  ·rw [top] at hc
   injection hc with hc
   rcases hx with hx | ⟨ds, hx, _, h3⟩
   ·rw [hx] at hc; cases hc
   ·rw [hx] at hc
    injection hc with hc
    subst hc
    obtain ⟨h4, h5⟩ := h3 q u hu
    exact ⟨u, h5, VR.flat h4⟩
  ·rw [old h1] at hc
   obtain ⟨v, hv, hr⟩ := k.cells h2 hc q u hu
   exact ⟨v, hv, hr.mono hle⟩
 ·rcases inv hb with ⟨_, rfl⟩ | ⟨_, h2⟩
  ·exact hi
  ·exact k.own h2
 ·rcases inv hb with ⟨rfl, _⟩ | ⟨h1, _⟩
  ·simp
  ·simp; omega
 ·rcases Nat.lt_trichotomy b h.length with h1 | h1 | h1
  ·rw [old h1] at hb; exact k.nomap hb
  ·subst h1
   rw [top] at hb
   injection hb with hb
   rcases hx with hx | ⟨ds, hx, _⟩ <;> (rw [hx] at hb; cases hb)
  ·rw [List.getElem?_eq_none (by simp; omega)] at hb; cases hb
 ·rcases inv hb with ⟨rfl, rfl⟩ | ⟨h1, h2⟩
  ·rw [top] at hl
   rcases hx with hx | ⟨ds, hx, h3, _⟩
   ·rw [hx] at hl; cases hl
   ·exact h3
  ·rw [old h1] at hl; exact k.bd h2 hl
theorem open_one {k : CK} {v : Value} (hv : CIs w k v) (hk : Wide k) (hh : H0 r h w) : ∃ (s : Rho) (h' : AH) (u : Value), r.Le s ∧ Pfx h h' ∧ H0 s h' w ∧ VR s u v ∧ AIs h' k u := by
 cases k with
 | f x =>
  have hv' : FIs x v := hv
  exact ⟨r, h, v, Rho.Le.refl r, Pfx.refl h, hh, VR.flat hv'.flat.1, hv'⟩
 | sl es B =>
  rcases hv with rfl | ⟨a, n, c, cs, rfl, hnc, hB, hm, hrow, hcell⟩
  ·exact ⟨r, h, .slice none 0 0, Rho.Le.refl r, Pfx.refl h, hh, VR.slc0, none, 0, [], rfl, ⟨rfl, Nat.le_refl _, by simp, fun _ => rfl⟩, ⟨by simp, fun i hi => by omega⟩, by simp, by simp [maxLen], .inl rfl⟩
  ·rcases Nat.eq_zero_or_pos n with h0 | h0
   ·subst h0
    have hcs : cs = [] := List.eq_nil_of_length_eq_zero (by rw [hrow.1]; simp)
    subst hcs
    obtain ⟨s, h1, h2, h3⟩ := hh.push ⟨a.block, 0, 0, false⟩ rfl .dead (.inl rfl)
    refine ⟨s, h ++ [.dead], .slice (some ⟨h.length, 0, some es.length⟩) 0 0, h1, Pfx.push _, h3, VR.slcIn _ _ _ _ _ _ _ _ h2 rfl (fun hx => ?_) (Nat.le_refl _) (Nat.zero_le _) (fun hx => by cases hx), _, 0, [], rfl, ⟨?_, Nat.le_refl _, by simp, fun hx => by cases hx⟩, hrow, hB, hm, .inr ⟨_, rfl⟩⟩
    ·rcases hx with hx | ⟨hx, _⟩
     ·omega
     ·cases hx
    ·simp [aElems]
   ·have hes : 0 < es.length := hk
    have hpos : 0 < cs.length := by rw [hrow.1]; exact Nat.mul_pos h0 hes
    have hc0 := hcell 0 _ (List.getElem?_eq_getElem hpos)
    have ha0 : a.add 0 = a := by unfold Addr.add; simp
    rw [ha0] at hc0
    have hsp : a.spot = none ∧ a.block < w.heap.size := by
     unfold World.cell? at hc0
     split at hc0
     ·rename_i h1
      split at hc0
      ·cases hc0
      ·rename_i h2
       exact ⟨by simpa using h2, (Array.getElem?_eq_some_iff.1 h1).1⟩
     ·cases hc0
    obtain ⟨s, h1, h2, h3⟩ := hh.push ⟨a.block, a.off, 0, false⟩ rfl (.cells cs) (.inr ⟨cs, rfl, hsp.2, fun j u hj => ⟨hrow.flat hes hj, by have := hcell j u hj; rwa [add_off hsp.1] at this⟩⟩)
    refine ⟨s, h ++ [.cells cs], .slice (some ⟨h.length, 0, some es.length⟩) n n, h1, Pfx.push _, h3, VR.slcIn _ _ _ _ _ _ _ _ h2 rfl (fun _ => ⟨rfl, hsp.1⟩) (Nat.le_refl _) hnc (fun hx => by cases hx), _, n, cs, rfl, ⟨?_, Nat.le_refl _, hrow.1, fun hx => by cases hx⟩, hrow, hB, hm, .inr ⟨_, rfl⟩⟩
    simp only [aElems, Nat.le_refl, if_true]
    rw [if_neg (by have := Nat.mul_pos h0 hes; omega)]
    have : (h ++ [Blk.cells cs])[h.length]? = some (.cells cs) := by simp
    simp only [cellsOf, this, Option.bind_some, List.drop_zero]
    rw [if_pos (by rw [hrow.1]; omega), ← hrow.1, List.take_length]
theorem open_cells : ∀ {ks : List CK} {cs : List Value} {r : Rho} {h : AH}, COk w ks cs → (∀ k ∈ ks, Wide k) → H0 r h w → ∃ (s : Rho) (h' : AH) (us : List Value), r.Le s ∧ Pfx h h' ∧ H0 s h' w ∧ VL s us cs ∧ AOk h' ks us
 | [], cs, r, h, hc, hw, hh => by
  obtain rfl : cs = [] := List.eq_nil_of_length_eq_zero hc.1
  exact ⟨r, h, [], Rho.Le.refl r, Pfx.refl h, hh, VL.nil r, rfl, fun i k c hk => by simp at hk⟩
 | k :: ks, [], r, h, hc, hw, hh => by have := hc.1; simp at this
 | k :: ks, c :: cs, r, h, hc, hw, hh => by
  obtain ⟨s, h1, u, a1, a2, a3, a4, a5⟩ := open_one (hc.2 0 k c rfl rfl) (hw k (by simp)) hh
  obtain ⟨s2, h2, us, b1, b2, b3, b4, b5⟩ := open_cells (ks := ks) (cs := cs) ⟨by have := hc.1; simpa using this, fun i k' c' hk hc' => hc.2 (i + 1) k' c' (by simpa using hk) (by simpa using hc')⟩ (fun k hk => hw k (by simp [hk])) a3
  refine ⟨s2, h2, u :: us, a1.trans b1, a2.trans b2, b3, VL.cons (a4.mono b1) b4, by simp [b5.1], fun i k' c' hk hc' => ?_⟩
  cases i with
  | zero => simp at hk hc'; subst hk; subst hc'; exact a5.pfx b2
  | succ i => exact b5.2 i k' c' (by simpa using hk) (by simpa using hc')
def ArgIs (w : World) (g : Bool × List CK) (v : Value) : Prop := if g.1 then ∃ cs : List Value, v = .agg cs.toArray ∧ COk w g.2 cs else COk w g.2 [v]
def AArg (h : AH) (g : Bool × List CK) (v : Value) : Prop := if g.1 then ∃ cs : List Value, v = .agg cs.toArray ∧ AOk h g.2 cs else AOk h g.2 [v]
inductive Args (w : World) : List (Bool × List CK) → List Value → Prop where
 | nil : Args w [] []
 | cons {g gs v vs} (h : ArgIs w g v) (k : Args w gs vs) : Args w (g :: gs) (v :: vs)
inductive AArgs (h : AH) : List (Bool × List CK) → List Value → Prop where
 | nil : AArgs h [] []
 | cons {g gs v vs} (h1 : AArg h g v) (k : AArgs h gs vs) : AArgs h (g :: gs) (v :: vs)
theorem AOk.pfx {h' : AH} {ks : List CK} {cs : List Value} (ha : AOk h ks cs) (hp : Pfx h h') : AOk h' ks cs := ⟨ha.1, fun i k c hk hc => (ha.2 i k c hk hc).pfx hp⟩
theorem AArg.pfx {h' : AH} {g : Bool × List CK} {v : Value} (ha : AArg h g v) (hp : Pfx h h') : AArg h' g v := by
 unfold AArg at *
 split at ha
 ·rename_i hg; rw [if_pos hg]; obtain ⟨cs, h1, h2⟩ := ha; exact ⟨cs, h1, h2.pfx hp⟩
 ·rename_i hg; rw [if_neg hg]; exact ha.pfx hp
theorem open_args : ∀ {gs : List (Bool × List CK)} {vs : List Value} {r : Rho} {h : AH}, Args w gs vs → (∀ g ∈ gs, ∀ k ∈ g.2, Wide k) → H0 r h w → ∃ (s : Rho) (h' : AH) (us : List Value), r.Le s ∧ Pfx h h' ∧ H0 s h' w ∧ VL s us vs ∧ AArgs h' gs us
 | _, _, r, h, .nil, hw, hh => ⟨r, h, [], Rho.Le.refl r, Pfx.refl h, hh, VL.nil r, .nil⟩
 | g :: gs, v :: vs, r, h, .cons hv hvs, hw, hh => by
  have one : ∃ (s : Rho) (h' : AH) (u : Value), r.Le s ∧ Pfx h h' ∧ H0 s h' w ∧ VR s u v ∧ AArg h' g u := by
   unfold ArgIs at hv
   split at hv
   ·rename_i hg
    obtain ⟨cs, rfl, hc⟩ := hv
    obtain ⟨s, h1, us, a1, a2, a3, a4, a5⟩ := open_cells hc (hw g (by simp)) hh
    exact ⟨s, h1, .agg us.toArray, a1, a2, a3, VR.aggL a4, by unfold AArg; rw [if_pos hg]; exact ⟨us, rfl, a5⟩⟩
   ·rename_i hg
    obtain ⟨s, h1, us, a1, a2, a3, a4, a5⟩ := open_cells hv (hw g (by simp)) hh
    cases us with
    | nil => have := a4.1; simp at this
    | cons u us =>
     obtain ⟨y, ys, hy, k1, k2⟩ := a4.cons_inv
     injection hy with hy1 hy2
     subst hy1; subst hy2
     have : us = [] := List.eq_nil_of_length_eq_zero (by rw [k2.1]; rfl)
     subst this
     exact ⟨s, h1, u, a1, a2, a3, k1, by unfold AArg; rw [if_neg hg]; exact a5⟩
  obtain ⟨s, h1, u, a1, a2, a3, a4, a5⟩ := one
  obtain ⟨s2, h2, us, b1, b2, b3, b4, b5⟩ := open_args hvs (fun g hg => hw g (by simp [hg])) a3
  exact ⟨s2, h2, u :: us, a1.trans b1, a2.trans b2, b3, VL.cons (a4.mono b1) b4, .cons (a5.pfx b2) b5⟩
theorem law_calls {X : Ext} (hg : ∀ p, p ∈ gTabs → ∃ t z, w.heap[p.1]? = some (.cells p.2 t z)) (hm : P.follows .mixedOrders = true) (hX : ∀ nb, XOk P nb X) {f : FuncId} {gs : List (Bool × List CK)} {args : List Value} (ha : Args w gs args) (hw : ∀ g ∈ gs, ∀ k ∈ g.2, Wide k)
  (H : ∀ (h : AH) (us : List Value), AArgs h gs us → Ret X (Rs.func P) h.length f us h fun v _ => v = .bool true) : Calls P f args.toArray w fun e w' => e = .returned (.bool true) ∧ Go.RowKit.Below w.heap.size w w' := by
 obtain ⟨r, h, us, _, _, h0, hvl, hau⟩ := open_args ha hw (H0.empty w hg)
 obtain ⟨k, v, h', h1, rfl⟩ := H h us hau
 obtain ⟨_, h2⟩ := acall_sound (hX h.length) hm k h.length f us h (.bool true) h' r w args (Nat.le_refl _) (Nat.le_refl _) h1 h0.hr (fun b hb _ => by
  cases hx : r b with
  | none => rfl
  | some i => exact absurd (h0.dom hx) (by omega)) hvl
 refine h2.mono fun e w' he => ?_
 obtain ⟨r', v', rfl, p1, p2⟩ := he
 refine ⟨by rw [p2.bool_inv], p1.os, p1.tape, p1.output, p1.size, fun c hc => p1.keep c hc fun hx => ?_⟩
 obtain ⟨b, i, h3, h4, _⟩ := hx
 omega
end
end
section
open Go.ChangeShapes Go.WideShapes Go.RowKit
section
variable {H : Type} {P : Program} {enc : TypeId × Value → H} {w : World} {spare : Nat → Bool} {held : Bool} {v : Value} {x : DataW H} {p : List MemPlace} {ts : List TypeId} {ds : List (DataW H)} {j : Nat} {t : TypeId} {d : Nat} {ks : List CK} {r : Reach} {b : Nat}
theorem weights_at : ∀ (ts : List TypeId) (ds : List (DataW H)) (j : Nat) {t : TypeId} {x : DataW H}, (DataW.weightsEach P ts ds).all (· ≤ reachBytes) = true → ts[j]? = some t → ds[j]? = some x → (x.weights P t).all (· ≤ reachBytes) = true
 | [], ds, j, t, x, _, h1, _ => by simp at h1
 | t0 :: ts, [], j, t, x, _, _, h2 => by simp at h2
 | t0 :: ts, d0 :: ds, 0, t, x, h0, h1, h2 => by
  simp only [DataW.weightsEach, List.all_append, Bool.and_eq_true] at h0
  simp at h1 h2
  subst h1; subst h2
  exact h0.1
 | t0 :: ts, d0 :: ds, j + 1, t, x, h0, h1, h2 => by
  simp only [DataW.weightsEach, List.all_append, Bool.and_eq_true] at h0
  exact weights_at ts ds j h0.2 (by simpa using h1) (by simpa using h2)
theorem arg_cok (hk : ckinds P d t = some ks) (hsz : (DataW.weightsEach P ts ds).all (· ≤ reachBytes) = true) (ht : ts[j]? = some t) (hd : ds[j]? = some x) (hx : DataW.Trod enc P w 0 spare held t v x p) : COk w ks v.cells.toList := by
 obtain ⟨fuel, hf⟩ := hx
 exact open_t d t ks hk fuel _ (x, p) hf (weights_at ts ds j hsz ht hd)
theorem argIs_slice {e : TypeId} (hu : P.underlying t = some (.slice e)) (hv : Value.okWide P w r b t v) (hc : COk w ks v.cells.toList) : ArgIs w (false, ks) v := by
 obtain ⟨a, n, c, rfl⟩ := okWide_slice hu hv
 exact hc
theorem argIs_int {k : IntKind} (hu : P.underlying t = some (.int k)) (hv : Value.okWide P w r b t v) (hx : DataW.Trod enc P w 0 spare held t v x p) (hc : COk w ks v.cells.toList) : ArgIs w (false, ks) v := by
 obtain ⟨a, rfl, _⟩ := open_int hu hv hx
 exact hc
theorem trod_below (h : DataW.Trod enc P w b spare held t v x p) : ∀ z ∈ p, z.block < w.heap.size := by
 obtain ⟨m, hm⟩ := h
 exact DataW.trod_lt m _ _ _ hm
end
def wideB : List (Bool × List CK) → Bool
 | gs => gs.all fun g => g.2.all fun k => match k with | .f _ => true | .sl es _ => decide (0 < es.length)
theorem wide_of {gs : List (Bool × List CK)} (h : wideB gs = true) : ∀ g ∈ gs, ∀ k ∈ g.2, Wide k := fun g hg k hk => by
 unfold wideB at h
 simp only [List.all_eq_true] at h
 have := h g hg k hk
 cases k with
 | f x => trivial
 | sl es B => exact of_decide_eq_true (p := 0 < es.length) this
/-! ### an argument's words -/
section
variable {h : AH}
theorem AArg.int {v : Value} (ha : AArg h (false, [.f (.int .i64)]) v) : ∃ n : Int, v = .int .i64 n ∧ -9223372036854775808 ≤ n ∧ n ≤ 9223372036854775807 := by
 obtain ⟨n, h1, h2⟩ := ha.2 0 _ _ rfl rfl
 refine ⟨n, h1, ?_⟩
 have : (Lit.int IntKind.i64 n).wf = true := h2
 simp [Lit.wf, IntKind.min, IntKind.max, IntKind.signed, IntKind.bits] at this
 omega
theorem AArg.bool {v : Value} (ha : AArg h (false, [.f .bool]) v) : ∃ b : Bool, v = .bool b := ha.2 0 _ _ rfl rfl
def Fits (xs : List Int) : Prop := ∀ x ∈ xs, -9223372036854775808 ≤ x ∧ x ≤ 9223372036854775807
theorem AIs.ints {v : Value} (ha : AIs h (.sl [.int .i64] 8) v) : ∃ a n xs, v = .slice a n n ∧ Sl 1 h a n n (ints xs) ∧ Fits xs ∧ n ≤ 2 ^ 44 := by
 obtain ⟨a, n, cs, h1, h2, h3, h4, h5⟩ := ha
 have h2' : Sl 1 h a n n cs := h2
 have key : ∃ xs : List Int, cs = Ai.ints xs ∧ Fits xs := by
  have hall : ∀ c ∈ cs, ∃ m : Int, c = .int .i64 m ∧ (Lit.int IntKind.i64 m).wf = true := fun c hc => by
   obtain ⟨i, hi, rfl⟩ := List.getElem_of_mem hc
   have hin : i < n := by have := h3.1; simp at this; omega
   exact h3.2 i hin 0 (.int .i64) _ rfl (by simp [List.getElem?_eq_getElem hi])
  clear h1 h2 h2' h3 h4 h5
  induction cs with
  | nil => exact ⟨[], rfl, fun x hx => by cases hx⟩
  | cons c cs ih =>
   obtain ⟨xs, rfl, hf⟩ := ih fun c hc => hall c (by simp [hc])
   obtain ⟨m, rfl, hm⟩ := hall c (by simp)
   refine ⟨m :: xs, rfl, fun x hx => ?_⟩
   rcases List.mem_cons.1 hx with rfl | hx
   ·simp [Lit.wf, IntKind.min, IntKind.max, IntKind.signed, IntKind.bits] at hm
    omega
   ·exact hf x hx
 obtain ⟨xs, rfl, hf⟩ := key
 exact ⟨a, n, xs, h1, h2', hf, by omega⟩
theorem AArg.ints {v : Value} (ha : AArg h (false, [.sl [.int .i64] 8]) v) : ∃ a n xs, v = .slice a n n ∧ Sl 1 h a n n (ints xs) ∧ Fits xs ∧ n ≤ 2 ^ 44 := AIs.ints (ha.2 0 _ _ rfl rfl)
end
end
end Go.Proofs.YtalknjppnkpmmaaDoorW.Ai
