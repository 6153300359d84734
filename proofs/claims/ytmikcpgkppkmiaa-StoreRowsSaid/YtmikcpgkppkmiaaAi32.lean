/-
  Results in boxes; calls that make a slice; copies by append of records. Of no program.
-/
import Derived.Test.YtmikcpgkppkmiaaAi31
set_option linter.unusedVariables false
set_option linter.unusedSimpArgs false
namespace Go.Proofs.YtmikcpgkppkmiaaW.Ai

section
variable {L : Al} {h : AH}
theorem resL_cell {t n b : Nat} {cs : List Value} {r : List RRes} {vs : List Value} (ht : look L t = some (.pointer (some ⟨b, 0, none⟩))) (hc : h[b]? = some (.cells cs)) (hn : cs.length = n) (hr : resL L h r = some vs) : resL L h (.cell t (some n) :: r) = some (.agg cs.toArray :: vs) := by
  have h1 : aLoad (some n) h (.pointer (some ⟨b, 0, none⟩)) = some (.agg cs.toArray) := by
    simp only [aLoad, cellsOf, hc, Option.bind_some, loadAt]
    rw [if_pos (by omega), ← hn]
    simp
  simp only [resL, ht, Option.bind_some, h1, hr, Option.map_some]
theorem resL_cell1 {t b o : Nat} {cs : List Value} {v : Value} {r : List RRes} {vs : List Value} (ht : look L t = some (.pointer (some ⟨b, o, none⟩))) (hc : h[b]? = some (.cells cs)) (hv : nth cs o = some v) (hr : resL L h r = some vs) : resL L h (.cell t none :: r) = some (v :: vs) := by
  have h1 : aLoad none h (.pointer (some ⟨b, o, none⟩)) = some v := by
    simp only [aLoad, cellsOf, hc, Option.bind_some, loadAt]
    exact nth_get hv
  simp only [resL, ht, Option.bind_some, h1, hr, Option.map_some]
theorem resL_tmp {t : Nat} {v : Value} {r : List RRes} {vs : List Value} (ht : look L t = some v) (hr : resL L h r = some vs) : resL L h (.tmp t :: r) = some (v :: vs) := by
  simp only [resL, ht, Option.bind_some, hr, Option.map_some]
end
theorem recs_ok {α : Type} {enc : α → List Value} (he : ∀ s, (enc s).all cellOk = true) : ∀ ss : List α, (recs enc ss).all cellOk = true
  | [] => rfl
  | s :: ss => by
    show ((enc s) ++ recs enc ss).all cellOk = true
    rw [List.all_append, he s, recs_ok he ss]; rfl
theorem slotC_ok (s : SlotR) : (slotC s).all cellOk = true := rfl
theorem opC_ok (s : OpR) : (opC s).all cellOk = true := rfl

/-- A value with a slice in it that was made. -/
def Made (sz : Nat) (h h' : AH) (W : Option Addr → Nat → Value) (cs : List Value) (v : Value) : Prop := ∃ a n, v = W a n ∧ Sl sz h' a n n cs ∧ Within h.length h'.length sz a n
theorem Within.none (lo hi sz : Nat) : Within lo hi sz none 0 := fun x hx => by cases hx
theorem Sl.nil (sz : Nat) (h : AH) : Sl sz h none 0 0 [] := ⟨rfl, Nat.le_refl _, by simp, fun _ => rfl⟩
theorem Within.le {lo hi lo' hi' sz n : Nat} {a : Option Addr} (h : Within lo hi sz a n) (h1 : lo' ≤ lo) (h2 : hi ≤ hi') : Within lo' hi' sz a n := fun x hx hn => ⟨Nat.le_trans h1 (h x hx hn).1, Nat.lt_of_lt_of_le (h x hx hn).2 h2⟩
section
variable {X : Ext} {F : FuncId → Option RFunc} {lim : Nat} {L : Al} {h0 h : AH} {K : Value → AH → Prop} {l : List Item}
theorem Loc.toEnd (hL : Loc h0 h l) {k : Nat} {i : Item} (hk : l[k]? = some i) : i.hi ≤ h.length := (LocB.get hL hk).2.2.2
/-- One thing forgotten. -/
theorem Loc.less (hL : Loc h0 h l) {k : Nat} {i : Item} (hk : l[k]? = some i) : Loc h0 h (l.eraseIdx k) := LocB.erase hL (Nat.le_refl _) (Nat.le_refl _) hk (fun _ _ => rfl)
theorem Loc.nil1 (hL : Loc h0 h l) (sz : Nat) : Loc h0 h (ap h.length h.length sz Option.none 0 [] :: l) := hL.add (Pfx.refl h) (ap h.length h.length sz Option.none 0 []) rfl rfl (Ap.nil _ _ _ _)
/-- A slice made since the start. -/
theorem Loc.slOut (hL : Loc h0 h l) {k lo hi sz n c : Nat} {a : Option Addr} {cs : List Value} (hk : l[k]? = some (sl lo hi sz a n c cs)) : Sl sz h a n c cs ∧ Within h0.length h.length sz a n := ⟨(hL.get hk).1, (hL.get hk).2.le (hL.lo hk) (hL.toEnd hk)⟩
theorem Loc.apOut' (hL : Loc h0 h l) {k lo hi sz n : Nat} {a : Option Addr} {cs : List Value} (hk : l[k]? = some (ap lo hi sz a n cs)) : Sl sz h a n n cs ∧ Within h0.length h.length sz a n := (hL.apOut hk).sl
theorem Loc.bxOut (hL : Loc h0 h l) {k b n sz : Nat} {cs : List Value} (hk : l[k]? = some (bx b cs)) (hn : cs.length = n * sz) : Sl sz h (some ⟨b, 0, Option.none⟩) n n cs ∧ Within h0.length h.length sz (some ⟨b, 0, Option.none⟩) n :=
  ⟨hL.bxAt hk hn, fun x hx _ => by cases hx; exact ⟨hL.lo hk, hL.toEnd hk⟩⟩
/-- A call that makes a slice. -/
theorem OL.callSl {f : Operand} {g : FuncId} {xs : List Operand} {vs : List Value} {sz : Nat} {W : Option Addr → Nat → Value} {cs : List Value} (hL : Loc h0 h l) (hf : lev L f = some (.func (.func g) #[] #[])) (ha : levs L xs = some vs) (hr : Ret X F lim g vs h fun v h' => Pfx h h' ∧ Made sz h h' W cs v)
    (hk : ∀ a n h', Pfx h h' → Loc h0 h' (sl h.length h'.length sz a n n cs :: l) → K (W a n) h') : OP X F lim (.call f xs) L h K :=
  .call hf ha (hr.mono fun v h' ⟨hp, a, n, hv, hs, hw⟩ => hv ▸ hk a n h' hp (hL.add hp _ rfl rfl ⟨hs, hw⟩))
end
end Go.Proofs.YtmikcpgkppkmiaaW.Ai
