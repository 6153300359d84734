/-
  The small machine and Go's: append, what it leaves. Of no program.
-/
import Derived.Test.YtmikcpgkppkmiaaAi12
set_option linter.unusedVariables false
set_option linter.unusedSimpArgs false
namespace Go.Proofs.YtmikcpgkppkmiaaW.Ai
variable {P : Program} {nb lim : Nat} {r : Rho} {h h' : AH} {w : World} {e : Env} {a : Act} {v : Value} {o : Oper}

theorem Post.kill (hr : HR nb r h w) (b : Nat) : Post nb lim r h w r (h.set b .dead) w := by
  have get : ∀ {c : Nat} {y : Blk}, (h.set b .dead)[c]? = some y → live (some y) = true → h[c]? = some y := fun {c y} hy hl => by
    rw [List.getElem?_set] at hy
    split at hy
    · split at hy
      · injection hy with hy; subst hy; cases hl
      · cases hy
    · exact hy
  have back : ∀ {c : Nat}, live (h.set b .dead)[c]? = true → live h[c]? = true := fun {c} hl => by
    cases hy : (h.set b .dead)[c]? with
    | none => rw [hy] at hl; cases hl
    | some y => rw [hy] at hl; rw [get hy hl]; exact hl
  refine ⟨⟨fun hb hh => hr.cells hb (get hh rfl), fun hb ho hh => hr.own hb ho (get hh rfl), fun {c c' i i'} hb hb' ho hl hl' he => ?_, fun hb hh => hr.map hb (get hh rfl), fun hb hl => hr.bd hb (back hl), hr.mine⟩, Rho.Le.refl r, fun h => .inl h, by simp, rfl, rfl, rfl, Nat.le_refl _, fun _ _ _ => rfl⟩
  have back : ∀ {c : Nat}, live (h.set b .dead)[c]? = true → live h[c]? = true := fun {c} hl => by
    cases hy : (h.set b .dead)[c]? with
    | none => rw [hy] at hl; cases hl
    | some y => rw [hy] at hl; rw [get hy hl]; exact hl
  exact hr.inj hb hb' ho (back hl) (back hl') he

/-- What a dead block stood for is taken for a new one. -/
theorem Post.reuse (hr : HR nb r h w) {b base : Nat} {i : Im} {cs0 cs : List Value} {ccs : Array Value} {t : TypeId} {w' : World} (hb : r b = some i) (hown : i.own = true) (hlim : lim ≤ b) (hlive : h[b]? = some (.cells cs0)) (hf : r h.length = none)
    (hw : ∀ k, k ≠ i.blk → w'.heap[k]? = w.heap[k]?) (hwb : w'.heap[i.blk]? = some (.cells ccs t (0, 0))) (hs : w'.heap.size = w.heap.size) (hos : w'.os = w.os) (htp : w'.tape = w.tape) (hout : w'.output = w.output)
    (h1 : ccs.size = i.csz) (h2 : base + cs.length ≤ i.csz) (h3 : ∀ (j : Nat) u, cs[j]? = some u → ∃ v, ccs[base + j]? = some v ∧ VR r u v) :
    Post nb lim r h w (r.put h.length ⟨i.blk, base, i.csz, true⟩) (h.set b .dead ++ [.cells cs]) w' := by
  have hlt : b < h.length := (List.getElem?_eq_some_iff.1 hlive).1
  have hle := Rho.put_le (r := r) (i := ⟨i.blk, base, i.csz, true⟩) hf
  have get : ∀ {c : Nat} {y : Blk}, (h.set b .dead ++ [.cells cs])[c]? = some y → live (some y) = true → (c = h.length ∧ y = .cells cs) ∨ (c ≠ b ∧ c ≠ h.length ∧ h[c]? = some y) := fun {c y} hy hl => by
    rw [List.getElem?_append] at hy
    split at hy
    · rename_i hc
      simp at hc
      by_cases hbc : b = c
      · subst hbc
        rw [List.getElem?_set_self hc] at hy
        injection hy with hy; subst hy; cases hl
      · rw [List.getElem?_set_ne hbc] at hy
        exact .inr ⟨fun h => hbc h.symm, by omega, hy⟩
    · rename_i hc
      have hl2 := (List.getElem?_eq_some_iff.1 hy).1
      simp at hc hl2
      have : c = h.length := by omega
      subst this
      simp at hy
      exact .inl ⟨rfl, hy.symm⟩
  have far : ∀ {c : Nat} {j : Im} {y : Blk}, r c = some j → c ≠ b → h[c]? = some y → live (some y) = true → j.blk ≠ i.blk := fun {c j y} hc hne hy hl he =>
    hne (hr.inj hb hc hown (by rw [hlive]; rfl) (by rw [hy]; exact hl) he.symm).symm
  refine ⟨⟨?_, ?_, ?_, ?_, ?_, ?_⟩, hle, ?_, by simp, hos, htp, hout, by omega, fun c hc hn => hw c fun he => hn ⟨b, i, hlim, hlt, hb, hown, he.symm⟩⟩
  · intro c j ds hc hh q u hu
    rcases get hh rfl with ⟨rfl, hy⟩ | ⟨g1, g2, g3⟩
    · injection hy with hy
      subst hy
      rcases Rho.put_inv hc with ⟨_, rfl⟩ | ⟨hne, _⟩
      · obtain ⟨v, hv, k⟩ := h3 q u hu
        exact ⟨v, by rw [cell_of_cells hwb]; exact hv, k.mono hle⟩
      · exact absurd rfl hne
    · rcases Rho.put_inv hc with ⟨rfl, _⟩ | ⟨_, hc'⟩
      · exact absurd rfl g2
      · obtain ⟨v, hv, k⟩ := hr.cells hc' g3 q u hu
        refine ⟨v, ?_, k.mono hle⟩
        unfold World.cell? at *
        rw [hw _ (far hc' g1 g3 rfl)]
        exact hv
  · intro c j ds hc ho hh
    rcases get hh rfl with ⟨rfl, hy⟩ | ⟨g1, g2, g3⟩
    · injection hy with hy
      subst hy
      rcases Rho.put_inv hc with ⟨_, rfl⟩ | ⟨hne, _⟩
      · exact ⟨_, _, hwb, h1, h2⟩
      · exact absurd rfl hne
    · rcases Rho.put_inv hc with ⟨rfl, _⟩ | ⟨_, hc'⟩
      · exact absurd rfl g2
      · rw [hw _ (far hc' g1 g3 rfl)]
        exact hr.own hc' ho g3
  · intro c c' j j' hc hc' ho hl hl' he
    have key : ∀ {c : Nat} {j : Im}, (r.put h.length ⟨i.blk, base, i.csz, true⟩) c = some j → live (h.set b .dead ++ [.cells cs])[c]? = true → (c = h.length ∧ j.blk = i.blk) ∨ (c ≠ b ∧ r c = some j ∧ live h[c]? = true ∧ j.blk ≠ i.blk) := fun {c j} hc hl => by
      cases hy : (h.set b .dead ++ [.cells cs])[c]? with
      | none => rw [hy] at hl; cases hl
      | some y =>
        rw [hy] at hl
        rcases get hy hl with ⟨rfl, _⟩ | ⟨g1, g2, g3⟩
        · rcases Rho.put_inv hc with ⟨_, rfl⟩ | ⟨hne, _⟩
          · exact .inl ⟨rfl, rfl⟩
          · exact absurd rfl hne
        · rcases Rho.put_inv hc with ⟨rfl, _⟩ | ⟨_, hc'⟩
          · exact absurd rfl g2
          · exact .inr ⟨g1, hc', by rw [g3]; exact hl, far hc' g1 g3 hl⟩
    rcases key hc hl with ⟨k1, k2⟩ | ⟨k1, k2, k3, k4⟩ <;> rcases key hc' hl' with ⟨m1, m2⟩ | ⟨m1, m2, m3, m4⟩
    · rw [k1, m1]
    · exact absurd (he.symm.trans k2) m4
    · exact absurd (he.trans m2) k4
    · exact hr.inj k2 m2 ho k3 m3 he
  · intro c j es hc hh
    rcases get hh rfl with ⟨rfl, hy⟩ | ⟨g1, g2, g3⟩
    · cases hy
    · rcases Rho.put_inv hc with ⟨rfl, _⟩ | ⟨_, hc'⟩
      · exact absurd rfl g2
      · obtain ⟨ces, clk, k1, k2⟩ := hr.map hc' g3
        exact ⟨ces, clk, by rw [hw _ (far hc' g1 g3 rfl)]; exact k1, k2.mono hle⟩
  · intro c j hc hl
    rw [hs]
    rcases Rho.put_inv hc with ⟨_, e⟩ | ⟨hne, hc'⟩
    · rw [e]; show i.blk < _; exact hr.bd hb (by rw [hlive]; rfl)
    · refine hr.bd hc' ?_
      cases hy : (h.set b .dead ++ [.cells cs])[c]? with
      | none => rw [hy] at hl; cases hl
      | some y =>
        rw [hy] at hl
        rcases get hy hl with ⟨rfl, _⟩ | ⟨_, _, g3⟩
        · exact absurd rfl hne
        · rw [g3]; exact hl
  · intro c j hc hn
    rcases Rho.put_inv hc with ⟨rfl, rfl⟩ | ⟨_, hc'⟩
    · rfl
    · exact hr.mine hc' hn
  · intro c j hc
    rcases Rho.put_inv hc with ⟨rfl, rfl⟩ | ⟨_, hc'⟩
    · exact .inr ⟨Nat.le_refl _, by simp, rfl, .inr ⟨b, i, hlim, hlt, hb, hown, rfl⟩⟩
    · exact .inl hc'

theorem aElems_length {size n : Nat} {s : Value} {cs : List Value} (ha : aElems size h n s = some cs) (hs : ∀ t, s ≠ .string t) (hn : ∀ c m, s = .slice none c m → n = 0) : cs.length = n * size := by
  unfold aElems at ha
  split at ha
  · injection ha with ha; subst ha; rw [hn _ _ rfl]; simp
  · split at ha
    · rename_i b q m n' c hh
      split at ha
      · rename_i h0; injection ha with ha; subst ha; simp [h0]
      cases hc : cellsOf h b with
      | none => simp [hc] at ha
      | some ds =>
        simp only [hc, Option.bind_some] at ha
        split at ha
        · injection ha with ha; subst ha; simp; omega
        · cases ha
    · cases ha
  · exact absurd rfl (hs _)
  · cases ha

theorem drew_post (hr : HR nb r h w) : Post nb lim r h w r h w.drew := ⟨hr.same rfl, Rho.Le.refl r, fun h => .inl h, Nat.le_refl _, rfl, rfl, rfl, Nat.le_refl _, fun _ _ _ => rfl⟩

theorem append_core (hr : HR nb r h w) (hlim : nb ≤ lim) {T : Array TypeId} {ty : TypeId} {s s' x' : Value} {el : TypeId} {size bytes n : Nat} {news vs : List Value} (A : App P w T x' el size bytes n vs) (hv : VL r news vs) (hlen : news.length = n * size) (hs : VR r s s') (hs0 : 0 < size)
    (ha : aAppend lim size bytes h s n news = some (v, h')) (hf : Fresh r h h') :
    ∃ v' w' r', (Builtin.append_ T ty #[s', x']).run P w = .ok v' w' ∧ Post nb lim r h w r' h' w' ∧ VR r' v v' := by
  unfold aAppend at ha
  split at ha
  case h_2 => cases ha
  rename_i B len cap
  have hvl := hv.1
  split at ha
  · -- there is room
    rename_i hroom
    obtain ⟨B', d, rfl, hd, hB0, hB1⟩ := hs.slice_inv
    have hrun := append_in (w := w) (ty := ty) (B := B') (len := len) (d := d) A (by omega)
    cases B with
    | none =>
      obtain ⟨rfl, rfl, rfl, rfl⟩ := hB0 rfl
      simp only at ha
      injection ha with ha
      injection ha with e1 e2
      subst e1; subst e2
      have hn0 : n = 0 := by omega
      subst hn0
      refine ⟨_, w, r, hrun, Post.refl hr, .slc0⟩
    | some A0 =>
      obtain ⟨b, q, m⟩ := A0
      simp only at ha
      cases hw : aWrite lim h b (q + len * size) news with
      | none => simp [hw] at ha
      | some h2 =>
        simp [hw] at ha
        obtain ⟨rfl, rfl⟩ := ha
        obtain ⟨hle, i, y, rfl, hi, hy, ho⟩ := hB1 b q m rfl
        obtain ⟨w', k1, k2⟩ := Post.write (P := P) hr hi hlim hw hv (a := y.add (len * size)) (by rw [add_block]; exact hy) (fun hne => by
          have hc : 0 < cap := by
            rcases Nat.eq_zero_or_pos cap with h0 | h0
            · have : n = 0 := by omega
              subst this
              simp at hlen
              exact absurd hlen hne
            · exact h0
          obtain ⟨o1, o2⟩ := ho hc
          have := add_of o1 o2 (len * size)
          exact ⟨by rw [this.1]; omega, this.2⟩)
        simp only [k1, Result.andThen_ok] at hrun
        refine ⟨_, w', r, hrun, k2, ?_⟩
        cases hs with
        | slc _ _ _ _ i' a' g1 g2 g3 g4 => exact .slc _ _ _ _ i' _ g1 g2 g3 (by omega)
        | slcIn _ _ z _ _ _ i' a' g1 g2 g3 g4 g5 g6 => exact .slcIn _ _ z _ _ _ i' _ g1 g2 g3 (by omega) g5 g6
  · rename_i hroom
    split at ha
    · rename_i hcond
      obtain ⟨hbig, h62, hb0, hok⟩ := hcond
      cases hold : aElems size h len (.slice B len cap) with
      | none => simp [hold] at ha
      | some old =>
        simp only [hold, Option.bind_some] at ha
        obtain ⟨B', d, rfl, hd, hB0, hB1⟩ := hs.slice_inv
        have holdlen : old.length = len * size := aElems_length hold (fun t => by simp) (fun c m he => by injection he with e1 e2 e3; subst e1; exact (hB0 rfl).2.1)
        obtain ⟨os, ho1', ho2⟩ := elems_run2 (P := P) hr hold hs
        have holdr := ho2.1
        -- a new block
        have fresh : ∀ (h0 : AH), h0.length = h.length → HR nb r h0 w → Post nb lim r h w r h0 w → ¬ len + n ≤ d → r h.length = none →
            ∃ v' w' r', (Builtin.append_ T ty #[.slice B' len d, x']).run P w = .ok v' w' ∧ Post nb lim r h w r' (h0 ++ [.cells (old ++ news)]) w' ∧ VR r' (.slice (some ⟨h.length, 0, some size⟩) (len + n) (len + n)) v' := by
          intro h0 hl0 hr0 hp0 hnd hfr
          obtain ⟨c, rest, c1, c2, c3⟩ := append_new (w := w) (ty := ty) A hnd hbig h62 hb0 ho1'
          have hr1 : HR nb r h0 w.drew := hr0.same rfl
          have hsz : (os.toArray ++ (vs.toArray ++ rest)).size = c * size := by
            simp only [Array.size_append, List.size_toArray, c2, ← holdr, holdlen, ← hvl, hlen]
            rw [← Nat.add_assoc, ← Nat.add_mul, ← Nat.add_mul]
            congr 1
            omega
          have hpa := Post.alloc (lim := lim) (x := .cells (old ++ news)) (o := .cells (os.toArray ++ (vs.toArray ++ rest)) el) (csz := c * size) hr1 (by rw [hl0]; exact hfr) ⟨rfl, hsz, by
              rw [List.length_append, holdlen, hlen, ← Nat.add_mul]; exact Nat.mul_le_mul_right _ c1, fun j u hu => by
              obtain ⟨u', g1, g2⟩ := (ho2.append hv).get hu
              refine ⟨u', ?_, g2⟩
              have hj : j < (os ++ vs).length := (List.getElem?_eq_some_iff.1 g1).1
              have e : (os.toArray ++ (vs.toArray ++ rest)).toList = (os ++ vs) ++ rest.toList := by simp
              rw [← Array.getElem?_toList, e, List.getElem?_append_left hj]
              exact g1⟩
          rw [hl0] at hpa
          refine ⟨_, _, _, c3, hp0.trans ((drew_post hr0).trans hpa (fun b h1 h2 => by omega)) (fun b h1 h2 => by rw [hl0] at h2; omega), ?_⟩
          exact .slcIn _ _ _ _ _ _ ⟨w.heap.size, 0, c * size, true⟩ _ (Rho.put_same _ _) rfl (fun _ => ⟨rfl, rfl⟩) (Nat.le_refl _) c1 (fun _ _ => by simp)
        have hfr : r h.length = none := by
          have hh : h.length < h'.length := by
            cases B with
            | none => simp only at ha; injection ha with ha; injection ha with e1 e2; subst e2; simp
            | some A0 =>
              obtain ⟨b, q, m⟩ := A0
              cases m with
              | none => simp only at ha; injection ha with ha; injection ha with e1 e2; subst e2; simp
              | some z =>
                simp only at ha
                split at ha
                · cases hc : cellsOf h b with
                  | none => simp [hc] at ha
                  | some ds =>
                    simp only [hc, Option.bind_some] at ha
                    split at ha
                    · injection ha with ha; injection ha with e1 e2; subst e2; simp
                    · cases ha
                · cases ha
          exact hf _ (Nat.le_refl _) hh
        cases B with
        | none =>
          simp only at ha
          injection ha with ha
          injection ha with e1 e2
          subst e1; subst e2
          obtain ⟨rfl, rfl, rfl, rfl⟩ := hB0 rfl
          exact fresh h rfl hr (Post.refl hr) (by omega) hfr
        | some A0 =>
          obtain ⟨b, q, m⟩ := A0
          cases m with
          | none =>
            simp only at ha
            injection ha with ha
            injection ha with e1 e2
            subst e1; subst e2
            have : d = cap := by cases hs; rfl
            subst this
            exact fresh h rfl hr (Post.refl hr) hroom hfr
          | some z =>
            simp only at ha
            split at ha
            · rename_i hz
              obtain ⟨hlb, rfl⟩ := hz
              cases hc : cellsOf h b with
              | none => simp [hc] at ha
              | some ds =>
                simp only [hc, Option.bind_some] at ha
                split at ha
                · rename_i hds
                  injection ha with ha
                  injection ha with e1 e2
                  subst e1; subst e2
                  by_cases hnd : len + n ≤ d
                  · -- Go has room: the old block is taken
                    obtain ⟨hle, i, y, rfl, hi, hy, _⟩ := hB1 b q _ rfl
                    have hown := hr.mine hi (Nat.le_trans hlim hlb)
                    obtain ⟨ccs, t, g1, g2, g3⟩ := hr.own hi hown (cellsOf_iff.1 hc)
                    have hd0 : 0 < d := by omega
                    obtain ⟨o1, o2, hcs⟩ : y.off = i.base + q ∧ y.spot = none ∧ i.base + q + d * z ≤ i.csz := by
                      cases hs with
                      | slcIn _ _ _ _ _ _ i' a' k1 k2 k3 k4 k5 k6 =>
                        rw [hi] at k1
                        injection k1 with k1
                        subst k1
                        exact ⟨(k3 (.inr ⟨hown, hd0⟩)).1, (k3 (.inr ⟨hown, hd0⟩)).2, k6 hown hd0⟩
                    obtain ⟨yb, yo, ys⟩ := y
                    simp only at hy o1 o2
                    subst hy; subst o1; subst o2
                    have hrun := append_in (w := w) (ty := ty) (B := some ⟨i.blk, i.base + q, none⟩) (len := len) (d := d) A hnd
                    have hne : (len + n) * z ≤ d * z := Nat.mul_le_mul_right _ hnd
                    have hvsl : vs.length = n * z := by rw [← hvl, hlen]
                    rw [Nat.add_mul] at hne
                    simp only [addr_add] at hrun
                    rw [run_storeCells_at P i.blk (i.base + q + len * z) t vs 0 ccs w g1 (by rw [g2]; omega) (fun u hu => by
                      have := hv.all_cellOk hok
                      rw [List.all_eq_true] at this
                      have := this u hu
                      cases u <;> simp_all [cellOk, Value.oneCell'])] at hrun
                    simp only [Result.andThen_ok, Nat.add_zero] at hrun
                    have hccs : ccs.size = i.csz := g2
                    refine ⟨_, _, _, hrun, Post.reuse (base := i.base + q) hr hi hown hlb (cellsOf_iff.1 hc) hfr (fun k hk => setRow_other w i.blk k _ hk) (setRow_heap w i.blk ccs _ t _ g1) (by simp) rfl rfl rfl ?_ ?_ ?_, .slcIn _ _ _ _ _ _ ⟨i.blk, i.base + q, i.csz, true⟩ _ (Rho.put_same _ _) rfl (fun _ => ⟨by simp, rfl⟩) (Nat.le_refl _) hnd (fun _ _ => by simpa using hcs)⟩
                    · simp
                      omega
                    · rw [List.length_append, holdlen, hlen]
                      omega
                    · intro j u hu
                      have e : (ccs.toList.take (i.base + q + len * z) ++ vs ++ ccs.toList.drop (i.base + q + len * z + vs.length)).toArray[i.base + q + j]? = (over ccs.toList (i.base + q + len * z) vs)[i.base + q + j]? := by simp [over]
                      rw [e, over_get _ _ _ (by simp; omega)]
                      rw [List.getElem?_append] at hu
                      split at hu
                      · rename_i hj
                        rw [if_neg (by omega)]
                        -- an old cell
                        have : aElems z h len (.slice (some ⟨b, q, some z⟩) len cap) = some ((ds.drop q).take (len * z)) := by
                          have hold' := hold
                          simp only [aElems, hc, Option.bind_some] at hold' ⊢
                          by_cases p1 : len ≤ cap
                          · rw [if_pos p1] at hold' ⊢
                            rw [if_neg (by omega)] at hold' ⊢
                            by_cases p2 : q + len * z ≤ ds.length
                            · rw [if_pos p2]
                            · rw [if_neg p2] at hold'; cases hold'
                          · rw [if_neg p1] at hold'; cases hold'
                        rw [this] at hold
                        injection hold with hold
                        rw [← hold, List.getElem?_take] at hu
                        split at hu
                        · rw [List.getElem?_drop] at hu
                          obtain ⟨u', g4, g5⟩ := hr.cells hi (cellsOf_iff.1 hc) (q + j) u hu
                          exact ⟨u', by rw [cell_of_cells g1] at g4; rw [Nat.add_assoc]; simpa using g4, g5⟩
                        · cases hu
                      · rename_i hj
                        obtain ⟨u', g4, g5⟩ := hv.get hu
                        have hju := (List.getElem?_eq_some_iff.1 hu).1
                        rw [if_pos (by omega), show i.base + q + j - (i.base + q + len * z) = j - old.length by omega]
                        exact ⟨u', g4, g5⟩
                  · exact fresh (h.set b .dead) (by simp) (Post.kill (lim := lim) hr b).hr (Post.kill hr b) hnd hfr
                · cases ha
            · cases ha
    · cases ha

end Go.Proofs.YtmikcpgkppkmiaaW.Ai
