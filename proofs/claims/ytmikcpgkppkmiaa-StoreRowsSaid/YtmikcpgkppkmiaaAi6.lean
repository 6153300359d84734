/-
  The small machine and Go's: comparisons, parts laid into aggregates. Of no program.
-/
import Derived.Test.YtmikcpgkppkmiaaAi5
import Derived.Laws.StructEq
set_option linter.unusedVariables false
set_option linter.unusedSimpArgs false
namespace Go.Proofs.YtmikcpgkppkmiaaW.Ai
variable {P : Program} {nb lim : Nat} {r : Rho} {h : AH} {w : World}

/-! ### == of structs -/
theorem part_run' {t : TypeId} {n : Option Nat} (hn : Rs.aggN P t = some n) {cs : Array Value} {o : Nat} {v : Value} (hl : loadAt n cs.toList o = some v) : (part t cs o).run P w = .ok v w := by
  obtain ⟨h1, h2⟩ := run_aggN (w := w) hn
  cases n with
  | none =>
    simp only [loadAt] at hl
    have h5 : cs[o]? = some v := by simpa using hl
    simp [part, h1, h5]
  | some n =>
    simp only [loadAt] at hl
    split at hl
    · injection hl with hl
      subst hl
      have e : cs.extract o (o + n) = (List.take n (List.drop o cs.toList)).toArray := by
        apply Array.ext'
        simp [Array.toList_extract, List.extract_eq_take_drop]
      simp [part, h1, run_size (h2 n rfl), e]
    · cases hl
def isAggV : Value → Bool
  | .agg _ => true
  | _ => false
theorem eqKs_length : ∀ {ks : List Nat} {xs ys : List Value} {b : Bool}, eqKs ks xs ys = some b → xs.length = ks.length ∧ ys.length = ks.length
  | [], [], [], _, _ => ⟨rfl, rfl⟩
  | [], [], _ :: _, _, h => by simp [eqKs] at h
  | [], _ :: _, _, _, h => by simp [eqKs] at h
  | _ :: _, [], _, _, h => by simp [eqKs] at h
  | _ :: _, _ :: _, [], _, h => by simp [eqKs] at h
  | k :: ks, x :: xs, y :: ys, b, h => by
    simp only [eqKs] at h
    cases h1 : eqK k x y with
    | none => simp [h1] at h
    | some c =>
      cases h2 : eqKs ks xs ys with
      | none => simp [h1, h2] at h
      | some d =>
        have := eqKs_length h2
        exact ⟨by simp [this.1], by simp [this.2]⟩
theorem eqKs_append : ∀ {ks ls : List Nat} {xs ys : List Value} {b : Bool}, eqKs (ks ++ ls) xs ys = some b →
    ∃ c d, eqKs ks (xs.take ks.length) (ys.take ks.length) = some c ∧ eqKs ls (xs.drop ks.length) (ys.drop ks.length) = some d ∧ b = (c && d)
  | [], ls, xs, ys, b, h => ⟨true, b, by simp [eqKs], by simpa using h, by simp⟩
  | k :: ks, ls, xs, ys, b, h => by
    cases xs with
    | nil => simp [eqKs] at h
    | cons x xs =>
      cases ys with
      | nil => simp [eqKs] at h
      | cons y ys =>
        simp only [List.cons_append, eqKs] at h
        cases h1 : eqK k x y with
        | none => simp [h1] at h
        | some c =>
          cases h2 : eqKs (ks ++ ls) xs ys with
          | none => simp [h1, h2] at h
          | some d =>
            simp [h1, h2] at h
            obtain ⟨c', d', e1, e2, e3⟩ := eqKs_append h2
            exact ⟨c && c', d', by simp [eqKs, h1, e1], by simpa using e2, by rw [← h, e3, Bool.and_assoc]⟩

theorem eqFields_run {kd : TypeId → Option (List Nat)} {D : Nat}
    (hkd : ∀ t ks, kd t = some ks → ∀ X Y b n, Rs.aggN P t = some n → (isAggV X = n.isSome) → (isAggV Y = n.isSome) → eqKs ks X.cells.toList Y.cells.toList = some b → (Op.equalIn D t X Y).run P w = .ok b w) (xs ys : Array Value) :
    ∀ (fs : List Field) (o : Nat) (ks : List Nat), Rs.kindsF P kd fs o = some ks → ∀ b, eqKs ks (xs.toList.drop o) (ys.toList.drop o) = some b → (Op.eqFields D xs ys fs).run P w = .ok b w
  | [], o, ks, hk, b, hb => by
    simp only [Rs.kindsF] at hk
    injection hk with hk
    subst hk
    have hl := eqKs_length hb
    have h1 := List.eq_nil_of_length_eq_zero hl.1
    have h2 := List.eq_nil_of_length_eq_zero hl.2
    rw [h1, h2] at hb
    simp [eqKs] at hb
    subst hb
    simp [Op.eqFields]
  | f :: fs, o, ks, hk, b, hb => by
    simp only [Rs.kindsF] at hk
    split at hk
    · rename_i hc
      obtain ⟨hof, hnm⟩ := hc
      cases h1 : kd f.type with
      | none => simp [h1] at hk
      | some k1 =>
        rw [h1] at hk
        simp only [Option.bind_some] at hk
        split at hk
        · rename_i hag
          cases h2 : Rs.kindsF P kd fs (o + k1.length) with
          | none => simp [h2] at hk
          | some k2 =>
            rw [h2] at hk
            simp only [Option.map_some] at hk
            injection hk with hk
            subst hk
            have hlen := eqKs_length hb
            rw [List.length_append, List.length_drop, List.length_drop] at hlen
            obtain ⟨c, d, e1, e2, rfl⟩ := eqKs_append hb
            rw [List.drop_drop, List.drop_drop] at e2
            have ih := eqFields_run hkd xs ys fs (o + k1.length) k2 h2 d e2
            have hnm' : f.name ≠ "_" := by simpa using hnm
            have hlk := eqKs_length e1
            obtain ⟨X, Y, n, hX, hY, hn, gX, gY, gE⟩ : ∃ X Y n, loadAt n xs.toList o = some X ∧ loadAt n ys.toList o = some Y ∧ Rs.aggN P f.type = some n ∧ isAggV X = n.isSome ∧ isAggV Y = n.isSome ∧ eqKs k1 X.cells.toList Y.cells.toList = some c := by
              rcases hag with ⟨hag, hpos⟩ | ⟨hag, h1l⟩
              · refine ⟨.agg (List.take k1.length (List.drop o xs.toList)).toArray, .agg (List.take k1.length (List.drop o ys.toList)).toArray, some k1.length, ?_, ?_, hag, ?_, ?_, ?_⟩
                · simp only [loadAt]; rw [if_pos]; simp at hlk ⊢; omega
                · simp only [loadAt]; rw [if_pos]; simp at hlk ⊢; omega
                · rfl
                · rfl
                · simpa [Value.cells] using e1
              · rw [h1l] at e1
                have a1 : o < xs.toList.length := by simp at hlk ⊢; omega
                have a2 : o < ys.toList.length := by simp at hlk ⊢; omega
                have t1 : ∀ (l : List Value) (h : o < l.length), (l.drop o).take 1 = [l[o]] := fun l h => by
                  rw [List.drop_eq_getElem_cons h]; rfl
                rw [t1 _ a1, t1 _ a2] at e1
                have notagg : ∀ (u v : Value), eqKs k1 [u] [v] = some c → isAggV u = false ∧ isAggV v = false ∧ eqKs k1 u.cells.toList v.cells.toList = some c := by
                  intro u v hh
                  cases k1 with
                  | nil => simp at h1l
                  | cons q qs =>
                    have : qs = [] := List.eq_nil_of_length_eq_zero (by simpa using h1l)
                    subst this
                    have hh' := hh
                    simp only [eqKs] at hh
                    cases hq : eqK q u v with
                    | none => simp [hq] at hh
                    | some z =>
                      unfold eqK at hq
                      split at hq <;> first | (cases hq; done) | exact ⟨rfl, rfl, by simpa [Value.cells] using hh'⟩
                obtain ⟨n1, n2, n3⟩ := notagg _ _ e1
                exact ⟨_, _, none, by simp only [loadAt]; exact List.getElem?_eq_getElem a1, by simp only [loadAt]; exact List.getElem?_eq_getElem a2, hag, n1, n2, n3⟩
            rw [← hof] at hX hY
            have p1 := part_run' (w := w) hn hX
            have p2 := part_run' (w := w) hn hY
            have p3 := hkd f.type k1 h1 X Y c n hn gX gY gE
            rw [Op.eqFields, if_pos hnm']
            simp only [Sem.run_bind, p1, p2, p3, Result.andThen_ok]
            cases c
            · simp
            · simpa using ih
        · cases hk
    · cases hk

theorem eqK0 {X Y : Value} {b : Bool} (h : eqK 0 X Y = some b) : ∃ p q, X = .bool p ∧ Y = .bool q ∧ b = (p == q) := by
  cases X <;> cases Y <;> simp [eqK] at h
  exact ⟨_, _, rfl, rfl, h.symm⟩
theorem eqK1 {X Y : Value} {b : Bool} (h : eqK 1 X Y = some b) : ∃ k p q, X = .int k p ∧ Y = .int k q ∧ b = (p == q) := by
  cases X <;> cases Y <;> simp [eqK] at h
  obtain ⟨rfl, h⟩ := h
  exact ⟨_, _, _, rfl, rfl, h.symm⟩
theorem eqK2 {X Y : Value} {b : Bool} (h : eqK 2 X Y = some b) : ∃ p q, X = .string p ∧ Y = .string q ∧ b = (p == q) := by
  cases X <;> cases Y <;> simp [eqK] at h
  exact ⟨_, _, rfl, rfl, h.symm⟩

theorem equalIn_run : ∀ (d : Nat) (t : TypeId) (ks : List Nat), Rs.kinds P d t = some ks → ∀ D, d ≤ D → ∀ X Y b n, Rs.aggN P t = some n → (isAggV X = n.isSome) → (isAggV Y = n.isSome) → eqKs ks X.cells.toList Y.cells.toList = some b → (Op.equalIn D t X Y).run P w = .ok b w
  | 0, _, _, h, _, _, _, _, _, _, _, _, _, _ => by simp [Rs.kinds] at h
  | d + 1, t, ks, h, D, hD, X, Y, b, n, hn, hX, hY, he => by
    obtain ⟨D, rfl⟩ : ∃ q, D = q + 1 := ⟨D - 1, by omega⟩
    simp only [Rs.kinds] at h
    have one : ∀ k, ks = [k] → n = none → ∃ z, eqK k X Y = some z ∧ z = b := by
      intro k hk hn0
      subst hk; subst hn0
      have c1 : X.cells = #[X] := by cases X <;> first | rfl | (simp [isAggV] at hX)
      have c2 : Y.cells = #[Y] := by cases Y <;> first | rfl | (simp [isAggV] at hY)
      rw [c1, c2] at he
      simp only [eqKs] at he
      cases hq : eqK k X Y with
      | none => simp [hq] at he
      | some z => simp [hq] at he; exact ⟨z, rfl, he⟩
    cases hu : P.underlying t with
    | none => simp [hu] at h
    | some dsc =>
      rw [hu] at h
      cases dsc <;> simp only at h <;> try (cases h; done)
      · injection h with h; subst h
        have hn0 : n = none := by simp [Rs.aggN, hu] at hn; exact hn.symm
        obtain ⟨z, hz, rfl⟩ := one 0 rfl hn0
        obtain ⟨p, q, rfl, rfl, rfl⟩ := eqK0 hz
        exact run_equalIn_bool' w D t p q hu
      · injection h with h; subst h
        have hn0 : n = none := by simp [Rs.aggN, hu] at hn; exact hn.symm
        obtain ⟨z, hz, rfl⟩ := one 1 rfl hn0
        obtain ⟨k, p, q, rfl, rfl, rfl⟩ := eqK1 hz
        exact run_equalIn_int w D t _ _ _ _ hu
      · injection h with h; subst h
        have hn0 : n = none := by simp [Rs.aggN, hu] at hn; exact hn.symm
        obtain ⟨z, hz, rfl⟩ := one 2 rfl hn0
        obtain ⟨p, q, rfl, rfl, rfl⟩ := eqK2 hz
        rw [run_equalIn_string w D t _ _ hu, beq_toListBytes]
      · rename_i fs
        split at h
        · rename_i hst
          obtain ⟨m, rfl⟩ : ∃ m, n = some m := by
            simp [Rs.aggN, hu] at hn
            obtain ⟨m, _, hm⟩ := hn
            exact ⟨m, hm.symm⟩
          obtain ⟨xs, rfl⟩ : ∃ xs, X = .agg xs := by cases X <;> first | exact ⟨_, rfl⟩ | (simp [isAggV] at hX)
          obtain ⟨ys, rfl⟩ : ∃ ys, Y = .agg ys := by cases Y <;> first | exact ⟨_, rfl⟩ | (simp [isAggV] at hY)
          rw [run_equalIn_struct (P := P) w D t xs ys (by simp [Program.fieldsOf, hu]) hst]
          have hf : P.fieldsOf t = fs := by simp [Program.fieldsOf, hu]
          rw [hf]
          exact eqFields_run (fun t ks hk X Y b n a1 a2 a3 a4 => equalIn_run d t ks hk D (by omega) X Y b n a1 a2 a3 a4) xs ys fs.toList 0 ks h b (by simpa [Value.cells] using he)
        · cases h

/-! ### parts of an aggregate -/
theorem foldl_set (off : Nat) : ∀ (vs : List Value) (k : Nat) (A : Array Value), off + k + vs.length ≤ A.size →
    ((vs.zipIdx k).foldl (fun cs (p : Value × Nat) => cs.setIfInBounds (off + p.2) p.1) A).toList = over A.toList (off + k) vs
  | [], k, A, _ => by simp [over]
  | v :: vs, k, A, hl => by
    simp only [List.length_cons] at hl
    rw [List.zipIdx_cons, List.foldl_cons, foldl_set off vs (k + 1) _ (by simp; omega)]
    apply List.ext_getElem?
    intro j
    rw [over_get _ _ _ (by simp; omega), over_get _ _ _ (by simp; omega)]
    simp only [Array.toList_setIfInBounds, List.getElem?_set, List.length_cons, Array.length_toList]
    by_cases h1 : j = off + k
    · subst h1
      rw [if_neg (by omega), if_pos rfl, if_pos (by omega), if_pos (by omega)]
      simp
    · by_cases h2 : off + (k + 1) ≤ j ∧ j < off + (k + 1) + vs.length
      · rw [if_pos h2, if_pos (by omega), show j - (off + k) = (j - (off + (k + 1))) + 1 by omega, List.getElem?_cons_succ]
      · rw [if_neg h2, if_neg (by omega), if_neg (by omega)]

theorem fill_run {e : Env} {ρ : Operand → Value} {place : Nat → Option (Nat × Nat)} :
    ∀ (ps : List (Nat × Operand)) (qs : List (Nat × Nat × Operand)), ps.map (·.2) = qs.map (·.2.2) → (∀ (i : Nat) p q, ps[i]? = some p → qs[i]? = some q → place p.1 = some (q.1, q.2.1)) →
      (∀ x ∈ qs.map (·.2.2), VR r (ev e x) (ρ x)) → ∀ (cs : List Value) (C : Array Value) (out : List Value), VL r cs C.toList → aFill e cs qs = some out →
      ∃ D, Instr.fill place C (ps.map fun p => (p.1, ρ p.2)) = some D ∧ VL r out D.toList
  | [], [], _, _, _, cs, C, out, hc, ha => by
    simp only [aFill] at ha
    injection ha with ha
    subst ha
    exact ⟨C, rfl, hc⟩
  | [], _ :: _, h, _, _, _, _, _, _, _ => by simp at h
  | _ :: _, [], h, _, _, _, _, _, _, _ => by simp at h
  | (i, x) :: ps, (off, size, y) :: qs, h, hp, hv, cs, C, out, hc, ha => by
    simp only [List.map_cons, List.cons.injEq] at h
    obtain ⟨rfl, h⟩ := h
    have h0 := hp 0 (i, x) (off, size, x) rfl rfl
    simp only at h0
    have hx := hv x (by simp)
    simp only [aFill] at ha
    split at ha
    · cases ha
    · rename_i hcond
      have hcond' : (ev e x).cells.size = size ∧ off + size ≤ cs.length := by
        constructor
        · exact Decidable.byContradiction fun h => hcond (.inl h)
        · exact Nat.le_of_not_lt fun h => hcond (.inr h)
      obtain ⟨hsz, hle⟩ := hcond'
      have hC : C.size = cs.length := by have := hc.1; simpa using this.symm
      have hsz' : (ρ x).cells.size = size := by rw [hx.cells_size, hsz]
      have hl := hx.cells
      have hfold := foldl_set off (ρ x).cells.toList 0 C (by simp; omega)
      have e1 : ((ρ x).cells.zipIdx.foldl (fun cs (c, j) => cs.setIfInBounds (off + j) c) C).toList = over C.toList off (ρ x).cells.toList := by
        rw [← Array.foldl_toList, Array.toList_zipIdx]
        simpa using hfold
      obtain ⟨D, h1, h2⟩ := fill_run ps qs h (fun j p q a b => hp (j + 1) p q (by simpa using a) (by simpa using b)) (fun z hz => hv z (by simp at hz ⊢; exact .inr hz)) (over cs off (ev e x).cells.toList) ((ρ x).cells.zipIdx.foldl (fun cs (c, j) => cs.setIfInBounds (off + j) c) C) out (by rw [e1]; exact hc.over hl off) ha
      refine ⟨D, ?_, h2⟩
      simp only [List.map_cons, Instr.fill, h0]
      rw [if_neg (by simp [hsz']; omega)]
      exact h1

theorem reps_length (z : List Value) (n : Nat) : (reps z n).length = n * z.length := by
  induction n with
  | zero => simp [reps]
  | succ n ih => simp [reps, ih, Nat.succ_mul, Nat.add_comm]
theorem reps_get (z : List Value) (hz : 0 < z.length) : ∀ (n j : Nat), j < n * z.length → (reps z n)[j]? = z[j % z.length]?
  | 0, j, h => by simp at h
  | n + 1, j, h => by
    rw [reps, List.getElem?_append]
    split
    · rename_i hj; rw [Nat.mod_eq_of_lt hj]
    · rename_i hj
      rw [reps_get z hz n (j - z.length) (by rw [Nat.succ_mul] at h; omega)]
      congr 1
      rw [Nat.mod_eq_sub_mod (Nat.le_of_not_lt hj)]
theorem reps_array (z : Array Value) (hz : 0 < z.size) (n : Nat) : ((Array.range (n * z.size)).map (fun i => z[i % z.size]!)).toList = reps z.toList n := by
  apply List.ext_getElem?
  intro j
  by_cases hj : j < n * z.size
  · rw [reps_get z.toList (by simpa using hz) n j (by simpa using hj)]
    have hm : j % z.size < z.size := Nat.mod_lt _ hz
    simp [hj, hm]
  · rw [List.getElem?_eq_none (by simp; omega), List.getElem?_eq_none (by rw [reps_length]; simp; omega)]
theorem reps_flat {z : List Value} (hz : z.all (fun c => flat c && cellOk c) = true) (n : Nat) : (reps z n).all flat = true ∧ (reps z n).all cellOk = true := by
  have h1 : z.all flat = true ∧ z.all cellOk = true := by
    simp only [List.all_eq_true, Bool.and_eq_true] at hz ⊢
    exact ⟨fun x hx => (hz x hx).1, fun x hx => (hz x hx).2⟩
  induction n with
  | zero => simp [reps]
  | succ n ih => simp only [reps, List.all_append, Bool.and_eq_true]; exact ⟨⟨h1.1, ih.1⟩, ⟨h1.2, ih.2⟩⟩

end Go.Proofs.YtmikcpgkppkmiaaW.Ai
