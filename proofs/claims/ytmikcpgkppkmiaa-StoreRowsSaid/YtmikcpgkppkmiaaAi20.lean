/-
  The small machine and Go's: calls. Of no program.
-/
import Derived.Test.YtmikcpgkppkmiaaAi19
set_option linter.unusedVariables false
set_option linter.unusedSimpArgs false
namespace Go.Proofs.YtmikcpgkppkmiaaW.Ai
section
variable {P : Program} {nb : Nat}

/-- What is told of a function outside the small machine. -/
structure XOk (P : Program) (nb : Nat) (X : Ext) : Prop where
  pre : ∀ f g, X f = some g → ∀ (lim : Nat) (args : List Value) (h : AH) (v : Value) (h' : AH), lim ≤ h.length → g lim args h = some (v, h') → Pre lim h h'
  sound : ∀ f g, X f = some g → ∀ (lim : Nat) (args : List Value) (h : AH) (v : Value) (h' : AH) (r : Rho) (w : World) (args' : List Value), nb ≤ lim → lim ≤ h.length → g lim args h = some (v, h') → HR nb r h w → Fresh r h h' → VL r args args' →
    Enters P f ∧ Calls P f args'.toArray w (fun e w' => ∃ r' v', e = .returned v' ∧ Post nb lim r h w r' h' w' ∧ VR r' v v')
def noExt : Ext := fun _ => none
theorem noExt_ok : XOk P nb noExt := ⟨(fun f g h => by cases h), (fun f g h => by cases h)⟩

theorem acall_pre {X : Ext} (hX : XOk P nb X) {F : FuncId → Option RFunc} : ∀ k, CallP (acall X F k)
  | 0, lim, f, args, h, v, h', hl, ha => by cases ha
  | k + 1, lim, f, args, h, v, h', hl, ha => by
    simp only [acall] at ha
    split at ha
    · exact hX.pre _ _ ‹_› _ _ _ _ _ hl ha
    · split at ha
      · cases ha
      · split at ha
        · obtain ⟨⟨x, e1, h1⟩, h2, h3⟩ := Option.bind_eq_some_iff.1 ha
          have p := acode_pre (acall_pre hX k) _ _ _ _ _ _ hl h2
          split at h3
          · cases h3
          · obtain ⟨l, _, h4⟩ := Option.map_eq_some_iff.1 h3
            injection h4 with q1 q2
            subst q2
            exact p
        · cases ha

theorem func_inv {f : FuncId} {rf : RFunc} (h : Rs.func P f = some rf) : ∃ fn c, P.funcs[f]? = some fn ∧ (fn.name == "runtime.NumGoroutine") = false ∧ fn.body = some c ∧ rf.ntmps = fn.ntmps ∧ Rs.code P fn.ntmps c = some rf.body ∧ fn.results.toList.mapM (Rs.res P) = some rf.results := by
  unfold Rs.func at h
  split at h
  · cases h
  · rename_i fn hfn
    split at h
    · cases h
    · rename_i hname
      split at h
      · cases h
      · rename_i c hc
        obtain ⟨b, hb, h⟩ := Option.bind_eq_some_iff.1 h
        obtain ⟨rs, hrs, rfl⟩ := Option.map_eq_some_iff.1 h
        exact ⟨fn, c, hfn, by simpa using hname, hc, rfl, hb, hrs⟩
theorem enters_of {f : FuncId} {fn : Func} {c : Code} (h1 : P.funcs[f]? = some fn) (h2 : (fn.name == "runtime.NumGoroutine") = false) (h3 : fn.body = some c) : Enters P f := fun args w => by
  unfold callFunc
  simp only [Sem.run_bind, run_program, Result.andThen_ok, h1, h2, Bool.false_eq_true, if_false, h3, Option.isNone_some, Sem.run_pure]

theorem asAddr_some (ad : Addr) (w : World) : (asAddr (.pointer (some ad))).run P w = .ok ad w := rfl
theorem results_run {nt : Nat} {r : Rho} {e : Env} {h : AH} {a : Act} {w : World} (hr : HR nb r h w) (he : ER r e a nt) : ∀ (rs : List ResultVar) (rr : List RRes) (l : List Value), rs.mapM (Rs.res P) = some rr → aresults e h rr = some l →
    ∃ l', (rs.mapM (m := Sem) fun | .tmp t => pure (a.tmps.getD t undef) | .cell x t => do loadVar t (← asAddr (a.tmps.getD x undef))).run P w = .ok l' w ∧ VL r l l'
  | [], rr, l, h1, h2 => by
    simp at h1
    subst h1
    simp only [aresults] at h2
    injection h2 with h2
    subst h2
    exact ⟨[], by simp, VL.nil r⟩
  | q :: rs, rr, l, h1, h2 => by
    rw [List.mapM_cons] at h1
    cases h3 : Rs.res P q with
    | none => simp [h3] at h1
    | some q' =>
      cases h4 : rs.mapM (Rs.res P) with
      | none => simp [h3, h4] at h1
      | some rr' =>
        simp [h3, h4] at h1
        subst h1
        cases q with
        | tmp t =>
          simp only [Rs.res] at h3
          injection h3 with h3
          subst h3
          simp only [aresults] at h2
          obtain ⟨l2, h5, rfl⟩ := Option.map_eq_some_iff.1 h2
          obtain ⟨l', k1, k2⟩ := results_run hr he rs rr' l2 h4 h5
          refine ⟨a.tmps.getD t undef :: l', ?_, VL.cons (he.tmps t) k2⟩
          rw [List.mapM_cons]
          simp only [Sem.run_bind, Sem.run_pure, Result.andThen_ok, k1]
        | cell t ty =>
          simp only [Rs.res] at h3
          obtain ⟨n, hn, h3⟩ := Option.map_eq_some_iff.1 h3
          subst h3
          simp only [aresults] at h2
          obtain ⟨v, hv, h2⟩ := Option.bind_eq_some_iff.1 h2
          obtain ⟨l2, h5, rfl⟩ := Option.map_eq_some_iff.1 h2
          obtain ⟨l', k1, k2⟩ := results_run hr he rs rr' l2 h4 h5
          obtain ⟨ad, v', g1, g2, g3⟩ := loadVar_run (P := P) hr hn hv (he.tmps t)
          refine ⟨v' :: l', ?_, VL.cons g3 k2⟩
          rw [List.mapM_cons]
          simp only [Sem.run_bind, g1, asAddr_some, Sem.run_pure, Result.andThen_ok, g2, k1]

theorem acall_sound {X : Ext} (hX : XOk P nb X) (hm : P.follows .mixedOrders = true) : ∀ k, CallS P nb (acall X (Rs.func P) k)
  | 0, lim, f, args, h, v, h', r, w, args', _, _, ha, _, _, _ => by cases ha
  | k + 1, lim, f, args, h, v, h', r, w, args', hnb, hl, ha, hh, hf, hv => by
    simp only [acall] at ha
    split at ha
    · exact hX.sound _ _ ‹_› _ _ _ _ _ _ _ _ hnb hl ha hh hf hv
    · split at ha
      · cases ha
      · rename_i rf hrf
        obtain ⟨fn, c, f1, f2, f3, f4, f5, f6⟩ := func_inv hrf
        refine ⟨enters_of f1 f2 f3, ?_⟩
        split at ha
        · rename_i hlen
          obtain ⟨⟨x, e1, h1⟩, h2, h3⟩ := Option.bind_eq_some_iff.1 ha
          have hend : (∀ i, x ≠ .exit i) ∧ ∃ l, aresults e1 h1 rf.results = some l ∧ resultOf l = v ∧ h1 = h' := by
            cases x with
            | exit i => simp at h3
            | normal =>
              obtain ⟨l, h4, h5⟩ := Option.map_eq_some_iff.1 h3
              injection h5 with q1 q2
              exact ⟨fun i hx => (by cases hx), l, h4, q1, q2⟩
            | ret =>
              obtain ⟨l, h4, h5⟩ := Option.map_eq_some_iff.1 h3
              injection h5 with q1 q2
              exact ⟨fun i hx => (by cases hx), l, h4, q1, q2⟩
          obtain ⟨hx, l, hl1, rfl, rfl⟩ := hend
          refine calls_of_wp f1 f3 ?_
          have her : ER r (envOf args) { tmps := args'.toArray ++ Array.replicate (fn.ntmps - args'.toArray.size) undef, defers := [] } fn.ntmps := by
            refine ⟨fun t => ?_, by simp; have := hv.1; omega⟩
            unfold envOf
            simp only [Array.getD_eq_getD_getElem?, Array.getElem?_append, List.size_toArray, Array.getElem?_replicate, List.getElem?_toArray]
            by_cases ht : t < args'.length
            · rw [if_pos ht]
              have ht' : t < args.length := by rw [hv.1]; exact ht
              rw [List.getElem?_eq_getElem ht, List.getElem?_eq_getElem ht']
              exact hv.2 t _ _ (List.getElem?_eq_getElem ht') (List.getElem?_eq_getElem ht)
            · rw [if_neg ht, List.getElem?_eq_none (by rw [hv.1]; omega)]
              split
              · exact VR.undef r
              · exact VR.undef r
          refine code_sound (acall_sound hX hm k) (acall_pre hX k) hm hnb c rf.body f5 (envOf args) h x e1 h1 r _ w _ h2 hh her hf hl fun r' a' w' p1 p2 p3 => ?_
          obtain ⟨l', k1, k2⟩ := results_run (P := P) p1.hr p2 fn.results.toList rf.results l f6 hl1
          have hres : ∃ v', (results fn a'.tmps).run P w' = .ok v' w' ∧ VR r' (resultOf l) v' := by
            unfold results
            rw [Array.mapM_eq_mapM_toList]
            simp only [Sem.run_bind, Sem.run_map]
            erw [k1]
            simp only [Result.andThen_ok, Sem.run_pure]
            cases l with
            | nil => obtain rfl := k2.nil_inv; exact ⟨_, rfl, VR.tupleL (VL.nil _)⟩
            | cons y l =>
              obtain ⟨y', l2, rfl, g1, g2⟩ := k2.cons_inv
              cases l with
              | nil => obtain rfl := g2.nil_inv; exact ⟨_, rfl, g1⟩
              | cons z l =>
                obtain ⟨z', l3, rfl, g3, g4⟩ := g2.cons_inv
                exact ⟨_, rfl, VR.tupleL (VL.cons g1 (VL.cons g3 g4))⟩
          obtain ⟨v', m1, m2⟩ := hres
          cases x with
          | exit i => exact absurd rfl (hx i)
          | normal => exact ⟨p3, v', m1, r', v', rfl, p1, m2⟩
          | ret => exact ⟨p3, v', m1, r', v', rfl, p1, m2⟩
        · cases ha

end
end Go.Proofs.YtmikcpgkppkmiaaW.Ai
