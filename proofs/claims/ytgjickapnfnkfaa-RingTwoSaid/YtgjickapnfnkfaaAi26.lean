/-
  The small machine: calls without arguments, run by the kernel; statements as a whole. Of no program.
-/
import Derived.Test.YtgjickapnfnkfaaMd
set_option linter.unusedVariables false
set_option linter.unusedSimpArgs false
namespace Go.Proofs.YtgjickapnfnkfaaW.Ai
section
variable {P : Program} {nb : Nat}
/-- Where no block that one knows of is changed. -/
theorem HR.keep {r : Rho} {h : AH} {w w' : World} (hr : HR nb r h w) (hk : ∀ c, c < w.heap.size → w'.heap[c]? = w.heap[c]?) (hs : w.heap.size ≤ w'.heap.size) : HR nb r h w' where
  cells := fun {b i cs} hb hh j u hu => by
    obtain ⟨v, hv, k⟩ := hr.cells hb hh j u hu
    refine ⟨v, ?_, k⟩
    unfold World.cell? at *
    rw [hk _ (hr.bd hb (by rw [hh]; rfl))]
    exact hv
  own := fun {b i cs} hb ho hh => by rw [hk _ (hr.bd hb (by rw [hh]; rfl))]; exact hr.own hb ho hh
  inj := hr.inj
  map := fun {b i es} hb hh => by rw [hk _ (hr.bd hb (by rw [hh]; rfl))]; exact hr.map hb hh
  bd := fun {b i} hb hl => Nat.lt_of_lt_of_le (hr.bd hb hl) hs
  mine := hr.mine
/-- A call without arguments that comes to this, as the kernel runs it. -/
def Closed (P : Program) (f : FuncId) (v : Value) : Prop := flat v = true ∧ ∃ k, (acall noExt (Rs.func P) k 0 f [] []).map Prod.fst = some v
def clExt (l : List (FuncId × Value)) : Ext := fun f => (l.find? fun p => p.1 == f).map fun p => fun lim args h => if args.isEmpty = true then some (p.2, h) else none
theorem clExt_ok (hm : P.follows .mixedOrders = true) {l : List (FuncId × Value)} (hl : ∀ p ∈ l, Closed P p.1 p.2) : XOk P nb (clExt l) := by
  have inv : ∀ f g, clExt l f = some g → ∃ v, Closed P f v ∧ g = fun lim args h => if args.isEmpty = true then some (v, h) else none := fun f g hg => by
    unfold clExt at hg
    obtain ⟨p, h1, rfl⟩ := Option.map_eq_some_iff.1 hg
    have h2 := List.find?_some h1
    have h3 := List.mem_of_find?_eq_some h1
    have : p.1 = f := by simpa using h2
    exact ⟨p.2, this ▸ hl p h3, rfl⟩
  refine ⟨fun f g hg lim args h v h' _ ha => ?_, fun f g hg lim args h v h' r w args' hnb hlim ha hh hf hv => ?_⟩
  · obtain ⟨u, _, rfl⟩ := inv f g hg
    simp only at ha
    split at ha
    · injection ha with ha; injection ha with e1 e2; subst e2; exact Pre.refl _ _
    · cases ha
  · obtain ⟨u, ⟨hfl, k, hk⟩, rfl⟩ := inv f g hg
    simp only at ha
    split at ha
    · rename_i hemp
      injection ha with ha; injection ha with e1 e2; subst e1; subst e2
      have hargs : args = [] := by simpa using hemp
      subst hargs
      obtain rfl := hv.nil_inv
      obtain ⟨⟨u', h0'⟩, hk2, hu⟩ := Option.map_eq_some_iff.1 hk
      simp only at hu
      subst hu
      have e0 : HR 0 (fun _ => none) [] w := ⟨(fun h => by cases h), (fun h => by cases h), (fun h => by cases h), (fun h => by cases h), (fun h => by cases h), (fun h => by cases h)⟩
      obtain ⟨h1, h2⟩ := acall_sound (nb := 0) noExt_ok hm k 0 f [] [] u' h0' (fun _ => none) w [] (Nat.le_refl _) (Nat.le_refl _) hk2 e0 (fun _ _ _ => rfl) (VL.nil _)
      refine ⟨h1, h2.mono fun e w' he => ?_⟩
      obtain ⟨r', v', rfl, p1, p2⟩ := he
      have hv' := p2.eq_of_flat hfl
      subst hv'
      have hkeep : ∀ c, c < w.heap.size → w'.heap[c]? = w.heap[c]? := fun c hc => p1.keep c hc fun hx => by
        obtain ⟨b, i, _, h4, _⟩ := hx
        simp at h4
      refine ⟨r, v', rfl, ⟨hh.keep hkeep p1.size, Rho.Le.refl _, fun h => .inl h, Nat.le_refl _, p1.os, p1.tape, p1.output, p1.size, fun c hc _ => hkeep c hc⟩, VR.flat hfl⟩
    · cases ha
end
end Go.Proofs.YtgjickapnfnkfaaW.Ai
