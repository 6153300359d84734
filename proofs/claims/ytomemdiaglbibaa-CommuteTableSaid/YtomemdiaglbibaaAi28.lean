/-
  The small machine: a row's arguments. Of no program.
-/
import Derived.Test.YtomemdiaglbibaaAi27
import Derived.WalkKit
import Derived.ProofKit
import Derived.RowKit
import Derived.ShutString
import Derived.ChangeMaps5
set_option linter.unusedVariables false
set_option linter.unusedSimpArgs false
namespace Go.Proofs.YtomemdiaglbibaaW.Ai
open Go.ChangeShapes Go.WideShapes Go.RowKit
section
variable {H : Type} {P : Program} {enc : TypeId × Value → H} {w : World} {spare : Nat → Bool} {held : Bool} {v : Value} {x : DataW H} {p : List MemPlace} {ts : List TypeId} {ds : List (DataW H)} {j : Nat} {t : TypeId} {d : Nat} {ks : List CK} {r : Reach} {b : Nat}
theorem weights_at : ∀ (ts : List TypeId) (ds : List (DataW H)) (j : Nat) {t : TypeId} {x : DataW H}, (DataW.weightsEach P ts ds).all (· ≤ reachBytes) = true → ts[j]? = some t → ds[j]? = some x → (x.weights P t).all (· ≤ reachBytes) = true
  | [], ds, j, t, x, _, h1, _ => by simp at h1
  | t0 :: ts, [], j, t, x, _, _, h2 => by simp at h2
  | t0 :: ts, d0 :: ds, 0, t, x, h0, h1, h2 => by
    simp only [DataW.weightsEach, List.all_append, Bool.and_eq_true] at h0
    simp at h1 h2
    subst h1; subst h2
    exact h0.1
  | t0 :: ts, d0 :: ds, j + 1, t, x, h0, h1, h2 => by
    simp only [DataW.weightsEach, List.all_append, Bool.and_eq_true] at h0
    exact weights_at ts ds j h0.2 (by simpa using h1) (by simpa using h2)
theorem arg_cok (hk : ckinds P d t = some ks) (hsz : (DataW.weightsEach P ts ds).all (· ≤ reachBytes) = true) (ht : ts[j]? = some t) (hd : ds[j]? = some x) (hx : DataW.Trod enc P w 0 spare held t v x p) : COk w ks v.cells.toList := by
  obtain ⟨fuel, hf⟩ := hx
  exact open_t d t ks hk fuel _ (x, p) hf (weights_at ts ds j hsz ht hd)
theorem argIs_struct {fs : Array Field} (hu : P.underlying t = some (.struct fs)) (hv : Value.okWide P w r b t v) (hc : COk w ks v.cells.toList) : ArgIs w (true, ks) v := by
  unfold Value.okWide at hv
  rw [hu] at hv
  obtain ⟨c, rfl, _⟩ := hv
  exact ⟨c.toList, by simp, hc⟩
theorem argIs_array {n : Nat} {e : TypeId} (hu : P.underlying t = some (.array n e)) (hv : Value.okWide P w r b t v) (hc : COk w ks v.cells.toList) : ArgIs w (true, ks) v := by
  unfold Value.okWide at hv
  rw [hu] at hv
  obtain ⟨c, rfl, _⟩ := hv
  exact ⟨c.toList, by simp, hc⟩
theorem argIs_slice {e : TypeId} (hu : P.underlying t = some (.slice e)) (hv : Value.okWide P w r b t v) (hc : COk w ks v.cells.toList) : ArgIs w (false, ks) v := by
  obtain ⟨a, n, c, rfl⟩ := okWide_slice hu hv
  exact hc
theorem argIs_int {k : IntKind} (hu : P.underlying t = some (.int k)) (hv : Value.okWide P w r b t v) (hx : DataW.Trod enc P w 0 spare held t v x p) (hc : COk w ks v.cells.toList) : ArgIs w (false, ks) v := by
  obtain ⟨a, rfl, _⟩ := open_int hu hv hx
  exact hc
theorem argIs_bool (hu : P.underlying t = some .bool) (hv : Value.okWide P w r b t v) (hx : DataW.Trod enc P w 0 spare held t v x p) (hc : COk w ks v.cells.toList) : ArgIs w (false, ks) v := by
  obtain ⟨a, rfl, _⟩ := open_bool hu hv hx
  exact hc
theorem argIs_str (hu : P.underlying t = some .string) (hv : Value.okWide P w r b t v) (hx : DataW.Trod enc P w 0 spare held t v x p) (hc : COk w ks v.cells.toList) : ArgIs w (false, ks) v := by
  obtain ⟨a, rfl, _⟩ := Go.ChangeMaps.open_string hu hv hx
  exact hc
theorem trod_below (h : DataW.Trod enc P w b spare held t v x p) : ∀ z ∈ p, z.block < w.heap.size := by
  obtain ⟨m, hm⟩ := h
  exact DataW.trod_lt m _ _ _ hm
end
def wideB : List (Bool × List CK) → Bool
  | gs => gs.all fun g => g.2.all fun k => match k with | .f _ => true | .sl es _ => decide (0 < es.length)
theorem wide_of {gs : List (Bool × List CK)} (h : wideB gs = true) : ∀ g ∈ gs, ∀ k ∈ g.2, Wide k := fun g hg k hk => by
  unfold wideB at h
  simp only [List.all_eq_true] at h
  have := h g hg k hk
  cases k with
  | f x => trivial
  | sl es B => exact of_decide_eq_true (p := 0 < es.length) this
/-! ### an argument's words -/
section
variable {h : AH}
theorem AArg.int {v : Value} (ha : AArg h (false, [.f (.int .i64)]) v) : ∃ n : Int, v = .int .i64 n ∧ -9223372036854775808 ≤ n ∧ n ≤ 9223372036854775807 := by
  obtain ⟨n, h1, h2⟩ := ha.2 0 _ _ rfl rfl
  refine ⟨n, h1, ?_⟩
  have : (Lit.int IntKind.i64 n).wf = true := h2
  simp [Lit.wf, IntKind.min, IntKind.max, IntKind.signed, IntKind.bits] at this
  omega
theorem AArg.bool {v : Value} (ha : AArg h (false, [.f .bool]) v) : ∃ b : Bool, v = .bool b := ha.2 0 _ _ rfl rfl
def Fits (xs : List Int) : Prop := ∀ x ∈ xs, -9223372036854775808 ≤ x ∧ x ≤ 9223372036854775807
theorem AIs.ints {v : Value} (ha : AIs h (.sl [.int .i64] 8) v) : ∃ a n xs, v = .slice a n n ∧ Sl 1 h a n n (ints xs) ∧ Fits xs ∧ n ≤ 2 ^ 44 := by
  obtain ⟨a, n, cs, h1, h2, h3, h4, h5⟩ := ha
  have h2' : Sl 1 h a n n cs := h2
  have key : ∃ xs : List Int, cs = Ai.ints xs ∧ Fits xs := by
    have hall : ∀ c ∈ cs, ∃ m : Int, c = .int .i64 m ∧ (Lit.int IntKind.i64 m).wf = true := fun c hc => by
      obtain ⟨i, hi, rfl⟩ := List.getElem_of_mem hc
      have hin : i < n := by have := h3.1; simp at this; omega
      exact h3.2 i hin 0 (.int .i64) _ rfl (by simp [List.getElem?_eq_getElem hi])
    clear h1 h2 h2' h3 h4 h5
    induction cs with
    | nil => exact ⟨[], rfl, fun x hx => by cases hx⟩
    | cons c cs ih =>
      obtain ⟨xs, rfl, hf⟩ := ih fun c hc => hall c (by simp [hc])
      obtain ⟨m, rfl, hm⟩ := hall c (by simp)
      refine ⟨m :: xs, rfl, fun x hx => ?_⟩
      rcases List.mem_cons.1 hx with rfl | hx
      · simp [Lit.wf, IntKind.min, IntKind.max, IntKind.signed, IntKind.bits] at hm
        omega
      · exact hf x hx
  obtain ⟨xs, rfl, hf⟩ := key
  exact ⟨a, n, xs, h1, h2', hf, by omega⟩
theorem AArg.ints {v : Value} (ha : AArg h (false, [.sl [.int .i64] 8]) v) : ∃ a n xs, v = .slice a n n ∧ Sl 1 h a n n (ints xs) ∧ Fits xs ∧ n ≤ 2 ^ 44 := AIs.ints (ha.2 0 _ _ rfl rfl)
end
end Go.Proofs.YtomemdiaglbibaaW.Ai
