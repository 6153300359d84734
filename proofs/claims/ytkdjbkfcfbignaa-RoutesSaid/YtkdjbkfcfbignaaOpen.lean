/-
  Reading a law's arguments: what the form's own reading of a value ('DataW.trod') tells in the words of the print ('Kd'), type by type, put together by one lemma a kind. Written by this session; of no program.
-/
import Derived.Test.YtkdjbkfcfbignaaWWords
import Derived.SizedLaws
import Derived.ChangeArms
import Derived.OpenShut
import Derived.WideShapes
import Derived.Lib.SmallJoins
namespace Go.Proofs.YtkdjbkfcfbignaaW.Open
open Go.RowKit Go.Proofs.YtkdjbkfcfbignaaW.PrintWords

/-- A value of type t that can be read as data is of kind d, and what it holds is within its bounds. -/
structure Opens {α : Type} (P : Program) (t : TypeId) (d : Kd α) (ok : α → Prop) : Prop where
  cells : P.cellsOf t = d.sz
  opens : ∀ {H : Type} (enc : TypeId × Value → H) (w : World) (spare : Nat → Bool) (held : Bool) (fuel : Nat) (cs : List Value) (x : DataW H × List MemPlace),
    DataW.trod enc P w 0 spare held fuel t cs = some x → (x.1.weights P t).all (· ≤ reachBytes) = true → ∃ a : α, d.K w a cs ∧ ok a

theorem Opens.int {P : Program} {t : TypeId} {k : IntKind} (ht : P.underlying t = some (.int k)) (hc : P.cellsOf t = 1) : Opens P t (Kd.int k) (fun a => (Lit.int k a).wf = true) :=
  ⟨hc, fun enc w spare held fuel cs x h _ => by
    obtain ⟨n, rfl, _, hw⟩ := DataW.trod_int ht h
    exact ⟨n, rfl, hw⟩⟩
theorem Opens.bool {P : Program} {t : TypeId} (ht : P.underlying t = some .bool) (hc : P.cellsOf t = 1) : Opens P t Kd.bool (fun _ => True) :=
  ⟨hc, fun enc w spare held fuel cs x h _ => by
    obtain ⟨b, rfl, _⟩ := DataW.trod_bool ht h
    exact ⟨b, rfl, trivial⟩⟩
theorem Opens.string {P : Program} {t : TypeId} (ht : P.underlying t = some .string) (hc : P.cellsOf t = 1) : Opens P t Kd.string (fun s => s.size ≤ 140737488351232) :=
  ⟨hc, fun enc w spare held fuel cs x h hz => by
    obtain ⟨s, rfl, rfl, _⟩ := DataW.trod_string ht h
    refine ⟨s, rfl, ?_⟩
    simp [DataW.weights, reachBytes] at hz
    exact of_decide_eq_true hz⟩
theorem Opens.iso {α β : Type} {P : Program} {t : TypeId} {d : Kd α} {ok : α → Prop} (h : Opens P t d ok) (f : β → α) (g : α → β) (hfg : ∀ a, f (g a) = a) : Opens P t (Kd.iso d f) (fun b => ok (f b)) :=
  ⟨h.cells, fun enc w spare held fuel cs x hx hz => by
    obtain ⟨a, ha, hok⟩ := h.opens enc w spare held fuel cs x hx hz
    exact ⟨g a, (show d.K w (f (g a)) cs by rw [hfg]; exact ha), by rw [hfg]; exact hok⟩⟩
theorem Opens.imp {α : Type} {P : Program} {t : TypeId} {d : Kd α} {ok ok' : α → Prop} (h : Opens P t d ok) (hi : ∀ a, ok a → ok' a) : Opens P t d ok' :=
  ⟨h.cells, fun enc w spare held fuel cs x hx hz => by
    obtain ⟨a, ha, hok⟩ := h.opens enc w spare held fuel cs x hx hz
    exact ⟨a, ha, hi a hok⟩⟩

theorem exists_list {α : Type} (n : Nat) (p : Nat → α → Prop) (h : ∀ i, i < n → ∃ a, p i a) : ∃ xs : List α, xs.length = n ∧ ∀ i a, xs[i]? = some a → p i a := by
  induction n with
  | zero => exact ⟨[], rfl, fun i a hi => by simp at hi⟩
  | succ n ih =>
    obtain ⟨xs, hl, hx⟩ := ih (fun i hi => h i (by omega))
    obtain ⟨a, ha⟩ := h n (by omega)
    refine ⟨xs ++ [a], by simp [hl], fun i b hi => ?_⟩
    by_cases hlt : i < n
    · rw [List.getElem?_append_left (by omega)] at hi
      exact hx i b hi
    · have : i = n := by
        have := (List.getElem?_eq_some_iff.1 hi).1
        simp at this
        omega
      subst this
      rw [List.getElem?_append_right (by omega), hl] at hi
      simp at hi
      subst hi
      exact ha
theorem weightsAll_mem {H : Type} {P : Program} {e : TypeId} {p : Nat → Bool} : ∀ {ds : List (DataW H)}, (DataW.weightsAll P e ds).all p = true → ∀ d ∈ ds, (d.weights P e).all p = true
  | [], _, d, hd => by simp at hd
  | d0 :: ds, h, d, hd => by
    unfold DataW.weightsAll at h
    rw [List.all_append, Bool.and_eq_true] at h
    rcases List.mem_cons.1 hd with rfl | hd
    · exact h.1
    · exact weightsAll_mem h.2 d hd

theorem Opens.slice {α : Type} {P : Program} {t e : TypeId} {d : Kd α} {ok : α → Prop} {B : Nat} (h : Opens P e d ok) (ht : P.underlying t = some (.slice e)) (hc : P.cellsOf t = 1) (hB : P.bytesOf e = B) :
    Opens P t (Kd.slice e d) (fun xs => xs.length ≤ maxLen ∧ xs.length * B ≤ 140737488351232 ∧ ∀ x ∈ xs, ok x) :=
  ⟨hc, fun enc w spare held fuel cs x hx hz => by
    rcases DataW.trod_slice ht hx with ⟨rfl, _⟩ | ⟨a, len, cap, elems, rest, n, _, rfl, rfl, _, hlc, hcm, hel, hget, _, _⟩
    · exact ⟨[], ⟨none, 0, rfl, Nat.le_refl _, Kd.C_nil _ _⟩, by simp [maxLen], by simp, fun x hx => by simp at hx⟩
    · simp only [DataW.weights, ht, List.all_cons, List.all_append, Bool.and_eq_true, decide_eq_true_eq, List.length_map] at hz
      obtain ⟨hz1, hz2, _⟩ := hz
      have hall := weightsAll_mem hz2
      obtain ⟨xs, hxl, hxs⟩ := exists_list (α := α) len (fun i b => ∃ c, w.cells? 0 (a.add (i * P.cellsOf e)) (P.cellsOf e) = some c ∧ d.K w b c ∧ ok b) (fun i hi => by
        have hg := hget i hi
        have : i < elems.length := by omega
        rw [List.getElem?_eq_getElem this, Option.bind_eq_some_iff] at hg
        obtain ⟨c, hc1, hc2⟩ := hg
        obtain ⟨b, hb1, hb2⟩ := h.opens enc w spare held n c elems[i] hc2 (hall _ (List.mem_map.2 ⟨_, List.getElem_mem _, rfl⟩))
        exact ⟨b, c, hc1, hb1, hb2⟩)
      have hm : xs.length ≤ 9223372036854775807 := by simp only [maxLen] at hcm; omega
      refine ⟨xs, ⟨some a, cap, by rw [hxl], by omega, rfl, hm, fun hp => ⟨a, rfl, fun j p hj => ?_⟩⟩, by simp only [maxLen]; omega, ?_, fun x hx => ?_⟩
      · obtain ⟨c, hc1, hc2, _⟩ := hxs j p hj
        refine ⟨c, d.K_len hc2, hc2, fun i u hu => ?_⟩
        unfold World.cells? at hc1
        rw [if_pos (Nat.zero_le _)] at hc1
        have hcl := mapM_some_length hc1
        have hi : i < P.cellsOf e := by
          have := (List.getElem?_eq_some_iff.1 hu).1
          rw [hcl] at this
          simpa using this
        have hb2 := mapM_some_get hc1 i i (by simp [hi])
        rw [hu, h.cells, add_add] at hb2
        exact hb2
      · rw [hB] at hz1
        simp only [reachBytes] at hz1
        rw [hxl, ← hel]
        exact Nat.le_trans (Nat.mul_le_mul_right _ (by omega)) hz1
      · obtain ⟨i, hi, rfl⟩ := List.getElem_of_mem hx
        obtain ⟨c, _, _, hok⟩ := hxs i _ (List.getElem?_eq_getElem hi)
        exact hok⟩

/-- The fields that are left, from place s on: types and places. -/
def FieldsOpen {β : Type} (P : Program) (l : List (TypeId × Nat)) (s : Nat) (d : Kd β) (ok : β → Prop) : Prop :=
  ∀ {H : Type} (enc : TypeId × Value → H) (w : World) (spare : Nat → Bool) (held : Bool) (fuel : Nat) (cs : List Value) (xs : List (DataW H × List MemPlace)),
    (∀ (i : Nat) t o, l[i]? = some (t, o) → DataW.trod enc P w 0 spare held fuel t ((cs.drop o).take (P.cellsOf t)) = xs[i]?) → xs.length = l.length →
    (DataW.weightsEach P (l.map (·.1)) (xs.map (·.1))).all (· ≤ reachBytes) = true → ∃ b : β, d.K w b ((cs.drop s).take d.sz) ∧ ok b
theorem FieldsOpen.one {α : Type} {P : Program} {t : TypeId} {s : Nat} {d : Kd α} {ok : α → Prop} (h : Opens P t d ok) : FieldsOpen P [(t, s)] s d ok := by
  intro H enc w spare held fuel cs xs hx hl hz
  obtain ⟨x, rfl⟩ : ∃ x, xs = [x] := List.length_eq_one_iff.1 (by simpa using hl)
  have h0 := hx 0 t s rfl
  rw [h.cells] at h0
  exact h.opens enc w spare held fuel _ x h0 (by simpa [DataW.weightsEach] using hz)
theorem FieldsOpen.cons {α β : Type} {P : Program} {t : TypeId} {s s' : Nat} {l : List (TypeId × Nat)} {d0 : Kd α} {d : Kd β} {ok0 : α → Prop} {ok : β → Prop} (h : Opens P t d0 ok0) (hs : s' = s + d0.sz) (hr : FieldsOpen P l s' d ok) :
    FieldsOpen P ((t, s) :: l) s (Kd.pair d0 d) (fun x => ok0 x.1 ∧ ok x.2) := by
  intro H enc w spare held fuel cs xs hx hl hz
  cases xs with
  | nil => simp at hl
  | cons x xs =>
    have h0 := hx 0 t s rfl
    rw [h.cells] at h0
    simp only [List.map_cons, DataW.weightsEach, List.all_append, Bool.and_eq_true] at hz
    obtain ⟨a, ha1, ha2⟩ := h.opens enc w spare held fuel _ x h0 hz.1
    obtain ⟨b, hb1, hb2⟩ := hr enc w spare held fuel cs xs (fun i t o hi => by simpa using hx (i + 1) t o (by simpa using hi)) (by simpa using hl) hz.2
    refine ⟨(a, b), ⟨_, _, ?_, ha1, hb1⟩, ha2, hb2⟩
    subst hs
    show (cs.drop s).take (d0.sz + d.sz) = _
    rw [List.take_add, List.drop_drop]
theorem Opens.struct {β : Type} {P : Program} {t : TypeId} {fs : Array Field} {l : List (TypeId × Nat)} {d : Kd β} {ok : β → Prop} (ht : P.underlying t = some (.struct fs)) (hl : fs.toList.map (fun f => (f.type, f.offset)) = l) (hc : P.cellsOf t = d.sz)
    (h : FieldsOpen P l 0 d ok) : Opens P t d ok :=
  ⟨hc, fun enc w spare held fuel cs x hx hz => by
    obtain ⟨xs, n, _, rfl, hcl, hxl, hget⟩ := DataW.trod_struct ht hx
    simp only [DataW.weights, ht] at hz
    have hlm : l.map (·.1) = fs.toList.map (·.type) := by rw [← hl, List.map_map]; rfl
    obtain ⟨b, hb1, hb2⟩ := h enc w spare held n cs xs (fun i t o hi => by
      rw [← hl, List.getElem?_map, Option.map_eq_some_iff] at hi
      obtain ⟨f, hf, he⟩ := hi
      simp only [Prod.mk.injEq] at he
      obtain ⟨rfl, rfl⟩ := he
      exact hget i f (by simpa using hf)) (by rw [hxl, ← hl]; simp) (by rw [hlm]; exact hz)
    refine ⟨b, ?_, hb2⟩
    rw [List.drop_zero, List.take_of_length_le (by omega)] at hb1
    exact hb1⟩
theorem weightsAll_each {H : Type} {P : Program} {e : TypeId} : ∀ {ds : List (DataW H)}, DataW.weightsAll P e ds = DataW.weightsEach P (List.replicate ds.length e) ds
  | [] => by simp [DataW.weightsAll, DataW.weightsEach]
  | d :: ds => by simp [DataW.weightsAll, DataW.weightsEach, List.replicate_succ, weightsAll_each (ds := ds)]
theorem Opens.array {β : Type} {P : Program} {t e : TypeId} {n : Nat} {l : List (TypeId × Nat)} {d : Kd β} {ok : β → Prop} (ht : P.underlying t = some (.array n e)) (hl : (List.range n).map (fun i => (e, i * P.cellsOf e)) = l) (hc : P.cellsOf t = d.sz)
    (h : FieldsOpen P l 0 d ok) : Opens P t d ok :=
  ⟨hc, fun enc w spare held fuel cs x hx hz => by
    obtain ⟨xs, m, _, rfl, hcl, hxl, hget⟩ := DataW.trod_array ht hx
    simp only [DataW.weights, ht] at hz
    have hlm : l.map (·.1) = List.replicate n e := by
      rw [← hl, List.map_map]
      apply List.ext_getElem?
      intro i
      simp only [List.getElem?_map, List.getElem?_replicate]
      by_cases hi : i < n <;> simp [hi]
    obtain ⟨b, hb1, hb2⟩ := h enc w spare held m cs xs (fun i t o hi => by
      rw [← hl, List.getElem?_map, Option.map_eq_some_iff] at hi
      obtain ⟨j, hj, he⟩ := hi
      have hj' := List.getElem?_eq_some_iff.1 hj
      obtain ⟨hlt, hj'⟩ := hj'
      simp at hlt hj'
      subst hj'
      simp only [Prod.mk.injEq] at he
      obtain ⟨rfl, rfl⟩ := he
      exact hget i hlt) (by rw [hxl, ← hl]; simp) (by
      rw [hlm]
      rw [weightsAll_each, List.length_map, hxl] at hz
      exact hz)
    refine ⟨b, ?_, hb2⟩
    rw [List.drop_zero, List.take_of_length_le (by omega)] at hb1
    exact hb1⟩

/-- An argument of a row, opened: its cells are of the kind. -/
theorem arg_opens {α H : Type} {P : Program} {t : TypeId} {d : Kd α} {ok : α → Prop} {enc : TypeId × Value → H} {w : World} {spare : Nat → Bool} {held : Bool} {v : Value} {x : DataW H} {p : List MemPlace} {ts : List TypeId} {ds : List (DataW H)} {j : Nat}
    (h : Opens P t d ok) (hsz : (DataW.weightsEach P ts ds).all (· ≤ reachBytes) = true) (ht : ts[j]? = some t) (hd : ds[j]? = some x) (hx : DataW.Trod enc P w 0 spare held t v x p) : ∃ a : α, d.K w a v.cells.toList ∧ ok a := by
  obtain ⟨fuel, hf⟩ := hx
  refine h.opens enc w spare held fuel _ (x, p) hf ?_
  have key : ∀ (ts : List TypeId) (ds : List (DataW H)) (j : Nat), (DataW.weightsEach P ts ds).all (· ≤ reachBytes) = true → ts[j]? = some t → ds[j]? = some x → (x.weights P t).all (· ≤ reachBytes) = true := by
    intro ts
    induction ts with
    | nil => intro ds j _ h1 _; simp at h1
    | cons t0 ts ih =>
      intro ds j h0 h1 h2
      cases ds with
      | nil => simp at h2
      | cons d0 ds =>
        simp only [DataW.weightsEach, List.all_append, Bool.and_eq_true] at h0
        cases j with
        | zero =>
          simp at h1 h2
          subst h1; subst h2
          exact h0.1
        | succ j => exact ih ds j h0.2 (by simpa using h1) (by simpa using h2)
  exact key ts ds j hsz ht hd
/-- A struct's (or an array's) value is its cells. -/
theorem agg_of {P : Program} {w : World} {r : Reach} {b : Nat} {t : TypeId} {fs : Array Field} {v : Value} (ht : P.underlying t = some (.struct fs)) (hv : Value.okWide P w r b t v) {cs : List Value} (hc : v.cells.toList = cs) : v = .agg cs.toArray := by
  unfold Value.okWide at hv
  rw [ht] at hv
  obtain ⟨c, rfl, _⟩ := hv
  simp only [Value.cells] at hc
  rw [← hc]
theorem trod_lt {H : Type} {P : Program} {enc : TypeId × Value → H} {w : World} {spare : Nat → Bool} {held : Bool} {t : TypeId} {v : Value} {x : DataW H} {p : List MemPlace} {b : Nat} (h : DataW.Trod enc P w b spare held t v x p) : ∀ z ∈ p, z.block < w.heap.size := by
  obtain ⟨m, hm⟩ := h
  exact DataW.trod_lt m _ _ _ hm

end Go.Proofs.YtkdjbkfcfbignaaW.Open
