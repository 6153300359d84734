/-
  The small machine and Go's: a statement's arguments, read as data, told in the small machine's heap. Of no program.
-/
import Derived.Test.YtmikcpgkppkmiaaAi20
import Derived.SizedLaws
import Derived.ChangeArms
import Derived.OpenShut
import Derived.WideShapes
import Derived.ChangeSame
import Derived.Below
set_option linter.unusedVariables false
set_option linter.unusedSimpArgs false
namespace Go.Proofs.YtmikcpgkppkmiaaW.Ai
open Go.ChangeShapes Go.WideShapes

/-- Kinds of cells without addresses; of cells. -/
inductive FK where
  | bool
  | int (k : IntKind)
  | str
inductive CK where
  | f (x : FK)
  | sl (es : List FK) (B : Nat)

def FIs : FK → Value → Prop
  | .bool, v => ∃ b, v = .bool b
  | .int k, v => ∃ n, v = .int k n ∧ (Lit.int k n).wf = true
  | .str, v => ∃ s, v = .string s ∧ s.size ≤ 140737488351232
theorem FIs.flat {k : FK} {v : Value} (h : FIs k v) : Ai.flat v = true ∧ Ai.cellOk v = true := by
  cases k <;> obtain ⟨x, h⟩ := h <;> first | (subst h; exact ⟨rfl, rfl⟩) | (obtain ⟨rfl, _⟩ := h; exact ⟨rfl, rfl⟩)
/-- Cells by kinds, again and again. -/
def FRow (es : List FK) (n : Nat) (cs : List Value) : Prop := cs.length = n * es.length ∧ ∀ i, i < n → ∀ j k v, es[j]? = some k → cs[i * es.length + j]? = some v → FIs k v
def CIs (w : World) : CK → Value → Prop
  | .f x, v => FIs x v
  | .sl es B, v => v = .slice none 0 0 ∨ ∃ a n c cs, v = .slice (some a) n c ∧ n ≤ c ∧ n * B ≤ 140737488351232 ∧ n ≤ maxLen ∧ FRow es n cs ∧ ∀ j u, cs[j]? = some u → w.cell? (a.add j) = some u
def COk (w : World) (ks : List CK) (cs : List Value) : Prop := cs.length = ks.length ∧ ∀ (i : Nat) k c, ks[i]? = some k → cs[i]? = some c → CIs w k c

def allF : List CK → Option (List FK)
  | [] => some []
  | .f x :: r => (allF r).map fun l => x :: l
  | _ => none
section
variable (P : Program)
def ckF (kd : TypeId → Option (List CK)) : List Field → Nat → Option (List CK)
  | [], _ => some []
  | f :: r, o => if f.offset = o then (kd f.type).bind fun ks => if P.cellsOf f.type = ks.length then (ckF kd r (o + ks.length)).map fun l => ks ++ l else none else none
def ckinds : Nat → TypeId → Option (List CK)
  | 0, _ => none
  | d + 1, t =>
    match P.underlying t with
    | some .bool => if P.cellsOf t = 1 then some [.f .bool] else none
    | some (.int k) => if P.cellsOf t = 1 then some [.f (.int k)] else none
    | some .string => if P.cellsOf t = 1 then some [.f .str] else none
    | some (.struct fs) => (ckF P (ckinds d) fs.toList 0).bind fun ks => if P.cellsOf t = ks.length then some ks else none
    | some (.array n e) => (ckinds d e).bind fun ks => if P.cellsOf e = ks.length ∧ P.cellsOf t = n * ks.length then some ((List.replicate n ks).flatten) else none
    | some (.slice e) => (ckinds d e).bind fun ks => (allF ks).bind fun es => if P.cellsOf t = 1 ∧ P.cellsOf e = es.length then some [.sl es (P.bytesOf e)] else none
    | _ => none
end
section
variable {P : Program} {w : World}

theorem addr_add_add (a : Addr) (i j : Nat) : (a.add i).add j = a.add (i + j) := by
  unfold Addr.add
  by_cases hi : i = 0
  · subst hi; simp
  · by_cases hj : j = 0
    · subst hj; simp [hi]
    · simp [hi, hj, show i + j ≠ 0 by omega, Nat.add_assoc]
theorem COk.append {ks ls : List CK} {cs ds : List Value} (h : COk w ks cs) (k : COk w ls ds) : COk w (ks ++ ls) (cs ++ ds) := by
  refine ⟨by simp [h.1, k.1], fun i x c hx hc => ?_⟩
  rw [List.getElem?_append] at hx hc
  rw [h.1] at hc
  split at hx
  · rename_i hi; rw [if_pos hi] at hc; exact h.2 i x c hx hc
  · rename_i hi; rw [if_neg hi] at hc; exact k.2 _ x c hx hc

theorem allF_inv : ∀ {ks : List CK} {es : List FK}, allF ks = some es → ks = es.map .f
  | [], es, h => by simp [allF] at h; subst h; rfl
  | .f x :: r, es, h => by
    simp only [allF] at h
    obtain ⟨l, hl, rfl⟩ := Option.map_eq_some_iff.1 h
    rw [allF_inv hl]; rfl
  | .sl _ _ :: r, es, h => by simp [allF] at h

theorem weightsAll_mem {H : Type} {e : TypeId} {p : Nat → Bool} : ∀ {ds : List (DataW H)}, (DataW.weightsAll P e ds).all p = true → ∀ d ∈ ds, (d.weights P e).all p = true
  | [], _, d, hd => by simp at hd
  | d0 :: ds, h, d, hd => by
    unfold DataW.weightsAll at h
    rw [List.all_append, Bool.and_eq_true] at h
    rcases List.mem_cons.1 hd with rfl | hd
    · exact h.1
    · exact weightsAll_mem h.2 d hd
theorem weightsEach_get {H : Type} {p : Nat → Bool} : ∀ {ts : List TypeId} {ds : List (DataW H)}, (DataW.weightsEach P ts ds).all p = true → ∀ (i : Nat) t d, ts[i]? = some t → ds[i]? = some d → (d.weights P t).all p = true
  | [], ds, _, i, t, d, ht, _ => by simp at ht
  | t0 :: ts, [], _, i, t, d, _, hd => by simp at hd
  | t0 :: ts, d0 :: ds, h, i, t, d, ht, hd => by
    simp only [DataW.weightsEach, List.all_append, Bool.and_eq_true] at h
    cases i with
    | zero => simp at ht hd; subst ht; subst hd; exact h.1
    | succ i => exact weightsEach_get h.2 i t d (by simpa using ht) (by simpa using hd)

theorem open_fields {H : Type} {enc : TypeId × Value → H} {spare : Nat → Bool} {held : Bool} {m : Nat} {kd : TypeId → Option (List CK)}
    (hkd : ∀ t ks, kd t = some ks → ∀ cs x, DataW.trod enc P w 0 spare held m t cs = some x → (x.1.weights P t).all (· ≤ reachBytes) = true → COk w ks cs) (cs : List Value) :
    ∀ (fs : List Field) (o : Nat) (ks : List CK) (xs : List (DataW H × List MemPlace)), ckF P kd fs o = some ks → xs.length = fs.length → (∀ (i : Nat) f, fs[i]? = some f → DataW.trod enc P w 0 spare held m f.type ((cs.drop f.offset).take (P.cellsOf f.type)) = xs[i]?) →
      (DataW.weightsEach P (fs.map (·.type)) (xs.map (·.1))).all (· ≤ reachBytes) = true → COk w ks ((cs.drop o).take ks.length)
  | [], o, ks, xs, h, _, _, _ => by
    simp only [ckF] at h
    injection h with h
    subst h
    exact ⟨rfl, fun i k c hk => by simp at hk⟩
  | f :: fs, o, ks, xs, h, hl, hx, hz => by
    simp only [ckF] at h
    split at h
    · rename_i hof
      obtain ⟨k1, h1, h⟩ := Option.bind_eq_some_iff.1 h
      split at h
      · rename_i hc
        obtain ⟨k2, h2, rfl⟩ := Option.map_eq_some_iff.1 h
        cases xs with
        | nil => simp at hl
        | cons x xs =>
          have h0 := hx 0 f rfl
          simp only [List.getElem?_cons_zero] at h0
          simp only [List.map_cons, DataW.weightsEach, List.all_append, Bool.and_eq_true] at hz
          have g1 := hkd f.type k1 h1 _ x h0 hz.1
          have g2 := open_fields hkd cs fs (o + k1.length) k2 xs h2 (by simpa using hl) (fun i g hg => by simpa using hx (i + 1) g (by simpa using hg)) hz.2
          rw [hof, hc] at g1
          have := g1.append g2
          rw [List.length_append, List.take_add, List.drop_drop]
          exact this
      · cases h
    · cases h

theorem open_t {H : Type} {enc : TypeId × Value → H} {spare : Nat → Bool} {held : Bool} :
    ∀ (d : Nat) (t : TypeId) (ks : List CK), ckinds P d t = some ks → ∀ (fuel : Nat) (cs : List Value) (x : DataW H × List MemPlace), DataW.trod enc P w 0 spare held fuel t cs = some x → (x.1.weights P t).all (· ≤ reachBytes) = true → COk w ks cs
  | 0, t, ks, h, _, _, _, _, _ => by simp [ckinds] at h
  | d + 1, t, ks, h, fuel, cs, x, hx, hz => by
    simp only [ckinds] at h
    split at h
    · rename_i hu
      split at h
      · injection h with h; subst h
        obtain ⟨b, rfl, _⟩ := DataW.trod_bool hu hx
        exact ⟨rfl, fun i k c hk hc => by
          cases i with
          | zero => simp at hk hc; subst hk; subst hc; exact ⟨b, rfl⟩
          | succ i => simp at hk⟩
      · cases h
    · rename_i k0 hu
      split at h
      · injection h with h; subst h
        obtain ⟨n, rfl, _, hw⟩ := DataW.trod_int hu hx
        exact ⟨rfl, fun i k c hk hc => by
          cases i with
          | zero => simp at hk hc; subst hk; subst hc; exact ⟨n, rfl, hw⟩
          | succ i => simp at hk⟩
      · cases h
    · rename_i hu
      split at h
      · injection h with h; subst h
        obtain ⟨s, rfl, rfl, _⟩ := DataW.trod_string hu hx
        have hs : s.size ≤ 140737488351232 := by
          simp [DataW.weights, reachBytes] at hz
          exact of_decide_eq_true hz
        exact ⟨rfl, fun i k c hk hc => by
          cases i with
          | zero => simp at hk hc; subst hk; subst hc; exact ⟨s, rfl, hs⟩
          | succ i => simp at hk⟩
      · cases h
    · rename_i fs hu
      obtain ⟨k1, h1, h⟩ := Option.bind_eq_some_iff.1 h
      split at h
      · rename_i hc
        injection h with h; subst h
        obtain ⟨xs, n, _, rfl, hcl, hxl, hget⟩ := DataW.trod_struct hu hx
        simp only [DataW.weights, hu] at hz
        have := open_fields (fun t ks hk cs x hx hz => open_t d t ks hk n cs x hx hz) cs fs.toList 0 k1 xs h1 (by simpa using hxl) (fun i f hf => hget i f (by simpa using hf)) hz
        rw [List.drop_zero, List.take_of_length_le (by omega)] at this
        exact this
      · cases h
    · rename_i n el hu
      obtain ⟨k1, h1, h⟩ := Option.bind_eq_some_iff.1 h
      split at h
      · rename_i hc
        injection h with h; subst h
        obtain ⟨xs, m, _, rfl, hcl, hxl, hget⟩ := DataW.trod_array hu hx
        simp only [DataW.weights, hu] at hz
        have key : ∀ q, q ≤ n → COk w ((List.replicate q k1).flatten) (cs.take (q * k1.length)) := by
          intro q
          induction q with
          | zero => intro _; simp [COk]
          | succ q ih =>
            intro hq
            have hg := hget q (by omega)
            have hq2 : q < xs.length := by omega
            rw [List.getElem?_eq_getElem hq2, hc.1] at hg
            have g := open_t d el k1 h1 m _ _ hg (weightsAll_mem hz _ (List.mem_map.2 ⟨_, List.getElem_mem _, rfl⟩))
            have := (ih (by omega)).append g
            rw [List.replicate_succ', List.flatten_append, Nat.succ_mul, List.take_add]
            simpa using this
        have := key n (Nat.le_refl _)
        rw [List.take_of_length_le (by omega)] at this
        exact this
      · cases h
    · rename_i el hu
      obtain ⟨k1, h1, h⟩ := Option.bind_eq_some_iff.1 h
      obtain ⟨es, h2, h⟩ := Option.bind_eq_some_iff.1 h
      split at h
      · rename_i hc
        injection h with h; subst h
        have hk1 := allF_inv h2
        rcases DataW.trod_slice hu hx with ⟨rfl, _⟩ | ⟨a, len, cap, elems, rest, n, _, rfl, rfl, _, hlc, hcm, hel, hget, _, _⟩
        · exact ⟨rfl, fun i k c hk hc => by
            cases i with
            | zero => simp at hk hc; subst hk; subst hc; exact .inl rfl
            | succ i => simp at hk⟩
        · simp only [DataW.weights, hu, List.all_cons, List.all_append, Bool.and_eq_true, decide_eq_true_eq, List.length_map] at hz
          obtain ⟨hz1, hz2, _⟩ := hz
          have hall := weightsAll_mem hz2
          have each : ∀ i, i < len → ∃ c, w.cells? 0 (a.add (i * P.cellsOf el)) (P.cellsOf el) = some c ∧ COk w k1 c := fun i hi => by
            have hg := hget i hi
            have : i < elems.length := by omega
            rw [List.getElem?_eq_getElem this, Option.bind_eq_some_iff] at hg
            obtain ⟨c, hc1, hc2⟩ := hg
            exact ⟨c, hc1, open_t d el k1 h1 n c elems[i] hc2 (hall _ (List.mem_map.2 ⟨_, List.getElem_mem _, rfl⟩))⟩
          obtain ⟨css, hl1, hl2⟩ := exists_list len (fun i c => w.cells? 0 (a.add (i * P.cellsOf el)) (P.cellsOf el) = some c ∧ COk w k1 c) each
          have hcl : ∀ (i : Nat) (c : List Value), css[i]? = some c → c.length = es.length := fun i c hi => by rw [(hl2 i c hi).2.1, hk1]; simp
          have flen : ∀ (l : List (List Value)), (∀ (i : Nat) (c : List Value), l[i]? = some c → c.length = es.length) → l.flatten.length = l.length * es.length := by
            intro l
            induction l with
            | nil => intro _; simp
            | cons c l ih =>
              intro hc
              rw [List.flatten_cons, List.length_append, ih (fun i c h => hc (i + 1) c (by simpa using h)), hc 0 c rfl, List.length_cons, Nat.succ_mul, Nat.add_comm]
          have fget : ∀ (l : List (List Value)), (∀ (i : Nat) (c : List Value), l[i]? = some c → c.length = es.length) → ∀ (i : Nat) (c : List Value), l[i]? = some c → ∀ (j : Nat) v, c[j]? = some v → l.flatten[i * es.length + j]? = some v := by
            intro l
            induction l with
            | nil => intro _ i c h; simp at h
            | cons c0 l ih =>
              intro hc i c hi j v hv
              have h0 := hc 0 c0 rfl
              cases i with
              | zero =>
                simp at hi
                subst hi
                rw [List.flatten_cons, List.getElem?_append_left (by have := (List.getElem?_eq_some_iff.1 hv).1; omega)]
                simpa using hv
              | succ i =>
                rw [List.flatten_cons, List.getElem?_append_right (by rw [h0, Nat.succ_mul]; omega)]
                have := ih (fun i c h => hc (i + 1) c (by simpa using h)) i c (by simpa using hi) j v hv
                rw [h0, show (i + 1) * es.length + j - es.length = i * es.length + j by rw [Nat.succ_mul]; omega]
                exact this
          have hfl := flen css hcl
          rw [hl1] at hfl
          refine ⟨rfl, fun i k c hk hc' => ?_⟩
          cases i with
          | succ i => simp at hk
          | zero =>
            simp at hk hc'
            subst hk; subst hc'
            refine .inr ⟨a, len, cap, css.flatten, rfl, by omega, ?_, ?_, ⟨hfl, fun i hi j k v hk hv => ?_⟩, fun j u hj => ?_⟩
            · simp only [reachBytes] at hz1
              rw [← hel]
              exact Nat.le_trans (Nat.mul_le_mul_right _ (by omega)) hz1
            · simp only [maxLen] at hcm ⊢
              omega
            · have hi' : i < css.length := by omega
              have g := hl2 i css[i] (List.getElem?_eq_getElem hi')
              have hcl' := hcl i _ (List.getElem?_eq_getElem hi')
              have hj : j < css[i].length := by rw [hcl']; exact (List.getElem?_eq_some_iff.1 hk).1
              have := fget css hcl i _ (List.getElem?_eq_getElem hi') j _ (List.getElem?_eq_getElem hj)
              rw [this] at hv
              injection hv with hv
              subst hv
              exact g.2.2 j (.f k) _ (by rw [hk1, List.getElem?_map, hk]; rfl) (List.getElem?_eq_getElem hj)
            · have hjl := (List.getElem?_eq_some_iff.1 hj).1
              rw [hfl] at hjl
              have hes : 0 < es.length := by
                rcases Nat.eq_zero_or_pos es.length with h0 | h0
                · rw [h0] at hjl; simp at hjl
                · exact h0
              have hi' : j / es.length < css.length := by rw [hl1]; rwa [Nat.div_lt_iff_lt_mul hes]
              have g := hl2 (j / es.length) css[j / es.length] (List.getElem?_eq_getElem hi')
              have hcl' := hcl _ _ (List.getElem?_eq_getElem hi')
              have hjm : j % es.length < css[j / es.length].length := by rw [hcl']; exact Nat.mod_lt _ hes
              have := fget css hcl (j / es.length) _ (List.getElem?_eq_getElem hi') (j % es.length) _ (List.getElem?_eq_getElem hjm)
              rw [Nat.mul_comm, Nat.div_add_mod, hj] at this
              injection this with this
              subst this
              have g1 := g.1
              rw [hc.2] at g1
              unfold World.cells? at g1
              rw [if_pos (Nat.zero_le _)] at g1
              have hb2 := mapM_some_get g1 (j % es.length) (j % es.length) (by simp [Nat.mod_lt _ hes])
              rw [List.getElem?_eq_getElem hjm, addr_add_add] at hb2
              rw [Nat.mul_comm, Nat.div_add_mod] at hb2
              exact hb2
      · cases h
    · cases h
end
end Go.Proofs.YtmikcpgkppkmiaaW.Ai
