/-
  Slices put into and taken out of: three-place slices, clear, a call that changes a slice in its own place, Insert. Of no program.
-/
import Derived.Test.YtomemdiaglbibaaMf
import Derived.Test.YtomemdiaglbibaaAi37
set_option linter.unusedVariables false
set_option linter.unusedSimpArgs false
namespace Go.Proofs.YtomemdiaglbibaaW.Ai
section
variable {X : Ext} {F : FuncId → Option RFunc} {lim : Nat} {L : Al} {h0 h : AH} {K : Value → AH → Prop} {l : List Item}
theorem OP.slice3 {sz : Nat} {x lo hi mx : Operand} {b o : Nat} {m : Option Nat} {n c i j k : Nat} (hx : lev L x = some (.slice (some ⟨b, o, m⟩) n c)) (hm : m = none ∨ m = some sz) (hlo : lev L lo = some (.int .i64 (i : Int))) (hhi : lev L hi = some (.int .i64 (j : Int))) (hmx : lev L mx = some (.int .i64 (k : Int))) (hij : i ≤ j) (hjk : j ≤ k) (hkc : k ≤ c) (hK : ∀ v, K v h) : OP X F lim (.slice sz x (some lo) (some hi) (some mx)) L h K :=
  .of (v := .slice (some ⟨b, o + i * sz, none⟩) (j - i) (k - i)) (fun _ e he => by
    simp only [aop, he.ev hx, aSlice, if_pos hm, aCut, Option.map_some, he.ev hlo, he.ev hhi, he.ev hmx, bound]
    have e1 : ((0 : Nat) : Int) ≤ k ∧ (k : Int) ≤ (c : Int) := by omega
    have e2 : ((0 : Nat) : Int) ≤ j ∧ (j : Int) ≤ (k : Int) := by omega
    have e3 : ((0 : Nat) : Int) ≤ i ∧ (i : Int) ≤ (j : Int) := by omega
    simp_all) (hK _)
theorem reps_one (z : Value) : reps [z] 1 = [z] := rfl
theorem OL.clear1 {z : Value} {x : Operand} {b o c k : Nat} {m : Option Nat} {cs cs' : List Value} {l' : List Item} (hL : Loc h0 h l) (hlim : lim ≤ h0.length) (hx : lev L x = some (.slice (some ⟨b, o, m⟩) 1 c)) (hc : l[k]? = some (bx b cs)) (hz : cellOk z = true) (ho : o + 1 ≤ cs.length) (hcs : over cs o [z] = cs') (hl' : l.set k (bx b cs') = l') (hk : ∀ h', Loc h0 h' l' → K (.tuple #[]) h') : OP X F lim (.clear [z] x) L h K := fun e he => by
  have hcell := hL.cell hc
  refine ⟨0, .tuple #[], h.set b (.cells cs'), ?_, hk _ (hl' ▸ hL.set hc _)⟩
  have hw : aWrite lim h b o [z] = some (h.set b (.cells cs')) := by
    simp only [aWrite]
    rw [if_neg (by simp), if_pos ⟨hL.own hc hlim, by simp [hz]⟩]
    simp only [cellsOf, hcell, Option.bind_some]
    rw [if_pos (by simpa using ho), hcs]
  simp only [aop, he.ev hx]
  show Option.map (fun h => (Value.tuple #[], h)) (aWrite lim h b o [z]) = _
  rw [hw]
  rfl
/-- A call that changes a slice in its own place. -/
theorem OL.callPut {f : Operand} {g : FuncId} {xs : List Operand} {vs : List Value} {k lo hi n n' : Nat} {a : Option Addr} {cs cs' : List Value} {W : Option Addr → Value} (hL : Loc h0 h l) (hk0 : l[k]? = some (ap lo hi 1 a n cs)) (hf : lev L f = some (.func (.func g) #[] #[])) (ha : levs L xs = some vs)
    (hr : Ret X F lim g vs h fun v h' => h.length ≤ h'.length ∧ (∀ b, (b < lo ∨ hi ≤ b) → b < h.length → h'[b]? = h[b]?) ∧ ∃ a', v = W a' ∧ Sl 1 h' a' n' n' cs' ∧ Within lo hi 1 a' n') (hk : ∀ a' h', Loc h0 h' (l.set k (sl lo hi 1 a' n' n' cs')) → K (W a') h') : OP X F lim (.call f xs) L h K :=
  .call hf ha (hr.mono fun v h' ⟨h1, h2, a', hv, hS, hW⟩ => hv ▸ hk a' h' (by
    have hset : LocB h0 h' h.length (l.set k (sl lo hi 1 a' n' n' cs')) := LocB.put hL (Nat.le_refl _) h1 hk0 rfl rfl ⟨hS, hW⟩ fun b hb hbl => h2 b hb hbl
    exact LocB.up hset h1))
/-- slices.Insert of one number. -/
theorem insert_run {g : FuncId} (hX : X g = some insA) {lo hi n i vb : Nat} {a : Option Addr} {xs : List Int} {x : Int} (hlo : lim ≤ lo) (hle : lo ≤ hi) (hhi : hi ≤ h.length) (hn : n ≤ 1000) (hA : Ap lo hi 1 h a n (ints xs)) (hi' : i ≤ n) (hvl : lim ≤ vb) (hvo : vb < lo ∨ hi ≤ vb) (hv : h[vb]? = some (.cells [.int .i64 x])) :
    Ret X F lim g [.slice a n n, .int .i64 (i : Int), .slice (some ⟨vb, 0, none⟩) 1 1] h fun v h' => h.length ≤ h'.length ∧ (∀ b, (b < lo ∨ hi ≤ b) → b < h.length → h'[b]? = h[b]?) ∧ ∃ a', v = .slice a' (n + 1) (n + 1) ∧ Ap h.length h'.length 1 h' a' (n + 1) (ints (xs.take i ++ x :: xs.drop i)) := by
  have hlen := hA.1
  rw [ints_len] at hlen
  have hcell : cellsOf h vb = some [.int .i64 x] := by simp [cellsOf, hv]
  have hcond : n = n ∧ 0 ≤ (i : Int) ∧ (i : Int) ≤ n ∧ n ≤ 1000 ∧ lim ≤ vb ∧ cellOk (.int .i64 x) = true := ⟨rfl, by omega, by omega, hn, hvl, rfl⟩
  have hnew : (ints xs).take i ++ Value.int .i64 x :: (ints xs).drop i = ints (xs.take i ++ x :: xs.drop i) := by simp [ints]
  rcases hA.2 with ⟨h0, hs⟩ | ⟨hpos, b, rfl, hb, hb1, hb2⟩
  · subst h0
    have hxs : xs = [] := List.eq_nil_of_length_eq_zero (by omega)
    subst hxs
    have h0i : i = 0 := by omega
    subst h0i
    refine ⟨1, .slice (some ⟨h.length, 0, some 1⟩) 1 1, h ++ [.cells [.int .i64 x]], ?_, by simp, fun b hb hbl => List.getElem?_append_left hbl, some ⟨h.length, 0, some 1⟩, rfl, rfl, .inr ⟨by omega, h.length, rfl, by simp [ints], Nat.le_refl _, by simp⟩⟩
    simp only [acall, hX, insA, hcell]
    have hcond' := hcond
    simp only [true_and] at hcond'
    simp only [true_and]
    rw [if_pos hcond']
    cases a with
    | none => simp
    | some q =>
      obtain ⟨qb, qo, qm⟩ := q
      have : qm = none := hs _ rfl
      subst this
      simp
  · have hcb : cellsOf h b = some (ints xs) := by simp [cellsOf, hb]
    have hbl := (List.getElem?_eq_some_iff.1 hb).1
    refine ⟨1, .slice (some ⟨h.length, 0, some 1⟩) (n + 1) (n + 1), h.set b .dead ++ [.cells ((ints xs).take i ++ Value.int .i64 x :: (ints xs).drop i)], ?_, by simp, fun b' hb' hbl' => ?_, some ⟨h.length, 0, some 1⟩, rfl, ?_, .inr ⟨by omega, h.length, rfl, ?_, Nat.le_refl _, by simp⟩⟩
    · simp only [acall, hX, insA, hcell]
      have hcond' := hcond
      simp only [true_and] at hcond'
      simp only [true_and]
      rw [if_pos hcond']
      simp only [hcb]
      rw [if_pos ⟨Nat.le_trans hlo hb1, by intro he; subst he; omega, hpos⟩, if_pos ⟨by rw [ints_len]; omega, ints_ok _⟩]
      simp
    · rw [List.getElem?_append_left (by rw [List.length_set]; exact hbl'), List.getElem?_set_ne (by omega)]
    · rw [ints_len]; simp; omega
    · rw [← hnew, List.getElem?_append_right (by simp), List.length_set]
      simp
/-- An append that a load waits across. -/
theorem WO.consAp {r : List RO} {d n bytes : Nat} {s x : Operand} {av : List Operand} {Q : Al → AH → Prop} {b o q c : Nat} {m : Option Nat} (hs : lev L s = some (.slice (some ⟨b, o, m⟩) q c)) (hav : ∀ x ∈ av, ∃ c p m, lev L x = some (.pointer (some ⟨c, p, m⟩)) ∧ b ≠ c) (W : OP X F lim (.append n bytes s x) L h fun v h' => WO X F lim r ((d, v) :: L) h' Q) : WO X F lim (⟨some d, .append n bytes s x, none, false, av⟩ :: r) L h Q := fun e he => by
  obtain ⟨k, v, h', h1, h2⟩ := W e he
  refine wo_run ?_ rfl h1 (he.upd d v) h2
  rw [List.all_eq_true]
  intro x hx
  obtain ⟨c, p, m, g1, g2⟩ := hav x hx
  simp only [apart, he.ev g1, he.ev hs]
  simpa using g2
end
end Go.Proofs.YtomemdiaglbibaaW.Ai
