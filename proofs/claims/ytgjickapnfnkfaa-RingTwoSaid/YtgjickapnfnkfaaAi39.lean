/-
  The small machine: a slice told apart in two, whatever it is. Of no program.
-/
import Derived.Test.YtgjickapnfnkfaaMf
set_option linter.unusedVariables false
set_option linter.unusedSimpArgs false
namespace Go.Proofs.YtgjickapnfnkfaaW.Ai
/-- Where the i-th element lies. -/
def cutA (a : Option Addr) (o : Nat) : Option Addr := a.map fun x => ⟨x.block, x.off + o, x.spot⟩
section
variable {α : Type} {enc : α → List Value} {sz : Nat}
theorem recs_dropN (he : ∀ s, (enc s).length = sz) : ∀ (i : Nat) (ss : List α), (recs enc ss).drop (i * sz) = recs enc (ss.drop i)
  | 0, ss => by simp
  | i + 1, [] => by simp [recs]
  | i + 1, s :: ss => by
    show (enc s ++ recs enc ss).drop ((i + 1) * sz) = recs enc (ss.drop i)
    rw [← recs_dropN he i ss, List.drop_append, List.drop_of_length_le (by rw [he, Nat.succ_mul]; omega), he, List.nil_append]
    congr 1
    rw [Nat.succ_mul]; omega
theorem recs_takeN (he : ∀ s, (enc s).length = sz) : ∀ (i : Nat) (ss : List α), (recs enc ss).take (i * sz) = recs enc (ss.take i)
  | 0, ss => by simp [recs]
  | i + 1, [] => by simp [recs]
  | i + 1, s :: ss => by
    show (enc s ++ recs enc ss).take ((i + 1) * sz) = enc s ++ recs enc (ss.take i)
    rw [← recs_takeN he i ss, List.take_append, List.take_of_length_le (by rw [he, Nat.succ_mul]; omega), he]
    congr 2
    rw [Nat.succ_mul]; omega
end
theorem Sl.cut {h : AH} {sz n c i j : Nat} {a : Option Addr} {cs : List Value} (hs : Sl sz h a n c cs) (hij : i ≤ j) (hj : j ≤ n) : Sl sz h (cutA a (i * sz)) (j - i) (c - i) ((cs.drop (i * sz)).take ((j - i) * sz)) := by
  have hn := hs.2.1
  have hlen : ((cs.drop (i * sz)).take ((j - i) * sz)).length = (j - i) * sz := by
    have e1 : (j - i) * sz + i * sz = j * sz := by rw [← Nat.add_mul]; congr 1; omega
    have e2 : j * sz ≤ n * sz := Nat.mul_le_mul_right _ hj
    rw [List.length_take, List.length_drop, hs.2.2.1]
    omega
  refine ⟨?_, by omega, hlen, fun h0 => ?_⟩
  · have h1 := hs.1
    cases a with
    | none =>
      have hc := hs.2.2.2 rfl
      have : j - i = 0 := by omega
      rw [this] at hlen ⊢
      simp only [Nat.zero_mul, List.take_zero] at hlen ⊢
      simp [cutA, aElems] at h1 ⊢
    | some x =>
      obtain ⟨b, o, m⟩ := x
      simp only [cutA, Option.map_some, aElems] at h1 ⊢
      rw [if_pos (by omega)] at h1
      rw [if_pos (by omega)]
      by_cases h0 : (j - i) * sz = 0
      · rw [if_pos h0, h0]; simp
      · rw [if_neg h0]
        have e1 : (j - i) * sz + i * sz = j * sz := by rw [← Nat.add_mul]; congr 1; omega
        have e2 : j * sz ≤ n * sz := Nat.mul_le_mul_right _ hj
        rw [if_neg (by omega)] at h1
        obtain ⟨ds, h2, h3⟩ := Option.bind_eq_some_iff.1 h1
        simp only [h2, Option.bind_some]
        split at h3
        · rename_i h4
          injection h3 with h3
          rw [if_pos (by omega), ← h3]
          congr 1
          rw [List.drop_take, List.take_take, List.drop_drop, Nat.min_eq_left (by omega)]
        · cases h3
  · cases a with
    | none => have := hs.2.2.2 rfl; omega
    | some x => cases h0
section
variable {X : Ext} {F : FuncId → Option RFunc} {lim : Nat} {L : Al} {h0 h : AH} {K : Value → AH → Prop} {l : List Item}
theorem OP.cutLo {sz : Nat} {x y : Operand} {a : Option Addr} {n c i : Nat} (hx : lev L x = some (.slice a n c)) (ha : (a = none ∧ n = 0 ∧ c = 0) ∨ ∃ b o, a = some ⟨b, o, some sz⟩) (hy : lev L y = some (.int .i64 (i : Int))) (hin : i ≤ n) (hnc : n ≤ c) (hk : K (.slice (cutA a (i * sz)) (n - i) (c - i)) h) : OP X F lim (.slice sz x (some y) none none) L h K := by
  rcases ha with ⟨rfl, rfl, rfl⟩ | ⟨b, o, rfl⟩
  · have hi : i = 0 := by omega
    subst hi
    exact .of (fun _ e he => by simp [aop, he.ev hx, he.ev hy, aSlice, aCut, bound, cutA]) hk
  · exact OP.sliceS (i := i) (j := n) hx (.inr rfl) ⟨_, hy⟩ rfl hin hnc hk
theorem OP.cutHi {sz : Nat} {x y : Operand} {a : Option Addr} {n c j : Nat} (hx : lev L x = some (.slice a n c)) (ha : (a = none ∧ n = 0 ∧ c = 0) ∨ ∃ b o, a = some ⟨b, o, some sz⟩) (hy : lev L y = some (.int .i64 (j : Int))) (hjc : j ≤ c) (hk : K (.slice (cutA a (0 * sz)) (j - 0) (c - 0)) h) : OP X F lim (.slice sz x none (some y) none) L h K := by
  rcases ha with ⟨rfl, rfl, rfl⟩ | ⟨b, o, rfl⟩
  · have hi : j = 0 := by omega
    subst hi
    exact .of (fun _ e he => by simp [aop, he.ev hx, he.ev hy, aSlice, aCut, bound, cutA]) hk
  · exact OP.sliceS (i := 0) (j := j) hx (.inr rfl) rfl ⟨_, hy⟩ (by omega) hjc hk
theorem OP.appendE {sz bytes : Nat} {s x : Operand} {a a2 : Option Addr} {n c : Nat} {news : List Value} (hs : lev L s = some (.slice a n n)) (ha : a = none → n = 0) (hx : lev L x = some (.slice a2 0 c)) (hn : Sl sz h a2 0 c news) (hk : K (.slice a n n) h) : OP X F lim (.append sz bytes s x) L h K :=
  .of (fun call e he => by
    have h0 : news = [] := List.eq_nil_of_length_eq_zero (by rw [hn.2.2.1]; simp)
    subst h0
    simp only [aop, he.ev hx, he.ev hs, aLen_slice, Option.bind_some, hn.1, aAppend]
    cases a with
    | none => have := ha rfl; subst this; rfl
    | some q => obtain ⟨b, o, m⟩ := q; simp [aWrite]) hk
end
end Go.Proofs.YtgjickapnfnkfaaW.Ai
