/-
  The small machine: a slice told apart in two, whatever it is. Of no program.
-/
import Derived.Test.YtalknjppnkpmmaaDoorMf
set_option linter.unusedVariables false
set_option linter.unusedSimpArgs false
namespace Go.Proofs.YtalknjppnkpmmaaDoorW.Ai
/-- Where the i-th element lies. -/
def cutA (a : Option Addr) (o : Nat) : Option Addr := a.map fun x => ⟨x.block, x.off + o, x.spot⟩
section
variable {α : Type} {enc : α → List Value} {sz : Nat}
theorem recs_dropN (he : ∀ s, (enc s).length = sz) : ∀ (i : Nat) (ss : List α), (recs enc ss).drop (i * sz) = recs enc (ss.drop i)
  | 0, ss => by simp
  | i + 1, [] => by simp [recs]
  | i + 1, s :: ss => by
    show (enc s ++ recs enc ss).drop ((i + 1) * sz) = recs enc (ss.drop i)
    rw [← recs_dropN he i ss, List.drop_append, List.drop_of_length_le (by rw [he, Nat.succ_mul]; omega), he, List.nil_append]
    congr 1
    rw [Nat.succ_mul]; omega
theorem recs_takeN (he : ∀ s, (enc s).length = sz) : ∀ (i : Nat) (ss : List α), (recs enc ss).take (i * sz) = recs enc (ss.take i)
  | 0, ss => by simp [recs]
  | i + 1, [] => by simp [recs]
  | i + 1, s :: ss => by
    show (enc s ++ recs enc ss).take ((i + 1) * sz) = enc s ++ recs enc (ss.take i)
    rw [← recs_takeN he i ss, List.take_append, List.take_of_length_le (by rw [he, Nat.succ_mul]; omega), he]
    congr 2
    rw [Nat.succ_mul]; omega
end
theorem Sl.cut {h : AH} {sz n c i j : Nat} {a : Option Addr} {cs : List Value} (hs : Sl sz h a n c cs) (hij : i ≤ j) (hj : j ≤ n) : Sl sz h (cutA a (i * sz)) (j - i) (c - i) ((cs.drop (i * sz)).take ((j - i) * sz)) := by
  have hn := hs.2.1
  have hlen : ((cs.drop (i * sz)).take ((j - i) * sz)).length = (j - i) * sz := by
    have e1 : (j - i) * sz + i * sz = j * sz := by rw [← Nat.add_mul]; congr 1; omega
    have e2 : j * sz ≤ n * sz := Nat.mul_le_mul_right _ hj
    rw [List.length_take, List.length_drop, hs.2.2.1]
    omega
  refine ⟨?_, by omega, hlen, fun h0 => ?_⟩
  · have h1 := hs.1
    cases a with
    | none =>
      have hc := hs.2.2.2 rfl
      have : j - i = 0 := by omega
      rw [this] at hlen ⊢
      simp only [Nat.zero_mul, List.take_zero] at hlen ⊢
      simp [cutA, aElems] at h1 ⊢
    | some x =>
      obtain ⟨b, o, m⟩ := x
      simp only [cutA, Option.map_some, aElems] at h1 ⊢
      rw [if_pos (by omega)] at h1
      rw [if_pos (by omega)]
      by_cases h0 : (j - i) * sz = 0
      · rw [if_pos h0, h0]; simp
      · rw [if_neg h0]
        have e1 : (j - i) * sz + i * sz = j * sz := by rw [← Nat.add_mul]; congr 1; omega
        have e2 : j * sz ≤ n * sz := Nat.mul_le_mul_right _ hj
        rw [if_neg (by omega)] at h1
        obtain ⟨ds, h2, h3⟩ := Option.bind_eq_some_iff.1 h1
        simp only [h2, Option.bind_some]
        split at h3
        · rename_i h4
          injection h3 with h3
          rw [if_pos (by omega), ← h3]
          congr 1
          rw [List.drop_take, List.take_take, List.drop_drop, Nat.min_eq_left (by omega)]
        · cases h3
  · cases a with
    | none => have := hs.2.2.2 rfl; omega
    | some x => cases h0
section
variable {X : Ext} {F : FuncId → Option RFunc} {lim : Nat} {L : Al} {h0 h : AH} {K : Value → AH → Prop} {l : List Item}
theorem OP.cutLo {sz : Nat} {x y : Operand} {a : Option Addr} {n c i : Nat} (hx : lev L x = some (.slice a n c)) (ha : (a = none ∧ n = 0 ∧ c = 0) ∨ ∃ b o, a = some ⟨b, o, some sz⟩) (hy : lev L y = some (.int .i64 (i : Int))) (hin : i ≤ n) (hnc : n ≤ c) (hk : K (.slice (cutA a (i * sz)) (n - i) (c - i)) h) : OP X F lim (.slice sz x (some y) none none) L h K := by
  rcases ha with ⟨rfl, rfl, rfl⟩ | ⟨b, o, rfl⟩
  · have hi : i = 0 := by omega
    subst hi
    exact .of (fun _ e he => by simp [aop, he.ev hx, he.ev hy, aSlice, aCut, bound, cutA]) hk
  · exact OP.sliceS (i := i) (j := n) hx (.inr rfl) ⟨_, hy⟩ rfl hin hnc hk
theorem OP.cutHi {sz : Nat} {x y : Operand} {a : Option Addr} {n c j : Nat} (hx : lev L x = some (.slice a n c)) (ha : (a = none ∧ n = 0 ∧ c = 0) ∨ ∃ b o, a = some ⟨b, o, some sz⟩) (hy : lev L y = some (.int .i64 (j : Int))) (hjc : j ≤ c) (hk : K (.slice (cutA a (0 * sz)) (j - 0) (c - 0)) h) : OP X F lim (.slice sz x none (some y) none) L h K := by
  rcases ha with ⟨rfl, rfl, rfl⟩ | ⟨b, o, rfl⟩
  · have hi : j = 0 := by omega
    subst hi
    exact .of (fun _ e he => by simp [aop, he.ev hx, he.ev hy, aSlice, aCut, bound, cutA]) hk
  · exact OP.sliceS (i := 0) (j := j) hx (.inr rfl) rfl ⟨_, hy⟩ (by omega) hjc hk
theorem OP.appendE {sz bytes : Nat} {s x : Operand} {a a2 : Option Addr} {n c : Nat} {news : List Value} (hs : lev L s = some (.slice a n n)) (ha : a = none → n = 0) (hx : lev L x = some (.slice a2 0 c)) (hn : Sl sz h a2 0 c news) (hk : K (.slice a n n) h) : OP X F lim (.append sz bytes s x) L h K :=
  .of (fun call e he => by
    have h0 : news = [] := List.eq_nil_of_length_eq_zero (by rw [hn.2.2.1]; simp)
    subst h0
    simp only [aop, he.ev hx, he.ev hs, aLen_slice, Option.bind_some, hn.1, aAppend]
    cases a with
    | none => have := ha rfl; subst this; rfl
    | some q => obtain ⟨b, o, m⟩ := q; simp [aWrite]) hk
end
end Go.Proofs.YtalknjppnkpmmaaDoorW.Ai
/-
  The small machine: a row of numbers that is taken from in front and appended to behind. Of no program.
-/
set_option linter.unusedVariables false
set_option linter.unusedSimpArgs false
namespace Go.Proofs.YtalknjppnkpmmaaDoorW.Ai
/-- The rest of a block. -/
def Tl (lo hi : Nat) (h : AH) (a : Option Addr) (n : Nat) (xs : List Int) : Prop :=
  xs.length = n ∧ ((a = none ∧ n = 0) ∨ ∃ b o ds, a = some ⟨b, o, some 1⟩ ∧ h[b]? = some (.cells ds) ∧ ds.length = o + n ∧ ds.drop o = ints xs ∧ lo ≤ b ∧ b < hi)
def tl (lo hi : Nat) (a : Option Addr) (n : Nat) (xs : List Int) : Item := ⟨lo, hi, fun h => Tl lo hi h a n xs, fun h h' hh hp => ⟨hp.1, by
  rcases hp.2 with h1 | ⟨b, o, ds, e1, e2, e3, e4, e5, e6⟩
  · exact .inl h1
  · exact .inr ⟨b, o, ds, e1, (hh b e5 e6).trans e2, e3, e4, e5, e6⟩⟩⟩
section
variable {X : Ext} {F : FuncId → Option RFunc} {lim : Nat} {L : Al} {h0 h : AH} {K : Value → AH → Prop} {l : List Item}
theorem Tl.sl {lo hi n : Nat} {a : Option Addr} {xs : List Int} (ht : Tl lo hi h a n xs) : Sl 1 h a n n (ints xs) := by
  obtain ⟨hn, h1⟩ := ht
  refine ⟨?_, Nat.le_refl _, by rw [ints_len]; omega, fun ha => ?_⟩
  · rcases h1 with ⟨rfl, rfl⟩ | ⟨b, o, ds, rfl, e2, e3, e4, -⟩
    · rw [List.eq_nil_of_length_eq_zero hn]; rfl
    · simp only [aElems, Nat.le_refl, if_true]
      split
      · rename_i h0; rw [List.eq_nil_of_length_eq_zero (show xs.length = 0 by omega)]; rfl
      · simp only [cellsOf, e2, Option.bind_some]
        rw [if_pos (by omega), e4, List.take_of_length_le (by rw [ints_len]; omega)]
  · rcases h1 with ⟨_, h2⟩ | ⟨b, o, ds, rfl, _⟩
    · exact h2
    · cases ha
theorem Loc.tlAt (hL : Loc h0 h l) {k lo hi n : Nat} {a : Option Addr} {xs : List Int} (hk : l[k]? = some (tl lo hi a n xs)) : Sl 1 h a n n (ints xs) := Tl.sl (hL.get hk)
theorem Loc.addTl (hL : Loc h0 h l) : Loc h0 h (tl h.length h.length none 0 [] :: l) := hL.add (Pfx.refl _) (tl h.length h.length none 0 []) rfl rfl ⟨rfl, .inl ⟨rfl, rfl⟩⟩
/-- The first taken. -/
theorem OL.tail {x : Operand} {i : Operand} {a : Option Addr} {n lo hi k : Nat} {y : Int} {ys : List Int} (hL : Loc h0 h l) (hx : lev L x = some (.slice a n n)) (hi1 : lev L i = some (.int .i64 1)) (hk0 : l[k]? = some (tl lo hi a n (y :: ys))) (hk : ∀ a', Loc h0 h (l.set k (tl lo hi a' (n - 1) ys)) → K (.slice a' (n - 1) (n - 1)) h) : OP X F lim (.slice 1 x (some i) none none) L h K := by
  have ht := hL.get hk0
  obtain ⟨hn, h1⟩ := ht
  have hn' : ys.length + 1 = n := hn
  rcases h1 with ⟨_, h2⟩ | ⟨b, o, ds, rfl, e2, e3, e4, e5, e6⟩
  · omega
  · refine OP.sliceS (i := 1) (j := n) hx (.inr rfl) ⟨_, hi1⟩ rfl (by omega) (Nat.le_refl _) ?_
    refine hk _ ?_
    have e7 : ds.drop (o + 1) = ints ys := by
      rw [← List.drop_drop, e4]; rfl
    exact LocB.put hL (Nat.le_refl _) (Nat.le_refl _) hk0 rfl rfl ⟨by omega, .inr ⟨b, o + 1 * 1, ds, rfl, e2, by omega, e7, e5, e6⟩⟩ fun b _ _ => rfl
/-- One more behind. -/
theorem OL.appendTl {bytes lo hi k : Nat} {s x : Operand} {a a2 : Option Addr} {n c : Nat} {xs : List Int} {y : Int} (hL : Loc h0 h l) (hlim : lim ≤ h0.length) (hs : lev L s = some (.slice a n n)) (hi0 : l[k]? = some (tl lo hi a n xs)) (hx : lev L x = some (.slice a2 1 c)) (hn : Sl 1 h a2 1 c [.int .i64 y]) (hb : Room (n + 1) bytes)
    (hk : ∀ a' h', Loc h0 h' (tl h.length h'.length a' (n + 1) (xs ++ [y]) :: l.eraseIdx k) → K (.slice a' (n + 1) (n + 1)) h') : OP X F lim (.append 1 bytes s x) L h K := fun e he => by
  have hA := hL.get hi0
  have hlo : h0.length ≤ lo := hL.lo hi0
  have hel := hA.sl.1
  have key : ∃ h2 : AH, aAppend lim 1 bytes h (.slice a n n) 1 [.int .i64 y] = some (.slice (some ⟨h.length, 0, some 1⟩) (n + 1) (n + 1), h2 ++ [.cells (ints xs ++ [.int .i64 y])]) ∧ h2.length = h.length ∧ (∀ b, (b < lo ∨ hi ≤ b) → h2[b]? = h[b]?) := by
    simp only [aAppend]
    rw [if_neg (by omega), if_pos ⟨hb.1, hb.2.1, hb.2.2, rfl⟩, hel]
    simp only [Option.bind_some]
    rcases hA.2 with ⟨rfl, rfl⟩ | ⟨b, o, ds, rfl, e2, e3, e4, e5, e6⟩
    · exact ⟨h, rfl, rfl, fun _ _ => rfl⟩
    · have hlb : lim ≤ b := by omega
      refine ⟨h.set b .dead, ?_, by simp, fun c hc => List.getElem?_set_ne (by omega)⟩
      simp only [hlb, true_and, if_true, cellsOf, e2, Option.bind_some]
      rw [if_pos (by omega)]
  obtain ⟨h2, h3, h4, h5⟩ := key
  refine ⟨0, _, _, by simp only [aop, he.ev hx, he.ev hs, aLen_slice, Option.bind_some, hn.1]; exact h3, hk _ _ ?_⟩
  have e1 : Loc h0 h2 (l.eraseIdx k) := LocB.erase hL (Nat.le_refl _) (by omega) hi0 h5 |>.up (by omega)
  have hsn : ints xs ++ [Value.int .i64 y] = ints (xs ++ [y]) := by simp [ints]
  have hxn : xs.length = n := hA.1
  have e2 := e1.add (Pfx.push (.cells (ints xs ++ [.int .i64 y]))) (tl h2.length (h2 ++ [Blk.cells (ints xs ++ [.int .i64 y])]).length (some ⟨h.length, 0, some 1⟩) (n + 1) (xs ++ [y])) rfl rfl ⟨by simp [hxn], .inr ⟨h.length, 0, ints xs ++ [.int .i64 y], rfl, by rw [← h4]; simp, by simp [ints_len]; omega, by rw [hsn]; rfl, by omega, by simp; omega⟩⟩
  rw [h4] at e2
  exact e2
end
end Go.Proofs.YtalknjppnkpmmaaDoorW.Ai
