/-
  The small machine: a row of numbers that is taken from in front and appended to behind. Of no program.
-/
import Derived.Test.YtmbljbbopgojcaaMf
set_option linter.unusedVariables false
set_option linter.unusedSimpArgs false
namespace Go.Proofs.YtmbljbbopgojcaaW.Ai
/-- The rest of a block. -/
def Tl (lo hi : Nat) (h : AH) (a : Option Addr) (n : Nat) (xs : List Int) : Prop :=
  xs.length = n ∧ ((a = none ∧ n = 0) ∨ ∃ b o ds, a = some ⟨b, o, some 1⟩ ∧ h[b]? = some (.cells ds) ∧ ds.length = o + n ∧ ds.drop o = ints xs ∧ lo ≤ b ∧ b < hi)
def tl (lo hi : Nat) (a : Option Addr) (n : Nat) (xs : List Int) : Item := ⟨lo, hi, fun h => Tl lo hi h a n xs, fun h h' hh hp => ⟨hp.1, by
  rcases hp.2 with h1 | ⟨b, o, ds, e1, e2, e3, e4, e5, e6⟩
  · exact .inl h1
  · exact .inr ⟨b, o, ds, e1, (hh b e5 e6).trans e2, e3, e4, e5, e6⟩⟩⟩
section
variable {X : Ext} {F : FuncId → Option RFunc} {lim : Nat} {L : Al} {h0 h : AH} {K : Value → AH → Prop} {l : List Item}
theorem Tl.sl {lo hi n : Nat} {a : Option Addr} {xs : List Int} (ht : Tl lo hi h a n xs) : Sl 1 h a n n (ints xs) := by
  obtain ⟨hn, h1⟩ := ht
  refine ⟨?_, Nat.le_refl _, by rw [ints_len]; omega, fun ha => ?_⟩
  · rcases h1 with ⟨rfl, rfl⟩ | ⟨b, o, ds, rfl, e2, e3, e4, -⟩
    · rw [List.eq_nil_of_length_eq_zero hn]; rfl
    · simp only [aElems, Nat.le_refl, if_true]
      split
      · rename_i h0; rw [List.eq_nil_of_length_eq_zero (show xs.length = 0 by omega)]; rfl
      · simp only [cellsOf, e2, Option.bind_some]
        rw [if_pos (by omega), e4, List.take_of_length_le (by rw [ints_len]; omega)]
  · rcases h1 with ⟨_, h2⟩ | ⟨b, o, ds, rfl, _⟩
    · exact h2
    · cases ha
theorem Loc.tlAt (hL : Loc h0 h l) {k lo hi n : Nat} {a : Option Addr} {xs : List Int} (hk : l[k]? = some (tl lo hi a n xs)) : Sl 1 h a n n (ints xs) := Tl.sl (hL.get hk)
theorem Loc.addTl (hL : Loc h0 h l) : Loc h0 h (tl h.length h.length none 0 [] :: l) := hL.add (Pfx.refl _) (tl h.length h.length none 0 []) rfl rfl ⟨rfl, .inl ⟨rfl, rfl⟩⟩
/-- The first taken. -/
theorem OL.tail {x : Operand} {i : Operand} {a : Option Addr} {n lo hi k : Nat} {y : Int} {ys : List Int} (hL : Loc h0 h l) (hx : lev L x = some (.slice a n n)) (hi1 : lev L i = some (.int .i64 1)) (hk0 : l[k]? = some (tl lo hi a n (y :: ys))) (hk : ∀ a', Loc h0 h (l.set k (tl lo hi a' (n - 1) ys)) → K (.slice a' (n - 1) (n - 1)) h) : OP X F lim (.slice 1 x (some i) none none) L h K := by
  have ht := hL.get hk0
  obtain ⟨hn, h1⟩ := ht
  have hn' : ys.length + 1 = n := hn
  rcases h1 with ⟨_, h2⟩ | ⟨b, o, ds, rfl, e2, e3, e4, e5, e6⟩
  · omega
  · refine OP.sliceS (i := 1) (j := n) hx (.inr rfl) ⟨_, hi1⟩ rfl (by omega) (Nat.le_refl _) ?_
    refine hk _ ?_
    have e7 : ds.drop (o + 1) = ints ys := by
      rw [← List.drop_drop, e4]; rfl
    exact LocB.put hL (Nat.le_refl _) (Nat.le_refl _) hk0 rfl rfl ⟨by omega, .inr ⟨b, o + 1 * 1, ds, rfl, e2, by omega, e7, e5, e6⟩⟩ fun b _ _ => rfl
/-- One more behind. -/
theorem OL.appendTl {bytes lo hi k : Nat} {s x : Operand} {a a2 : Option Addr} {n c : Nat} {xs : List Int} {y : Int} (hL : Loc h0 h l) (hlim : lim ≤ h0.length) (hs : lev L s = some (.slice a n n)) (hi0 : l[k]? = some (tl lo hi a n xs)) (hx : lev L x = some (.slice a2 1 c)) (hn : Sl 1 h a2 1 c [.int .i64 y]) (hb : Room (n + 1) bytes)
    (hk : ∀ a' h', Loc h0 h' (tl h.length h'.length a' (n + 1) (xs ++ [y]) :: l.eraseIdx k) → K (.slice a' (n + 1) (n + 1)) h') : OP X F lim (.append 1 bytes s x) L h K := fun e he => by
  have hA := hL.get hi0
  have hlo : h0.length ≤ lo := hL.lo hi0
  have hel := hA.sl.1
  have key : ∃ h2 : AH, aAppend lim 1 bytes h (.slice a n n) 1 [.int .i64 y] = some (.slice (some ⟨h.length, 0, some 1⟩) (n + 1) (n + 1), h2 ++ [.cells (ints xs ++ [.int .i64 y])]) ∧ h2.length = h.length ∧ (∀ b, (b < lo ∨ hi ≤ b) → h2[b]? = h[b]?) := by
    simp only [aAppend]
    rw [if_neg (by omega), if_pos ⟨hb.1, hb.2.1, hb.2.2, rfl⟩, hel]
    simp only [Option.bind_some]
    rcases hA.2 with ⟨rfl, rfl⟩ | ⟨b, o, ds, rfl, e2, e3, e4, e5, e6⟩
    · exact ⟨h, rfl, rfl, fun _ _ => rfl⟩
    · have hlb : lim ≤ b := by omega
      refine ⟨h.set b .dead, ?_, by simp, fun c hc => List.getElem?_set_ne (by omega)⟩
      simp only [hlb, true_and, if_true, cellsOf, e2, Option.bind_some]
      rw [if_pos (by omega)]
  obtain ⟨h2, h3, h4, h5⟩ := key
  refine ⟨0, _, _, by simp only [aop, he.ev hx, he.ev hs, aLen_slice, Option.bind_some, hn.1]; exact h3, hk _ _ ?_⟩
  have e1 : Loc h0 h2 (l.eraseIdx k) := LocB.erase hL (Nat.le_refl _) (by omega) hi0 h5 |>.up (by omega)
  have hsn : ints xs ++ [Value.int .i64 y] = ints (xs ++ [y]) := by simp [ints]
  have hxn : xs.length = n := hA.1
  have e2 := e1.add (Pfx.push (.cells (ints xs ++ [.int .i64 y]))) (tl h2.length (h2 ++ [Blk.cells (ints xs ++ [.int .i64 y])]).length (some ⟨h.length, 0, some 1⟩) (n + 1) (xs ++ [y])) rfl rfl ⟨by simp [hxn], .inr ⟨h.length, 0, ints xs ++ [.int .i64 y], rfl, by rw [← h4]; simp, by simp [ints_len]; omega, by rw [hsn]; rfl, by omega, by simp; omega⟩⟩
  rw [h4] at e2
  exact e2
end
end Go.Proofs.YtmbljbbopgojcaaW.Ai
