/-
  The small machine: words for rows of numbers. Of no program.
-/
import Derived.Test.YtmikcpgkppkmiaaAi24
set_option linter.unusedVariables false
set_option linter.unusedSimpArgs false
namespace Go.Proofs.YtmikcpgkppkmiaaW.Ai

def ints (xs : List Int) : List Value := xs.map (Value.int .i64)
theorem ints_len (xs : List Int) : (ints xs).length = xs.length := by simp [ints]
theorem ints_get {xs : List Int} {i : Nat} (hi : i < xs.length) : (ints xs)[i]? = some (.int .i64 xs[i]) := by simp [ints, hi]
theorem ints_set (xs : List Int) (i : Nat) (x : Int) : (ints xs).set i (.int .i64 x) = ints (xs.set i x) := by simp [ints, List.map_set]
theorem ints_ok (xs : List Int) : (ints xs).all cellOk = true := by simp [ints, cellOk]

section
variable {X : Ext} {F : FuncId → Option RFunc} {lim : Nat} {L : Al} {h : AH} {K : Value → AH → Prop}
theorem OP.idxS {sz : Nat} {x i : Operand} {a : Option Addr} {n c j : Nat} {k : IntKind} {cs : List Value} (hs : Sl sz h a n c cs) (hx : lev L x = some (.slice a n c)) (hi : lev L i = some (.int k (j : Int))) (hj : j < n) (hk : K (eptr sz a j) h) : OP X F lim (.idxAddr sz x i) L h K := .idx hx hi hj hs.2.2.2 hs.2.1 hk
theorem OP.idxZ {sz : Nat} {x i : Operand} {a : Option Addr} {n c : Nat} {z : Int} {k : IntKind} {cs : List Value} (hs : Sl sz h a n c cs) (hx : lev L x = some (.slice a n c)) (hi : lev L i = some (.int k z)) (hj : 0 ≤ z ∧ z < n) (hk : K (eptr sz a z.toNat) h) : OP X F lim (.idxAddr sz x i) L h K :=
  .idx hx (j := z.toNat) (by rw [hi]; congr 2; omega) (by omega) hs.2.2.2 hs.2.1 hk
theorem OP.ldI {x : Operand} {a : Option Addr} {n c j : Nat} {xs : List Int} (hs : Sl 1 h a n c (ints xs)) (hx : lev L x = some (eptr 1 a j)) (hj : j < xs.length) (hk : K (.int .i64 xs[j]) h) : OP X F lim (.load none x) L h K := .loadV hx (hs.load1 (ints_get hj)) hk
theorem OP.lssT {x y : Operand} {k : IntKind} {a b : Int} (hx : lev L x = some (.int k a)) (hy : lev L y = some (.int k b)) (hr : a < b) (hk : K (.bool true) h) : OP X F lim (.bin .lss x y) L h K := .bin hx hy (by simp only [aBin, if_true, decide_eq_true hr]) hk
theorem OP.lssF {x y : Operand} {k : IntKind} {a b : Int} (hx : lev L x = some (.int k a)) (hy : lev L y = some (.int k b)) (hr : ¬ a < b) (hk : K (.bool false) h) : OP X F lim (.bin .lss x y) L h K := .bin hx hy (by simp only [aBin, if_true, decide_eq_false hr]) hk
theorem OP.leqT {x y : Operand} {k : IntKind} {a b : Int} (hx : lev L x = some (.int k a)) (hy : lev L y = some (.int k b)) (hr : a ≤ b) (hk : K (.bool true) h) : OP X F lim (.bin .leq x y) L h K := .bin hx hy (by simp only [aBin, if_true, decide_eq_true hr]) hk
theorem OP.leqF {x y : Operand} {k : IntKind} {a b : Int} (hx : lev L x = some (.int k a)) (hy : lev L y = some (.int k b)) (hr : ¬ a ≤ b) (hk : K (.bool false) h) : OP X F lim (.bin .leq x y) L h K := .bin hx hy (by simp only [aBin, if_true, decide_eq_false hr]) hk
theorem OP.gtrT {x y : Operand} {k : IntKind} {a b : Int} (hx : lev L x = some (.int k a)) (hy : lev L y = some (.int k b)) (hr : a > b) (hk : K (.bool true) h) : OP X F lim (.bin .gtr x y) L h K := .bin hx hy (by simp only [aBin, if_true, decide_eq_true hr]) hk
theorem OP.gtrF {x y : Operand} {k : IntKind} {a b : Int} (hx : lev L x = some (.int k a)) (hy : lev L y = some (.int k b)) (hr : ¬ a > b) (hk : K (.bool false) h) : OP X F lim (.bin .gtr x y) L h K := .bin hx hy (by simp only [aBin, if_true, decide_eq_false hr]) hk
theorem OP.geqT {x y : Operand} {k : IntKind} {a b : Int} (hx : lev L x = some (.int k a)) (hy : lev L y = some (.int k b)) (hr : a ≥ b) (hk : K (.bool true) h) : OP X F lim (.bin .geq x y) L h K := .bin hx hy (by simp only [aBin, if_true, decide_eq_true hr]) hk
theorem OP.geqF {x y : Operand} {k : IntKind} {a b : Int} (hx : lev L x = some (.int k a)) (hy : lev L y = some (.int k b)) (hr : ¬ a ≥ b) (hk : K (.bool false) h) : OP X F lim (.bin .geq x y) L h K := .bin hx hy (by simp only [aBin, if_true, decide_eq_false hr]) hk
theorem OP.eqlT {x y : Operand} {k : IntKind} {a b : Int} (hx : lev L x = some (.int k a)) (hy : lev L y = some (.int k b)) (hr : a = b) (hk : K (.bool true) h) : OP X F lim (.bin .eql x y) L h K := .eql hx hy (by rw [decide_eq_true hr]; exact hk)
theorem OP.eqlF {x y : Operand} {k : IntKind} {a b : Int} (hx : lev L x = some (.int k a)) (hy : lev L y = some (.int k b)) (hr : ¬ a = b) (hk : K (.bool false) h) : OP X F lim (.bin .eql x y) L h K := .eql hx hy (by rw [decide_eq_false hr]; exact hk)
theorem OP.neqT {x y : Operand} {k : IntKind} {a b : Int} (hx : lev L x = some (.int k a)) (hy : lev L y = some (.int k b)) (hr : ¬ a = b) (hk : K (.bool true) h) : OP X F lim (.bin .neq x y) L h K := .neq hx hy (by rw [decide_eq_true (p := a ≠ b) hr]; exact hk)
theorem OP.neqF {x y : Operand} {k : IntKind} {a b : Int} (hx : lev L x = some (.int k a)) (hy : lev L y = some (.int k b)) (hr : a = b) (hk : K (.bool false) h) : OP X F lim (.bin .neq x y) L h K := .neq hx hy (by rw [decide_eq_false (p := a ≠ b) (fun h => h hr)]; exact hk)
theorem OP.isNilT {k : Nat} {x : Operand} {a : Value} (hx : lev L x = some a) (hv : aIsNil k a = some true) (hk : K (.bool true) h) : OP X F lim (.isNil false k x) L h K := .isNil hx hv hk
theorem OP.isNilF {k : Nat} {x : Operand} {a : Value} (hx : lev L x = some a) (hv : aIsNil k a = some false) (hk : K (.bool false) h) : OP X F lim (.isNil false k x) L h K := .isNil hx hv hk
theorem OP.isNilNT {k : Nat} {x : Operand} {a : Value} (hx : lev L x = some a) (hv : aIsNil k a = some true) (hk : K (.bool false) h) : OP X F lim (.isNil true k x) L h K := .isNil hx hv hk
theorem OP.isNilNF {k : Nat} {x : Operand} {a : Value} (hx : lev L x = some a) (hv : aIsNil k a = some false) (hk : K (.bool true) h) : OP X F lim (.isNil true k x) L h K := .isNil hx hv hk
theorem OP.neSelf {x y : Operand} {t : Bool} (hx : lev L x = some (.bool t)) (hy : lev L y = some (.bool t)) (hk : K (.bool false) h) : OP X F lim (.eq true none x y) L h K := .eq hx hy (t := true) (by simp [aEq, eqK]) hk
theorem OP.eqSelf {x y : Operand} {t : Bool} (hx : lev L x = some (.bool t)) (hy : lev L y = some (.bool t)) (hk : K (.bool true) h) : OP X F lim (.eq false none x y) L h K := .eq hx hy (t := true) (by simp [aEq, eqK]) hk
theorem Sl.ilen {a : Option Addr} {n c : Nat} {xs : List Int} (hs : Sl 1 h a n c (ints xs)) : xs.length = n := by have := hs.2.2.1; rw [ints_len] at this; omega
end

theorem take_eq_of {xs ys : List Int} {i : Nat} (h1 : xs.length = ys.length) (hx : xs.length ≤ i) (h : xs.take i = ys.take i) : xs = ys := by
  rwa [List.take_of_length_le hx, List.take_of_length_le (by omega)] at h
theorem take_eq_succ {xs ys : List Int} {i : Nat} (hx : i < xs.length) (hy : i < ys.length) (h : xs.take i = ys.take i) (hi : xs[i] = ys[i]) : xs.take (i + 1) = ys.take (i + 1) := by
  rw [List.take_succ_eq_append_getElem hx, List.take_succ_eq_append_getElem hy, h, hi]

section
variable {h0 h : AH} {l : List Item}
theorem Loc.apAt (hL : Loc h0 h l) {k lo hi sz n : Nat} {a : Option Addr} {cs : List Value} (hk : l[k]? = some (ap lo hi sz a n cs)) : Sl sz h a n n cs := (Ap.sl (hL.get hk)).1
theorem Loc.slAt (hL : Loc h0 h l) {k lo hi sz n c : Nat} {a : Option Addr} {cs : List Value} (hk : l[k]? = some (sl lo hi sz a n c cs)) : Sl sz h a n c cs := (hL.get hk).1
/-- A block's slice. -/
theorem Sl.of_block {b n sz : Nat} {cs : List Value} (hb : h[b]? = some (.cells cs)) (hn : cs.length = n * sz) : Sl sz h (some ⟨b, 0, none⟩) n n cs := by
  refine ⟨?_, Nat.le_refl _, hn, fun h => by cases h⟩
  simp only [aElems, Nat.le_refl, if_true]
  split
  · rename_i h0; rw [h0] at hn; rw [List.eq_nil_of_length_eq_zero hn]
  · simp only [cellsOf, hb, Option.bind_some, List.drop_zero]
    rw [if_pos (by omega), ← hn, List.take_length]
theorem Loc.bxAt (hL : Loc h0 h l) {k b n sz : Nat} {cs : List Value} (hk : l[k]? = some (bx b cs)) (hn : cs.length = n * sz) : Sl sz h (some ⟨b, 0, none⟩) n n cs := Sl.of_block (hL.cell hk) hn
end


end Go.Proofs.YtmikcpgkppkmiaaW.Ai
