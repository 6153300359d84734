/-
  Slices of arrays, room made, appends within the room. Of no program.
-/
import Derived.Test.YtmikcpgkppkmiaaAi34
set_option linter.unusedVariables false
set_option linter.unusedSimpArgs false
namespace Go.Proofs.YtmikcpgkppkmiaaW.Ai
theorem set_same {α : Type} {l : List α} {k : Nat} {x : α} (h : l[k]? = some x) : l.set k x = l := by
  obtain ⟨hk, rfl⟩ := List.getElem?_eq_some_iff.1 h
  exact List.set_getElem_self hk
section
variable {X : Ext} {F : FuncId → Option RFunc} {lim : Nat} {L : Al} {h0 h : AH} {K : Value → AH → Prop} {l : List Item}
theorem OP.maxC {x y : Operand} {k : IntKind} {a b : Int} (hx : lev L x = some (.int k a)) (hy : lev L y = some (.int k b)) (hk : ∀ m : Int, a ≤ m ∧ b ≤ m ∧ (m = a ∨ m = b) → K (.int k m) h) : OP X F lim (.minmax true [x, y]) L h K := .maxI hx hy (hk _ (by split <;> omega))
theorem OP.minC {x y : Operand} {k : IntKind} {a b : Int} (hx : lev L x = some (.int k a)) (hy : lev L y = some (.int k b)) (hk : ∀ m : Int, m ≤ a ∧ m ≤ b ∧ (m = a ∨ m = b) → K (.int k m) h) : OP X F lim (.minmax false [x, y]) L h K := .minI hx hy (hk _ (by split <;> omega))
theorem OP.sliceArr0 {n sz : Nat} {x : Operand} {b o : Nat} (hx : lev L x = some (.pointer (some ⟨b, o, Option.none⟩))) (hk : K (.slice (some ⟨b, o, Option.none⟩) n n) h) : OP X F lim (.sliceArr n sz x Option.none Option.none Option.none) L h K :=
  .of (fun _ e he => by simp [aop, he.ev hx, aCut, bound]) hk
theorem OP.capNil {x : Operand} {n c : Nat} (hx : lev L x = some (.slice Option.none n c)) (hk : K (.int .i64 0) h) : OP X F lim (.cap x) L h K := .of (fun _ e he => by simp only [aop, he.ev hx]) hk
theorem OP.sliceNil {sz : Nat} {x y : Operand} (hx : lev L x = some (.slice Option.none 0 0)) (hy : lev L y = some (.int .i64 0)) (hk : K (.slice Option.none 0 0) h) : OP X F lim (.slice sz x Option.none (some y) Option.none) L h K :=
  .of (fun _ e he => by simp [aop, he.ev hx, he.ev hy, aSlice, aCut, bound]) hk
/-- Nothing of it, with its room. -/
theorem OP.sliceNone {sz : Nat} {x y : Operand} {b o : Nat} {m : Option Nat} {n c : Nat} (hx : lev L x = some (.slice (some ⟨b, o, m⟩) n c)) (hm : m = Option.none ∨ m = some sz) (hy : lev L y = some (.int .i64 0)) (hk : K (.slice (some ⟨b, o, m⟩) 0 c) h) : OP X F lim (.slice sz x Option.none (some y) Option.none) L h K :=
  .of (fun _ e he => by simp [aop, he.ev hx, he.ev hy, aSlice, if_pos hm, aCut, bound]) hk
theorem OL.growNil {z : List Value} {bytes n : Nat} {s x : Operand} (hL : Loc h0 h l) (hs : lev L s = some (.slice Option.none 0 0)) (hx : lev L x = some (.int .i64 (n : Int))) (hn : 0 < n) (hb : n * bytes ≤ 2 ^ 48 ∧ Room n bytes) (hz : z.all cellOk = true) (hk : ∀ b h', Loc h0 h' (bx b (reps z n) :: l) → K (.slice (some ⟨b, 0, some z.length⟩) n n) h') : OP X F lim (.appendZeros z bytes s x) L h K := fun e he => by
  refine ⟨0, .slice (some ⟨h.length, 0, some z.length⟩) n n, h ++ [.cells (reps z n)], ?_, hk _ _ (hL.new _)⟩
  have hok : (reps z n).all cellOk = true := by
    clear hx hn hb hk
    induction n with
    | zero => rfl
    | succ n ih => simp only [reps, List.all_append, hz, ih, Bool.and_self]
  simp only [aop, he.ev hs, he.ev hx]
  rw [if_pos ⟨by omega, by have := hb.2.2.1; omega, by exact_mod_cast hb.1⟩]
  unfold aAppend
  simp only [Int.toNat_natCast, Nat.zero_add]
  rw [if_neg (by omega), if_pos ⟨hb.2.1, hb.2.2.1, hb.2.2.2, hok⟩]
  simp [aElems]
/-- An append within the room. -/
theorem OL.appendIn {sz bytes : Nat} {s x : Operand} {b k : Nat} {M : Option Nat} {len cap m c : Nat} {a2 : Option Addr} {pre rest news : List Value} (hL : Loc h0 h l) (hlim : lim ≤ h0.length) (hs : lev L s = some (.slice (some ⟨b, 0, M⟩) len cap)) (hc : l[k]? = some (bx b (pre ++ rest))) (hpre : pre.length = len * sz) (hx : lev L x = some (.slice a2 m c)) (hn : Sl sz h a2 m c news) (hroom : len + m ≤ cap) (hrest : news.length ≤ rest.length) (hok : news.all cellOk = true)
    (hk : ∀ h', Loc h0 h' (l.set k (bx b ((pre ++ news) ++ rest.drop news.length))) → K (.slice (some ⟨b, 0, M⟩) (len + m) cap) h') : OP X F lim (.append sz bytes s x) L h K := fun e he => by
  have hcell := hL.cell hc
  have hbl := (List.getElem?_eq_some_iff.1 hcell).1
  have hover : over (pre ++ rest) (len * sz) news = (pre ++ news) ++ rest.drop news.length := by
    unfold over
    rw [← hpre, List.take_left, List.drop_append, List.drop_of_length_le (by omega), List.nil_append, Nat.add_sub_cancel_left]
  rcases List.eq_nil_or_concat news with h0' | ⟨ns, y, h0'⟩
  · subst h0'
    have e1 : (pre ++ []) ++ rest.drop ([] : List Value).length = pre ++ rest := by simp
    rw [e1] at hk
    refine ⟨0, .slice (some ⟨b, 0, M⟩) (len + m) cap, h, ?_, hk h (by rw [set_same hc]; exact hL)⟩
    simp only [aop, he.ev hx, he.ev hs, aLen_slice, Option.bind_some, hn.1, aAppend]
    rw [if_pos hroom]
    simp [aWrite]
  · have hne : news ≠ [] := by rw [h0']; simp
    refine ⟨0, .slice (some ⟨b, 0, M⟩) (len + m) cap, h.set b (.cells ((pre ++ news) ++ rest.drop news.length)), ?_, hk _ (hL.set hc _)⟩
    simp only [aop, he.ev hx, he.ev hs, aLen_slice, Option.bind_some, hn.1, aAppend]
    rw [if_pos hroom]
    simp only [aWrite]
    rw [if_neg hne, if_pos ⟨hL.own hc hlim, hok⟩]
    simp only [cellsOf, hcell, Option.bind_some, Nat.zero_add]
    rw [if_pos (by rw [List.length_append]; omega), hover]
    rfl
/-- Nothing appended to nothing. -/
theorem OP.appendNil {sz bytes : Nat} {s x : Operand} {m c : Nat} {a2 : Option Addr} {news : List Value} (hs : lev L s = some (.slice Option.none 0 0)) (hx : lev L x = some (.slice a2 m c)) (hn : Sl sz h a2 m c news) (hm : m = 0) (hk : K (.slice Option.none 0 0) h) : OP X F lim (.append sz bytes s x) L h K :=
  .of (fun call e he => by
    subst hm
    simp only [aop, he.ev hx, he.ev hs, aLen_slice, Option.bind_some, hn.1, aAppend]
    rfl) hk
end
end Go.Proofs.YtmikcpgkppkmiaaW.Ai
