/-
 States (chapters 3 to 6): what is put into a row; an Apply at a state that is told.
-/
import Derived.Test.YtdcpmchhioilpaaFn25
set_option linter.unusedVariables false
set_option linter.unusedSimpArgs false
namespace Go.Proofs.YtdcpmchhioilpaaW.Ai
namespace P
theorem S4.get_put (s : S4) {r : Int} (hr : 0 ≤ r ∧ r ≤ 3) (xs : List Int) : (s.put r xs).get r = xs := by
 obtain h | h | h | h : r = 0 ∨ r = 1 ∨ r = 2 ∨ r = 3 := by omega
 all_goals subst h; rfl
theorem S4.put_put (s : S4) {r : Int} (hr : 0 ≤ r ∧ r ≤ 3) (xs ys : List Int) : (s.put r xs).put r ys = s.put r ys := by
 obtain h | h | h | h : r = 0 ∨ r = 1 ∨ r = 2 ∨ r = 3 := by omega
 all_goals subst h; rfl
theorem S4.put_none {r : Int} (hr : 0 ≤ r ∧ r ≤ 3) : S4.none.put r [] = S4.none := by
 obtain h | h | h | h : r = 0 ∨ r = 1 ∨ r = 2 ∨ r = 3 := by omega
 all_goals subst h; rfl
theorem S4.put_ok {s : S4} {r m : Int} (hs : RowsOk m s) {xs : List Int} (hx : (xs.length : Int) ≤ m ∧ ArgsOk xs) : RowsOk m (s.put r xs) := by
 unfold S4.put
 split
 ·exact ⟨hx, hs.2⟩
 ·split
  ·exact ⟨hs.1, hx, hs.2.2⟩
  ·split
   ·exact ⟨hs.1, hs.2.1, hx, hs.2.2.2⟩
   ·exact ⟨hs.1, hs.2.1, hs.2.2.1, hx⟩
theorem none_ok {m : Int} (hm : 0 ≤ m) : RowsOk m S4.none := by
 have h : (([] : List Int).length : Int) ≤ m ∧ ArgsOk [] := ⟨hm, by decide⟩
 exact ⟨h, h, h, h⟩
theorem one_ok {a : Int} (ha : 0 ≤ a ∧ a ≤ 255) : (([a] : List Int).length : Int) ≤ 1 ∧ ArgsOk [a] := ⟨by simp, by intro x hx; rw [List.mem_singleton.1 hx]; exact ha⟩
theorem nil_ok : (([] : List Int).length : Int) ≤ 1 ∧ ArgsOk [] := ⟨by simp, by decide⟩
theorem StoreM_0 {e : Int} {s : S4} {r a : Int} (hs : StoreOk s) (hr : 0 ≤ r ∧ r ≤ 3) (ha : 0 ≤ a ∧ a ≤ 255) : StoreM e s 0 r a = (s.put r [a], firstL (s.get r), 0) := (if_pos ⟨hs, by omega⟩).trans (if_pos rfl)
theorem StoreM_1 {e : Int} {s : S4} {r a : Int} (hs : StoreOk s) (hr : 0 ≤ r ∧ r ≤ 3) (ha : 0 ≤ a ∧ a ≤ 255) : StoreM e s 1 r a = (s.put r [], firstL (s.get r), 0) := (if_pos ⟨hs, by omega⟩).trans ((if_neg (by decide)).trans (if_pos rfl))
theorem StoreM_2 {e : Int} {s : S4} {r : Int} (hs : StoreOk s) (hr : 0 ≤ r ∧ r ≤ 3) : StoreM e s 2 r 0 = (s, firstL (s.get r), 0) := (if_pos ⟨hs, by omega⟩).trans ((if_neg (by decide)).trans ((if_neg (by decide)).trans (if_pos rfl)))
theorem StoreM_3 {e : Int} {s : S4} (hs : StoreOk s) : StoreM e s 3 0 0 = (s, sumL (allL s), 0) := (if_pos ⟨hs, by omega⟩).trans ((if_neg (by decide)).trans ((if_neg (by decide)).trans (if_neg (by decide))))
section
variable {X : Ext} {F : FuncId → Option RFunc}
/-- What is told of an Apply at a state and an operation. -/
theorem applyAt {g : FuncId} {M : S4 → Int → Int → Int → S4 × Int × Int} (e1 : S_ApplyOf X F g M) (s : S4) (c r a : Int) (N : S4 × Int × Int) (hN : M s c r a = N) : ∀ (lim : Nat) (h' : AH) {r0 r1 r2 r3 : Row}, lim ≤ h'.length → St h' r0 r1 r2 r3 → r0.xs = s.x0 → r1.xs = s.x1 → r2.xs = s.x2 → r3.xs = s.x3 → Ret X F lim g [stV r0 r1 r2 r3, .agg #[.int .i64 c, .int .i64 r, .int .i64 a]] h' fun v h'' => Pfx h' h'' ∧ MadeS h' h'' (fun s0 s1 s2 s3 => .tuple #[stV s0 s1 s2 s3, .int .i64 N.2.1, .int .i64 N.2.2]) N.1 v := by
 intro lim h' r0 r1 r2 r3 hl hst q0 q1 q2 q3
 have := e1 lim h' (c := c) (r := r) (a := a) hl hst
 rw [q0, q1, q2, q3] at this
 subst hN
 exact this
theorem applyNil {g : FuncId} {M : S4 → Int → Int → Int → S4 × Int × Int} (e1 : S_ApplyOf X F g M) (c r a : Int) (N : S4 × Int × Int) (hN : M S4.none c r a = N) : ∀ (lim : Nat) (h' : AH), lim ≤ h'.length → Ret X F lim g [.agg #[.slice none 0 0, .slice none 0 0, .slice none 0 0, .slice none 0 0], .agg #[.int .i64 c, .int .i64 r, .int .i64 a]] h' fun v h'' => Pfx h' h'' ∧ MadeS h' h'' (fun s0 s1 s2 s3 => .tuple #[stV s0 s1 s2 s3, .int .i64 N.2.1, .int .i64 N.2.2]) N.1 v :=
 fun lim h' hl => applyAt e1 S4.none c r a N hN lim h' (r0 := nilRow) (r1 := nilRow) (r2 := nilRow) (r3 := nilRow) hl (nilSt h') rfl rfl rfl rfl
end
end P
end Go.Proofs.YtdcpmchhioilpaaW.Ai
