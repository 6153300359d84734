/-
  Cells (chapter 1): the statement, as the small machine runs it.
-/
import Derived.Test.YtojkcbcdoljadaaFn5
import Derived.Test.YtojkcbcdoljadaaAi28
set_option linter.unusedVariables false
set_option linter.unusedSimpArgs false
set_option maxHeartbeats 4000000
namespace Go.Proofs.YtojkcbcdoljadaaW.Ai
-- chorus/choruslaw1.Cells; g0 = chorus/choruslaw0.LendInts; g1 = chorus/cell.Load; g2 = chorus/chorusref1.Load; g3 = chorus/cell.Store; g4 = chorus/chorusref1.Store; g5 = chorus/cell.Swap; g6 = chorus/chorusref1.Swap; g7 = chorus/cell.Add; g8 = chorus/chorusref1.Add; g9 = chorus/choruslaw0.Num; g10 = chorus/choruslaw0.SameInts; g11 = chorus/choruslaw0.SpoilInts; g12 = chorus/choruslaw0.KeptInts; g13 = chorus/choruslaw1.awake
def rf_Cells (g0 g1 g2 g3 g4 g5 g6 g7 g8 g9 g10 g11 g12 g13 : Nat) : RFunc :=
  ⟨159, [(.tmp 8)], (.seq (.ops [⟨(.some 8), (.mv (.const (.bool false))), .none, false, []⟩]) (.seq (.ops [⟨(.some 30), (.mv (.tmp 0)), .none, false, []⟩, ⟨(.some 31), (.call (.func g0) [(.tmp 30)]), .none, false, []⟩, ⟨(.some 9), (.mv (.tmp 31)), .none, false, []⟩]) (.seq (.ops [⟨(.some 33), (.mv (.tmp 9)), .none, false, []⟩, ⟨(.some 34), (.mv (.tmp 1)), .none, false, []⟩, ⟨(.some 35), (.call (.func g1) [(.tmp 33), (.tmp 34)]), .none, false, []⟩, ⟨(.some 32), (.mv (.tmp 35)), .none, false, []⟩, ⟨(.some 36), (.extract (.tmp 32) 0), .none, false, []⟩, ⟨(.some 37), (.extract (.tmp 32) 1), .none, false, []⟩, ⟨(.some 10), (.mv (.tmp 36)), .none, false, []⟩, ⟨(.some 11), (.mv (.tmp 37)), .none, false, []⟩]) (.seq (.ops [⟨(.some 39), (.mv (.tmp 0)), .none, false, []⟩, ⟨(.some 40), (.mv (.tmp 1)), .none, false, []⟩, ⟨(.some 41), (.call (.func g2) [(.tmp 39), (.tmp 40)]), .none, false, []⟩, ⟨(.some 38), (.mv (.tmp 41)), .none, false, []⟩, ⟨(.some 42), (.extract (.tmp 38) 0), .none, false, []⟩, ⟨(.some 43), (.extract (.tmp 38) 1), .none, false, []⟩, ⟨(.some 12), (.mv (.tmp 42)), .none, false, []⟩, ⟨(.some 13), (.mv (.tmp 43)), .none, false, []⟩]) (.seq (.ops [⟨(.some 45), (.mv (.tmp 9)), .none, false, []⟩, ⟨(.some 46), (.mv (.tmp 1)), .none, false, []⟩, ⟨(.some 47), (.mv (.tmp 2)), .none, false, []⟩, ⟨(.some 48), (.call (.func g3) [(.tmp 45), (.tmp 46), (.tmp 47)]), .none, false, []⟩, ⟨(.some 44), (.mv (.tmp 48)), .none, false, []⟩, ⟨(.some 49), (.extract (.tmp 44) 0), .none, false, []⟩, ⟨(.some 50), (.extract (.tmp 44) 1), .none, false, []⟩, ⟨(.some 14), (.mv (.tmp 49)), .none, false, []⟩, ⟨(.some 15), (.mv (.tmp 50)), .none, false, []⟩]) (.seq (.ops [⟨(.some 52), (.mv (.tmp 0)), .none, false, []⟩, ⟨(.some 53), (.mv (.tmp 1)), .none, false, []⟩, ⟨(.some 54), (.mv (.tmp 2)), .none, false, []⟩, ⟨(.some 55), (.call (.func g4) [(.tmp 52), (.tmp 53), (.tmp 54)]), .none, false, []⟩, ⟨(.some 51), (.mv (.tmp 55)), .none, false, []⟩, ⟨(.some 56), (.extract (.tmp 51) 0), .none, false, []⟩, ⟨(.some 57), (.extract (.tmp 51) 1), .none, false, []⟩, ⟨(.some 16), (.mv (.tmp 56)), .none, false, []⟩, ⟨(.some 17), (.mv (.tmp 57)), .none, false, []⟩]) (.seq (.ops [⟨(.some 59), (.mv (.tmp 9)), .none, false, []⟩, ⟨(.some 60), (.mv (.tmp 1)), .none, false, []⟩, ⟨(.some 61), (.mv (.tmp 2)), .none, false, []⟩, ⟨(.some 62), (.mv (.tmp 3)), .none, false, []⟩, ⟨(.some 63), (.call (.func g5) [(.tmp 59), (.tmp 60), (.tmp 61), (.tmp 62)]), .none, false, []⟩, ⟨(.some 58), (.mv (.tmp 63)), .none, false, []⟩, ⟨(.some 64), (.extract (.tmp 58) 0), .none, false, []⟩, ⟨(.some 65), (.extract (.tmp 58) 1), .none, false, []⟩, ⟨(.some 66), (.extract (.tmp 58) 2), .none, false, []⟩, ⟨(.some 18), (.mv (.tmp 64)), .none, false, []⟩, ⟨(.some 19), (.mv (.tmp 65)), .none, false, []⟩, ⟨(.some 20), (.mv (.tmp 66)), .none, false, []⟩]) (.seq (.ops [⟨(.some 68), (.mv (.tmp 0)), .none, false, []⟩, ⟨(.some 69), (.mv (.tmp 1)), .none, false, []⟩, ⟨(.some 70), (.mv (.tmp 2)), .none, false, []⟩, ⟨(.some 71), (.mv (.tmp 3)), .none, false, []⟩, ⟨(.some 72), (.call (.func g6) [(.tmp 68), (.tmp 69), (.tmp 70), (.tmp 71)]), .none, false, []⟩, ⟨(.some 67), (.mv (.tmp 72)), .none, false, []⟩, ⟨(.some 73), (.extract (.tmp 67) 0), .none, false, []⟩, ⟨(.some 74), (.extract (.tmp 67) 1), .none, false, []⟩, ⟨(.some 75), (.extract (.tmp 67) 2), .none, false, []⟩, ⟨(.some 21), (.mv (.tmp 73)), .none, false, []⟩, ⟨(.some 22), (.mv (.tmp 74)), .none, false, []⟩, ⟨(.some 23), (.mv (.tmp 75)), .none, false, []⟩]) (.seq (.ops [⟨(.some 77), (.mv (.tmp 9)), .none, false, []⟩, ⟨(.some 78), (.mv (.tmp 1)), .none, false, []⟩, ⟨(.some 79), (.mv (.tmp 2)), .none, false, []⟩, ⟨(.some 80), (.call (.func g7) [(.tmp 77), (.tmp 78), (.tmp 79)]), .none, false, []⟩, ⟨(.some 76), (.mv (.tmp 80)), .none, false, []⟩, ⟨(.some 81), (.extract (.tmp 76) 0), .none, false, []⟩, ⟨(.some 82), (.extract (.tmp 76) 1), .none, false, []⟩, ⟨(.some 83), (.extract (.tmp 76) 2), .none, false, []⟩, ⟨(.some 24), (.mv (.tmp 81)), .none, false, []⟩, ⟨(.some 25), (.mv (.tmp 82)), .none, false, []⟩, ⟨(.some 26), (.mv (.tmp 83)), .none, false, []⟩]) (.seq (.ops [⟨(.some 85), (.mv (.tmp 0)), .none, false, []⟩, ⟨(.some 86), (.mv (.tmp 1)), .none, false, []⟩, ⟨(.some 87), (.mv (.tmp 2)), .none, false, []⟩, ⟨(.some 88), (.call (.func g8) [(.tmp 85), (.tmp 86), (.tmp 87)]), .none, false, []⟩, ⟨(.some 84), (.mv (.tmp 88)), .none, false, []⟩, ⟨(.some 89), (.extract (.tmp 84) 0), .none, false, []⟩, ⟨(.some 90), (.extract (.tmp 84) 1), .none, false, []⟩, ⟨(.some 91), (.extract (.tmp 84) 2), .none, false, []⟩, ⟨(.some 27), (.mv (.tmp 89)), .none, false, []⟩, ⟨(.some 28), (.mv (.tmp 90)), .none, false, []⟩, ⟨(.some 29), (.mv (.tmp 91)), .none, false, []⟩]) (.seq (.seq (.ops [⟨(.some 92), (.mv (.tmp 10)), .none, false, []⟩, ⟨(.some 93), (.mv (.tmp 12)), .none, false, []⟩, ⟨(.some 94), (.bin .neq (.tmp 92) (.tmp 93)), .none, false, []⟩, ⟨(.some 95), (.mv (.tmp 94)), .none, false, []⟩, ⟨(.some 96), (.mv (.tmp 11)), (.some (95, false)), false, []⟩, ⟨(.some 97), (.call (.func g9) [(.tmp 96)]), (.some (95, false)), false, []⟩, ⟨(.some 98), (.mv (.tmp 13)), (.some (95, false)), false, []⟩, ⟨(.some 99), (.bin .neq (.tmp 97) (.tmp 98)), (.some (95, false)), false, []⟩, ⟨(.some 100), (.pick (.tmp 95) (.const (.bool true)) (.tmp 99)), .none, false, []⟩, ⟨(.some 101), (.mv (.tmp 100)), .none, false, []⟩, ⟨(.some 102), (.mv (.tmp 14)), (.some (101, false)), false, []⟩, ⟨(.some 103), (.mv (.tmp 16)), (.some (101, false)), false, []⟩, ⟨(.some 104), (.call (.func g10) [(.tmp 102), (.tmp 103)]), (.some (101, false)), false, []⟩, ⟨(.some 105), (.un .not (.tmp 104)), (.some (101, false)), false, []⟩, ⟨(.some 106), (.pick (.tmp 101) (.const (.bool true)) (.tmp 105)), .none, false, []⟩, ⟨(.some 107), (.mv (.tmp 106)), .none, false, []⟩, ⟨(.some 108), (.mv (.tmp 15)), (.some (107, false)), false, []⟩, ⟨(.some 109), (.call (.func g9) [(.tmp 108)]), (.some (107, false)), false, []⟩, ⟨(.some 110), (.mv (.tmp 17)), (.some (107, false)), false, []⟩, ⟨(.some 111), (.bin .neq (.tmp 109) (.tmp 110)), (.some (107, false)), false, []⟩, ⟨(.some 112), (.pick (.tmp 107) (.const (.bool true)) (.tmp 111)), .none, false, []⟩, ⟨(.some 113), (.mv (.tmp 112)), .none, false, []⟩, ⟨(.some 114), (.mv (.tmp 18)), (.some (113, false)), false, []⟩, ⟨(.some 115), (.mv (.tmp 21)), (.some (113, false)), false, []⟩, ⟨(.some 116), (.call (.func g10) [(.tmp 114), (.tmp 115)]), (.some (113, false)), false, []⟩, ⟨(.some 117), (.un .not (.tmp 116)), (.some (113, false)), false, []⟩, ⟨(.some 118), (.pick (.tmp 113) (.const (.bool true)) (.tmp 117)), .none, false, []⟩, ⟨(.some 119), (.mv (.tmp 118)), .none, false, []⟩, ⟨(.some 120), (.mv (.tmp 19)), (.some (119, false)), false, []⟩, ⟨(.some 121), (.mv (.tmp 22)), (.some (119, false)), false, []⟩, ⟨(.some 122), (.eq true .none (.tmp 120) (.tmp 121)), (.some (119, false)), false, []⟩, ⟨(.some 123), (.pick (.tmp 119) (.const (.bool true)) (.tmp 122)), .none, false, []⟩, ⟨(.some 124), (.mv (.tmp 123)), .none, false, []⟩, ⟨(.some 125), (.mv (.tmp 20)), (.some (124, false)), false, []⟩, ⟨(.some 126), (.call (.func g9) [(.tmp 125)]), (.some (124, false)), false, []⟩, ⟨(.some 127), (.mv (.tmp 23)), (.some (124, false)), false, []⟩, ⟨(.some 128), (.bin .neq (.tmp 126) (.tmp 127)), (.some (124, false)), false, []⟩, ⟨(.some 129), (.pick (.tmp 124) (.const (.bool true)) (.tmp 128)), .none, false, []⟩, ⟨(.some 130), (.mv (.tmp 129)), .none, false, []⟩, ⟨(.some 131), (.mv (.tmp 24)), (.some (130, false)), false, []⟩, ⟨(.some 132), (.mv (.tmp 27)), (.some (130, false)), false, []⟩, ⟨(.some 133), (.call (.func g10) [(.tmp 131), (.tmp 132)]), (.some (130, false)), false, []⟩, ⟨(.some 134), (.un .not (.tmp 133)), (.some (130, false)), false, []⟩, ⟨(.some 135), (.pick (.tmp 130) (.const (.bool true)) (.tmp 134)), .none, false, []⟩, ⟨(.some 136), (.mv (.tmp 135)), .none, false, []⟩, ⟨(.some 137), (.mv (.tmp 25)), (.some (136, false)), false, []⟩, ⟨(.some 138), (.mv (.tmp 28)), (.some (136, false)), false, []⟩, ⟨(.some 139), (.bin .neq (.tmp 137) (.tmp 138)), (.some (136, false)), false, []⟩, ⟨(.some 140), (.pick (.tmp 136) (.const (.bool true)) (.tmp 139)), .none, false, []⟩, ⟨(.some 141), (.mv (.tmp 140)), .none, false, []⟩, ⟨(.some 142), (.mv (.tmp 26)), (.some (141, false)), false, []⟩, ⟨(.some 143), (.call (.func g9) [(.tmp 142)]), (.some (141, false)), false, []⟩, ⟨(.some 144), (.mv (.tmp 29)), (.some (141, false)), false, []⟩, ⟨(.some 145), (.bin .neq (.tmp 143) (.tmp 144)), (.some (141, false)), false, []⟩, ⟨(.some 146), (.pick (.tmp 141) (.const (.bool true)) (.tmp 145)), .none, false, []⟩]) (.cond (.tmp 146) (.seq (.ops [⟨(.some 8), (.mv (.const (.bool false))), .none, false, []⟩]) .ret) .skip)) (.seq (.ops [⟨(.some 147), (.mv (.tmp 14)), .none, false, []⟩, ⟨(.some 148), (.call (.func g11) [(.tmp 147)]), .none, false, []⟩]) (.seq (.ops [⟨(.some 149), (.mv (.tmp 18)), .none, false, []⟩, ⟨(.some 150), (.call (.func g11) [(.tmp 149)]), .none, false, []⟩]) (.seq (.ops [⟨(.some 151), (.mv (.tmp 24)), .none, false, []⟩, ⟨(.some 152), (.call (.func g11) [(.tmp 151)]), .none, false, []⟩]) (.seq (.ops [⟨(.some 153), (.mv (.tmp 9)), .none, false, []⟩, ⟨(.some 154), (.mv (.tmp 0)), .none, false, []⟩, ⟨(.some 155), (.call (.func g12) [(.tmp 153), (.tmp 154)]), .none, false, []⟩, ⟨(.some 156), (.mv (.tmp 155)), .none, false, []⟩, ⟨(.some 157), (.call (.func g13) []), (.some (156, true)), false, []⟩, ⟨(.some 158), (.pick (.tmp 156) (.tmp 157) (.const (.bool false))), .none, false, []⟩, ⟨(.some 8), (.mv (.tmp 158)), .none, false, []⟩]) .ret)))))))))))))))⟩
theorem LoadM_form (xs : List Int) (k : Int) : ∃ A B : Int, (if There xs k then tupI (xs.getD k.toNat 0) 0 else tupI 0 100) = .tuple #[.int .i64 A, .int .i64 B] ∧ 0 ≤ B ∧ B ≤ 100 := by
  split
  · exact ⟨_, _, rfl, by omega, by omega⟩
  · exact ⟨_, _, rfl, by omega, by omega⟩
theorem StoreM_rng (xs : List Int) (k x : Int) : 0 ≤ (StoreM xs k x).2 ∧ (StoreM xs k x).2 ≤ 100 := by unfold StoreM; split <;> simp
theorem SwapM_rng (xs : List Int) (k y x : Int) : 0 ≤ (SwapM xs k y x).2.2 ∧ (SwapM xs k y x).2.2 ≤ 100 := by
  unfold SwapM
  split
  · split <;> simp
  · simp
theorem AddM_rng (xs : List Int) (k y : Int) : 0 ≤ (AddM xs k y).2.2 ∧ (AddM xs k y).2.2 ≤ 100 := by unfold AddM; split <;> simp
theorem StoreM_len {xs : List Int} {k x : Int} {n : Nat} (h : xs.length = n) : (StoreM xs k x).1.length ≤ n := by unfold StoreM; split <;> simp [h]
theorem SwapM_len {xs : List Int} {k y x : Int} {n : Nat} (h : xs.length = n) : (SwapM xs k y x).1.length ≤ n := by
  unfold SwapM
  split
  · split <;> simp [h]
  · simp
theorem AddM_len {xs : List Int} {k y : Int} {n : Nat} (h : xs.length = n) : (AddM xs k y).1.length ≤ n := by unfold AddM; split <;> simp [h]

section
variable {X : Ext} {F : FuncId → Option RFunc} {h : AH}
/-- The functions that the statement reaches. -/
structure CellsEnv (X : Ext) (F : FuncId → Option RFunc) (g0 g1 g2 g3 g4 g5 g6 g7 g8 g9 g10 g11 g12 g13 c0 c1 c2 c3 c4 c5 c6 c7 c8 c9 c10 : Nat) : Prop where
  n : ∀ g, g ≠ g13 → X g = none
  x : ∀ g ∈ [g0, g1, g2, g3, g4, g5, g6, g7, g8, g9, g10, g11, g12, c0, c1, c2, c3, c4, c5, c6, c7, c8, c9, c10], g ≠ g13
  f0 : F g0 = some (rf_LendInts c0)
  f1 : F g1 = some (rf_Load c1)
  f2 : F g2 = some (rf_rLoad c2)
  f3 : F g3 = some (rf_Store c1 c3 c4)
  f4 : F g4 = some (rf_rStore c2 c5 c6)
  f5 : F g5 = some (rf_Swap g1 c3 c4 g3)
  f6 : F g6 = some (rf_rSwap c2 c5 c6)
  f7 : F g7 = some (rf_Add g1 g3)
  f8 : F g8 = some (rf_rAdd c2 c5 c6)
  f9 : F g9 = some rf_Num
  f10 : F g10 = some rf_SameInts
  f11 : F g11 = some rf_SpoilInts
  f12 : F g12 = some (rf_KeptInts g10)
  d0 : F c0 = some rf_CopyInts
  d1 : F c1 = some (rf_there c7 c8)
  d2 : F c2 = some (rf_cellsMay c5)
  d3 : F c3 = some rf_Number
  d4 : F c4 = some rf_Clone
  d5 : F c5 = some (rf_cellMay c9)
  d6 : F c6 = some rf_with
  d7 : F c7 = some (rf_there1 c3)
  d8 : F c8 = some (rf_ContainsFunc c10)
  d9 : F c9 = some rf_upTo
  d10 : F c10 = some rf_IndexFunc
  aw : ∀ lim h, Ret X F lim g13 [] h fun v h' => v = .bool true ∧ h' = h

theorem Cells_run {f g0 g1 g2 g3 g4 g5 g6 g7 g8 g9 g10 g11 g12 g13 c0 c1 c2 c3 c4 c5 c6 c7 c8 c9 c10 : Nat} (E : CellsEnv X F g0 g1 g2 g3 g4 g5 g6 g7 g8 g9 g10 g11 g12 g13 c0 c1 c2 c3 c4 c5 c6 c7 c8 c9 c10) (hX : X f = none) (hF : F f = some (rf_Cells g0 g1 g2 g3 g4 g5 g6 g7 g8 g9 g10 g11 g12 g13))
    {a : Option Addr} {n : Nat} {xs : List Int} {k x y : Int} (ha : Sl 1 h a n n (ints xs)) (hn : n ≤ 2 ^ 44) (hx : -9223372036854775808 ≤ x ∧ x ≤ 9223372036854775807) : Ret X F h.length f [.slice a n n, .int .i64 k, .int .i64 x, .int .i64 y] h fun v _ => v = .bool true := by
  have nx : ∀ g ∈ [g0, g1, g2, g3, g4, g5, g6, g7, g8, g9, g10, g11, g12, c0, c1, c2, c3, c4, c5, c6, c7, c8, c9, c10], X g = none := fun g hg => E.n g (E.x g hg)
  have x0 := nx g0 (by simp)
  have x1 := nx g1 (by simp)
  have x2 := nx g2 (by simp)
  have x3 := nx g3 (by simp)
  have x4 := nx g4 (by simp)
  have x5 := nx g5 (by simp)
  have x6 := nx g6 (by simp)
  have x7 := nx g7 (by simp)
  have x8 := nx g8 (by simp)
  have x9 := nx g9 (by simp)
  have x10 := nx g10 (by simp)
  have x11 := nx g11 (by simp)
  have x12 := nx g12 (by simp)
  have y0 := nx c0 (by simp)
  have y1 := nx c1 (by simp)
  have y2 := nx c2 (by simp)
  have y3 := nx c3 (by simp)
  have y4 := nx c4 (by simp)
  have y5 := nx c5 (by simp)
  have y6 := nx c6 (by simp)
  have y7 := nx c7 (by simp)
  have y8 := nx c8 (by simp)
  have y9 := nx c9 (by simp)
  have y10 := nx c10 (by simp)
  have hxn := ha.ilen
  have th : ∀ {h : AH} {a : Option Addr} {n c : Nat}, Sl 1 h a n c (ints xs) → n ≤ 2 ^ 44 → ∀ {lim}, Ret X F lim c1 [.slice a n c, .int .i64 k] h fun v h' => Pfx h h' ∧ v = .bool (decide (There xs k)) := fun ha hn => there_run y1 E.d1 y7 E.d7 y8 E.d8 y3 E.d3 y10 E.d10 ha hn
  have cm : ∀ {h : AH} {a : Option Addr} {n c : Nat}, Sl 1 h a n c (ints xs) → n ≤ 2 ^ 44 → ∀ {lim}, Ret X F lim c2 [.slice a n c, .int .i64 k] h fun v h' => v = .bool (decide (There xs k)) ∧ h' = h := fun ha hn => cellsMay_run y2 E.d2 y5 E.d5 y9 E.d9 ha hn
  have ld : ∀ {h : AH} {a : Option Addr} {n c : Nat}, Sl 1 h a n c (ints xs) → n ≤ 2 ^ 44 → ∀ {lim}, Ret X F lim g1 [.slice a n c, .int .i64 k] h fun v h' => Pfx h h' ∧ v = if There xs k then tupI (xs.getD k.toNat 0) 0 else tupI 0 100 := fun ha hn => cLoad_run x1 E.f1 ha (th ha hn)
  have st : ∀ {h : AH} {a : Option Addr} {n c : Nat} (x : Int), Sl 1 h a n c (ints xs) → n ≤ 2 ^ 44 → ∀ lim, lim ≤ h.length → Ret X F lim g3 [.slice a n c, .int .i64 k, .int .i64 x] h fun v h' => Pfx h h' ∧ ∃ u, v = .tuple #[u, .int .i64 (StoreM xs k x).2] ∧ MadeI h h' u (StoreM xs k x).1 := fun x ha hn lim hl => cStore_run x3 E.f3 y3 E.d3 y4 E.d4 ha hn hl (th ha hn)
  have hL := Loc.start h
  have hlim : h.length ≤ h.length := Nat.le_refl _
  refine Ret.body hX hF rfl ?_
  simp only [argL, rf_Cells]
  (refine WC.seq (WC.ops (WO.cons (OP.mv rfl (WO.nil (WC.seq (WC.ops (WO.cons (OP.mv rfl ?_)))))))); dsimp only [thn_normal, thn_ret, thn_exit, blk_normal, blk_ret])
  (refine WO.cons ?_)
  refine OP.call rfl rfl (Ret.mono (LendInts_run x0 E.f0 y0 E.d0 ha hn hlim) fun v h1 hv => ?_)
  obtain ⟨hp, b, hb1, rfl, hb2⟩ := hv
  replace hL := hL.add hp (bk h.length h1.length b (ints (xs ++ [-7777, -8888]))) rfl rfl ⟨hb2, hb1, (List.getElem?_eq_some_iff.1 hb2).1⟩
  have lent : ∀ {h' : AH}, h'[b]? = some (.cells (ints (xs ++ [-7777, -8888]))) → Sl 1 h' (some ⟨b, 0, some 1⟩) n (n + 2) (ints xs) := fun {h'} hb => by
    refine Sl.front (ds := ints [-7777, -8888]) ?_ (by rw [ints_len]; omega) (by omega)
    rw [hb]; simp [ints]
  obtain ⟨A, B, hAB, hB⟩ := LoadM_form xs k
  have ld2 := @ld
  rw [hAB] at ld
  (refine WO.cons (OP.mv rfl (WO.nil (WC.seq (WC.ops (WO.cons (OP.mv rfl (WO.cons (OP.mv rfl ?_)))))))); dsimp only [thn_normal, thn_ret, thn_exit, blk_normal, blk_ret])
  (refine WO.cons ?_)
  refine OL.call hL rfl rfl (ld (lent (hL.bkAt (k := 0) rfl)) hn) (fun v h2 hp hL hv => ?_)
  subst hv
  (refine WO.cons (OP.mv rfl (WO.cons (OP.extract rfl rfl (WO.cons (OP.extract rfl rfl (WO.cons (OP.mv rfl (WO.cons (OP.mv rfl (WO.nil (WC.seq (WC.ops (WO.cons (OP.mv rfl (WO.cons (OP.mv rfl ?_)))))))))))))))); dsimp only [thn_normal, thn_ret, thn_exit, blk_normal, blk_ret])
  (refine WO.cons ?_)
  refine OP.call rfl rfl (Ret.mono (rLoad_run x2 E.f2 (ha.pfx hL.pfx) (cm (ha.pfx hL.pfx) hn)) fun v h' hv => ?_)
  obtain ⟨rfl, rfl⟩ := hv
  rw [hAB]
  (refine WO.cons (OP.mv rfl (WO.cons (OP.extract rfl rfl (WO.cons (OP.extract rfl rfl (WO.cons (OP.mv rfl (WO.cons (OP.mv rfl (WO.nil (WC.seq (WC.ops (WO.cons (OP.mv rfl (WO.cons (OP.mv rfl (WO.cons (OP.mv rfl ?_)))))))))))))))))); dsimp only [thn_normal, thn_ret, thn_exit, blk_normal, blk_ret])
  (refine WO.cons ?_)
  refine OL.call hL rfl rfl (st x (lent (hL.bkAt (k := 0) rfl)) hn _ hL.len) (fun v h3 hp hL hv => ?_)
  have hSl := StoreM_len (k := k) (x := x) hxn
  have hSr := StoreM_rng xs k x
  have hWl := SwapM_len (k := k) (y := x) (x := y) hxn
  have hWr := SwapM_rng xs k x y
  have hAl := AddM_len (k := k) (y := x) hxn
  have hAr := AddM_rng xs k x
  obtain ⟨u3, rfl, a3, m3, rfl, hA3⟩ := hv
  replace hL := Loc.add (by assumption : Loc h _ [bk h.length h1.length b (ints (xs ++ [-7777, -8888]))]) hp (ap _ h3.length 1 a3 m3 (ints (StoreM xs k x).1)) rfl rfl hA3
  (refine WO.cons (OP.mv rfl (WO.cons (OP.extract rfl rfl (WO.cons (OP.extract rfl rfl (WO.cons (OP.mv rfl (WO.cons (OP.mv rfl (WO.nil (WC.seq (WC.ops (WO.cons (OP.mv rfl (WO.cons (OP.mv rfl (WO.cons (OP.mv rfl ?_)))))))))))))))))); dsimp only [thn_normal, thn_ret, thn_exit, blk_normal, blk_ret])
  (refine WO.cons ?_)
  refine OL.call hL rfl rfl (rStore_run x4 E.f4 y5 E.d5 y6 E.d6 y9 E.d9 (ha.pfx hL.pfx) hn hL.len (cm (ha.pfx hL.pfx) hn)) (fun v h4 hp hL4 hv => ?_)
  obtain ⟨u4, rfl, a4, m4, rfl, hA4⟩ := hv
  replace hL := Loc.add hL hp (ap _ h4.length 1 a4 m4 (ints (StoreM xs k x).1)) rfl rfl hA4
  (refine WO.cons (OP.mv rfl (WO.cons (OP.extract rfl rfl (WO.cons (OP.extract rfl rfl (WO.cons (OP.mv rfl (WO.cons (OP.mv rfl (WO.nil (WC.seq (WC.ops (WO.cons (OP.mv rfl (WO.cons (OP.mv rfl (WO.cons (OP.mv rfl (WO.cons (OP.mv rfl ?_)))))))))))))))))))); dsimp only [thn_normal, thn_ret, thn_exit, blk_normal, blk_ret])
  (refine WO.cons ?_)
  refine OL.call hL rfl rfl (cSwap_run x5 E.f5 y3 E.d3 y4 E.d4 (lent (hL.bkAt (k := 2) rfl)) hn hL.len (ld2 (lent (hL.bkAt (k := 2) rfl)) hn) (fun h9 hp9 => st y ((lent (hL.bkAt (k := 2) rfl)).pfx hp9) hn _ (Nat.le_trans hL.len hp9.1))) (fun v h5 hp hL5 hv => ?_)
  obtain ⟨u5, rfl, a5, m5, rfl, hA5⟩ := hv
  replace hL := Loc.add hL hp (ap _ h5.length 1 a5 m5 (ints (SwapM xs k x y).1)) rfl rfl hA5
  (refine WO.cons (OP.mv rfl (WO.cons (OP.extract rfl rfl (WO.cons (OP.extract rfl rfl (WO.cons (OP.extract rfl rfl (WO.cons (OP.mv rfl (WO.cons (OP.mv rfl (WO.cons (OP.mv rfl (WO.nil (WC.seq (WC.ops (WO.cons (OP.mv rfl (WO.cons (OP.mv rfl (WO.cons (OP.mv rfl (WO.cons (OP.mv rfl ?_)))))))))))))))))))))))); dsimp only [thn_normal, thn_ret, thn_exit, blk_normal, blk_ret])
  (refine WO.cons ?_)
  refine OL.call hL rfl rfl (rSwap_run x6 E.f6 y5 E.d5 y6 E.d6 y9 E.d9 (ha.pfx hL.pfx) hn hL.len (cm (ha.pfx hL.pfx) hn)) (fun v h6 hp hL6 hv => ?_)
  obtain ⟨u6, rfl, a6, m6, rfl, hA6⟩ := hv
  replace hL := Loc.add hL hp (ap _ h6.length 1 a6 m6 (ints (SwapM xs k x y).1)) rfl rfl hA6
  (refine WO.cons (OP.mv rfl (WO.cons (OP.extract rfl rfl (WO.cons (OP.extract rfl rfl (WO.cons (OP.extract rfl rfl (WO.cons (OP.mv rfl (WO.cons (OP.mv rfl (WO.cons (OP.mv rfl (WO.nil (WC.seq (WC.ops (WO.cons (OP.mv rfl (WO.cons (OP.mv rfl (WO.cons (OP.mv rfl ?_)))))))))))))))))))))); dsimp only [thn_normal, thn_ret, thn_exit, blk_normal, blk_ret])
  (refine WO.cons ?_)
  refine OL.call hL rfl rfl (cAdd_run x7 E.f7 hx (lent (hL.bkAt (k := 4) rfl)) hn hL.len (ld2 (lent (hL.bkAt (k := 4) rfl)) hn) (fun h9 z hp9 => st z ((lent (hL.bkAt (k := 4) rfl)).pfx hp9) hn _ (Nat.le_trans hL.len hp9.1))) (fun v h7 hp hL7 hv => ?_)
  obtain ⟨u7, rfl, a7, m7, rfl, hA7⟩ := hv
  replace hL := Loc.add hL hp (ap _ h7.length 1 a7 m7 (ints (AddM xs k x).1)) rfl rfl hA7
  (refine WO.cons (OP.mv rfl (WO.cons (OP.extract rfl rfl (WO.cons (OP.extract rfl rfl (WO.cons (OP.extract rfl rfl (WO.cons (OP.mv rfl (WO.cons (OP.mv rfl (WO.cons (OP.mv rfl (WO.nil (WC.seq (WC.ops (WO.cons (OP.mv rfl (WO.cons (OP.mv rfl (WO.cons (OP.mv rfl ?_)))))))))))))))))))))); dsimp only [thn_normal, thn_ret, thn_exit, blk_normal, blk_ret])
  (refine WO.cons ?_)
  refine OL.call hL rfl rfl (rAdd_run x8 E.f8 y5 E.d5 y6 E.d6 y9 E.d9 (ha.pfx hL.pfx) hn hL.len (cm (ha.pfx hL.pfx) hn)) (fun v h8 hp hL8 hv => ?_)
  obtain ⟨u8, rfl, a8, m8, rfl, hA8⟩ := hv
  replace hL := Loc.add hL hp (ap _ h8.length 1 a8 m8 (ints (AddM xs k x).1)) rfl rfl hA8
  clear hL4 hL5 hL6 hL7 hL8
  have len : ∀ {j lo hi m : Nat} {a : Option Addr} {zs : List Int}, [ap h7.length h8.length 1 a8 m8 (ints (AddM xs k x).1)].length = 1 → True := fun _ => trivial
  (refine WO.cons (OP.mv rfl (WO.cons (OP.extract rfl rfl (WO.cons (OP.extract rfl rfl (WO.cons (OP.extract rfl rfl (WO.cons (OP.mv rfl (WO.cons (OP.mv rfl (WO.cons (OP.mv rfl (WO.nil (WC.seq (WC.seq (WC.ops (WO.cons (OP.mv rfl (WO.cons (OP.mv rfl (WO.cons (OP.neqF rfl rfl (by omega) ?_))))))))))))))))))))))); refine WO.cons (OP.mv rfl (WO.yes rfl (WO.cons (OP.mv rfl (WO.yes rfl ?_))))); dsimp only [thn_normal, thn_ret, thn_exit, blk_normal, blk_ret])
  (refine WO.cons ?_)
  refine OP.call rfl rfl (Ret.mono (Num_run x9 E.f9 (by omega)) fun v h' hv => ?_)
  obtain ⟨rfl, rfl⟩ := hv
  (refine WO.yes rfl (WO.cons (OP.mv rfl (WO.yes rfl (WO.cons (OP.neqF rfl rfl (by omega) ?_))))); refine WO.cons (OP.pickF rfl rfl (WO.cons (OP.mv rfl (WO.yes rfl (WO.cons (OP.mv rfl (WO.yes rfl (WO.cons (OP.mv rfl (WO.yes rfl ?_)))))))))))
  (refine WO.cons ?_)
  have e3 := (hL.apAt (k := 5) rfl).ilen
  have e4 := (hL.apAt (k := 4) rfl).ilen
  have e5 := (hL.apAt (k := 3) rfl).ilen
  have e6 := (hL.apAt (k := 2) rfl).ilen
  have e7 := (hL.apAt (k := 1) rfl).ilen
  have e8 := (hL.apAt (k := 0) rfl).ilen
  refine OP.call rfl rfl (Ret.mono (SameInts_run x10 E.f10 (hL.apAt (k := 5) rfl) (hL.apAt (k := 4) rfl) (by omega)) fun v h' hv => ?_)
  obtain ⟨rfl, rfl⟩ := hv
  rw [decide_eq_true rfl]
  (refine WO.yes rfl (WO.cons (OP.not rfl (WO.cons (OP.pickF rfl rfl (WO.cons (OP.mv rfl (WO.yes rfl (WO.cons (OP.mv rfl (WO.yes rfl ?_)))))))))))
  (refine WO.cons ?_)
  refine OP.call rfl rfl (Ret.mono (Num_run x9 E.f9 (by omega)) fun v h' hv => ?_)
  obtain ⟨rfl, rfl⟩ := hv
  (refine WO.yes rfl (WO.cons (OP.mv rfl (WO.yes rfl (WO.cons (OP.neqF rfl rfl (by omega) ?_))))); refine WO.cons (OP.pickF rfl rfl (WO.cons (OP.mv rfl (WO.yes rfl (WO.cons (OP.mv rfl (WO.yes rfl (WO.cons (OP.mv rfl (WO.yes rfl ?_)))))))))))
  (refine WO.cons ?_)
  refine OP.call rfl rfl (Ret.mono (SameInts_run x10 E.f10 (hL.apAt (k := 3) rfl) (hL.apAt (k := 2) rfl) (by omega)) fun v h' hv => ?_)
  obtain ⟨rfl, rfl⟩ := hv
  rw [decide_eq_true rfl]
  (refine WO.yes rfl (WO.cons (OP.not rfl (WO.cons (OP.pickF rfl rfl (WO.cons (OP.mv rfl (WO.yes rfl (WO.cons (OP.mv rfl (WO.yes rfl (WO.cons (OP.mv rfl (WO.yes rfl (WO.cons (OP.neSelf rfl rfl (WO.cons (OP.pickF rfl rfl (WO.cons (OP.mv rfl (WO.yes rfl (WO.cons (OP.mv rfl (WO.yes rfl ?_))))))))))))))))))))))))
  (refine WO.cons ?_)
  refine OP.call rfl rfl (Ret.mono (Num_run x9 E.f9 (by omega)) fun v h' hv => ?_)
  obtain ⟨rfl, rfl⟩ := hv
  (refine WO.yes rfl (WO.cons (OP.mv rfl (WO.yes rfl (WO.cons (OP.neqF rfl rfl (by omega) ?_))))); refine WO.cons (OP.pickF rfl rfl (WO.cons (OP.mv rfl (WO.yes rfl (WO.cons (OP.mv rfl (WO.yes rfl (WO.cons (OP.mv rfl (WO.yes rfl ?_)))))))))))
  (refine WO.cons ?_)
  refine OP.call rfl rfl (Ret.mono (SameInts_run x10 E.f10 (hL.apAt (k := 1) rfl) (hL.apAt (k := 0) rfl) (by omega)) fun v h' hv => ?_)
  obtain ⟨rfl, rfl⟩ := hv
  rw [decide_eq_true rfl]
  (refine WO.yes rfl (WO.cons (OP.not rfl (WO.cons (OP.pickF rfl rfl (WO.cons (OP.mv rfl (WO.yes rfl (WO.cons (OP.mv rfl (WO.yes rfl (WO.cons (OP.mv rfl (WO.yes rfl (WO.cons (OP.neqF rfl rfl (by omega) ?_))))))))))))))); refine WO.cons (OP.pickF rfl rfl (WO.cons (OP.mv rfl (WO.yes rfl (WO.cons (OP.mv rfl (WO.yes rfl ?_))))))))
  (refine WO.cons ?_)
  refine OP.call rfl rfl (Ret.mono (Num_run x9 E.f9 (by omega)) fun v h' hv => ?_)
  obtain ⟨rfl, rfl⟩ := hv
  (refine WO.yes rfl (WO.cons (OP.mv rfl (WO.yes rfl (WO.cons (OP.neqF rfl rfl (by omega) ?_))))); refine WO.cons (OP.pickF rfl rfl (WO.nil (WC.condF rfl (WC.skip (WC.seq (WC.ops (WO.cons (OP.mv rfl ?_)))))))); dsimp only [thn_normal, thn_ret, thn_exit, blk_normal, blk_ret])
  (refine WO.cons ?_)
  refine OL.callSpoil (k := 5) hL rfl rfl rfl (SpoilInts_run x11 E.f11 (hL.apAt (k := 5) rfl) (Ap.sl (hL.get (k := 5) rfl)).2 (hL.lo (k := 5) rfl) (by omega)) (fun v h9 hL => ?_)
  (refine WO.nil (WC.seq (WC.ops (WO.cons (OP.mv rfl ?_)))); dsimp only [thn_normal, thn_ret, thn_exit, blk_normal, blk_ret])
  (refine WO.cons ?_)
  refine OL.callSpoil (k := 3) hL rfl rfl rfl (SpoilInts_run x11 E.f11 (hL.apAt (k := 3) rfl) (Ap.sl (hL.get (k := 3) rfl)).2 (hL.lo (k := 3) rfl) (by omega)) (fun v h10 hL => ?_)
  (refine WO.nil (WC.seq (WC.ops (WO.cons (OP.mv rfl ?_)))); dsimp only [thn_normal, thn_ret, thn_exit, blk_normal, blk_ret])
  (refine WO.cons ?_)
  refine OL.callSpoil (k := 1) hL rfl rfl rfl (SpoilInts_run x11 E.f11 (hL.apAt (k := 1) rfl) (Ap.sl (hL.get (k := 1) rfl)).2 (hL.lo (k := 1) rfl) (by omega)) (fun v h11 hL => ?_)
  (refine WO.nil (WC.seq (WC.ops (WO.cons (OP.mv rfl (WO.cons (OP.mv rfl ?_)))))); dsimp only [thn_normal, thn_ret, thn_exit, blk_normal, blk_ret])
  (refine WO.cons ?_)
  refine OP.call rfl rfl (Ret.mono (KeptInts_run x12 E.f12 x10 E.f10 (hL.bkAt (k := 6) rfl) hxn (ha.pfx hL.pfx) hn rfl) fun v h' hv => ?_)
  obtain ⟨rfl, rfl⟩ := hv
  rw [decide_eq_true rfl]
  (refine WO.cons (OP.mv rfl (WO.yes rfl ?_)))
  (refine WO.cons ?_)
  refine OP.call rfl rfl (Ret.mono (E.aw _ _) fun v h' hv => ?_)
  obtain ⟨rfl, rfl⟩ := hv
  (refine WO.cons (OP.pickT rfl rfl (WO.cons (OP.mv rfl (WO.nil (WC.ret ?_))))))
  exact Fin.ret rfl rfl
end
end Go.Proofs.YtojkcbcdoljadaaW.Ai
