/-
 Cells (chapter 1), as the small machine runs them.
-/
import Derived.Test.YtdcpmchhioilpaaFn1
set_option linter.unusedVariables false
set_option linter.unusedSimpArgs false
namespace Go.Proofs.YtdcpmchhioilpaaW.Ai
-- chorus/cell.Number
def rf_Number : RFunc :=
 ⟨9, [(.tmp 2)], (.seq (.ops [rO 2 (.mv (.const (.bool false)))]) (.seq (.ops [rO 3 (.mv (.tmp 0)), rO 4 (.bin .geq (.tmp 3) (.const (.int .i64 0))), rO 5 (.mv (.tmp 4)), ⟨(.some 6), (.mv (.tmp 0)), (.some (5, true)), false, []⟩, ⟨(.some 7), (.bin .leq (.tmp 6) (.const (.int .i64 1048576))), (.some (5, true)), false, []⟩, rO 8 (.pick (.tmp 5) (.tmp 7) (.const (.bool false))), rO 2 (.mv (.tmp 8))]) .ret))⟩
-- chorus/cell.there; g0 = chorus/cell.there$1; g1 = slices.ContainsFunc[[]int,int]
def rf_there (g0 g1 : Nat) : RFunc :=
 ⟨25, [(.tmp 4)], (.seq (.ops [rO 4 (.mv (.const (.bool false)))]) (.seq (.ops [rO 5 (.mv (.func g0))]) (.seq (.ops [rO 6 (.mv (.tmp 0)), rO 7 (.len 1 (.tmp 6)), rO 8 (.bin .leq (.tmp 7) (.const (.int .i64 16))), rO 9 (.mv (.tmp 8)), ⟨(.some 10), (.mv (.tmp 0)), (.some (9, true)), false, []⟩, ⟨(.some 11), (.mv (.tmp 5)), (.some (9, true)), false, []⟩, ⟨(.some 12), (.call (.func g1) [(.tmp 10), (.tmp 11)]), (.some (9, true)), false, []⟩, ⟨(.some 13), (.un .not (.tmp 12)), (.some (9, true)), false, []⟩, rO 14 (.pick (.tmp 9) (.tmp 13) (.const (.bool false))), rO 15 (.mv (.tmp 14)), ⟨(.some 16), (.mv (.tmp 1)), (.some (15, true)), false, []⟩, ⟨(.some 17), (.bin .geq (.tmp 16) (.const (.int .i64 0))), (.some (15, true)), false, []⟩, rO 18 (.pick (.tmp 15) (.tmp 17) (.const (.bool false))), rO 19 (.mv (.tmp 18)), ⟨(.some 20), (.mv (.tmp 1)), (.some (19, true)), false, []⟩, ⟨(.some 21), (.mv (.tmp 0)), (.some (19, true)), false, []⟩, ⟨(.some 22), (.len 1 (.tmp 21)), (.some (19, true)), false, []⟩, ⟨(.some 23), (.bin .lss (.tmp 20) (.tmp 22)), (.some (19, true)), false, []⟩, rO 24 (.pick (.tmp 19) (.tmp 23) (.const (.bool false))), rO 4 (.mv (.tmp 24))]) .ret)))⟩
-- chorus/cell.there$1; g0 = chorus/cell.Number
def rf_there1 (g0 : Nat) : RFunc :=
 ⟨6, [(.tmp 2)], (.seq (.ops [rO 2 (.mv (.const (.bool false)))]) (.seq (.ops [rO 3 (.mv (.tmp 0)), rO 4 (.call (.func g0) [(.tmp 3)]), rO 5 (.un .not (.tmp 4)), rO 2 (.mv (.tmp 5))]) .ret))⟩
-- slices.ContainsFunc[[]int,int]; g0 = slices.IndexFunc[[]int,int]
def rf_ContainsFunc (g0 : Nat) : RFunc :=
 ⟨9, [(.tmp 4)], (.seq (.ops [rO 4 (.mv (.const (.bool false)))]) (.seq (.ops [rO 5 (.mv (.tmp 0)), rO 6 (.mv (.tmp 1)), rO 7 (.call (.func g0) [(.tmp 5), (.tmp 6)]), rO 8 (.bin .geq (.tmp 7) (.const (.int .i64 0))), rO 4 (.mv (.tmp 8))]) .ret))⟩
-- slices.IndexFunc[[]int,int]
def rf_IndexFunc : RFunc :=
 ⟨19, [(.tmp 4)], (.seq (.ops [rO 4 (.mv (.const (.int .i64 0)))]) (.seq (.seq (.ops [rO 6 (.mv (.tmp 0)), rO 7 (.len 1 (.tmp 6)), rO 8 (.mv (.const (.int .i64 0)))]) (.block 0 (.loop (.seq (.ops [rO 9 (.bin .lss (.tmp 8) (.tmp 7))]) (.seq (.cond (.tmp 9) .skip (.exit 0)) (.seq (.block 1 (.seq (.ops [rO 10 (.mv (.tmp 8)), rO 5 (.mv (.tmp 10))]) (.seq (.ops [rO 11 (.mv (.tmp 1)), rO 12 (.mv (.tmp 0)), rO 13 (.mv (.tmp 5)), rO 14 (.idxAddr 1 (.tmp 12) (.tmp 13)), rO 15 (.load .none (.tmp 14)), rO 16 (.call (.tmp 11) [(.tmp 15)])]) (.cond (.tmp 16) (.seq (.ops [rO 17 (.mv (.tmp 5)), rO 4 (.mv (.tmp 17))]) .ret) .skip)))) (.ops [rO 18 (.bin .add (.tmp 8) (.const (.int .i64 1))), rO 8 (.mv (.tmp 18))]))))))) (.seq (.ops [rO 4 (.mv (.const (.int .i64 (-1))))]) .ret)))⟩
-- slices.Clone[[]int,int]
def rf_Clone : RFunc :=
 ⟨8, [(.tmp 2)], (.seq (.ops [rO 2 (.mv (.const (.slice .none 0 0)))]) (.seq (.seq (.ops [rO 3 (.mv (.tmp 0)), rO 4 (.isNil false 0 (.tmp 3))]) (.cond (.tmp 4) (.seq (.ops [rO 2 (.mv (.const (.slice .none 0 0)))]) .ret) .skip)) (.seq (.ops [rO 5 (.buildSlice [] 0 []), rO 6 (.mv (.tmp 0)), rO 7 (.append 1 8 (.tmp 5) (.tmp 6)), rO 2 (.mv (.tmp 7))]) .ret)))⟩
-- chorus/cell.Load; g0 = chorus/cell.there
def rf_Load (g0 : Nat) : RFunc :=
 ⟨14, [(.tmp 4), (.tmp 5)], (.seq (.ops [rO 4 (.mv (.const (.int .i64 0))), rO 5 (.mv (.const (.int .i64 0)))]) (.seq (.seq (.ops [rO 6 (.mv (.tmp 0)), rO 7 (.mv (.tmp 1)), rO 8 (.call (.func g0) [(.tmp 6), (.tmp 7)]), rO 9 (.un .not (.tmp 8))]) (.cond (.tmp 9) (.seq (.ops [rO 4 (.mv (.const (.int .i64 0))), rO 5 (.mv (.const (.int .i64 100)))]) .ret) .skip)) (.seq (.ops [rO 10 (.mv (.tmp 0)), rO 11 (.mv (.tmp 1)), rO 12 (.idxAddr 1 (.tmp 10) (.tmp 11)), rO 13 (.load .none (.tmp 12)), rO 4 (.mv (.tmp 13)), rO 5 (.mv (.const (.int .i64 0)))]) .ret)))⟩
-- chorus/cell.Store; g0 = chorus/cell.there; g1 = chorus/cell.Number; g2 = slices.Clone[[]int,int]
def rf_Store (g0 g1 g2 : Nat) : RFunc :=
 ⟨25, [(.tmp 6), (.tmp 7)], (.seq (.ops [rO 6 (.mv (.const (.slice .none 0 0))), rO 7 (.mv (.const (.int .i64 0)))]) (.seq (.seq (.ops [rO 9 (.mv (.tmp 0)), rO 10 (.mv (.tmp 1)), rO 11 (.call (.func g0) [(.tmp 9), (.tmp 10)]), rO 12 (.un .not (.tmp 11)), rO 13 (.mv (.tmp 12)), ⟨(.some 14), (.mv (.tmp 2)), (.some (13, false)), false, []⟩, ⟨(.some 15), (.call (.func g1) [(.tmp 14)]), (.some (13, false)), false, []⟩, ⟨(.some 16), (.un .not (.tmp 15)), (.some (13, false)), false, []⟩, rO 17 (.pick (.tmp 13) (.const (.bool true)) (.tmp 16))]) (.cond (.tmp 17) (.seq (.ops [rO 6 (.mv (.const (.slice .none 0 0))), rO 7 (.mv (.const (.int .i64 100)))]) .ret) .skip)) (.seq (.ops [rO 18 (.mv (.tmp 0)), rO 19 (.call (.func g2) [(.tmp 18)]), rO 8 (.mv (.tmp 19))]) (.seq (.ops [rO 20 (.mv (.tmp 8)), rO 21 (.mv (.tmp 1)), rO 22 (.mv (.tmp 2)), rO 23 (.idxAddr 1 (.tmp 20) (.tmp 21)), ⟨.none, (.store 1 (.tmp 23) (.tmp 22)), .none, false, []⟩]) (.seq (.ops [rO 24 (.mv (.tmp 8)), rO 6 (.mv (.tmp 24)), rO 7 (.mv (.const (.int .i64 0)))]) .ret)))))⟩
-- chorus/cell.Swap; g0 = chorus/cell.Load; g1 = chorus/cell.Number; g2 = slices.Clone[[]int,int]; g3 = chorus/cell.Store
def rf_Swap (g0 g1 g2 g3 : Nat) : RFunc :=
 ⟨41, [(.tmp 8), (.tmp 9), (.tmp 10)], (.seq (.ops [rO 8 (.mv (.const (.slice .none 0 0))), rO 9 (.mv (.const (.bool false))), rO 10 (.mv (.const (.int .i64 0)))]) (.seq (.ops [rO 15 (.mv (.tmp 0)), rO 16 (.mv (.tmp 1)), rO 17 (.call (.func g0) [(.tmp 15), (.tmp 16)]), rO 14 (.mv (.tmp 17)), rO 18 (.extract (.tmp 14) 0), rO 19 (.extract (.tmp 14) 1), rO 11 (.mv (.tmp 18)), rO 12 (.mv (.tmp 19))]) (.seq (.seq (.ops [rO 20 (.mv (.tmp 12)), rO 21 (.bin .neq (.tmp 20) (.const (.int .i64 0))), rO 22 (.mv (.tmp 21)), ⟨(.some 23), (.mv (.tmp 3)), (.some (22, false)), false, []⟩, ⟨(.some 24), (.call (.func g1) [(.tmp 23)]), (.some (22, false)), false, []⟩, ⟨(.some 25), (.un .not (.tmp 24)), (.some (22, false)), false, []⟩, rO 26 (.pick (.tmp 22) (.const (.bool true)) (.tmp 25))]) (.cond (.tmp 26) (.seq (.ops [rO 8 (.mv (.const (.slice .none 0 0))), rO 9 (.mv (.const (.bool false))), rO 10 (.mv (.const (.int .i64 100)))]) .ret) .skip)) (.seq (.seq (.ops [rO 27 (.mv (.tmp 11)), rO 28 (.mv (.tmp 2)), rO 29 (.bin .neq (.tmp 27) (.tmp 28))]) (.cond (.tmp 29) (.seq (.ops [rO 30 (.mv (.tmp 0)), rO 31 (.call (.func g2) [(.tmp 30)]), rO 8 (.mv (.tmp 31)), rO 9 (.mv (.const (.bool false))), rO 10 (.mv (.const (.int .i64 0)))]) .ret) .skip)) (.seq (.ops [rO 33 (.mv (.tmp 0)), rO 34 (.mv (.tmp 1)), rO 35 (.mv (.tmp 3)), rO 36 (.call (.func g3) [(.tmp 33), (.tmp 34), (.tmp 35)]), rO 32 (.mv (.tmp 36)), rO 37 (.extract (.tmp 32) 0), rO 38 (.extract (.tmp 32) 1), rO 13 (.mv (.tmp 37)), rO 12 (.mv (.tmp 38))]) (.seq (.ops [rO 39 (.mv (.tmp 13)), rO 40 (.mv (.tmp 12)), rO 8 (.mv (.tmp 39)), rO 9 (.mv (.const (.bool true))), rO 10 (.mv (.tmp 40))]) .ret))))))⟩
-- chorus/cell.Add; g0 = chorus/cell.Load; g1 = chorus/cell.Store
def rf_Add (g0 g1 : Nat) : RFunc :=
 ⟨44, [(.tmp 6), (.tmp 7), (.tmp 8)], (.seq (.ops [rO 6 (.mv (.const (.slice .none 0 0))), rO 7 (.mv (.const (.int .i64 0))), rO 8 (.mv (.const (.int .i64 0)))]) (.seq (.ops [rO 13 (.mv (.tmp 0)), rO 14 (.mv (.tmp 1)), rO 15 (.call (.func g0) [(.tmp 13), (.tmp 14)]), rO 12 (.mv (.tmp 15)), rO 16 (.extract (.tmp 12) 0), rO 17 (.extract (.tmp 12) 1), rO 9 (.mv (.tmp 16)), rO 10 (.mv (.tmp 17))]) (.seq (.seq (.ops [rO 18 (.mv (.tmp 10)), rO 19 (.bin .neq (.tmp 18) (.const (.int .i64 0))), rO 20 (.mv (.tmp 19)), ⟨(.some 21), (.mv (.tmp 2)), (.some (20, false)), false, []⟩, ⟨(.some 22), (.mv (.tmp 9)), (.some (20, false)), false, []⟩, ⟨(.some 23), (.un .neg (.tmp 22)), (.some (20, false)), false, []⟩, ⟨(.some 24), (.bin .lss (.tmp 21) (.tmp 23)), (.some (20, false)), false, []⟩, rO 25 (.pick (.tmp 20) (.const (.bool true)) (.tmp 24)), rO 26 (.mv (.tmp 25)), ⟨(.some 27), (.mv (.tmp 2)), (.some (26, false)), false, []⟩, ⟨(.some 28), (.mv (.tmp 9)), (.some (26, false)), false, []⟩, ⟨(.some 29), (.bin .sub (.const (.int .i64 1048576)) (.tmp 28)), (.some (26, false)), false, []⟩, ⟨(.some 30), (.bin .gtr (.tmp 27) (.tmp 29)), (.some (26, false)), false, []⟩, rO 31 (.pick (.tmp 26) (.const (.bool true)) (.tmp 30))]) (.cond (.tmp 31) (.seq (.ops [rO 6 (.mv (.const (.slice .none 0 0))), rO 7 (.mv (.const (.int .i64 0))), rO 8 (.mv (.const (.int .i64 100)))]) .ret) .skip)) (.seq (.ops [rO 33 (.mv (.tmp 0)), rO 34 (.mv (.tmp 1)), rO 35 (.mv (.tmp 9)), rO 36 (.mv (.tmp 2)), rO 37 (.bin .add (.tmp 35) (.tmp 36)), rO 38 (.call (.func g1) [(.tmp 33), (.tmp 34), (.tmp 37)]), rO 32 (.mv (.tmp 38)), rO 39 (.extract (.tmp 32) 0), rO 40 (.extract (.tmp 32) 1), rO 11 (.mv (.tmp 39)), rO 10 (.mv (.tmp 40))]) (.seq (.ops [rO 41 (.mv (.tmp 11)), rO 42 (.mv (.tmp 9)), rO 43 (.mv (.tmp 10)), rO 6 (.mv (.tmp 41)), rO 7 (.mv (.tmp 42)), rO 8 (.mv (.tmp 43))]) .ret)))))⟩
-- chorus/chorusref1.upTo
def rf_upTo : RFunc :=
 ⟨15, [(.tmp 6)], (.seq (.ops [rO 6 (.mv (.const (.bool false)))]) (.seq (.ops [rO 7 (.mv (.tmp 0)), rO 8 (.mv (.tmp 1)), rO 9 (.bin .geq (.tmp 7) (.tmp 8)), rO 10 (.mv (.tmp 9)), ⟨(.some 11), (.mv (.tmp 0)), (.some (10, true)), false, []⟩, ⟨(.some 12), (.mv (.tmp 2)), (.some (10, true)), false, []⟩, ⟨(.some 13), (.bin .leq (.tmp 11) (.tmp 12)), (.some (10, true)), false, []⟩, rO 14 (.pick (.tmp 10) (.tmp 13) (.const (.bool false))), rO 6 (.mv (.tmp 14))]) .ret))⟩
-- chorus/chorusref1.cellMay; g0 = chorus/chorusref1.upTo
def rf_cellMay (g0 : Nat) : RFunc :=
 ⟨5, [(.tmp 2)], (.seq (.ops [rO 2 (.mv (.const (.bool false)))]) (.seq (.ops [rO 3 (.mv (.tmp 0)), rO 4 (.call (.func g0) [(.tmp 3), (.const (.int .i64 0)), (.const (.int .i64 1048576))]), rO 2 (.mv (.tmp 4))]) .ret))⟩
-- chorus/chorusref1.cellsMay; g0 = chorus/chorusref1.cellMay
def rf_cellsMay (g0 : Nat) : RFunc :=
 ⟨31, [(.tmp 4)], (.seq (.ops [rO 4 (.mv (.const (.bool false)))]) (.seq (.seq (.ops [rO 5 (.mv (.const (.int .i64 0)))]) (.block 0 (.loop (.seq (.seq (.ops [rO 6 (.mv (.tmp 5)), rO 7 (.mv (.tmp 0)), rO 8 (.len 1 (.tmp 7)), rO 9 (.bin .lss (.tmp 6) (.tmp 8))]) (.cond (.tmp 9) .skip (.exit 0))) (.seq (.block 1 (.seq (.ops [rO 12 (.mv (.tmp 0)), rO 13 (.mv (.tmp 5)), rO 14 (.idxAddr 1 (.tmp 12) (.tmp 13)), rO 15 (.load .none (.tmp 14)), rO 16 (.call (.func g0) [(.tmp 15)]), rO 17 (.un .not (.tmp 16))]) (.cond (.tmp 17) (.seq (.ops [rO 4 (.mv (.const (.bool false)))]) .ret) .skip))) (.ops [rO 10 (.mv (.tmp 5)), rO 11 (.bin .add (.tmp 10) (.const (.int .i64 1))), rO 5 (.mv (.tmp 11))])))))) (.seq (.ops [rO 18 (.mv (.tmp 0)), rO 19 (.len 1 (.tmp 18)), rO 20 (.bin .leq (.tmp 19) (.const (.int .i64 16))), rO 21 (.mv (.tmp 20)), ⟨(.some 22), (.mv (.tmp 1)), (.some (21, true)), false, []⟩, ⟨(.some 23), (.bin .geq (.tmp 22) (.const (.int .i64 0))), (.some (21, true)), false, []⟩, rO 24 (.pick (.tmp 21) (.tmp 23) (.const (.bool false))), rO 25 (.mv (.tmp 24)), ⟨(.some 26), (.mv (.tmp 1)), (.some (25, true)), false, []⟩, ⟨(.some 27), (.mv (.tmp 0)), (.some (25, true)), false, []⟩, ⟨(.some 28), (.len 1 (.tmp 27)), (.some (25, true)), false, []⟩, ⟨(.some 29), (.bin .lss (.tmp 26) (.tmp 28)), (.some (25, true)), false, []⟩, rO 30 (.pick (.tmp 25) (.tmp 29) (.const (.bool false))), rO 4 (.mv (.tmp 30))]) .ret)))⟩
-- chorus/chorusref1.Load; g0 = chorus/chorusref1.cellsMay
def rf_rLoad (g0 : Nat) : RFunc :=
 ⟨14, [(.tmp 4), (.tmp 5)], (.seq (.ops [rO 4 (.mv (.const (.int .i64 0))), rO 5 (.mv (.const (.int .i64 0)))]) (.seq (.seq (.ops [rO 6 (.mv (.tmp 0)), rO 7 (.mv (.tmp 1)), rO 8 (.call (.func g0) [(.tmp 6), (.tmp 7)]), rO 9 (.un .not (.tmp 8))]) (.cond (.tmp 9) (.seq (.ops [rO 4 (.mv (.const (.int .i64 0))), rO 5 (.mv (.const (.int .i64 100)))]) .ret) .skip)) (.seq (.ops [rO 10 (.mv (.tmp 0)), rO 11 (.mv (.tmp 1)), rO 12 (.idxAddr 1 (.tmp 10) (.tmp 11)), rO 13 (.load .none (.tmp 12)), rO 4 (.mv (.tmp 13)), rO 5 (.mv (.const (.int .i64 0)))]) .ret)))⟩
-- chorus/chorusref1.with
def rf_with : RFunc :=
 ⟨16, [(.tmp 6)], (.seq (.ops [rO 6 (.mv (.const (.slice .none 0 0)))]) (.seq (.ops [rO 8 (.buildSlice [] 0 []), rO 9 (.mv (.tmp 0)), rO 10 (.append 1 8 (.tmp 8) (.tmp 9)), rO 7 (.mv (.tmp 10))]) (.seq (.ops [rO 11 (.mv (.tmp 7)), rO 12 (.mv (.tmp 1)), rO 13 (.mv (.tmp 2)), rO 14 (.idxAddr 1 (.tmp 11) (.tmp 12)), ⟨.none, (.store 1 (.tmp 14) (.tmp 13)), .none, false, []⟩]) (.seq (.ops [rO 15 (.mv (.tmp 7)), rO 6 (.mv (.tmp 15))]) .ret))))⟩
-- chorus/chorusref1.Store; g0 = chorus/chorusref1.cellsMay; g1 = chorus/chorusref1.cellMay; g2 = chorus/chorusref1.with
def rf_rStore (g0 g1 g2 : Nat) : RFunc :=
 ⟨21, [(.tmp 6), (.tmp 7)], (.seq (.ops [rO 6 (.mv (.const (.slice .none 0 0))), rO 7 (.mv (.const (.int .i64 0)))]) (.seq (.seq (.ops [rO 8 (.mv (.tmp 0)), rO 9 (.mv (.tmp 1)), rO 10 (.call (.func g0) [(.tmp 8), (.tmp 9)]), rO 11 (.un .not (.tmp 10)), rO 12 (.mv (.tmp 11)), ⟨(.some 13), (.mv (.tmp 2)), (.some (12, false)), false, []⟩, ⟨(.some 14), (.call (.func g1) [(.tmp 13)]), (.some (12, false)), false, []⟩, ⟨(.some 15), (.un .not (.tmp 14)), (.some (12, false)), false, []⟩, rO 16 (.pick (.tmp 12) (.const (.bool true)) (.tmp 15))]) (.cond (.tmp 16) (.seq (.ops [rO 6 (.mv (.const (.slice .none 0 0))), rO 7 (.mv (.const (.int .i64 100)))]) .ret) .skip)) (.seq (.ops [rO 17 (.mv (.tmp 0)), rO 18 (.mv (.tmp 1)), rO 19 (.mv (.tmp 2)), rO 20 (.call (.func g2) [(.tmp 17), (.tmp 18), (.tmp 19)]), rO 6 (.mv (.tmp 20)), rO 7 (.mv (.const (.int .i64 0)))]) .ret)))⟩
-- chorus/chorusref1.Swap; g0 = chorus/chorusref1.cellsMay; g1 = chorus/chorusref1.cellMay; g2 = chorus/chorusref1.with
def rf_rSwap (g0 g1 g2 : Nat) : RFunc :=
 ⟨33, [(.tmp 8), (.tmp 9), (.tmp 10)], (.seq (.ops [rO 8 (.mv (.const (.slice .none 0 0))), rO 9 (.mv (.const (.bool false))), rO 10 (.mv (.const (.int .i64 0)))]) (.seq (.seq (.ops [rO 11 (.mv (.tmp 0)), rO 12 (.mv (.tmp 1)), rO 13 (.call (.func g0) [(.tmp 11), (.tmp 12)]), rO 14 (.un .not (.tmp 13)), rO 15 (.mv (.tmp 14)), ⟨(.some 16), (.mv (.tmp 3)), (.some (15, false)), false, []⟩, ⟨(.some 17), (.call (.func g1) [(.tmp 16)]), (.some (15, false)), false, []⟩, ⟨(.some 18), (.un .not (.tmp 17)), (.some (15, false)), false, []⟩, rO 19 (.pick (.tmp 15) (.const (.bool true)) (.tmp 18))]) (.cond (.tmp 19) (.seq (.ops [rO 8 (.mv (.const (.slice .none 0 0))), rO 9 (.mv (.const (.bool false))), rO 10 (.mv (.const (.int .i64 100)))]) .ret) .skip)) (.seq (.seq (.ops [rO 20 (.mv (.tmp 0)), rO 21 (.mv (.tmp 1)), rO 22 (.idxAddr 1 (.tmp 20) (.tmp 21)), rO 23 (.load .none (.tmp 22)), rO 24 (.mv (.tmp 2)), rO 25 (.bin .neq (.tmp 23) (.tmp 24))]) (.cond (.tmp 25) (.seq (.ops [rO 26 (.buildSlice [] 0 []), rO 27 (.mv (.tmp 0)), rO 28 (.append 1 8 (.tmp 26) (.tmp 27)), rO 8 (.mv (.tmp 28)), rO 9 (.mv (.const (.bool false))), rO 10 (.mv (.const (.int .i64 0)))]) .ret) .skip)) (.seq (.ops [rO 29 (.mv (.tmp 0)), rO 30 (.mv (.tmp 1)), rO 31 (.mv (.tmp 3)), rO 32 (.call (.func g2) [(.tmp 29), (.tmp 30), (.tmp 31)]), rO 8 (.mv (.tmp 32)), rO 9 (.mv (.const (.bool true))), rO 10 (.mv (.const (.int .i64 0)))]) .ret))))⟩
-- chorus/chorusref1.Add; g0 = chorus/chorusref1.cellsMay; g1 = chorus/chorusref1.cellMay; g2 = chorus/chorusref1.with
def rf_rAdd (g0 g1 g2 : Nat) : RFunc :=
 ⟨44, [(.tmp 6), (.tmp 7), (.tmp 8)], (.seq (.ops [rO 6 (.mv (.const (.slice .none 0 0))), rO 7 (.mv (.const (.int .i64 0))), rO 8 (.mv (.const (.int .i64 0)))]) (.seq (.seq (.ops [rO 9 (.mv (.tmp 0)), rO 10 (.mv (.tmp 1)), rO 11 (.call (.func g0) [(.tmp 9), (.tmp 10)]), rO 12 (.un .not (.tmp 11)), rO 13 (.mv (.tmp 12)), ⟨(.some 14), (.mv (.tmp 2)), (.some (13, false)), false, []⟩, ⟨(.some 15), (.bin .lss (.tmp 14) (.const (.int .i64 (-1048576)))), (.some (13, false)), false, []⟩, rO 16 (.pick (.tmp 13) (.const (.bool true)) (.tmp 15)), rO 17 (.mv (.tmp 16)), ⟨(.some 18), (.mv (.tmp 2)), (.some (17, false)), false, []⟩, ⟨(.some 19), (.bin .gtr (.tmp 18) (.const (.int .i64 1048576))), (.some (17, false)), false, []⟩, rO 20 (.pick (.tmp 17) (.const (.bool true)) (.tmp 19)), rO 21 (.mv (.tmp 20)), ⟨(.some 22), (.mv (.tmp 0)), (.some (21, false)), false, []⟩, ⟨(.some 23), (.mv (.tmp 1)), (.some (21, false)), false, []⟩, ⟨(.some 24), (.idxAddr 1 (.tmp 22) (.tmp 23)), (.some (21, false)), false, []⟩, ⟨(.some 25), (.load .none (.tmp 24)), (.some (21, false)), false, []⟩, ⟨(.some 26), (.mv (.tmp 2)), (.some (21, false)), false, []⟩, ⟨(.some 27), (.bin .add (.tmp 25) (.tmp 26)), (.some (21, false)), false, []⟩, ⟨(.some 28), (.call (.func g1) [(.tmp 27)]), (.some (21, false)), false, []⟩, ⟨(.some 29), (.un .not (.tmp 28)), (.some (21, false)), false, []⟩, rO 30 (.pick (.tmp 21) (.const (.bool true)) (.tmp 29))]) (.cond (.tmp 30) (.seq (.ops [rO 6 (.mv (.const (.slice .none 0 0))), rO 7 (.mv (.const (.int .i64 0))), rO 8 (.mv (.const (.int .i64 100)))]) .ret) .skip)) (.seq (.ops [⟨(.some 31), (.mv (.tmp 0)), .none, true, []⟩, ⟨(.some 32), (.mv (.tmp 1)), .none, true, []⟩, ⟨(.some 33), (.mv (.tmp 0)), .none, true, []⟩, ⟨(.some 34), (.mv (.tmp 1)), .none, true, []⟩, ⟨(.some 35), (.idxAddr 1 (.tmp 33) (.tmp 34)), .none, true, []⟩, ⟨(.some 36), (.load .none (.tmp 35)), .none, true, []⟩, ⟨(.some 37), (.mv (.tmp 2)), .none, true, []⟩, ⟨(.some 38), (.bin .add (.tmp 36) (.tmp 37)), .none, true, []⟩, ⟨(.some 39), (.call (.func g2) [(.tmp 31), (.tmp 32), (.tmp 38)]), .none, true, []⟩, ⟨(.some 40), (.mv (.tmp 0)), .none, true, []⟩, ⟨(.some 41), (.mv (.tmp 1)), .none, true, []⟩, ⟨(.some 42), (.idxAddr 1 (.tmp 40) (.tmp 41)), .none, true, []⟩, ⟨(.some 43), (.load .none (.tmp 42)), .none, true, []⟩, ⟨(.some 6), (.mv (.tmp 39)), .none, true, []⟩, rO 7 (.mv (.tmp 43)), rO 8 (.mv (.const (.int .i64 0)))]) .ret)))⟩
-- chorus/choruslaw0.Num
def rf_Num : RFunc :=
 ⟨4, [(.tmp 2)], (.seq (.ops [rO 2 (.mv (.const (.int .i64 0)))]) (.seq (.ops [rO 3 (.mv (.tmp 0)), rO 2 (.mv (.tmp 3))]) .ret))⟩
section
variable {X : Ext} {F : FuncId → Option RFunc} {lim : Nat} {f : FuncId} {h : AH}
theorem Num_run (hX : X f = none) (hF : F f = some rf_Num) {x : Int} (hx : -9223372036854775808 ≤ x ∧ x ≤ 9223372036854775807) : Ret X F lim f [.int .i64 x] h fun v h' => v = .int .i64 x ∧ h' = h := by
 refine Ret.body hX hF rfl ?_
 simp only [argL, rf_Num]
 (refine Cs (Co (Wm rfl (Wn (Cs (Co (Wm rfl (Wm rfl (Wn (WC.ret ?_))))))))))
 exact Fin.ret rfl ⟨by simp [resultOf], rfl⟩
theorem Number_run (hX : X f = none) (hF : F f = some rf_Number) {x : Int} : Ret X F lim f [.int .i64 x] h fun v h' => v = .bool (decide (0 ≤ x ∧ x ≤ 1048576)) ∧ h' = h := by
 refine Ret.body hX hF rfl ?_
 simp only [argL, rf_Number]
 by_cases h1 : 0 ≤ x
 ·by_cases h2 : x ≤ 1048576
  ·(refine Cs (Co (Wm rfl (Wn (Cs (Co (Wm rfl (Wc (OP.geqT rfl rfl (by omega) ?_)))))))); refine Wm rfl (WO.yes rfl (Wm rfl (WO.yes rfl (Wc (OP.leqT rfl rfl (by omega) ?_))))); refine Wc (OP.pickT rfl rfl (Wm rfl (Wn (WC.ret ?_)))))
   exact Fin.ret rfl ⟨by simp [resultOf, h1, h2], rfl⟩
  ·(refine Cs (Co (Wm rfl (Wn (Cs (Co (Wm rfl (Wc (OP.geqT rfl rfl (by omega) ?_)))))))); refine Wm rfl (WO.yes rfl (Wm rfl (WO.yes rfl (Wc (OP.leqF rfl rfl (by omega) ?_))))); refine Wc (OP.pickT rfl rfl (Wm rfl (Wn (WC.ret ?_)))))
   exact Fin.ret rfl ⟨by simp [resultOf, h1, h2], rfl⟩
 ·(refine Cs (Co (Wm rfl (Wn (Cs (Co (Wm rfl (Wc (OP.geqF rfl rfl (by omega) ?_)))))))); refine Wm rfl (WO.no rfl (WO.no rfl (Wc (OP.pickF rfl rfl (Wm rfl (Wn (WC.ret ?_))))))))
  exact Fin.ret rfl ⟨by simp [resultOf, h1], rfl⟩
theorem upTo_run (hX : X f = none) (hF : F f = some rf_upTo) {x y z : Int} : Ret X F lim f [.int .i64 x, .int .i64 y, .int .i64 z] h fun v h' => v = .bool (decide (y ≤ x ∧ x ≤ z)) ∧ h' = h := by
 refine Ret.body hX hF rfl ?_
 simp only [argL, rf_upTo]
 by_cases h1 : y ≤ x
 ·by_cases h2 : x ≤ z
  ·(refine Cs (Co (Wm rfl (Wn (Cs (Co (Wm rfl (Wm rfl (Wc (OP.geqT rfl rfl (by omega) ?_))))))))); refine Wm rfl (WO.yes rfl (Wm rfl (WO.yes rfl (Wm rfl (WO.yes rfl (Wc (OP.leqT rfl rfl (by omega) ?_))))))); refine Wc (OP.pickT rfl rfl (Wm rfl (Wn (WC.ret ?_)))))
   exact Fin.ret rfl ⟨by simp [resultOf, h1, h2], rfl⟩
  ·(refine Cs (Co (Wm rfl (Wn (Cs (Co (Wm rfl (Wm rfl (Wc (OP.geqT rfl rfl (by omega) ?_))))))))); refine Wm rfl (WO.yes rfl (Wm rfl (WO.yes rfl (Wm rfl (WO.yes rfl (Wc (OP.leqF rfl rfl (by omega) ?_))))))); refine Wc (OP.pickT rfl rfl (Wm rfl (Wn (WC.ret ?_)))))
   exact Fin.ret rfl ⟨by simp [resultOf, h1, h2], rfl⟩
 ·(refine Cs (Co (Wm rfl (Wn (Cs (Co (Wm rfl (Wm rfl (Wc (OP.geqF rfl rfl (by omega) ?_))))))))); refine Wm rfl (WO.no rfl (WO.no rfl (WO.no rfl (Wc (OP.pickF rfl rfl (Wm rfl (Wn (WC.ret ?_)))))))))
  exact Fin.ret rfl ⟨by simp [resultOf, h1], rfl⟩
theorem cellMay_run {g0 : Nat} (hX : X f = none) (hF : F f = some (rf_cellMay g0)) (hX0 : X g0 = none) (hF0 : F g0 = some rf_upTo) {x : Int} : Ret X F lim f [.int .i64 x] h fun v h' => v = .bool (decide (0 ≤ x ∧ x ≤ 1048576)) ∧ h' = h := by
 refine Ret.body hX hF rfl ?_
 simp only [argL, rf_cellMay]
 (refine Cs (Co (Wm rfl (Wn (Cs (Co (Wm rfl ?_)))))); dsimp only [zn, zr, zx, yn, yr])
 (refine Wc ?_)
 refine OP.call rfl rfl (Ret.mono (upTo_run hX0 hF0) fun v h' hv => ?_)
 obtain ⟨rfl, rfl⟩ := hv
 (refine Wm rfl (Wn (WC.ret ?_)))
 exact Fin.ret rfl ⟨by simp [resultOf], rfl⟩
theorem there1_run {g0 : Nat} (hX : X f = none) (hF : F f = some (rf_there1 g0)) (hX0 : X g0 = none) (hF0 : F g0 = some rf_Number) {x : Int} {c : Value} : Ret X F lim f [.int .i64 x] h fun v h' => v = .bool (!decide (0 ≤ x ∧ x ≤ 1048576)) ∧ h' = h := by
 refine Ret.body hX hF rfl ?_
 simp only [argL, rf_there1]
 (refine Cs (Co (Wm rfl (Wn (Cs (Co (Wm rfl ?_)))))); dsimp only [zn, zr, zx, yn, yr])
 (refine Wc ?_)
 refine OP.call rfl rfl (Ret.mono (Number_run hX0 hF0) fun v h' hv => ?_)
 obtain ⟨rfl, rfl⟩ := hv
 (refine Wc ?_)
 refine OP.not rfl ?_
 (refine Wm rfl (Wn (WC.ret ?_)))
 exact Fin.ret rfl ⟨by simp [resultOf], rfl⟩
theorem IndexFunc_run (hX : X f = none) (hF : F f = some rf_IndexFunc) {a : Option Addr} {n c : Nat} {xs : List Int} (ha : Sl 1 h a n c (ints xs)) (hn : n < 2 ^ 62) {g : FuncId} {cap : Array Value} {p : Int → Bool}
  (hp : ∀ x ∈ xs, ∀ h1, Pfx h h1 → Ret X F lim g (.int .i64 x :: cap.toList) h1 fun v h' => v = .bool (p x) ∧ Pfx h1 h') :
  Ret X F lim f [.slice a n c, .func (.func g) #[] cap] h fun v h' => Pfx h h' ∧ ∃ i : Int, v = .int .i64 i ∧ (0 ≤ i ↔ xs.any p = true) := by
 have hxn := ha.ilen
 refine Ret.body hX hF rfl ?_
 simp only [argL, rf_IndexFunc]
 (refine Cs (Co (Wm rfl (Wn (Cs (Cs (Co (Wm rfl (Wc (OP.lenS rfl (Wm rfl (Wn (WC.block ?_)))))))))))))
 refine WC.loop (fun q : Nat × AH => q.1 ≤ n ∧ Pfx h q.2 ∧ (xs.take q.1).any p = false) (fun q => [(8, .int .i64 (q.1 : Int)), (7, .int .i64 (n : Int)), (0, .slice a n c), (1, .func (.func g) #[] cap)]) (fun q => q.2) (fun q => n - q.1) ?_ (0, h) ⟨Nat.zero_le _, Pfx.refl h, by simp⟩ (by (refine Sub.cons rfl (Sub.cons rfl (Sub.cons rfl (Sub.cons rfl ?_))); exact Sub.nil _)) rfl
 intro ⟨i, h1⟩ ⟨hi, hp1, hany⟩
 simp only at hi hp1 hany ⊢
 have ha1 := ha.pfx hp1
 by_cases hlt : (i : Int) < n
 ·(refine Cs (Co (Wc (OP.lssT rfl rfl (by omega) ?_))); refine Wn (Cs (WC.condT rfl (WC.skip (Cs (WC.block (Cs (Co (Wm rfl (Wm rfl (Wn (Cs (Co (Wm rfl (Wm rfl (Wm rfl (Wc (OP.idxS (by assumption) rfl rfl (by omega) ?_))))))))))))))))); refine Wc (OP.ldI (by assumption) rfl (by omega) ?_); dsimp only [zn, zr, zx, yn, yr])
  (refine Wc ?_)
  refine OP.callC rfl rfl (Ret.mono (hp xs[i] (List.getElem_mem _) h1 hp1) fun v h2 hv => ?_)
  obtain ⟨rfl, hp2⟩ := hv
  cases hpx : p xs[i] with
  | true =>
   (refine Wn (WC.condT rfl (Cs (Co (Wm rfl (Wm rfl (Wn (WC.ret ?_))))))); dsimp only [zn, zr, zx, yn, yr])
   refine Fin.ret rfl ⟨hp1.trans hp2, i, rfl, ?_⟩
   simp only [Int.natCast_nonneg, true_iff, List.any_eq_true]
   exact ⟨_, List.getElem_mem _, hpx⟩
  | false =>
   (refine Wn (WC.condF rfl (WC.skip (Co (Wc (OP.add rfl rfl (by omega) ?_))))); refine Wm rfl (Wt ?_))
   refine ⟨(i + 1, h2), ⟨by simp only; omega, hp1.trans hp2, ?_⟩, by (refine Sub.cons rfl (Sub.cons rfl (Sub.cons rfl (Sub.cons rfl ?_))); exact Sub.nil _), rfl, by simp only; omega⟩
   simp only
   rw [List.take_succ_eq_append_getElem (by omega), List.any_append, hany]
   simp [hpx]
 ·(refine Cs (Co (Wc (OP.lssF rfl rfl (by omega) ?_))); refine Wn (Cs (WC.condF rfl (WC.exit (Cs (Co (Wm rfl (Wn (WC.ret ?_)))))))))
  refine Fin.ret rfl ⟨hp1, -1, rfl, ?_⟩
  rw [List.take_of_length_le (by omega)] at hany
  rw [hany]
  simp
theorem ContainsFunc_run {g0 : Nat} (hX : X f = none) (hF : F f = some (rf_ContainsFunc g0)) (hX0 : X g0 = none) (hF0 : F g0 = some rf_IndexFunc) {a : Option Addr} {n c : Nat} {xs : List Int} (ha : Sl 1 h a n c (ints xs)) (hn : n < 2 ^ 62) {g : FuncId} {cap : Array Value} {p : Int → Bool}
  (hp : ∀ x ∈ xs, ∀ h1, Pfx h h1 → Ret X F lim g (.int .i64 x :: cap.toList) h1 fun v h' => v = .bool (p x) ∧ Pfx h1 h') :
  Ret X F lim f [.slice a n c, .func (.func g) #[] cap] h fun v h' => Pfx h h' ∧ v = .bool (xs.any p) := by
 refine Ret.body hX hF rfl ?_
 simp only [argL, rf_ContainsFunc]
 (refine Cs (Co (Wm rfl (Wn (Cs (Co (Wm rfl (Wm rfl ?_))))))); dsimp only [zn, zr, zx, yn, yr])
 (refine Wc ?_)
 refine OP.call rfl rfl (Ret.mono (IndexFunc_run hX0 hF0 ha hn hp) fun v h' hv => ?_)
 obtain ⟨hp1, i, rfl, hi⟩ := hv
 (refine Wc ?_)
 refine OP.bin rfl rfl rfl ?_
 (refine Wm rfl (Wn (WC.ret ?_)))
 refine Fin.ret rfl ⟨hp1, ?_⟩
 simp only [resultOf, Value.bool.injEq]
 by_cases h0 : 0 ≤ i
 ·rw [hi.1 h0]; simp [h0]
 ·have : xs.any p = false := by
   cases hx : xs.any p with
   | false => rfl
   | true => exact absurd (hi.2 hx) h0
  rw [this]; simp [h0]
end
end Go.Proofs.YtdcpmchhioilpaaW.Ai
