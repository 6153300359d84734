/- The statement Cells: what the small machine answers, Go answers; written by wip/tools/row.py, out of wip/fn. -/
import Derived.Test.YtojkcbcdoljadaaRows
import Derived.Test.YtojkcbcdoljadaaLCells
import Derived.Test.YtojkcbcdoljadaaAi28
import Derived.WalkKit
import Derived.ProofKit
import Derived.OpenShut
import Derived.ShutString
import Derived.ChangeOld
import Derived.Below
import Derived.SizedLaws
import Derived.KernelRfl
namespace Go.Proofs.Ytojkcbcdoljadaa.cells
open Go.ChangeShapes Go.WideShapes Go.ChangeAt Go.RowKit
open Go.ChangeMaps (open_string shut_string)
open Go.Proofs.YtojkcbcdoljadaaW.Ai
set_option linter.unusedVariables false
set_option linter.unusedSimpArgs false
theorem own : ownKnob Try.prog.godebug = none := by kernel_rfl
theorem laidOut : laidOutB Try.prog = true := by kernel_rfl
theorem mixed : Try.prog.follows .mixedOrders = true := by kernel_rfl
set_option maxRecDepth 100000 in
theorem awake : Closed Try.prog 19 (.bool true) := ⟨rfl, 60, by kernel_rfl⟩
theorem ext (nb : Nat) : XOk Try.prog nb (clExt [(19, .bool true)]) := clExt_ok mixed (fun p hp => by simp at hp; subst hp; exact awake)
def gs : List (Bool × List CK) := [(false, [.sl [.int .i64] 8]), (false, [.f (.int .i64)]), (false, [.f (.int .i64)]), (false, [.f (.int .i64)])]
set_option maxRecDepth 100000 in
theorem env : CellsEnv (clExt [(19, .bool true)]) (Rs.func Try.prog) 6 7 8 9 10 11 12 13 14 15 16 17 18 19 20 21 22 23 24 25 26 27 28 29 30 where
  n := fun g hg => by simp [clExt, Ne.symm hg]
  x := by decide
  f0 := by kernel_rfl
  f1 := by kernel_rfl
  f2 := by kernel_rfl
  f3 := by kernel_rfl
  f4 := by kernel_rfl
  f5 := by kernel_rfl
  f6 := by kernel_rfl
  f7 := by kernel_rfl
  f8 := by kernel_rfl
  f9 := by kernel_rfl
  f10 := by kernel_rfl
  f11 := by kernel_rfl
  f12 := by kernel_rfl
  d0 := by kernel_rfl
  d1 := by kernel_rfl
  d2 := by kernel_rfl
  d3 := by kernel_rfl
  d4 := by kernel_rfl
  d5 := by kernel_rfl
  d6 := by kernel_rfl
  d7 := by kernel_rfl
  d8 := by kernel_rfl
  d9 := by kernel_rfl
  d10 := by kernel_rfl
  aw := fun lim h => ⟨1, .bool true, h, rfl, rfl, rfl⟩
set_option maxRecDepth 100000 in
theorem law (h : AH) (us : List Value) (hu : AArgs h gs us) : Ret (clExt [(19, .bool true)]) (Rs.func Try.prog) h.length 3 us h fun v _ => v = .bool true := by
  cases hu with
  | cons h0 k =>
  cases k with
  | cons h1 k =>
  cases k with
  | cons h2 k =>
  cases k with
  | cons h3 k =>
  cases k
  obtain ⟨a, n, xs, rfl, hs, _, hn⟩ := h0.ints
  obtain ⟨k, rfl, _⟩ := h1.int
  obtain ⟨x, rfl, hx⟩ := h2.int
  obtain ⟨y, rfl, _⟩ := h3.int
  exact Cells_run env rfl (by kernel_rfl) hs hn hx
set_option maxRecDepth 100000 in
theorem lifted (os : Os) (started : os.Started) (H : Type) (enc : TypeId × Value → H) :
    ReturnsInHanded {} Try.checked os 3 .any (Rows.cellsSpec.pre6 enc Try.prog Try.f3 Rows.cellsRow.domain false) (Rows.cellsSpec.post enc Try.prog Try.f3 false true false false) := by
  refine returnsInHanded_of_change_sized (C := Try.checked) own started (by kernel_rfl) Try.func3
    (ChangeSpec.witness6 (enc := enc) (C := Try.checked) false ⟨#[], #[.slice none 0 0, .int .i64 0, .int .i64 0, .int .i64 0], []⟩ 8 (by kernel_rfl) (by kernel_rfl) (by kernel_rfl) (by kernel_rfl)) ?_
  intro W base args ds gs0 before hval0 hW hcnd hsz0 _
  have hsz : (DataW.weightsEach Try.prog (Try.f3.params.toList ++ Rows.cellsSpec.plain.varTypes Try.prog) (ds ++ gs0)).all (· ≤ reachBytes) = true := hsz0
  have hval : ∀ (j : Nat) t v, Try.f3.params[j]? = some t → args[j]? = some v → Value.okWide Try.prog W .any base t v := hval0
  have hW' := hW
  obtain ⟨p, q, hA0, hV, rfl, hfz, hnd⟩ := hW
  have hA : DataW.TrodAll enc Try.prog W 0 (fun _ => true) true Try.f3.params.toList args.toList ds p := hA0
  rw [Try.params3] at hA hval hsz
  obtain ⟨v0, vs0, d0, ds0, p0, q0, hargs, rfl, rfl, h0, r0⟩ := trodAll_cons hA
  obtain ⟨v1, vs1, d1, ds1, p1, q1, rfl, rfl, rfl, h1, r1⟩ := trodAll_cons r0
  obtain ⟨v2, vs2, d2, ds2, p2, q2, rfl, rfl, rfl, h2, r2⟩ := trodAll_cons r1
  obtain ⟨v3, vs3, d3, ds3, p3, q3, rfl, rfl, rfl, h3, r3⟩ := trodAll_cons r2
  obtain ⟨rfl, rfl, rfl⟩ := trodAll_nil r3
  obtain rfl : args = #[v0, v1, v2, v3] := by cases args; simp_all
  obtain ⟨rfl, rfl⟩ := trodVars_none hV
  have q_0 : ArgIs W (false, [.sl [.int .i64] 8]) v0 := argIs_slice Try.underlying22 (hval 0 22 v0 rfl rfl) (arg_cok (j := 0) (d := 8) (ks := [.sl [.int .i64] 8]) (by kernel_rfl) hsz rfl rfl h0)
  have q_1 : ArgIs W (false, [.f (.int .i64)]) v1 := argIs_int Try.underlying3 (hval 1 3 v1 rfl rfl) h1 (arg_cok (j := 1) (d := 8) (ks := [.f (.int .i64)]) (by kernel_rfl) hsz rfl rfl h1)
  have q_2 : ArgIs W (false, [.f (.int .i64)]) v2 := argIs_int Try.underlying3 (hval 2 3 v2 rfl rfl) h2 (arg_cok (j := 2) (d := 8) (ks := [.f (.int .i64)]) (by kernel_rfl) hsz rfl rfl h2)
  have q_3 : ArgIs W (false, [.f (.int .i64)]) v3 := argIs_int Try.underlying3 (hval 3 3 v3 rfl rfl) h3 (arg_cok (j := 3) (d := 8) (ks := [.f (.int .i64)]) (by kernel_rfl) hsz rfl rfl h3)
  have hargs2 : Args W gs [v0, v1, v2, v3] := .cons q_0 (.cons q_1 (.cons q_2 (.cons q_3 (.nil))))
  refine (law_calls mixed ext hargs2 (wide_of rfl) law).mono fun e W' ⟨he, bel0⟩ => ?_
  have bel : Below W.heap.size W W' := bel0
  subst he
  exact ⟨_, rfl, _, _, _, [], _, [], hW', trodAll_mk1 (shut_bool Try.underlying4 _), (trodAll_cons_mk (Below.trod laidOut (by kernel_rfl) (of_decide_eq_true (by kernel_rfl)) h0 bel (trod_below h0)) (trodAll_cons_mk (Below.trod laidOut (by kernel_rfl) (of_decide_eq_true (by kernel_rfl)) h1 bel (trod_below h1)) (trodAll_cons_mk (Below.trod laidOut (by kernel_rfl) (of_decide_eq_true (by kernel_rfl)) h2 bel (trod_below h2)) (trodAll_cons_mk (Below.trod laidOut (by kernel_rfl) (of_decide_eq_true (by kernel_rfl)) h3 bel (trod_below h3)) trodAll_mk0)))), rfl, bel.frame _, fun h => by cases h⟩
theorem over : Rows.cellsRow.holds Try.pinned (OpenSpec.ofChange Rows.cellsSpec) :=
  OpenClaim.holds_of_wide 3 Try.f3 rfl rfl rfl rfl rfl rfl rfl ⟨rfl, rfl, rfl, rfl, rfl⟩ rfl rfl rfl rfl rfl (by kernel_rfl) Try.func3 (by kernel_rfl)
    (of_decide_eq_true (by kernel_rfl)) (by unfold Func.isWrapper; first | (rw [if_pos (by decide +kernel)]; kernel_rfl) | (rw [if_neg (by decide +kernel)]; exact ⟨rfl, rfl⟩))
    (fun os started H enc _ => lifted os started H enc)
theorem proved : Rows.CellsSaid := over
#print axioms proved
end Go.Proofs.Ytojkcbcdoljadaa.cells
namespace Go.Proofs.Ytojkcbcdoljadaa
/-- The row, under a short name, for the claim. -/
theorem cells_holds : Rows.CellsSaid := cells.proved
end Go.Proofs.Ytojkcbcdoljadaa

