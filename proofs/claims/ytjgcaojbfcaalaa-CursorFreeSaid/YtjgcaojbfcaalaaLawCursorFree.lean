/- The statement CursorFree: what the small machine answers, Go answers; written by wip/tools/row.py, out of wip/fn. -/
import Derived.Test.YtjgcaojbfcaalaaRows
import Derived.Test.YtjgcaojbfcaalaaLCursorFree
import Derived.Test.YtjgcaojbfcaalaaAi31
import Derived.WalkKit
import Derived.ProofKit
import Derived.OpenShut
import Derived.ShutString
import Derived.ChangeOld
import Derived.Below
import Derived.SizedLaws
import Derived.KernelRfl
namespace Go.Proofs.Ytjgcaojbfcaalaa.cursorFree
open Go.ChangeShapes Go.WideShapes Go.ChangeAt Go.RowKit
open Go.ChangeMaps (open_string shut_string)
open Go.Proofs.YtjgcaojbfcaalaaW.Ai
set_option linter.unusedVariables false
set_option linter.unusedSimpArgs false
theorem own : ownKnob Try.prog.godebug = none := by kernel_rfl
theorem laidOut : laidOutB Try.prog = true := by kernel_rfl
theorem mixed : Try.prog.follows .mixedOrders = true := by kernel_rfl
set_option maxRecDepth 100000 in
theorem awake : Closed Try.prog 14 (.bool true) := ⟨rfl, 60, by kernel_rfl⟩
theorem ext (nb : Nat) : XOk Try.prog nb (clExt [(14, .bool true)]) := clExt_ok mixed (fun p hp => by simp at hp; subst hp; exact awake)
def gs : List (Bool × List CK) := [(false, [.f (.int .i64)]), (false, [.f (.int .i64)]), (false, [.sl [.int .i64] 8])]
theorem nX (g : FuncId) (hg : g ≠ 14) : clExt [(14, .bool true)] g = none := by simp [clExt, Ne.symm hg]
theorem t_aw : S_yes (clExt [(14, .bool true)]) (Rs.func Try.prog) 14 := fun lim h => ⟨1, .bool true, h, rfl, Pfx.refl h, rfl⟩
set_option maxRecDepth 100000 in
theorem F_6 : Rs.func Try.prog 6 = some (rf_CursorFree 14 15 8 16 10 11) := by kernel_rfl
set_option maxRecDepth 100000 in
theorem F_15 : Rs.func Try.prog 15 = some (rf_NewRing 24) := by kernel_rfl
set_option maxRecDepth 100000 in
theorem F_24 : Rs.func Try.prog 24 = some rf_SlotsMay := by kernel_rfl
theorem t_24 : S_SlotsMay (clExt [(14, .bool true)]) (Rs.func Try.prog) 24 := s_SlotsMay (nX 24 (by decide)) F_24
theorem t_15 : S_NewRing (clExt [(14, .bool true)]) (Rs.func Try.prog) 15 := s_NewRing (nX 15 (by decide)) F_15 t_24
set_option maxRecDepth 100000 in
theorem F_8 : Rs.func Try.prog 8 = some (rf_cLeast 18) := by kernel_rfl
set_option maxRecDepth 100000 in
theorem F_18 : Rs.func Try.prog 18 = some rf_Min := by kernel_rfl
theorem t_8 : S_cLeast (clExt [(14, .bool true)]) (Rs.func Try.prog) 8 := s_cLeast (nX 8 (by decide)) F_8 (nX 18 (by decide)) F_18
set_option maxRecDepth 100000 in
theorem F_16 : Rs.func Try.prog 16 = some (rf_FreeTo 22 25) := by kernel_rfl
set_option maxRecDepth 100000 in
theorem F_22 : Rs.func Try.prog 22 = some (rf_RingMay 24 31 32 33 34) := by kernel_rfl
set_option maxRecDepth 100000 in
theorem F_31 : Rs.func Try.prog 31 = some (rf_cellMay 32) := by kernel_rfl
set_option maxRecDepth 100000 in
theorem F_32 : Rs.func Try.prog 32 = some rf_upTo := by kernel_rfl
theorem t_31 : S_cellMay (clExt [(14, .bool true)]) (Rs.func Try.prog) 31 := s_cellMay (nX 31 (by decide)) F_31 (nX 32 (by decide)) F_32
theorem t_32 : S_upTo (clExt [(14, .bool true)]) (Rs.func Try.prog) 32 := s_upTo (nX 32 (by decide)) F_32
set_option maxRecDepth 100000 in
theorem F_33 : Rs.func Try.prog 33 = some (rf_rUpdates 37) := by kernel_rfl
set_option maxRecDepth 100000 in
theorem F_37 : Rs.func Try.prog 37 = some (rf_OperMay 32) := by kernel_rfl
theorem t_37 : S_OperMay (clExt [(14, .bool true)]) (Rs.func Try.prog) 37 := s_OperMay (nX 37 (by decide)) F_37 t_32
theorem t_33 : S_rUpdates (clExt [(14, .bool true)]) (Rs.func Try.prog) 33 := s_rUpdates (nX 33 (by decide)) F_33 t_37
set_option maxRecDepth 100000 in
theorem F_34 : Rs.func Try.prog 34 = some (rf_threadMay 32) := by kernel_rfl
theorem t_34 : S_threadMay (clExt [(14, .bool true)]) (Rs.func Try.prog) 34 := s_threadMay (nX 34 (by decide)) F_34 t_32
theorem t_22 : S_RingMay (clExt [(14, .bool true)]) (Rs.func Try.prog) 22 := s_RingMay (nX 22 (by decide)) F_22 t_24 t_31 t_32 t_33 t_34
set_option maxRecDepth 100000 in
theorem F_25 : Rs.func Try.prog 25 = some rf_CopyRing := by kernel_rfl
theorem t_25 : S_CopyRing (clExt [(14, .bool true)]) (Rs.func Try.prog) 25 := s_CopyRing (nX 25 (by decide)) F_25
theorem t_16 : S_FreeTo (clExt [(14, .bool true)]) (Rs.func Try.prog) 16 := s_FreeTo (nX 16 (by decide)) F_16 t_22 t_25
set_option maxRecDepth 100000 in
theorem F_10 : Rs.func Try.prog 10 = some rf_Num := by kernel_rfl
theorem t_10 : S_Num (clExt [(14, .bool true)]) (Rs.func Try.prog) 10 := s_Num (nX 10 (by decide)) F_10
set_option maxRecDepth 100000 in
theorem F_11 : Rs.func Try.prog 11 = some (rf_curMay 19 20 21) := by kernel_rfl
set_option maxRecDepth 100000 in
theorem F_19 : Rs.func Try.prog 19 = some rf_curMay1 := by kernel_rfl
theorem t_19 : S_curMay1 (clExt [(14, .bool true)]) (Rs.func Try.prog) 19 := s_curMay1 (nX 19 (by decide)) F_19
set_option maxRecDepth 100000 in
theorem F_20 : Rs.func Try.prog 20 = some (rf_ringMay 26 27 28 29) := by kernel_rfl
set_option maxRecDepth 100000 in
theorem F_26 : Rs.func Try.prog 26 = some rf_Many := by kernel_rfl
theorem t_26 : S_Many (clExt [(14, .bool true)]) (Rs.func Try.prog) 26 := s_Many (nX 26 (by decide)) F_26
set_option maxRecDepth 100000 in
theorem F_27 : Rs.func Try.prog 27 = some (rf_ContainsFuncS 35) := by kernel_rfl
set_option maxRecDepth 100000 in
theorem F_35 : Rs.func Try.prog 35 = some rf_IndexFuncS := by kernel_rfl
theorem t_35 : S_IndexFuncS (clExt [(14, .bool true)]) (Rs.func Try.prog) 35 := s_IndexFuncS (nX 35 (by decide)) F_35
theorem t_27 : S_ContainsFuncS (clExt [(14, .bool true)]) (Rs.func Try.prog) 27 := s_ContainsFuncS (nX 27 (by decide)) F_27 t_35
set_option maxRecDepth 100000 in
theorem F_28 : Rs.func Try.prog 28 = some (rf_odd 36 29) := by kernel_rfl
set_option maxRecDepth 100000 in
theorem F_36 : Rs.func Try.prog 36 = some (rf_oUpdates 38) := by kernel_rfl
set_option maxRecDepth 100000 in
theorem F_38 : Rs.func Try.prog 38 = some (rf_oMay 39) := by kernel_rfl
set_option maxRecDepth 100000 in
theorem F_39 : Rs.func Try.prog 39 = some rf_oArg := by kernel_rfl
theorem t_39 : S_oArg (clExt [(14, .bool true)]) (Rs.func Try.prog) 39 := s_oArg (nX 39 (by decide)) F_39
theorem t_38 : S_oMay (clExt [(14, .bool true)]) (Rs.func Try.prog) 38 := s_oMay (nX 38 (by decide)) F_38 t_39
theorem t_36 : S_oUpdates (clExt [(14, .bool true)]) (Rs.func Try.prog) 36 := s_oUpdates (nX 36 (by decide)) F_36 t_38
set_option maxRecDepth 100000 in
theorem F_29 : Rs.func Try.prog 29 = some rf_Thread := by kernel_rfl
theorem t_29 : S_Thread (clExt [(14, .bool true)]) (Rs.func Try.prog) 29 := s_Thread (nX 29 (by decide)) F_29
theorem t_28 : S_odd (clExt [(14, .bool true)]) (Rs.func Try.prog) 28 := s_odd (nX 28 (by decide)) F_28 t_36 t_29
theorem t_20 : S_ringMay (clExt [(14, .bool true)]) (Rs.func Try.prog) 20 := s_ringMay (nX 20 (by decide)) F_20 t_26 t_27 t_28 t_29
set_option maxRecDepth 100000 in
theorem F_21 : Rs.func Try.prog 21 = some (rf_ContainsFunc 30) := by kernel_rfl
set_option maxRecDepth 100000 in
theorem F_30 : Rs.func Try.prog 30 = some rf_IndexFunc := by kernel_rfl
theorem t_21 : S_ContainsFunc (clExt [(14, .bool true)]) (Rs.func Try.prog) 21 := s_ContainsFunc (nX 21 (by decide)) F_21 (nX 30 (by decide)) F_30
theorem t_11 : S_curMay (clExt [(14, .bool true)]) (Rs.func Try.prog) 11 := s_curMay (nX 11 (by decide)) F_11 t_19 t_20 t_21
set_option maxRecDepth 100000 in
theorem law (h : AH) (us : List Value) (hu : AArgs h gs us) : Ret (clExt [(14, .bool true)]) (Rs.func Try.prog) h.length 6 us h fun v _ => v = .bool true := by
  cases hu with
  | cons h0 k =>
  cases k with
  | cons h1 k =>
  cases k with
  | cons h2 k =>
  cases k
  obtain ⟨x0, rfl, hx0⟩ := h0.int
  obtain ⟨x1, rfl, hx1⟩ := h1.int
  obtain ⟨a2, n2, xs2, rfl, hs2, hf2, hn2⟩ := h2.ints
  exact s_CursorFree (nX 6 (by decide)) F_6 t_aw t_15 t_8 t_16 t_10 t_11 h hx0 hx1 hs2 hf2 hn2
set_option maxRecDepth 100000 in
theorem lifted (os : Os) (started : os.Started) (H : Type) (enc : TypeId × Value → H) :
    ReturnsInHanded {} Try.checked os 6 .any (Rows.cursorFreeSpec.pre6 enc Try.prog Try.f6 Rows.cursorFreeRow.domain false) (Rows.cursorFreeSpec.post enc Try.prog Try.f6 false true false false) := by
  refine returnsInHanded_of_change_sized (C := Try.checked) own started (by kernel_rfl) Try.func6
    (ChangeSpec.witness6 (enc := enc) (C := Try.checked) false ⟨#[], #[.int .i64 0, .int .i64 0, .slice none 0 0], []⟩ 8 (by kernel_rfl) (by kernel_rfl) (by kernel_rfl) (by kernel_rfl)) ?_
  intro W base args ds gs0 before hval0 hW hcnd hsz0 _
  have hsz : (DataW.weightsEach Try.prog (Try.f6.params.toList ++ Rows.cursorFreeSpec.plain.varTypes Try.prog) (ds ++ gs0)).all (· ≤ reachBytes) = true := hsz0
  have hval : ∀ (j : Nat) t v, Try.f6.params[j]? = some t → args[j]? = some v → Value.okWide Try.prog W .any base t v := hval0
  have hW' := hW
  obtain ⟨p, q, hA0, hV, rfl, hfz, hnd⟩ := hW
  have hA : DataW.TrodAll enc Try.prog W 0 (fun _ => true) true Try.f6.params.toList args.toList ds p := hA0
  rw [Try.params6] at hA hval hsz
  obtain ⟨v0, vs0, d0, ds0, p0, q0, hargs, rfl, rfl, h0, r0⟩ := trodAll_cons hA
  obtain ⟨v1, vs1, d1, ds1, p1, q1, rfl, rfl, rfl, h1, r1⟩ := trodAll_cons r0
  obtain ⟨v2, vs2, d2, ds2, p2, q2, rfl, rfl, rfl, h2, r2⟩ := trodAll_cons r1
  obtain ⟨rfl, rfl, rfl⟩ := trodAll_nil r2
  obtain rfl : args = #[v0, v1, v2] := by cases args; simp_all
  obtain ⟨rfl, rfl⟩ := trodVars_none hV
  have q_0 : ArgIs W (false, [.f (.int .i64)]) v0 := argIs_int Try.underlying3 (hval 0 3 v0 rfl rfl) h0 (arg_cok (j := 0) (d := 8) (ks := [.f (.int .i64)]) (by kernel_rfl) hsz rfl rfl h0)
  have q_1 : ArgIs W (false, [.f (.int .i64)]) v1 := argIs_int Try.underlying3 (hval 1 3 v1 rfl rfl) h1 (arg_cok (j := 1) (d := 8) (ks := [.f (.int .i64)]) (by kernel_rfl) hsz rfl rfl h1)
  have q_2 : ArgIs W (false, [.sl [.int .i64] 8]) v2 := argIs_slice Try.underlying25 (hval 2 25 v2 rfl rfl) (arg_cok (j := 2) (d := 8) (ks := [.sl [.int .i64] 8]) (by kernel_rfl) hsz rfl rfl h2)
  have hargs2 : Args W gs [v0, v1, v2] := .cons q_0 (.cons q_1 (.cons q_2 (.nil)))
  refine (law_calls mixed ext hargs2 (wide_of rfl) law).mono fun e W' ⟨he, bel0⟩ => ?_
  have bel : Below W.heap.size W W' := bel0
  subst he
  exact ⟨_, rfl, _, _, _, [], _, [], hW', trodAll_mk1 (shut_bool Try.underlying4 _), (trodAll_cons_mk (Below.trod laidOut (by kernel_rfl) (of_decide_eq_true (by kernel_rfl)) h0 bel (trod_below h0)) (trodAll_cons_mk (Below.trod laidOut (by kernel_rfl) (of_decide_eq_true (by kernel_rfl)) h1 bel (trod_below h1)) (trodAll_cons_mk (Below.trod laidOut (by kernel_rfl) (of_decide_eq_true (by kernel_rfl)) h2 bel (trod_below h2)) trodAll_mk0))), rfl, bel.frame _, fun h => by cases h⟩
theorem over : Rows.cursorFreeRow.holds Try.pinned (OpenSpec.ofChange Rows.cursorFreeSpec) :=
  OpenClaim.holds_of_wide 6 Try.f6 rfl rfl rfl rfl rfl rfl rfl ⟨rfl, rfl, rfl, rfl, rfl⟩ rfl rfl rfl rfl rfl (by kernel_rfl) Try.func6 (by kernel_rfl)
    (of_decide_eq_true (by kernel_rfl)) (by unfold Func.isWrapper; first | (rw [if_pos (by decide +kernel)]; kernel_rfl) | (rw [if_neg (by decide +kernel)]; exact ⟨rfl, rfl⟩))
    (fun os started H enc _ => lifted os started H enc)
theorem proved : Rows.CursorFreeSaid := over
#print axioms proved
end Go.Proofs.Ytjgcaojbfcaalaa.cursorFree
namespace Go.Proofs.Ytjgcaojbfcaalaa
/-- The row, under a short name, for the claim. -/
theorem cursorFree_holds : Rows.CursorFreeSaid := cursorFree.proved
end Go.Proofs.Ytjgcaojbfcaalaa

