/- The statement RouteAlone: what the small machine answers, Go answers; written by wip/tools/row.py, out of wip/fn. -/
import Derived.Test.YtkdjbkfcfbignaaRows
import Derived.Test.YtkdjbkfcfbignaaLRouteAlone
import Derived.Test.YtkdjbkfcfbignaaMf
import Derived.WalkKit
import Derived.ProofKit
import Derived.OpenShut
import Derived.ShutString
import Derived.ChangeOld
import Derived.Below
import Derived.SizedLaws
import Derived.KernelRfl
namespace Go.Proofs.Ytkdjbkfcfbignaa.routeAlone
open Go.ChangeShapes Go.WideShapes Go.ChangeAt Go.RowKit
open Go.ChangeMaps (open_string shut_string)
open Go.Proofs.YtkdjbkfcfbignaaW.Ai
set_option linter.unusedVariables false
set_option linter.unusedSimpArgs false
theorem own : ownKnob Try.prog.godebug = none := by kernel_rfl
theorem laidOut : laidOutB Try.prog = true := by kernel_rfl
theorem mixed : Try.prog.follows .mixedOrders = true := by kernel_rfl
set_option maxRecDepth 100000 in
theorem awake : Closed Try.prog 15 (.bool true) := ⟨rfl, 60, by kernel_rfl⟩
theorem ext (nb : Nat) : XOk Try.prog nb (clExt [(15, .bool true)]) := clExt_ok mixed (fun p hp => by simp at hp; subst hp; exact awake)
def gs : List (Bool × List CK) := [(false, [.f (.int .i64)]), (true, [.sl [.int .i64] 8, .sl [.int .i64] 8, .sl [.int .i64] 8, .sl [.int .i64] 8]), (true, [.f (.int .i64), .f (.int .i64), .f (.int .i64)]), (false, [.f .bool])]
abbrev XT : Ext := clExt [(15, .bool true)]
theorem nX (g : FuncId) (hg : g ≠ 15) : XT g = none := by simp [XT, clExt, Ne.symm hg]
theorem t_aw : S_yes XT (Rs.func Try.prog) 15 := fun lim h => ⟨1, .bool true, h, rfl, Pfx.refl h, rfl⟩
set_option maxRecDepth 100000 in
theorem F_6 : Rs.func Try.prog 6 = some (rf_RouteAlone 15 8 12 16 10 17 13) := by kernel_rfl
set_option maxRecDepth 100000 in
theorem F_8 : Rs.func Try.prog 8 = some (rf_rtLog 18 19) := by kernel_rfl
set_option maxRecDepth 100000 in
theorem F_18 : Rs.func Try.prog 18 = some (rf_oMay 31) := by kernel_rfl
set_option maxRecDepth 100000 in
theorem F_31 : Rs.func Try.prog 31 = some rf_oArg := by kernel_rfl
theorem t_31 : S_oArg XT (Rs.func Try.prog) 31 := s_oArg (nX 31 (by decide)) F_31
theorem t_18 : S_oMay XT (Rs.func Try.prog) 18 := s_oMay (nX 18 (by decide)) F_18 t_31
set_option maxRecDepth 100000 in
theorem F_19 : Rs.func Try.prog 19 = some rf_rtLogs := by kernel_rfl
theorem t_19 : S_rtLogs XT (Rs.func Try.prog) 19 := s_rtLogs (nX 19 (by decide)) F_19
theorem t_8 : S_rtLog XT (Rs.func Try.prog) 8 := s_rtLog (nX 8 (by decide)) F_8 t_18 t_19
set_option maxRecDepth 100000 in
theorem F_12 : Rs.func Try.prog 12 = some rf_Num := by kernel_rfl
theorem t_12 : S_Num XT (Rs.func Try.prog) 12 := s_Num (nX 12 (by decide)) F_12
set_option maxRecDepth 100000 in
theorem F_16 : Rs.func Try.prog 16 = some (rf_StateMay 26) := by kernel_rfl
set_option maxRecDepth 100000 in
theorem F_26 : Rs.func Try.prog 26 = some (rf_rowMay 21) := by kernel_rfl
set_option maxRecDepth 100000 in
theorem F_21 : Rs.func Try.prog 21 = some rf_upTo := by kernel_rfl
theorem t_21 : S_upTo XT (Rs.func Try.prog) 21 := s_upTo (nX 21 (by decide)) F_21
theorem t_26 : S_rowMay XT (Rs.func Try.prog) 26 := s_rowMay (nX 26 (by decide)) F_26 t_21
theorem t_16 : S_StateMay XT (Rs.func Try.prog) 16 := s_StateMay (nX 16 (by decide)) F_16 t_26
theorem t_26_rowMay1 : S_rowMay1 XT (Rs.func Try.prog) 26 := s_rowMay1 (nX 26 (by decide)) F_26 t_21
theorem t_16_StateMay1 : S_StateMay1 XT (Rs.func Try.prog) 16 := s_StateMay1 (nX 16 (by decide)) F_16 t_26_rowMay1
theorem t_16_StateMayX : S_rowMayX XT (Rs.func Try.prog) 16 := s_StateMayX (nX 16 (by decide)) F_16
theorem t_16_StateMayO : S_StateMayO XT (Rs.func Try.prog) 16 := s_StateMayO (nX 16 (by decide)) F_16 t_16 t_16_StateMay1 t_16_StateMayX
set_option maxRecDepth 100000 in
theorem F_10 : Rs.func Try.prog 10 = some (rf_rtPart 19 22) := by kernel_rfl
set_option maxRecDepth 100000 in
theorem F_22 : Rs.func Try.prog 22 = some rf_Clone := by kernel_rfl
theorem t_10 : S_rtPart XT (Rs.func Try.prog) 10 := s_rtPart (nX 10 (by decide)) F_10 t_19 (nX 22 (by decide)) F_22
set_option maxRecDepth 100000 in
theorem F_17 : Rs.func Try.prog 17 = some (rf_rApply 16 20 23 27 28 29 30) := by kernel_rfl
set_option maxRecDepth 100000 in
theorem F_20 : Rs.func Try.prog 20 = some (rf_OperMay 21) := by kernel_rfl
theorem t_20 : S_OperMay XT (Rs.func Try.prog) 20 := s_OperMay (nX 20 (by decide)) F_20 t_21
set_option maxRecDepth 100000 in
theorem F_23 : Rs.func Try.prog 23 = some rf_rCopyState := by kernel_rfl
theorem t_23 : S_rCopyState XT (Rs.func Try.prog) 23 := s_rCopyState (nX 23 (by decide)) F_23
set_option maxRecDepth 100000 in
theorem F_27 : Rs.func Try.prog 27 = some rf_first := by kernel_rfl
theorem t_27 : S_first XT (Rs.func Try.prog) 27 := s_first (nX 27 (by decide)) F_27
set_option maxRecDepth 100000 in
theorem F_28 : Rs.func Try.prog 28 = some (rf_storeRow 27) := by kernel_rfl
theorem t_28 : S_storeRow XT (Rs.func Try.prog) 28 := s_storeRow (nX 28 (by decide)) F_28 t_27
theorem t_17 : S_rApplyS XT (Rs.func Try.prog) 17 := s_rApply (nX 17 (by decide)) F_17 t_16 t_20 t_23 t_27 t_28
set_option maxRecDepth 100000 in
theorem F_29 : Rs.func Try.prog 29 = some (rf_fdsRow 32) := by kernel_rfl
set_option maxRecDepth 100000 in
theorem F_32 : Rs.func Try.prog 32 = some rf_has := by kernel_rfl
theorem t_32 : S_has XT (Rs.func Try.prog) 32 := s_has (nX 32 (by decide)) F_32
theorem t_29 : S_fdsRow XT (Rs.func Try.prog) 29 := s_fdsRow (nX 29 (by decide)) F_29 t_32
theorem t_17_rApplyF : S_rApplyF XT (Rs.func Try.prog) 17 := s_rApplyF (nX 17 (by decide)) F_17 t_16_StateMay1 t_20 (nX 23 (by decide)) F_23 t_29
set_option maxRecDepth 100000 in
theorem F_30 : Rs.func Try.prog 30 = some rf_queueRow := by kernel_rfl
theorem t_30 : S_queueRow XT (Rs.func Try.prog) 30 := s_queueRow (nX 30 (by decide)) F_30
theorem t_17_rApplyQ : S_rApplyQ XT (Rs.func Try.prog) 17 := s_rApplyQ (nX 17 (by decide)) F_17 t_16 t_20 (nX 23 (by decide)) F_23 t_30
theorem t_17_rApplyX : S_rApplyX XT (Rs.func Try.prog) 17 := s_rApplyX (nX 17 (by decide)) F_17 t_16_StateMayX
theorem t_17_rApplyO : S_rApplyO XT (Rs.func Try.prog) 17 := s_rApplyO F_17 t_17 t_17_rApplyF t_17_rApplyQ t_17_rApplyX
set_option maxRecDepth 100000 in
theorem F_13 : Rs.func Try.prog 13 = some (rf_SameState 24) := by kernel_rfl
set_option maxRecDepth 100000 in
theorem F_24 : Rs.func Try.prog 24 = some rf_SameInts := by kernel_rfl
theorem t_24 : S_SameInts XT (Rs.func Try.prog) 24 := s_SameInts (nX 24 (by decide)) F_24
theorem t_13 : S_SameState XT (Rs.func Try.prog) 13 := s_SameState (nX 13 (by decide)) F_13 t_24
set_option maxRecDepth 100000 in
theorem law (h : AH) (us : List Value) (hu : AArgs h gs us) : Ret XT (Rs.func Try.prog) h.length 6 us h fun v _ => v = .bool true := by
  cases hu with
  | cons h0 k =>
  cases k with
  | cons h1 k =>
  cases k with
  | cons h2 k =>
  cases k with
  | cons h3 k =>
  cases k
  obtain ⟨x0, rfl, hx0⟩ := h0.int
  obtain ⟨r01, r11, r21, r31, rfl, hr1⟩ := h1.state
  obtain ⟨c2, r2, o2, rfl, ho2⟩ := h2.op
  obtain ⟨x3, rfl⟩ := h3.bool
  exact s_RouteAlone (nX 6 (by decide)) F_6 t_aw t_8 t_12 t_16_StateMayO t_10 t_17_rApplyO t_13 h hx0 hr1 ho2
set_option maxRecDepth 100000 in
theorem lifted (os : Os) (started : os.Started) (H : Type) (enc : TypeId × Value → H) :
    ReturnsInHanded {} Try.checked os 6 .any (Rows.routeAloneSpec.pre6 enc Try.prog Try.f6 Rows.routeAloneRow.domain false) (Rows.routeAloneSpec.post enc Try.prog Try.f6 false true false false) := by
  refine returnsInHanded_of_change_sized (C := Try.checked) own started (by kernel_rfl) Try.func6
    (ChangeSpec.witness6 (enc := enc) (C := Try.checked) false ⟨#[], #[.int .i64 0, .agg #[.slice none 0 0, .slice none 0 0, .slice none 0 0, .slice none 0 0], .agg #[.int .i64 0, .int .i64 0, .int .i64 0], .bool false], []⟩ 8 (by kernel_rfl) (by kernel_rfl) (by kernel_rfl) (by kernel_rfl)) ?_
  intro W base args ds gs0 before hval0 hW hcnd hsz0 _
  have hsz : (DataW.weightsEach Try.prog (Try.f6.params.toList ++ Rows.routeAloneSpec.plain.varTypes Try.prog) (ds ++ gs0)).all (· ≤ reachBytes) = true := hsz0
  have hval : ∀ (j : Nat) t v, Try.f6.params[j]? = some t → args[j]? = some v → Value.okWide Try.prog W .any base t v := hval0
  have hW' := hW
  obtain ⟨p, q, hA0, hV, rfl, hfz, hnd⟩ := hW
  have hA : DataW.TrodAll enc Try.prog W 0 (fun _ => true) true Try.f6.params.toList args.toList ds p := hA0
  rw [Try.params6] at hA hval hsz
  obtain ⟨v0, vs0, d0, ds0, p0, q0, hargs, rfl, rfl, h0, r0⟩ := trodAll_cons hA
  obtain ⟨v1, vs1, d1, ds1, p1, q1, rfl, rfl, rfl, h1, r1⟩ := trodAll_cons r0
  obtain ⟨v2, vs2, d2, ds2, p2, q2, rfl, rfl, rfl, h2, r2⟩ := trodAll_cons r1
  obtain ⟨v3, vs3, d3, ds3, p3, q3, rfl, rfl, rfl, h3, r3⟩ := trodAll_cons r2
  obtain ⟨rfl, rfl, rfl⟩ := trodAll_nil r3
  obtain rfl : args = #[v0, v1, v2, v3] := by cases args; simp_all
  obtain ⟨rfl, rfl⟩ := trodVars_none hV
  have q_0 : ArgIs W (false, [.f (.int .i64)]) v0 := argIs_int Try.underlying3 (hval 0 3 v0 rfl rfl) h0 (arg_cok (j := 0) (d := 8) (ks := [.f (.int .i64)]) (by kernel_rfl) hsz rfl rfl h0)
  have q_1 : ArgIs W (true, [.sl [.int .i64] 8, .sl [.int .i64] 8, .sl [.int .i64] 8, .sl [.int .i64] 8]) v1 := argIs_struct Try.underlying27 (hval 1 27 v1 rfl rfl) (arg_cok (j := 1) (d := 8) (ks := [.sl [.int .i64] 8, .sl [.int .i64] 8, .sl [.int .i64] 8, .sl [.int .i64] 8]) (by kernel_rfl) hsz rfl rfl h1)
  have q_2 : ArgIs W (true, [.f (.int .i64), .f (.int .i64), .f (.int .i64)]) v2 := argIs_struct Try.underlying23 (hval 2 23 v2 rfl rfl) (arg_cok (j := 2) (d := 8) (ks := [.f (.int .i64), .f (.int .i64), .f (.int .i64)]) (by kernel_rfl) hsz rfl rfl h2)
  have q_3 : ArgIs W (false, [.f .bool]) v3 := argIs_bool Try.underlying4 (hval 3 4 v3 rfl rfl) h3 (arg_cok (j := 3) (d := 8) (ks := [.f .bool]) (by kernel_rfl) hsz rfl rfl h3)
  have hargs2 : Args W gs [v0, v1, v2, v3] := .cons q_0 (.cons q_1 (.cons q_2 (.cons q_3 (.nil))))
  refine (law_calls mixed ext hargs2 (wide_of rfl) law).mono fun e W' ⟨he, bel0⟩ => ?_
  have bel : Below W.heap.size W W' := bel0
  subst he
  exact ⟨_, rfl, _, _, _, [], _, [], hW', trodAll_mk1 (shut_bool Try.underlying4 _), (trodAll_cons_mk (Below.trod laidOut (by kernel_rfl) (of_decide_eq_true (by kernel_rfl)) h0 bel (trod_below h0)) (trodAll_cons_mk (Below.trod laidOut (by kernel_rfl) (of_decide_eq_true (by kernel_rfl)) h1 bel (trod_below h1)) (trodAll_cons_mk (Below.trod laidOut (by kernel_rfl) (of_decide_eq_true (by kernel_rfl)) h2 bel (trod_below h2)) (trodAll_cons_mk (Below.trod laidOut (by kernel_rfl) (of_decide_eq_true (by kernel_rfl)) h3 bel (trod_below h3)) trodAll_mk0)))), rfl, bel.frame _, fun h => by cases h⟩
theorem over : Rows.routeAloneRow.holds Try.pinned (OpenSpec.ofChange Rows.routeAloneSpec) :=
  OpenClaim.holds_of_wide 6 Try.f6 rfl rfl rfl rfl rfl rfl rfl ⟨rfl, rfl, rfl, rfl, rfl⟩ rfl rfl rfl rfl rfl (by kernel_rfl) Try.func6 (by kernel_rfl)
    (of_decide_eq_true (by kernel_rfl)) (by unfold Func.isWrapper; first | (rw [if_pos (by decide +kernel)]; kernel_rfl) | (rw [if_neg (by decide +kernel)]; exact ⟨rfl, rfl⟩))
    (fun os started H enc _ => lifted os started H enc)
theorem proved : Rows.RouteAloneSaid := over
#print axioms proved
end Go.Proofs.Ytkdjbkfcfbignaa.routeAlone
namespace Go.Proofs.Ytkdjbkfcfbignaa
/-- The row, under a short name, for the claim. -/
theorem routeAlone_holds : Rows.RouteAloneSaid := routeAlone.proved
end Go.Proofs.Ytkdjbkfcfbignaa

