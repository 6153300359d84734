/- The statement RouteParts: what the small machine answers, Go answers; written by wip/tools/row.py, out of wip/fn. -/
import Derived.Test.YtkdjbkfcfbignaaRows
import Derived.Test.YtkdjbkfcfbignaaLRouteParts
import Derived.Test.YtkdjbkfcfbignaaMf
import Derived.WalkKit
import Derived.ProofKit
import Derived.OpenShut
import Derived.ShutString
import Derived.ChangeOld
import Derived.Below
import Derived.SizedLaws
import Derived.KernelRfl
namespace Go.Proofs.Ytkdjbkfcfbignaa.routeParts
open Go.ChangeShapes Go.WideShapes Go.ChangeAt Go.RowKit
open Go.ChangeMaps (open_string shut_string)
open Go.Proofs.YtkdjbkfcfbignaaW.Ai
set_option linter.unusedVariables false
set_option linter.unusedSimpArgs false
theorem own : ownKnob Try.prog.godebug = none := by kernel_rfl
theorem laidOut : laidOutB Try.prog = true := by kernel_rfl
theorem mixed : Try.prog.follows .mixedOrders = true := by kernel_rfl
set_option maxRecDepth 100000 in
theorem awake : Closed Try.prog 15 (.bool true) := ⟨rfl, 60, by kernel_rfl⟩
theorem ext (nb : Nat) : XOk Try.prog nb (clExt [(15, .bool true)]) := clExt_ok mixed (fun p hp => by simp at hp; subst hp; exact awake)
def gs : List (Bool × List CK) := [(true, [.sl [.int .i64] 8, .sl [.int .i64] 8, .sl [.int .i64] 8, .sl [.int .i64] 8]), (false, [.f .bool])]
abbrev XT : Ext := clExt [(15, .bool true)]
theorem nX (g : FuncId) (hg : g ≠ 15) : XT g = none := by simp [XT, clExt, Ne.symm hg]
theorem t_aw : S_yes XT (Rs.func Try.prog) 15 := fun lim h => ⟨1, .bool true, h, rfl, Pfx.refl h, rfl⟩
set_option maxRecDepth 100000 in
theorem F_5 : Rs.func Try.prog 5 = some (rf_RouteParts 15 10 12 8 13) := by kernel_rfl
set_option maxRecDepth 100000 in
theorem F_10 : Rs.func Try.prog 10 = some (rf_rtPart 19 22) := by kernel_rfl
set_option maxRecDepth 100000 in
theorem F_19 : Rs.func Try.prog 19 = some rf_rtLogs := by kernel_rfl
theorem t_19 : S_rtLogs XT (Rs.func Try.prog) 19 := s_rtLogs (nX 19 (by decide)) F_19
set_option maxRecDepth 100000 in
theorem F_22 : Rs.func Try.prog 22 = some rf_Clone := by kernel_rfl
theorem t_10 : S_rtPart XT (Rs.func Try.prog) 10 := s_rtPart (nX 10 (by decide)) F_10 t_19 (nX 22 (by decide)) F_22
set_option maxRecDepth 100000 in
theorem F_12 : Rs.func Try.prog 12 = some rf_Num := by kernel_rfl
theorem t_12 : S_Num XT (Rs.func Try.prog) 12 := s_Num (nX 12 (by decide)) F_12
set_option maxRecDepth 100000 in
theorem F_8 : Rs.func Try.prog 8 = some (rf_rtLog 18 19) := by kernel_rfl
set_option maxRecDepth 100000 in
theorem F_18 : Rs.func Try.prog 18 = some (rf_oMay 31) := by kernel_rfl
set_option maxRecDepth 100000 in
theorem F_31 : Rs.func Try.prog 31 = some rf_oArg := by kernel_rfl
theorem t_31 : S_oArg XT (Rs.func Try.prog) 31 := s_oArg (nX 31 (by decide)) F_31
theorem t_18 : S_oMay XT (Rs.func Try.prog) 18 := s_oMay (nX 18 (by decide)) F_18 t_31
theorem t_8 : S_rtLog XT (Rs.func Try.prog) 8 := s_rtLog (nX 8 (by decide)) F_8 t_18 t_19
set_option maxRecDepth 100000 in
theorem F_13 : Rs.func Try.prog 13 = some (rf_SameState 24) := by kernel_rfl
set_option maxRecDepth 100000 in
theorem F_24 : Rs.func Try.prog 24 = some rf_SameInts := by kernel_rfl
theorem t_24 : S_SameInts XT (Rs.func Try.prog) 24 := s_SameInts (nX 24 (by decide)) F_24
theorem t_13 : S_SameState XT (Rs.func Try.prog) 13 := s_SameState (nX 13 (by decide)) F_13 t_24
set_option maxRecDepth 100000 in
theorem law (h : AH) (us : List Value) (hu : AArgs h gs us) : Ret XT (Rs.func Try.prog) h.length 5 us h fun v _ => v = .bool true := by
  cases hu with
  | cons h0 k =>
  cases k with
  | cons h1 k =>
  cases k
  obtain ⟨r00, r10, r20, r30, rfl, hr0⟩ := h0.state
  obtain ⟨x1, rfl⟩ := h1.bool
  exact s_RouteParts (nX 5 (by decide)) F_5 t_aw t_10 t_12 t_8 t_13 h hr0
set_option maxRecDepth 100000 in
theorem lifted (os : Os) (started : os.Started) (H : Type) (enc : TypeId × Value → H) :
    ReturnsInHanded {} Try.checked os 5 .any (Rows.routePartsSpec.pre6 enc Try.prog Try.f5 Rows.routePartsRow.domain false) (Rows.routePartsSpec.post enc Try.prog Try.f5 false true false false) := by
  refine returnsInHanded_of_change_sized (C := Try.checked) own started (by kernel_rfl) Try.func5
    (ChangeSpec.witness6 (enc := enc) (C := Try.checked) false ⟨#[], #[.agg #[.slice none 0 0, .slice none 0 0, .slice none 0 0, .slice none 0 0], .bool false], []⟩ 8 (by kernel_rfl) (by kernel_rfl) (by kernel_rfl) (by kernel_rfl)) ?_
  intro W base args ds gs0 before hval0 hW hcnd hsz0 _
  have hsz : (DataW.weightsEach Try.prog (Try.f5.params.toList ++ Rows.routePartsSpec.plain.varTypes Try.prog) (ds ++ gs0)).all (· ≤ reachBytes) = true := hsz0
  have hval : ∀ (j : Nat) t v, Try.f5.params[j]? = some t → args[j]? = some v → Value.okWide Try.prog W .any base t v := hval0
  have hW' := hW
  obtain ⟨p, q, hA0, hV, rfl, hfz, hnd⟩ := hW
  have hA : DataW.TrodAll enc Try.prog W 0 (fun _ => true) true Try.f5.params.toList args.toList ds p := hA0
  rw [Try.params5] at hA hval hsz
  obtain ⟨v0, vs0, d0, ds0, p0, q0, hargs, rfl, rfl, h0, r0⟩ := trodAll_cons hA
  obtain ⟨v1, vs1, d1, ds1, p1, q1, rfl, rfl, rfl, h1, r1⟩ := trodAll_cons r0
  obtain ⟨rfl, rfl, rfl⟩ := trodAll_nil r1
  obtain rfl : args = #[v0, v1] := by cases args; simp_all
  obtain ⟨rfl, rfl⟩ := trodVars_none hV
  have q_0 : ArgIs W (true, [.sl [.int .i64] 8, .sl [.int .i64] 8, .sl [.int .i64] 8, .sl [.int .i64] 8]) v0 := argIs_struct Try.underlying27 (hval 0 27 v0 rfl rfl) (arg_cok (j := 0) (d := 8) (ks := [.sl [.int .i64] 8, .sl [.int .i64] 8, .sl [.int .i64] 8, .sl [.int .i64] 8]) (by kernel_rfl) hsz rfl rfl h0)
  have q_1 : ArgIs W (false, [.f .bool]) v1 := argIs_bool Try.underlying4 (hval 1 4 v1 rfl rfl) h1 (arg_cok (j := 1) (d := 8) (ks := [.f .bool]) (by kernel_rfl) hsz rfl rfl h1)
  have hargs2 : Args W gs [v0, v1] := .cons q_0 (.cons q_1 (.nil))
  refine (law_calls mixed ext hargs2 (wide_of rfl) law).mono fun e W' ⟨he, bel0⟩ => ?_
  have bel : Below W.heap.size W W' := bel0
  subst he
  exact ⟨_, rfl, _, _, _, [], _, [], hW', trodAll_mk1 (shut_bool Try.underlying4 _), (trodAll_cons_mk (Below.trod laidOut (by kernel_rfl) (of_decide_eq_true (by kernel_rfl)) h0 bel (trod_below h0)) (trodAll_cons_mk (Below.trod laidOut (by kernel_rfl) (of_decide_eq_true (by kernel_rfl)) h1 bel (trod_below h1)) trodAll_mk0)), rfl, bel.frame _, fun h => by cases h⟩
theorem over : Rows.routePartsRow.holds Try.pinned (OpenSpec.ofChange Rows.routePartsSpec) :=
  OpenClaim.holds_of_wide 5 Try.f5 rfl rfl rfl rfl rfl rfl rfl ⟨rfl, rfl, rfl, rfl, rfl⟩ rfl rfl rfl rfl rfl (by kernel_rfl) Try.func5 (by kernel_rfl)
    (of_decide_eq_true (by kernel_rfl)) (by unfold Func.isWrapper; first | (rw [if_pos (by decide +kernel)]; kernel_rfl) | (rw [if_neg (by decide +kernel)]; exact ⟨rfl, rfl⟩))
    (fun os started H enc _ => lifted os started H enc)
theorem proved : Rows.RoutePartsSaid := over
#print axioms proved
end Go.Proofs.Ytkdjbkfcfbignaa.routeParts
namespace Go.Proofs.Ytkdjbkfcfbignaa
/-- The row, under a short name, for the claim. -/
theorem routeParts_holds : Rows.RoutePartsSaid := routeParts.proved
end Go.Proofs.Ytkdjbkfcfbignaa

