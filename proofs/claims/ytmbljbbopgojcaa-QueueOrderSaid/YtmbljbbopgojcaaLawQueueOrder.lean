/- The statement QueueOrder: what the small machine answers, Go answers; written by wip/tools/row.py, out of wip/fn. -/
import Derived.Test.YtmbljbbopgojcaaRows
import Derived.Test.YtmbljbbopgojcaaLQueueOrder
import Derived.Test.YtmbljbbopgojcaaMf
import Derived.WalkKit
import Derived.ProofKit
import Derived.OpenShut
import Derived.ShutString
import Derived.ChangeOld
import Derived.Below
import Derived.SizedLaws
import Derived.KernelRfl
namespace Go.Proofs.Ytmbljbbopgojcaa.queueOrder
open Go.ChangeShapes Go.WideShapes Go.ChangeAt Go.RowKit
open Go.ChangeMaps (open_string shut_string)
open Go.Proofs.YtmbljbbopgojcaaW.Ai
set_option linter.unusedVariables false
set_option linter.unusedSimpArgs false
theorem own : ownKnob Try.prog.godebug = none := by kernel_rfl
theorem laidOut : laidOutB Try.prog = true := by kernel_rfl
theorem mixed : Try.prog.follows .mixedOrders = true := by kernel_rfl
set_option maxRecDepth 100000 in
theorem awake : Closed Try.prog 14 (.bool true) := ⟨rfl, 60, by kernel_rfl⟩
theorem ext (nb : Nat) : XOk Try.prog nb (clExt [(14, .bool true)]) := clExt_ok mixed (fun p hp => by simp at hp; subst hp; exact awake)
def gs : List (Bool × List CK) := [(false, [.sl [.int .i64] 8]), (false, [.f (.int .i64)])]
abbrev XT : Ext := clExt [(14, .bool true)]
theorem nX (g : FuncId) (hg : g ≠ 14) : XT g = none := by simp [XT, clExt, Ne.symm hg]
theorem t_aw : S_yes XT (Rs.func Try.prog) 14 := fun lim h => ⟨1, .bool true, h, rfl, Pfx.refl h, rfl⟩
set_option maxRecDepth 100000 in
theorem F_4 : Rs.func Try.prog 4 = some (rf_QueueOrder 14 9 12 15) := by kernel_rfl
set_option maxRecDepth 100000 in
theorem F_9 : Rs.func Try.prog 9 = some (rf_qApply 16 17 18 19 20 21) := by kernel_rfl
set_option maxRecDepth 100000 in
theorem F_16 : Rs.func Try.prog 16 = some (rf_qMay 30) := by kernel_rfl
set_option maxRecDepth 100000 in
theorem F_30 : Rs.func Try.prog 30 = some (rf_Args 37 38) := by kernel_rfl
set_option maxRecDepth 100000 in
theorem F_37 : Rs.func Try.prog 37 = some (rf_Args1 31) := by kernel_rfl
set_option maxRecDepth 100000 in
theorem F_31 : Rs.func Try.prog 31 = some rf_oArg := by kernel_rfl
theorem t_31 : S_oArg XT (Rs.func Try.prog) 31 := s_oArg (nX 31 (by decide)) F_31
theorem t_37 : S_Args1 XT (Rs.func Try.prog) 37 := s_Args1 (nX 37 (by decide)) F_37 t_31
set_option maxRecDepth 100000 in
theorem F_38 : Rs.func Try.prog 38 = some (rf_ContainsFunc 40) := by kernel_rfl
set_option maxRecDepth 100000 in
theorem F_40 : Rs.func Try.prog 40 = some rf_IndexFunc := by kernel_rfl
theorem t_38 : S_ContainsFunc XT (Rs.func Try.prog) 38 := s_ContainsFunc (nX 38 (by decide)) F_38 (nX 40 (by decide)) F_40
theorem t_30 : S_Args XT (Rs.func Try.prog) 30 := s_Args (nX 30 (by decide)) F_30 t_37 t_38
theorem t_16 : S_qMay XT (Rs.func Try.prog) 16 := s_qMay (nX 16 (by decide)) F_16 t_30
set_option maxRecDepth 100000 in
theorem F_17 : Rs.func Try.prog 17 = some (rf_oMay 31) := by kernel_rfl
theorem t_17 : S_oMay XT (Rs.func Try.prog) 17 := s_oMay (nX 17 (by decide)) F_17 t_31
set_option maxRecDepth 100000 in
theorem F_18 : Rs.func Try.prog 18 = some (rf_sCopy 32) := by kernel_rfl
set_option maxRecDepth 100000 in
theorem F_32 : Rs.func Try.prog 32 = some rf_Clone := by kernel_rfl
set_option maxRecDepth 100000 in
theorem F_19 : Rs.func Try.prog 19 = some rf_qin := by kernel_rfl
theorem t_19 : S_in2 XT (Rs.func Try.prog) 19 := s_qin (nX 19 (by decide)) F_19
set_option maxRecDepth 100000 in
theorem F_20 : Rs.func Try.prog 20 = some rf_qout := by kernel_rfl
theorem t_20 : S_out2 XT (Rs.func Try.prog) 20 := s_qout (nX 20 (by decide)) F_20
set_option maxRecDepth 100000 in
theorem F_21 : Rs.func Try.prog 21 = some (rf_fMany 33) := by kernel_rfl
set_option maxRecDepth 100000 in
theorem F_33 : Rs.func Try.prog 33 = some (rf_Concat 39) := by kernel_rfl
set_option maxRecDepth 100000 in
theorem F_39 : Rs.func Try.prog 39 = some rf_Grow := by kernel_rfl
theorem t_39 : S_Grow XT (Rs.func Try.prog) 39 := s_Grow (nX 39 (by decide)) F_39
theorem t_33 : S_Concat XT (Rs.func Try.prog) 33 := s_Concat (nX 33 (by decide)) F_33 t_39
theorem t_21 : S_fMany XT (Rs.func Try.prog) 21 := s_fMany (nX 21 (by decide)) F_21 t_33
theorem t_9 : S_qApply XT (Rs.func Try.prog) 9 := s_qApply (nX 9 (by decide)) F_9 t_16 t_17 (nX 18 (by decide)) F_18 (nX 32 (by decide)) F_32 t_19 t_20 t_21
set_option maxRecDepth 100000 in
theorem F_12 : Rs.func Try.prog 12 = some rf_Num := by kernel_rfl
theorem t_12 : S_Num XT (Rs.func Try.prog) 12 := s_Num (nX 12 (by decide)) F_12
set_option maxRecDepth 100000 in
theorem F_15 : Rs.func Try.prog 15 = some rf_SameInts := by kernel_rfl
theorem t_15 : S_SameInts XT (Rs.func Try.prog) 15 := s_SameInts (nX 15 (by decide)) F_15
set_option maxRecDepth 100000 in
theorem law (h : AH) (us : List Value) (hu : AArgs h gs us) : Ret XT (Rs.func Try.prog) h.length 4 us h fun v _ => v = .bool true := by
  cases hu with
  | cons h0 k =>
  cases k with
  | cons h1 k =>
  cases k
  obtain ⟨a0, n0, xs0, rfl, hs0, hf0, hn0⟩ := h0.ints
  obtain ⟨x1, rfl, hx1⟩ := h1.int
  exact s_QueueOrder (nX 4 (by decide)) F_4 t_aw t_9 t_12 t_15 h hs0 hf0 hn0 hx1
set_option maxRecDepth 100000 in
theorem lifted (os : Os) (started : os.Started) (H : Type) (enc : TypeId × Value → H) :
    ReturnsInHanded {} Try.checked os 4 .any (Rows.queueOrderSpec.pre6 enc Try.prog Try.f4 Rows.queueOrderRow.domain false) (Rows.queueOrderSpec.post enc Try.prog Try.f4 false true false false) := by
  refine returnsInHanded_of_change_sized (C := Try.checked) own started (by kernel_rfl) Try.func4
    (ChangeSpec.witness6 (enc := enc) (C := Try.checked) false ⟨#[], #[.slice none 0 0, .int .i64 0], []⟩ 8 (by kernel_rfl) (by kernel_rfl) (by kernel_rfl) (by kernel_rfl)) ?_
  intro W base args ds gs0 before hval0 hW hcnd hsz0 _
  have hsz : (DataW.weightsEach Try.prog (Try.f4.params.toList ++ Rows.queueOrderSpec.plain.varTypes Try.prog) (ds ++ gs0)).all (· ≤ reachBytes) = true := hsz0
  have hval : ∀ (j : Nat) t v, Try.f4.params[j]? = some t → args[j]? = some v → Value.okWide Try.prog W .any base t v := hval0
  have hW' := hW
  obtain ⟨p, q, hA0, hV, rfl, hfz, hnd⟩ := hW
  have hA : DataW.TrodAll enc Try.prog W 0 (fun _ => true) true Try.f4.params.toList args.toList ds p := hA0
  rw [Try.params4] at hA hval hsz
  obtain ⟨v0, vs0, d0, ds0, p0, q0, hargs, rfl, rfl, h0, r0⟩ := trodAll_cons hA
  obtain ⟨v1, vs1, d1, ds1, p1, q1, rfl, rfl, rfl, h1, r1⟩ := trodAll_cons r0
  obtain ⟨rfl, rfl, rfl⟩ := trodAll_nil r1
  obtain rfl : args = #[v0, v1] := by cases args; simp_all
  obtain ⟨rfl, rfl⟩ := trodVars_none hV
  have q_0 : ArgIs W (false, [.sl [.int .i64] 8]) v0 := argIs_slice Try.underlying22 (hval 0 22 v0 rfl rfl) (arg_cok (j := 0) (d := 8) (ks := [.sl [.int .i64] 8]) (by kernel_rfl) hsz rfl rfl h0)
  have q_1 : ArgIs W (false, [.f (.int .i64)]) v1 := argIs_int Try.underlying3 (hval 1 3 v1 rfl rfl) h1 (arg_cok (j := 1) (d := 8) (ks := [.f (.int .i64)]) (by kernel_rfl) hsz rfl rfl h1)
  have hargs2 : Args W gs [v0, v1] := .cons q_0 (.cons q_1 (.nil))
  refine (law_calls mixed ext hargs2 (wide_of rfl) law).mono fun e W' ⟨he, bel0⟩ => ?_
  have bel : Below W.heap.size W W' := bel0
  subst he
  exact ⟨_, rfl, _, _, _, [], _, [], hW', trodAll_mk1 (shut_bool Try.underlying4 _), (trodAll_cons_mk (Below.trod laidOut (by kernel_rfl) (of_decide_eq_true (by kernel_rfl)) h0 bel (trod_below h0)) (trodAll_cons_mk (Below.trod laidOut (by kernel_rfl) (of_decide_eq_true (by kernel_rfl)) h1 bel (trod_below h1)) trodAll_mk0)), rfl, bel.frame _, fun h => by cases h⟩
theorem over : Rows.queueOrderRow.holds Try.pinned (OpenSpec.ofChange Rows.queueOrderSpec) :=
  OpenClaim.holds_of_wide 4 Try.f4 rfl rfl rfl rfl rfl rfl rfl ⟨rfl, rfl, rfl, rfl, rfl⟩ rfl rfl rfl rfl rfl (by kernel_rfl) Try.func4 (by kernel_rfl)
    (of_decide_eq_true (by kernel_rfl)) (by unfold Func.isWrapper; first | (rw [if_pos (by decide +kernel)]; kernel_rfl) | (rw [if_neg (by decide +kernel)]; exact ⟨rfl, rfl⟩))
    (fun os started H enc _ => lifted os started H enc)
theorem proved : Rows.QueueOrderSaid := over
#print axioms proved
end Go.Proofs.Ytmbljbbopgojcaa.queueOrder
namespace Go.Proofs.Ytmbljbbopgojcaa
/-- The row, under a short name, for the claim. -/
theorem queueOrder_holds : Rows.QueueOrderSaid := queueOrder.proved
end Go.Proofs.Ytmbljbbopgojcaa

