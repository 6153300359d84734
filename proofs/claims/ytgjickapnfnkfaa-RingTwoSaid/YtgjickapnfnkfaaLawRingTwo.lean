/- The statement RingTwo: what the small machine answers, Go answers; written by wip/tools/row.py, out of wip/fn. -/
import Derived.Test.YtgjickapnfnkfaaRows
import Derived.Test.YtgjickapnfnkfaaLRingTwo
import Derived.Test.YtgjickapnfnkfaaMf
import Derived.WalkKit
import Derived.ProofKit
import Derived.OpenShut
import Derived.ShutString
import Derived.ChangeOld
import Derived.Below
import Derived.SizedLaws
import Derived.KernelRfl
namespace Go.Proofs.Ytgjickapnfnkfaa.ringTwo
open Go.ChangeShapes Go.WideShapes Go.ChangeAt Go.RowKit
open Go.ChangeMaps (open_string shut_string)
open Go.Proofs.YtgjickapnfnkfaaW.Ai
set_option linter.unusedVariables false
set_option linter.unusedSimpArgs false
theorem own : ownKnob Try.prog.godebug = none := by kernel_rfl
theorem laidOut : laidOutB Try.prog = true := by kernel_rfl
theorem mixed : Try.prog.follows .mixedOrders = true := by kernel_rfl
set_option maxRecDepth 100000 in
theorem awake : Closed Try.prog 25 (.bool true) := ⟨rfl, 60, by kernel_rfl⟩
theorem ext (nb : Nat) : XOk Try.prog nb (clExt [(25, .bool true)]) := clExt_ok mixed (fun p hp => by simp at hp; subst hp; exact awake)
def gs : List (Bool × List CK) := [(false, [.f (.int .i64)]), (false, [.f (.int .i64)]), (false, [.f (.int .i64)])]
abbrev XT : Ext := clExt [(25, .bool true)]
theorem nX (g : FuncId) (hg : g ≠ 25) : XT g = none := by simp [XT, clExt, Ne.symm hg]
theorem t_aw : S_yes XT (Rs.func Try.prog) 25 := fun lim h => ⟨1, .bool true, h, rfl, Pfx.refl h, rfl⟩
set_option maxRecDepth 100000 in
theorem F_8 : Rs.func Try.prog 8 = some (rf_RingTwo 25 18 10 21 12 14) := by kernel_rfl
set_option maxRecDepth 100000 in
theorem F_18 : Rs.func Try.prog 18 = some (rf_New 39) := by kernel_rfl
set_option maxRecDepth 100000 in
theorem F_39 : Rs.func Try.prog 39 = some rf_Many := by kernel_rfl
theorem t_39 : S_Many XT (Rs.func Try.prog) 39 := s_Many (nX 39 (by decide)) F_39
theorem t_18 : S_New XT (Rs.func Try.prog) 18 := s_New (nX 18 (by decide)) F_18 t_39
set_option maxRecDepth 100000 in
theorem F_10 : Rs.func Try.prog 10 = some (rf_Reserve 22 27) := by kernel_rfl
set_option maxRecDepth 100000 in
theorem F_22 : Rs.func Try.prog 22 = some (rf_ringMay 39 41 42 32) := by kernel_rfl
set_option maxRecDepth 100000 in
theorem F_41 : Rs.func Try.prog 41 = some (rf_ContainsFuncS 49) := by kernel_rfl
set_option maxRecDepth 100000 in
theorem F_49 : Rs.func Try.prog 49 = some rf_IndexFuncS := by kernel_rfl
theorem t_49 : S_IndexFuncS XT (Rs.func Try.prog) 49 := s_IndexFuncS (nX 49 (by decide)) F_49
theorem t_41 : S_ContainsFuncS XT (Rs.func Try.prog) 41 := s_ContainsFuncS (nX 41 (by decide)) F_41 t_49
set_option maxRecDepth 100000 in
theorem F_42 : Rs.func Try.prog 42 = some (rf_odd 31 32) := by kernel_rfl
set_option maxRecDepth 100000 in
theorem F_31 : Rs.func Try.prog 31 = some (rf_oUpdates 46) := by kernel_rfl
set_option maxRecDepth 100000 in
theorem F_46 : Rs.func Try.prog 46 = some (rf_oMay 50) := by kernel_rfl
set_option maxRecDepth 100000 in
theorem F_50 : Rs.func Try.prog 50 = some rf_oArg := by kernel_rfl
theorem t_50 : S_oArg XT (Rs.func Try.prog) 50 := s_oArg (nX 50 (by decide)) F_50
theorem t_46 : S_oMay XT (Rs.func Try.prog) 46 := s_oMay (nX 46 (by decide)) F_46 t_50
theorem t_31 : S_oUpdates XT (Rs.func Try.prog) 31 := s_oUpdates (nX 31 (by decide)) F_31 t_46
set_option maxRecDepth 100000 in
theorem F_32 : Rs.func Try.prog 32 = some rf_Thread := by kernel_rfl
theorem t_32 : S_Thread XT (Rs.func Try.prog) 32 := s_Thread (nX 32 (by decide)) F_32
theorem t_42 : S_odd XT (Rs.func Try.prog) 42 := s_odd (nX 42 (by decide)) F_42 t_31 t_32
theorem t_22 : S_ringMay XT (Rs.func Try.prog) 22 := s_ringMay (nX 22 (by decide)) F_22 t_39 t_41 t_42 t_32
set_option maxRecDepth 100000 in
theorem F_27 : Rs.func Try.prog 27 = some (rf_rCopy 45) := by kernel_rfl
set_option maxRecDepth 100000 in
theorem F_45 : Rs.func Try.prog 45 = some rf_CloneS := by kernel_rfl
theorem t_45 : S_CloneS XT (Rs.func Try.prog) 45 := s_CloneS (nX 45 (by decide)) F_45
theorem t_27 : S_rCopy XT (Rs.func Try.prog) 27 := s_rCopy (nX 27 (by decide)) F_27 t_45
theorem t_10 : S_Reserve XT (Rs.func Try.prog) 10 := s_Reserve (nX 10 (by decide)) F_10 t_22 t_27
set_option maxRecDepth 100000 in
theorem F_21 : Rs.func Try.prog 21 = some rf_Num := by kernel_rfl
theorem t_21 : S_Num XT (Rs.func Try.prog) 21 := s_Num (nX 21 (by decide)) F_21
set_option maxRecDepth 100000 in
theorem F_12 : Rs.func Try.prog 12 = some (rf_Publish 22 30 31 32 27 33) := by kernel_rfl
set_option maxRecDepth 100000 in
theorem F_30 : Rs.func Try.prog 30 = some rf_in := by kernel_rfl
theorem t_30 : S_in XT (Rs.func Try.prog) 30 := s_in (nX 30 (by decide)) F_30
set_option maxRecDepth 100000 in
theorem F_33 : Rs.func Try.prog 33 = some (rf_Bit 39 47) := by kernel_rfl
set_option maxRecDepth 100000 in
theorem F_47 : Rs.func Try.prog 47 = some rf_Number := by kernel_rfl
theorem t_47 : S_Number XT (Rs.func Try.prog) 47 := s_Number (nX 47 (by decide)) F_47
theorem t_33 : S_Bit XT (Rs.func Try.prog) 33 := s_Bit (nX 33 (by decide)) F_33 t_39 t_47
theorem t_12 : S_Publish XT (Rs.func Try.prog) 12 := s_Publish (nX 12 (by decide)) F_12 t_22 t_30 t_31 t_32 t_27 t_33
set_option maxRecDepth 100000 in
theorem F_14 : Rs.func Try.prog 14 = some (rf_Entry 22 30 37) := by kernel_rfl
set_option maxRecDepth 100000 in
theorem F_37 : Rs.func Try.prog 37 = some (rf_Alive 33) := by kernel_rfl
theorem t_37 : S_Alive XT (Rs.func Try.prog) 37 := s_Alive (nX 37 (by decide)) F_37 t_33
theorem t_14 : S_Entry XT (Rs.func Try.prog) 14 := s_Entry (nX 14 (by decide)) F_14 t_22 t_30 t_37
set_option maxRecDepth 100000 in
theorem law (h : AH) (us : List Value) (hu : AArgs h gs us) : Ret XT (Rs.func Try.prog) h.length 8 us h fun v _ => v = .bool true := by
  cases hu with
  | cons h0 k =>
  cases k with
  | cons h1 k =>
  cases k with
  | cons h2 k =>
  cases k
  obtain ⟨x0, rfl, hx0⟩ := h0.int
  obtain ⟨x1, rfl, hx1⟩ := h1.int
  obtain ⟨x2, rfl, hx2⟩ := h2.int
  exact s_RingTwo (nX 8 (by decide)) F_8 t_aw t_18 t_10 t_21 t_12 t_14 h hx0 hx1 hx2
set_option maxRecDepth 100000 in
theorem lifted (os : Os) (started : os.Started) (H : Type) (enc : TypeId × Value → H) :
    ReturnsInHanded {} Try.checked os 8 .any (Rows.ringTwoSpec.pre6 enc Try.prog Try.f8 Rows.ringTwoRow.domain false) (Rows.ringTwoSpec.post enc Try.prog Try.f8 false true false false) := by
  refine returnsInHanded_of_change_sized (C := Try.checked) own started (by kernel_rfl) Try.func8
    (ChangeSpec.witness6 (enc := enc) (C := Try.checked) false ⟨#[], #[.int .i64 0, .int .i64 0, .int .i64 0], []⟩ 8 (by kernel_rfl) (by kernel_rfl) (by kernel_rfl) (by kernel_rfl)) ?_
  intro W base args ds gs0 before hval0 hW hcnd hsz0 _
  have hsz : (DataW.weightsEach Try.prog (Try.f8.params.toList ++ Rows.ringTwoSpec.plain.varTypes Try.prog) (ds ++ gs0)).all (· ≤ reachBytes) = true := hsz0
  have hval : ∀ (j : Nat) t v, Try.f8.params[j]? = some t → args[j]? = some v → Value.okWide Try.prog W .any base t v := hval0
  have hW' := hW
  obtain ⟨p, q, hA0, hV, rfl, hfz, hnd⟩ := hW
  have hA : DataW.TrodAll enc Try.prog W 0 (fun _ => true) true Try.f8.params.toList args.toList ds p := hA0
  rw [Try.params8] at hA hval hsz
  obtain ⟨v0, vs0, d0, ds0, p0, q0, hargs, rfl, rfl, h0, r0⟩ := trodAll_cons hA
  obtain ⟨v1, vs1, d1, ds1, p1, q1, rfl, rfl, rfl, h1, r1⟩ := trodAll_cons r0
  obtain ⟨v2, vs2, d2, ds2, p2, q2, rfl, rfl, rfl, h2, r2⟩ := trodAll_cons r1
  obtain ⟨rfl, rfl, rfl⟩ := trodAll_nil r2
  obtain rfl : args = #[v0, v1, v2] := by cases args; simp_all
  obtain ⟨rfl, rfl⟩ := trodVars_none hV
  have q_0 : ArgIs W (false, [.f (.int .i64)]) v0 := argIs_int Try.underlying3 (hval 0 3 v0 rfl rfl) h0 (arg_cok (j := 0) (d := 8) (ks := [.f (.int .i64)]) (by kernel_rfl) hsz rfl rfl h0)
  have q_1 : ArgIs W (false, [.f (.int .i64)]) v1 := argIs_int Try.underlying3 (hval 1 3 v1 rfl rfl) h1 (arg_cok (j := 1) (d := 8) (ks := [.f (.int .i64)]) (by kernel_rfl) hsz rfl rfl h1)
  have q_2 : ArgIs W (false, [.f (.int .i64)]) v2 := argIs_int Try.underlying3 (hval 2 3 v2 rfl rfl) h2 (arg_cok (j := 2) (d := 8) (ks := [.f (.int .i64)]) (by kernel_rfl) hsz rfl rfl h2)
  have hargs2 : Args W gs [v0, v1, v2] := .cons q_0 (.cons q_1 (.cons q_2 (.nil)))
  refine (law_calls mixed ext hargs2 (wide_of rfl) law).mono fun e W' ⟨he, bel0⟩ => ?_
  have bel : Below W.heap.size W W' := bel0
  subst he
  exact ⟨_, rfl, _, _, _, [], _, [], hW', trodAll_mk1 (shut_bool Try.underlying4 _), (trodAll_cons_mk (Below.trod laidOut (by kernel_rfl) (of_decide_eq_true (by kernel_rfl)) h0 bel (trod_below h0)) (trodAll_cons_mk (Below.trod laidOut (by kernel_rfl) (of_decide_eq_true (by kernel_rfl)) h1 bel (trod_below h1)) (trodAll_cons_mk (Below.trod laidOut (by kernel_rfl) (of_decide_eq_true (by kernel_rfl)) h2 bel (trod_below h2)) trodAll_mk0))), rfl, bel.frame _, fun h => by cases h⟩
theorem over : Rows.ringTwoRow.holds Try.pinned (OpenSpec.ofChange Rows.ringTwoSpec) :=
  OpenClaim.holds_of_wide 8 Try.f8 rfl rfl rfl rfl rfl rfl rfl ⟨rfl, rfl, rfl, rfl, rfl⟩ rfl rfl rfl rfl rfl (by kernel_rfl) Try.func8 (by kernel_rfl)
    (of_decide_eq_true (by kernel_rfl)) (by unfold Func.isWrapper; first | (rw [if_pos (by decide +kernel)]; kernel_rfl) | (rw [if_neg (by decide +kernel)]; exact ⟨rfl, rfl⟩))
    (fun os started H enc _ => lifted os started H enc)
theorem proved : Rows.RingTwoSaid := over
#print axioms proved
end Go.Proofs.Ytgjickapnfnkfaa.ringTwo
namespace Go.Proofs.Ytgjickapnfnkfaa
/-- The row, under a short name, for the claim. -/
theorem ringTwo_holds : Rows.RingTwoSaid := ringTwo.proved
end Go.Proofs.Ytgjickapnfnkfaa

