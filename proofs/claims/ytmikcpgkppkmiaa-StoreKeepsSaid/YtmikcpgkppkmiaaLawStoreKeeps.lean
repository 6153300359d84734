/- The statement StoreKeeps: what the small machine answers, Go answers; written by wip/tools/row.py, out of wip/fn. -/
import Derived.Test.YtmikcpgkppkmiaaRows
import Derived.Test.YtmikcpgkppkmiaaLStoreKeeps
import Derived.Test.YtmikcpgkppkmiaaMf
import Derived.WalkKit
import Derived.ProofKit
import Derived.OpenShut
import Derived.ShutString
import Derived.ChangeOld
import Derived.Below
import Derived.SizedLaws
import Derived.KernelRfl
namespace Go.Proofs.Ytmikcpgkppkmiaa.storeKeeps
open Go.ChangeShapes Go.WideShapes Go.ChangeAt Go.RowKit
open Go.ChangeMaps (open_string shut_string)
open Go.Proofs.YtmikcpgkppkmiaaW.Ai
set_option linter.unusedVariables false
set_option linter.unusedSimpArgs false
theorem own : ownKnob Try.prog.godebug = none := by kernel_rfl
theorem laidOut : laidOutB Try.prog = true := by kernel_rfl
theorem mixed : Try.prog.follows .mixedOrders = true := by kernel_rfl
set_option maxRecDepth 100000 in
theorem awake : Closed Try.prog 14 (.bool true) := ⟨rfl, 60, by kernel_rfl⟩
theorem ext (nb : Nat) : XOk Try.prog nb (clExt [(14, .bool true)]) := clExt_ok mixed (fun p hp => by simp at hp; subst hp; exact awake)
def gs : List (Bool × List CK) := [(true, [.sl [.int .i64] 8, .sl [.int .i64] 8, .sl [.int .i64] 8, .sl [.int .i64] 8]), (true, [.f (.int .i64), .f (.int .i64), .f (.int .i64)])]
theorem nX (g : FuncId) (hg : g ≠ 14) : clExt [(14, .bool true)] g = none := by simp [clExt, Ne.symm hg]
theorem t_aw : S_yes (clExt [(14, .bool true)]) (Rs.func Try.prog) 14 := fun lim h => ⟨1, .bool true, h, rfl, Pfx.refl h, rfl⟩
set_option maxRecDepth 100000 in
theorem F_4 : Rs.func Try.prog 4 = some (rf_StoreKeeps 14 9 12 11 15) := by kernel_rfl
set_option maxRecDepth 100000 in
theorem F_9 : Rs.func Try.prog 9 = some (rf_sApply 16 17 18 20 19) := by kernel_rfl
set_option maxRecDepth 100000 in
theorem F_16 : Rs.func Try.prog 16 = some (rf_sMay 29) := by kernel_rfl
set_option maxRecDepth 100000 in
theorem F_29 : Rs.func Try.prog 29 = some (rf_Args 36 37) := by kernel_rfl
set_option maxRecDepth 100000 in
theorem F_36 : Rs.func Try.prog 36 = some (rf_Args1 30) := by kernel_rfl
set_option maxRecDepth 100000 in
theorem F_30 : Rs.func Try.prog 30 = some rf_oArg := by kernel_rfl
theorem t_30 : S_oArg (clExt [(14, .bool true)]) (Rs.func Try.prog) 30 := s_oArg (nX 30 (by decide)) F_30
theorem t_36 : S_Args1 (clExt [(14, .bool true)]) (Rs.func Try.prog) 36 := s_Args1 (nX 36 (by decide)) F_36 t_30
set_option maxRecDepth 100000 in
theorem F_37 : Rs.func Try.prog 37 = some (rf_ContainsFunc 38) := by kernel_rfl
set_option maxRecDepth 100000 in
theorem F_38 : Rs.func Try.prog 38 = some rf_IndexFunc := by kernel_rfl
theorem t_37 : S_ContainsFunc (clExt [(14, .bool true)]) (Rs.func Try.prog) 37 := s_ContainsFunc (nX 37 (by decide)) F_37 (nX 38 (by decide)) F_38
theorem t_29 : S_Args (clExt [(14, .bool true)]) (Rs.func Try.prog) 29 := s_Args (nX 29 (by decide)) F_29 t_36 t_37
theorem t_16 : S_sMay (clExt [(14, .bool true)]) (Rs.func Try.prog) 16 := s_sMay (nX 16 (by decide)) F_16 t_29
set_option maxRecDepth 100000 in
theorem F_17 : Rs.func Try.prog 17 = some (rf_oMay 30) := by kernel_rfl
theorem t_17 : S_oMay (clExt [(14, .bool true)]) (Rs.func Try.prog) 17 := s_oMay (nX 17 (by decide)) F_17 t_30
set_option maxRecDepth 100000 in
theorem F_18 : Rs.func Try.prog 18 = some (rf_sCopy 31) := by kernel_rfl
set_option maxRecDepth 100000 in
theorem F_31 : Rs.func Try.prog 31 = some rf_Clone := by kernel_rfl
theorem t_31 : S_Clone (clExt [(14, .bool true)]) (Rs.func Try.prog) 31 := s_Clone (nX 31 (by decide)) F_31
theorem t_18 : S_sCopy (clExt [(14, .bool true)]) (Rs.func Try.prog) 18 := s_sCopy (nX 18 (by decide)) F_18 t_31
set_option maxRecDepth 100000 in
theorem F_20 : Rs.func Try.prog 20 = some (rf_Concat 32) := by kernel_rfl
set_option maxRecDepth 100000 in
theorem F_32 : Rs.func Try.prog 32 = some rf_Grow := by kernel_rfl
theorem t_32 : S_Grow (clExt [(14, .bool true)]) (Rs.func Try.prog) 32 := s_Grow (nX 32 (by decide)) F_32
theorem t_20 : S_Concat (clExt [(14, .bool true)]) (Rs.func Try.prog) 20 := s_Concat (nX 20 (by decide)) F_20 t_32
set_option maxRecDepth 100000 in
theorem F_19 : Rs.func Try.prog 19 = some rf_sum := by kernel_rfl
theorem t_19 : S_sum (clExt [(14, .bool true)]) (Rs.func Try.prog) 19 := s_sum (nX 19 (by decide)) F_19
theorem t_9 : S_sApply (clExt [(14, .bool true)]) (Rs.func Try.prog) 9 := s_sApply (nX 9 (by decide)) F_9 t_16 t_17 t_18 t_20 t_19
set_option maxRecDepth 100000 in
theorem F_12 : Rs.func Try.prog 12 = some rf_Num := by kernel_rfl
theorem t_12 : S_Num (clExt [(14, .bool true)]) (Rs.func Try.prog) 12 := s_Num (nX 12 (by decide)) F_12
set_option maxRecDepth 100000 in
theorem F_11 : Rs.func Try.prog 11 = some (rf_SameState 15) := by kernel_rfl
set_option maxRecDepth 100000 in
theorem F_15 : Rs.func Try.prog 15 = some rf_SameInts := by kernel_rfl
theorem t_15 : S_SameInts (clExt [(14, .bool true)]) (Rs.func Try.prog) 15 := s_SameInts (nX 15 (by decide)) F_15
theorem t_11 : S_SameState (clExt [(14, .bool true)]) (Rs.func Try.prog) 11 := s_SameState (nX 11 (by decide)) F_11 t_15
set_option maxRecDepth 100000 in
theorem law (h : AH) (us : List Value) (hu : AArgs h gs us) : Ret (clExt [(14, .bool true)]) (Rs.func Try.prog) h.length 4 us h fun v _ => v = .bool true := by
  cases hu with
  | cons h0 k =>
  cases k with
  | cons h1 k =>
  cases k
  obtain ⟨r00, r10, r20, r30, rfl, hr0⟩ := h0.state
  obtain ⟨c1, r1, o1, rfl, ho1⟩ := h1.op
  exact s_StoreKeeps (nX 4 (by decide)) F_4 t_aw t_9 t_12 t_11 t_15 h hr0 ho1
set_option maxRecDepth 100000 in
theorem lifted (os : Os) (started : os.Started) (H : Type) (enc : TypeId × Value → H) :
    ReturnsInHanded {} Try.checked os 4 .any (Rows.storeKeepsSpec.pre6 enc Try.prog Try.f4 Rows.storeKeepsRow.domain false) (Rows.storeKeepsSpec.post enc Try.prog Try.f4 false true false false) := by
  refine returnsInHanded_of_change_sized (C := Try.checked) own started (by kernel_rfl) Try.func4
    (ChangeSpec.witness6 (enc := enc) (C := Try.checked) false ⟨#[], #[.agg #[.slice none 0 0, .slice none 0 0, .slice none 0 0, .slice none 0 0], .agg #[.int .i64 0, .int .i64 0, .int .i64 0]], []⟩ 8 (by kernel_rfl) (by kernel_rfl) (by kernel_rfl) (by kernel_rfl)) ?_
  intro W base args ds gs0 before hval0 hW hcnd hsz0 _
  have hsz : (DataW.weightsEach Try.prog (Try.f4.params.toList ++ Rows.storeKeepsSpec.plain.varTypes Try.prog) (ds ++ gs0)).all (· ≤ reachBytes) = true := hsz0
  have hval : ∀ (j : Nat) t v, Try.f4.params[j]? = some t → args[j]? = some v → Value.okWide Try.prog W .any base t v := hval0
  have hW' := hW
  obtain ⟨p, q, hA0, hV, rfl, hfz, hnd⟩ := hW
  have hA : DataW.TrodAll enc Try.prog W 0 (fun _ => true) true Try.f4.params.toList args.toList ds p := hA0
  rw [Try.params4] at hA hval hsz
  obtain ⟨v0, vs0, d0, ds0, p0, q0, hargs, rfl, rfl, h0, r0⟩ := trodAll_cons hA
  obtain ⟨v1, vs1, d1, ds1, p1, q1, rfl, rfl, rfl, h1, r1⟩ := trodAll_cons r0
  obtain ⟨rfl, rfl, rfl⟩ := trodAll_nil r1
  obtain rfl : args = #[v0, v1] := by cases args; simp_all
  obtain ⟨rfl, rfl⟩ := trodVars_none hV
  have q_0 : ArgIs W (true, [.sl [.int .i64] 8, .sl [.int .i64] 8, .sl [.int .i64] 8, .sl [.int .i64] 8]) v0 := argIs_struct Try.underlying25 (hval 0 25 v0 rfl rfl) (arg_cok (j := 0) (d := 8) (ks := [.sl [.int .i64] 8, .sl [.int .i64] 8, .sl [.int .i64] 8, .sl [.int .i64] 8]) (by kernel_rfl) hsz rfl rfl h0)
  have q_1 : ArgIs W (true, [.f (.int .i64), .f (.int .i64), .f (.int .i64)]) v1 := argIs_struct Try.underlying27 (hval 1 27 v1 rfl rfl) (arg_cok (j := 1) (d := 8) (ks := [.f (.int .i64), .f (.int .i64), .f (.int .i64)]) (by kernel_rfl) hsz rfl rfl h1)
  have hargs2 : Args W gs [v0, v1] := .cons q_0 (.cons q_1 (.nil))
  refine (law_calls mixed ext hargs2 (wide_of rfl) law).mono fun e W' ⟨he, bel0⟩ => ?_
  have bel : Below W.heap.size W W' := bel0
  subst he
  exact ⟨_, rfl, _, _, _, [], _, [], hW', trodAll_mk1 (shut_bool Try.underlying4 _), (trodAll_cons_mk (Below.trod laidOut (by kernel_rfl) (of_decide_eq_true (by kernel_rfl)) h0 bel (trod_below h0)) (trodAll_cons_mk (Below.trod laidOut (by kernel_rfl) (of_decide_eq_true (by kernel_rfl)) h1 bel (trod_below h1)) trodAll_mk0)), rfl, bel.frame _, fun h => by cases h⟩
theorem over : Rows.storeKeepsRow.holds Try.pinned (OpenSpec.ofChange Rows.storeKeepsSpec) :=
  OpenClaim.holds_of_wide 4 Try.f4 rfl rfl rfl rfl rfl rfl rfl ⟨rfl, rfl, rfl, rfl, rfl⟩ rfl rfl rfl rfl rfl (by kernel_rfl) Try.func4 (by kernel_rfl)
    (of_decide_eq_true (by kernel_rfl)) (by unfold Func.isWrapper; first | (rw [if_pos (by decide +kernel)]; kernel_rfl) | (rw [if_neg (by decide +kernel)]; exact ⟨rfl, rfl⟩))
    (fun os started H enc _ => lifted os started H enc)
theorem proved : Rows.StoreKeepsSaid := over
#print axioms proved
end Go.Proofs.Ytmikcpgkppkmiaa.storeKeeps
namespace Go.Proofs.Ytmikcpgkppkmiaa
/-- The row, under a short name, for the claim. -/
theorem storeKeeps_holds : Rows.StoreKeepsSaid := storeKeeps.proved
end Go.Proofs.Ytmikcpgkppkmiaa

