/- The statement ObjectOwn: what the small machine answers, Go answers; written by wip/tools/row.py, out of wip/fn. -/
import Derived.Test.YtjiadcekkalgjaaRows
import Derived.Test.YtjiadcekkalgjaaLObjectOwn
import Derived.Test.YtjiadcekkalgjaaMf
import Derived.WalkKit
import Derived.ProofKit
import Derived.OpenShut
import Derived.ShutString
import Derived.ChangeOld
import Derived.Below
import Derived.SizedLaws
import Derived.KernelRfl
namespace Go.Proofs.Ytjiadcekkalgjaa.objectOwn
open Go.ChangeShapes Go.WideShapes Go.ChangeAt Go.RowKit
open Go.ChangeMaps (open_string shut_string)
open Go.Proofs.YtjiadcekkalgjaaW.Ai
set_option linter.unusedVariables false
set_option linter.unusedSimpArgs false
theorem own : ownKnob Try.prog.godebug = none := by kernel_rfl
theorem laidOut : laidOutB Try.prog = true := by kernel_rfl
theorem mixed : Try.prog.follows .mixedOrders = true := by kernel_rfl
open Go.Shelf
def ren : Ren := ⟨fun x => if x = 21 then 53 else if x = 27 then 58 else if x = 28 then 59 else if x = 35 then 61 else if x = 39 then 62 else x, fun x => if x = 0 then 0 else if x = 3 then 3 else if x = 4 then 4 else if x = 22 then 22 else x, fun x => x⟩
set_option maxRecDepth 100000 in
theorem lays : Lays2.n21 Try.prog ren where
  mixed := mixed
  f21 := Try.func53.trans (congrArg some (by kernel_rfl))
  f27 := Try.func58.trans (congrArg some (by kernel_rfl))
  f28 := Try.func59.trans (congrArg some (by kernel_rfl))
  f35 := Try.func61.trans (congrArg some (by kernel_rfl))
  f39 := Try.func62.trans (congrArg some (by kernel_rfl))
  t0 := Try.underlying0
  a0 := Try.isAgg0
  z0 := Try.sizeOf0
  v0 := Try.zeroValue0
  t3 := Try.underlying3
  a3 := Try.isAgg3
  z3 := Try.sizeOf3
  v3 := Try.zeroValue3
  t4 := Try.underlying4
  a4 := Try.isAgg4
  z4 := Try.sizeOf4
  v4 := Try.zeroValue4
  t22 := Try.underlying22
  a22 := Try.isAgg22
  z22 := Try.sizeOf22
  v22 := Try.zeroValue22
  i3 := by kernel_rfl
set_option maxRecDepth 100000 in
theorem awake : ClosedX (insExt 53) Try.prog 15 (.bool true) := ⟨rfl, 60, by kernel_rfl⟩
theorem ext (nb : Nat) : XOk Try.prog nb (clExtX (libX (Rs.func Try.prog) 53 54) [(15, .bool true)]) := clExtX_ok (fun nb => libX_ok lays mixed 54) (fun nb => insExt_ok lays) mixed (fun p hp => by simp at hp; subst hp; exact awake)
def gs : List (Bool × List CK) := [(false, [.f (.int .i64)]), (true, [.sl [.int .i64] 8, .sl [.int .i64] 8, .sl [.int .i64] 8, .sl [.int .i64] 8]), (true, [.f (.int .i64), .f (.int .i64), .f (.int .i64)])]
noncomputable abbrev XT : Ext := clExtX (libX (Rs.func Try.prog) 53 54) [(15, .bool true)]
theorem nX (g : FuncId) (hg : g ≠ 15 ∧ g ≠ 53 ∧ g ≠ 54) : XT g = none := by simp [XT, clExtX, libX, Ne.symm hg.1, hg.2.1, hg.2.2]
theorem iX : XT 53 = some insA := by simp [XT, clExtX, libX]
theorem dX : XT 54 = some (cutX (Rs.func Try.prog) 54) := by simp [XT, clExtX, libX]
theorem t_aw : S_yes XT (Rs.func Try.prog) 15 := fun lim h => ⟨1, .bool true, h, rfl, Pfx.refl h, rfl⟩
set_option maxRecDepth 100000 in
theorem F_5 : Rs.func Try.prog 5 = some (rf_ObjectOwn 15 8 11 10 16 17 12) := by kernel_rfl
set_option maxRecDepth 100000 in
theorem F_8 : Rs.func Try.prog 8 = some (rf_oApply 18 19 20 21) := by kernel_rfl
set_option maxRecDepth 100000 in
theorem F_18 : Rs.func Try.prog 18 = some rf_oIs := by kernel_rfl
theorem t_18 : S_oIs XT (Rs.func Try.prog) 18 := s_oIs (nX 18 (by decide)) F_18
set_option maxRecDepth 100000 in
theorem F_19 : Rs.func Try.prog 19 = some (rf_tStore 33) := by kernel_rfl
set_option maxRecDepth 100000 in
theorem F_33 : Rs.func Try.prog 33 = some (rf_sApply 27 38 39 41 40) := by kernel_rfl
set_option maxRecDepth 100000 in
theorem F_27 : Rs.func Try.prog 27 = some (rf_sMay 37) := by kernel_rfl
set_option maxRecDepth 100000 in
theorem F_37 : Rs.func Try.prog 37 = some (rf_Args 47 49) := by kernel_rfl
set_option maxRecDepth 100000 in
theorem F_47 : Rs.func Try.prog 47 = some (rf_Args1 48) := by kernel_rfl
set_option maxRecDepth 100000 in
theorem F_48 : Rs.func Try.prog 48 = some rf_oArg := by kernel_rfl
theorem t_48 : S_oArg XT (Rs.func Try.prog) 48 := s_oArg (nX 48 (by decide)) F_48
theorem t_47 : S_Args1 XT (Rs.func Try.prog) 47 := s_Args1 (nX 47 (by decide)) F_47 t_48
set_option maxRecDepth 100000 in
theorem F_49 : Rs.func Try.prog 49 = some (rf_ContainsFunc 55) := by kernel_rfl
set_option maxRecDepth 100000 in
theorem F_55 : Rs.func Try.prog 55 = some rf_IndexFunc := by kernel_rfl
theorem t_49 : S_ContainsFunc XT (Rs.func Try.prog) 49 := s_ContainsFunc (nX 49 (by decide)) F_49 (nX 55 (by decide)) F_55
theorem t_37 : S_Args XT (Rs.func Try.prog) 37 := s_Args (nX 37 (by decide)) F_37 t_47 t_49
theorem t_27 : S_sMay XT (Rs.func Try.prog) 27 := s_sMay (nX 27 (by decide)) F_27 t_37
set_option maxRecDepth 100000 in
theorem F_38 : Rs.func Try.prog 38 = some (rf_oMay 48) := by kernel_rfl
theorem t_38 : S_oMay XT (Rs.func Try.prog) 38 := s_oMay (nX 38 (by decide)) F_38 t_48
set_option maxRecDepth 100000 in
theorem F_39 : Rs.func Try.prog 39 = some (rf_sCopy 50) := by kernel_rfl
set_option maxRecDepth 100000 in
theorem F_50 : Rs.func Try.prog 50 = some rf_Clone := by kernel_rfl
theorem t_50 : S_Clone XT (Rs.func Try.prog) 50 := s_Clone (nX 50 (by decide)) F_50
theorem t_39 : S_sCopy XT (Rs.func Try.prog) 39 := s_sCopy (nX 39 (by decide)) F_39 t_50
set_option maxRecDepth 100000 in
theorem F_41 : Rs.func Try.prog 41 = some (rf_Concat 51) := by kernel_rfl
set_option maxRecDepth 100000 in
theorem F_51 : Rs.func Try.prog 51 = some rf_Grow := by kernel_rfl
theorem t_51 : S_Grow XT (Rs.func Try.prog) 51 := s_Grow (nX 51 (by decide)) F_51
theorem t_41 : S_Concat XT (Rs.func Try.prog) 41 := s_Concat (nX 41 (by decide)) F_41 t_51
set_option maxRecDepth 100000 in
theorem F_40 : Rs.func Try.prog 40 = some rf_sum := by kernel_rfl
theorem t_40 : S_sum XT (Rs.func Try.prog) 40 := s_sum (nX 40 (by decide)) F_40
theorem t_33 : S_sApply XT (Rs.func Try.prog) 33 := s_sApply (nX 33 (by decide)) F_33 t_27 t_38 t_39 t_41 t_40
theorem t_19 : S_tStore XT (Rs.func Try.prog) 19 := s_tStore (nX 19 (by decide)) F_19 t_33
set_option maxRecDepth 100000 in
theorem F_20 : Rs.func Try.prog 20 = some (rf_tFds 34) := by kernel_rfl
set_option maxRecDepth 100000 in
theorem F_34 : Rs.func Try.prog 34 = some (rf_fdsApply 28 38 39 42 43 44) := by kernel_rfl
set_option maxRecDepth 100000 in
theorem F_28 : Rs.func Try.prog 28 = some rf_fMay := by kernel_rfl
theorem t_28 : S_fMay XT (Rs.func Try.prog) 28 := s_fMay (nX 28 (by decide)) F_28
set_option maxRecDepth 100000 in
theorem F_42 : Rs.func Try.prog 42 = some (rf_fTaken 52 53) := by kernel_rfl
set_option maxRecDepth 100000 in
theorem F_52 : Rs.func Try.prog 52 = some (rf_BS 56 57) := by kernel_rfl
set_option maxRecDepth 100000 in
theorem F_56 : Rs.func Try.prog 56 = some (rf_Less 60) := by kernel_rfl
set_option maxRecDepth 100000 in
theorem F_60 : Rs.func Try.prog 60 = some rf_NaN1 := by kernel_rfl
theorem t_60 : S_NaN XT (Rs.func Try.prog) 60 := s_NaN1 (nX 60 (by decide)) F_60
theorem t_56 : S_Less XT (Rs.func Try.prog) 56 := s_Less (nX 56 (by decide)) F_56 t_60
set_option maxRecDepth 100000 in
theorem F_57 : Rs.func Try.prog 57 = some rf_NaN2 := by kernel_rfl
theorem t_57 : S_NaN XT (Rs.func Try.prog) 57 := s_NaN2 (nX 57 (by decide)) F_57
theorem t_52 : S_BS XT (Rs.func Try.prog) 52 := s_BS (nX 52 (by decide)) F_52 t_56 t_57
theorem t_42_fTaken2 : S_fTaken2 XT (Rs.func Try.prog) 42 := s_fTaken2 (nX 42 (by decide)) F_42 t_52 iX
set_option maxRecDepth 100000 in
theorem F_43 : Rs.func Try.prog 43 = some (rf_fFreed 52 54) := by kernel_rfl
set_option maxRecDepth 100000 in
theorem F_54 : Rs.func Try.prog 54 = some rf_Del := by kernel_rfl
theorem t_54 : S_Del XT (Rs.func Try.prog) 54 := s_Del dX F_54
theorem t_43 : S_fFreed2 XT (Rs.func Try.prog) 43 := s_fFreed (nX 43 (by decide)) F_43 t_52 t_54
set_option maxRecDepth 100000 in
theorem F_44 : Rs.func Try.prog 44 = some (rf_fMany 41) := by kernel_rfl
theorem t_44 : S_fMany XT (Rs.func Try.prog) 44 := s_fMany (nX 44 (by decide)) F_44 t_41
theorem t_34 : S_fdsApply XT (Rs.func Try.prog) 34 := s_fdsApply (nX 34 (by decide)) F_34 t_28 t_38 (nX 39 (by decide)) F_39 (nX 50 (by decide)) F_50 t_42_fTaken2 t_43 t_44
theorem t_20 : S_tFds XT (Rs.func Try.prog) 20 := s_tFds (nX 20 (by decide)) F_20 t_34
set_option maxRecDepth 100000 in
theorem F_21 : Rs.func Try.prog 21 = some (rf_tQueue 35) := by kernel_rfl
set_option maxRecDepth 100000 in
theorem F_35 : Rs.func Try.prog 35 = some (rf_qApply 29 38 39 45 46 44) := by kernel_rfl
set_option maxRecDepth 100000 in
theorem F_29 : Rs.func Try.prog 29 = some (rf_qMay 37) := by kernel_rfl
theorem t_29 : S_qMay XT (Rs.func Try.prog) 29 := s_qMay (nX 29 (by decide)) F_29 t_37
set_option maxRecDepth 100000 in
theorem F_45 : Rs.func Try.prog 45 = some rf_qin := by kernel_rfl
theorem t_45 : S_in2 XT (Rs.func Try.prog) 45 := s_qin (nX 45 (by decide)) F_45
set_option maxRecDepth 100000 in
theorem F_46 : Rs.func Try.prog 46 = some rf_qout := by kernel_rfl
theorem t_46 : S_out2 XT (Rs.func Try.prog) 46 := s_qout (nX 46 (by decide)) F_46
theorem t_35 : S_qApply XT (Rs.func Try.prog) 35 := s_qApply (nX 35 (by decide)) F_35 t_29 t_38 (nX 39 (by decide)) F_39 (nX 50 (by decide)) F_50 t_45 t_46 t_44
theorem t_21 : S_tQueue XT (Rs.func Try.prog) 21 := s_tQueue (nX 21 (by decide)) F_21 t_35
theorem t_8 : S_oApply XT (Rs.func Try.prog) 8 := s_oApply (nX 8 (by decide)) F_8 t_18 t_19 t_20 t_21
set_option maxRecDepth 100000 in
theorem F_11 : Rs.func Try.prog 11 = some rf_Num := by kernel_rfl
theorem t_11 : S_Num XT (Rs.func Try.prog) 11 := s_Num (nX 11 (by decide)) F_11
set_option maxRecDepth 100000 in
theorem F_10 : Rs.func Try.prog 10 = some (rf_SameState 17) := by kernel_rfl
set_option maxRecDepth 100000 in
theorem F_17 : Rs.func Try.prog 17 = some rf_SameInts := by kernel_rfl
theorem t_17 : S_SameInts XT (Rs.func Try.prog) 17 := s_SameInts (nX 17 (by decide)) F_17
theorem t_10 : S_SameState XT (Rs.func Try.prog) 10 := s_SameState (nX 10 (by decide)) F_10 t_17
set_option maxRecDepth 100000 in
theorem F_16 : Rs.func Try.prog 16 = some (rf_OperMay 32) := by kernel_rfl
set_option maxRecDepth 100000 in
theorem F_32 : Rs.func Try.prog 32 = some rf_upTo := by kernel_rfl
theorem t_32 : S_upTo XT (Rs.func Try.prog) 32 := s_upTo (nX 32 (by decide)) F_32
theorem t_16 : S_OperMay XT (Rs.func Try.prog) 16 := s_OperMay (nX 16 (by decide)) F_16 t_32
set_option maxRecDepth 100000 in
theorem F_12 : Rs.func Try.prog 12 = some (rf_oMay3 27 28 29) := by kernel_rfl
theorem t_12 : S_oMay3 XT (Rs.func Try.prog) 12 := s_oMay3 (nX 12 (by decide)) F_12 t_27 t_28 t_29
set_option maxRecDepth 100000 in
theorem law (h : AH) (us : List Value) (hu : AArgs h gs us) : Ret XT (Rs.func Try.prog) h.length 5 us h fun v _ => v = .bool true := by
  cases hu with
  | cons h0 k =>
  cases k with
  | cons h1 k =>
  cases k with
  | cons h2 k =>
  cases k
  obtain ⟨x0, rfl, hx0⟩ := h0.int
  obtain ⟨r01, r11, r21, r31, rfl, hr1⟩ := h1.state
  obtain ⟨c2, r2, o2, rfl, ho2⟩ := h2.op
  exact s_ObjectOwn (nX 5 (by decide)) F_5 t_aw t_8 t_11 t_10 t_16 t_17 t_12 h hx0 hr1 ho2
set_option maxRecDepth 100000 in
theorem lifted (os : Os) (started : os.Started) (H : Type) (enc : TypeId × Value → H) :
    ReturnsInHanded {} Try.checked os 5 .any (Rows.objectOwnSpec.pre6 enc Try.prog Try.f5 Rows.objectOwnRow.domain false) (Rows.objectOwnSpec.post enc Try.prog Try.f5 false true false false) := by
  refine returnsInHanded_of_change_sized (C := Try.checked) own started (by kernel_rfl) Try.func5
    (ChangeSpec.witness6 (enc := enc) (C := Try.checked) false ⟨#[], #[.int .i64 0, .agg #[.slice none 0 0, .slice none 0 0, .slice none 0 0, .slice none 0 0], .agg #[.int .i64 0, .int .i64 0, .int .i64 0]], []⟩ 8 (by kernel_rfl) (by kernel_rfl) (by kernel_rfl) (by kernel_rfl)) ?_
  intro W base args ds gs0 before hval0 hW hcnd hsz0 _
  have hsz : (DataW.weightsEach Try.prog (Try.f5.params.toList ++ Rows.objectOwnSpec.plain.varTypes Try.prog) (ds ++ gs0)).all (· ≤ reachBytes) = true := hsz0
  have hval : ∀ (j : Nat) t v, Try.f5.params[j]? = some t → args[j]? = some v → Value.okWide Try.prog W .any base t v := hval0
  have hW' := hW
  obtain ⟨p, q, hA0, hV, rfl, hfz, hnd⟩ := hW
  have hA : DataW.TrodAll enc Try.prog W 0 (fun _ => true) true Try.f5.params.toList args.toList ds p := hA0
  rw [Try.params5] at hA hval hsz
  obtain ⟨v0, vs0, d0, ds0, p0, q0, hargs, rfl, rfl, h0, r0⟩ := trodAll_cons hA
  obtain ⟨v1, vs1, d1, ds1, p1, q1, rfl, rfl, rfl, h1, r1⟩ := trodAll_cons r0
  obtain ⟨v2, vs2, d2, ds2, p2, q2, rfl, rfl, rfl, h2, r2⟩ := trodAll_cons r1
  obtain ⟨rfl, rfl, rfl⟩ := trodAll_nil r2
  obtain rfl : args = #[v0, v1, v2] := by cases args; simp_all
  obtain ⟨rfl, rfl⟩ := trodVars_none hV
  have q_0 : ArgIs W (false, [.f (.int .i64)]) v0 := argIs_int Try.underlying3 (hval 0 3 v0 rfl rfl) h0 (arg_cok (j := 0) (d := 8) (ks := [.f (.int .i64)]) (by kernel_rfl) hsz rfl rfl h0)
  have q_1 : ArgIs W (true, [.sl [.int .i64] 8, .sl [.int .i64] 8, .sl [.int .i64] 8, .sl [.int .i64] 8]) v1 := argIs_struct Try.underlying25 (hval 1 25 v1 rfl rfl) (arg_cok (j := 1) (d := 8) (ks := [.sl [.int .i64] 8, .sl [.int .i64] 8, .sl [.int .i64] 8, .sl [.int .i64] 8]) (by kernel_rfl) hsz rfl rfl h1)
  have q_2 : ArgIs W (true, [.f (.int .i64), .f (.int .i64), .f (.int .i64)]) v2 := argIs_struct Try.underlying27 (hval 2 27 v2 rfl rfl) (arg_cok (j := 2) (d := 8) (ks := [.f (.int .i64), .f (.int .i64), .f (.int .i64)]) (by kernel_rfl) hsz rfl rfl h2)
  have hargs2 : Args W gs [v0, v1, v2] := .cons q_0 (.cons q_1 (.cons q_2 (.nil)))
  refine (law_calls mixed ext hargs2 (wide_of rfl) law).mono fun e W' ⟨he, bel0⟩ => ?_
  have bel : Below W.heap.size W W' := bel0
  subst he
  exact ⟨_, rfl, _, _, _, [], _, [], hW', trodAll_mk1 (shut_bool Try.underlying4 _), (trodAll_cons_mk (Below.trod laidOut (by kernel_rfl) (of_decide_eq_true (by kernel_rfl)) h0 bel (trod_below h0)) (trodAll_cons_mk (Below.trod laidOut (by kernel_rfl) (of_decide_eq_true (by kernel_rfl)) h1 bel (trod_below h1)) (trodAll_cons_mk (Below.trod laidOut (by kernel_rfl) (of_decide_eq_true (by kernel_rfl)) h2 bel (trod_below h2)) trodAll_mk0))), rfl, bel.frame _, fun h => by cases h⟩
theorem over : Rows.objectOwnRow.holds Try.pinned (OpenSpec.ofChange Rows.objectOwnSpec) :=
  OpenClaim.holds_of_wide 5 Try.f5 rfl rfl rfl rfl rfl rfl rfl ⟨rfl, rfl, rfl, rfl, rfl⟩ rfl rfl rfl rfl rfl (by kernel_rfl) Try.func5 (by kernel_rfl)
    (of_decide_eq_true (by kernel_rfl)) (by unfold Func.isWrapper; first | (rw [if_pos (by decide +kernel)]; kernel_rfl) | (rw [if_neg (by decide +kernel)]; exact ⟨rfl, rfl⟩))
    (fun os started H enc _ => lifted os started H enc)
theorem proved : Rows.ObjectOwnSaid := over
#print axioms proved
end Go.Proofs.Ytjiadcekkalgjaa.objectOwn
namespace Go.Proofs.Ytjiadcekkalgjaa
/-- The row, under a short name, for the claim. -/
theorem objectOwn_holds : Rows.ObjectOwnSaid := objectOwn.proved
end Go.Proofs.Ytjiadcekkalgjaa

