/- The statement CommuteTable: what the small machine answers, Go answers; written by wip/tools/row.py, out of wip/fn. -/
import Derived.Test.YtomemdiaglbibaaRows
import Derived.Test.YtomemdiaglbibaaLCommuteTable
import Derived.Test.YtomemdiaglbibaaMf
import Derived.WalkKit
import Derived.ProofKit
import Derived.OpenShut
import Derived.ShutString
import Derived.ChangeOld
import Derived.Below
import Derived.SizedLaws
import Derived.KernelRfl
namespace Go.Proofs.Ytomemdiaglbibaa.commuteTable
open Go.ChangeShapes Go.WideShapes Go.ChangeAt Go.RowKit
open Go.ChangeMaps (open_string shut_string)
open Go.Proofs.YtomemdiaglbibaaW.Ai
set_option linter.unusedVariables false
set_option linter.unusedSimpArgs false
theorem own : ownKnob Try.prog.godebug = none := by kernel_rfl
theorem laidOut : laidOutB Try.prog = true := by kernel_rfl
theorem mixed : Try.prog.follows .mixedOrders = true := by kernel_rfl
open Go.Shelf
def ren : Ren := ⟨fun x => if x = 21 then 57 else if x = 27 then 63 else if x = 28 then 64 else if x = 35 then 67 else if x = 39 then 68 else x, fun x => if x = 0 then 0 else if x = 3 then 3 else if x = 4 then 4 else if x = 22 then 22 else x, fun x => x⟩
set_option maxRecDepth 100000 in
theorem lays : Lays2.n21 Try.prog ren where
  mixed := mixed
  f21 := Try.func57.trans (congrArg some (by kernel_rfl))
  f27 := Try.func63.trans (congrArg some (by kernel_rfl))
  f28 := Try.func64.trans (congrArg some (by kernel_rfl))
  f35 := Try.func67.trans (congrArg some (by kernel_rfl))
  f39 := Try.func68.trans (congrArg some (by kernel_rfl))
  t0 := Try.underlying0
  a0 := Try.isAgg0
  z0 := Try.sizeOf0
  v0 := Try.zeroValue0
  t3 := Try.underlying3
  a3 := Try.isAgg3
  z3 := Try.sizeOf3
  v3 := Try.zeroValue3
  t4 := Try.underlying4
  a4 := Try.isAgg4
  z4 := Try.sizeOf4
  v4 := Try.zeroValue4
  t22 := Try.underlying22
  a22 := Try.isAgg22
  z22 := Try.sizeOf22
  v22 := Try.zeroValue22
  i3 := by kernel_rfl
set_option maxRecDepth 100000 in
theorem awake : ClosedX (insExt 57) Try.prog 13 (.bool true) := ⟨rfl, 60, by kernel_rfl⟩
theorem ext (nb : Nat) : XOk Try.prog nb (clExtX (libX (Rs.func Try.prog) 57 58) [(13, .bool true)]) := clExtX_ok (fun nb => libX_ok lays mixed 58) (fun nb => insExt_ok lays) mixed (fun p hp => by simp at hp; subst hp; exact awake)
def gs : List (Bool × List CK) := [(false, [.f (.int .i64)])]
noncomputable abbrev XT : Ext := clExtX (libX (Rs.func Try.prog) 57 58) [(13, .bool true)]
theorem nX (g : FuncId) (hg : g ≠ 13 ∧ g ≠ 57 ∧ g ≠ 58) : XT g = none := by simp [XT, clExtX, libX, Ne.symm hg.1, hg.2.1, hg.2.2]
theorem iX : XT 57 = some insA := by simp [XT, clExtX, libX]
theorem dX : XT 58 = some (cutX (Rs.func Try.prog) 58) := by simp [XT, clExtX, libX]
theorem t_aw : S_yes XT (Rs.func Try.prog) 13 := fun lim h => ⟨1, .bool true, h, rfl, Pfx.refl h, rfl⟩
set_option maxRecDepth 100000 in
theorem F_5 : Rs.func Try.prog 5 = some (rf_CommuteTable 13 9 11) := by kernel_rfl
set_option maxRecDepth 100000 in
theorem F_9 : Rs.func Try.prog 9 = some (rf_cBoth 15 16) := by kernel_rfl
set_option maxRecDepth 100000 in
theorem F_15 : Rs.func Try.prog 15 = some (rf_cRow 26) := by kernel_rfl
set_option maxRecDepth 100000 in
theorem F_26 : Rs.func Try.prog 26 = some (rf_oApply 33 34 35 36) := by kernel_rfl
set_option maxRecDepth 100000 in
theorem F_33 : Rs.func Try.prog 33 = some rf_oIs := by kernel_rfl
theorem t_33 : S_oIs XT (Rs.func Try.prog) 33 := s_oIs (nX 33 (by decide)) F_33
set_option maxRecDepth 100000 in
theorem F_34 : Rs.func Try.prog 34 = some (rf_tStore 37) := by kernel_rfl
set_option maxRecDepth 100000 in
theorem F_37 : Rs.func Try.prog 37 = some (rf_sApply 40 41 42 44 43) := by kernel_rfl
set_option maxRecDepth 100000 in
theorem F_40 : Rs.func Try.prog 40 = some (rf_sMay 52) := by kernel_rfl
set_option maxRecDepth 100000 in
theorem F_52 : Rs.func Try.prog 52 = some (rf_Args 59 60) := by kernel_rfl
set_option maxRecDepth 100000 in
theorem F_59 : Rs.func Try.prog 59 = some (rf_Args1 53) := by kernel_rfl
set_option maxRecDepth 100000 in
theorem F_53 : Rs.func Try.prog 53 = some rf_oArg := by kernel_rfl
theorem t_53 : S_oArg XT (Rs.func Try.prog) 53 := s_oArg (nX 53 (by decide)) F_53
theorem t_59 : S_Args1 XT (Rs.func Try.prog) 59 := s_Args1 (nX 59 (by decide)) F_59 t_53
set_option maxRecDepth 100000 in
theorem F_60 : Rs.func Try.prog 60 = some (rf_ContainsFunc 65) := by kernel_rfl
set_option maxRecDepth 100000 in
theorem F_65 : Rs.func Try.prog 65 = some rf_IndexFunc := by kernel_rfl
theorem t_60 : S_ContainsFunc XT (Rs.func Try.prog) 60 := s_ContainsFunc (nX 60 (by decide)) F_60 (nX 65 (by decide)) F_65
theorem t_52 : S_Args XT (Rs.func Try.prog) 52 := s_Args (nX 52 (by decide)) F_52 t_59 t_60
theorem t_40 : S_sMay XT (Rs.func Try.prog) 40 := s_sMay (nX 40 (by decide)) F_40 t_52
set_option maxRecDepth 100000 in
theorem F_41 : Rs.func Try.prog 41 = some (rf_oMay 53) := by kernel_rfl
theorem t_41 : S_oMay XT (Rs.func Try.prog) 41 := s_oMay (nX 41 (by decide)) F_41 t_53
set_option maxRecDepth 100000 in
theorem F_42 : Rs.func Try.prog 42 = some (rf_sCopy 54) := by kernel_rfl
set_option maxRecDepth 100000 in
theorem F_54 : Rs.func Try.prog 54 = some rf_Clone := by kernel_rfl
theorem t_54 : S_Clone XT (Rs.func Try.prog) 54 := s_Clone (nX 54 (by decide)) F_54
theorem t_42 : S_sCopy XT (Rs.func Try.prog) 42 := s_sCopy (nX 42 (by decide)) F_42 t_54
set_option maxRecDepth 100000 in
theorem F_44 : Rs.func Try.prog 44 = some (rf_Concat 55) := by kernel_rfl
set_option maxRecDepth 100000 in
theorem F_55 : Rs.func Try.prog 55 = some rf_Grow := by kernel_rfl
theorem t_55 : S_Grow XT (Rs.func Try.prog) 55 := s_Grow (nX 55 (by decide)) F_55
theorem t_44 : S_Concat XT (Rs.func Try.prog) 44 := s_Concat (nX 44 (by decide)) F_44 t_55
set_option maxRecDepth 100000 in
theorem F_43 : Rs.func Try.prog 43 = some rf_sum := by kernel_rfl
theorem t_43 : S_sum XT (Rs.func Try.prog) 43 := s_sum (nX 43 (by decide)) F_43
theorem t_37 : S_sApply XT (Rs.func Try.prog) 37 := s_sApply (nX 37 (by decide)) F_37 t_40 t_41 t_42 t_44 t_43
theorem t_34 : S_tStore XT (Rs.func Try.prog) 34 := s_tStore (nX 34 (by decide)) F_34 t_37
set_option maxRecDepth 100000 in
theorem F_35 : Rs.func Try.prog 35 = some (rf_tFds 38) := by kernel_rfl
set_option maxRecDepth 100000 in
theorem F_38 : Rs.func Try.prog 38 = some (rf_fdsApply 45 41 42 46 47 48) := by kernel_rfl
set_option maxRecDepth 100000 in
theorem F_45 : Rs.func Try.prog 45 = some rf_fMay := by kernel_rfl
theorem t_45 : S_fMay XT (Rs.func Try.prog) 45 := s_fMay (nX 45 (by decide)) F_45
set_option maxRecDepth 100000 in
theorem F_46 : Rs.func Try.prog 46 = some (rf_fTaken 56 57) := by kernel_rfl
set_option maxRecDepth 100000 in
theorem F_56 : Rs.func Try.prog 56 = some (rf_BS 61 62) := by kernel_rfl
set_option maxRecDepth 100000 in
theorem F_61 : Rs.func Try.prog 61 = some (rf_Less 66) := by kernel_rfl
set_option maxRecDepth 100000 in
theorem F_66 : Rs.func Try.prog 66 = some rf_NaN1 := by kernel_rfl
theorem t_66 : S_NaN XT (Rs.func Try.prog) 66 := s_NaN1 (nX 66 (by decide)) F_66
theorem t_61 : S_Less XT (Rs.func Try.prog) 61 := s_Less (nX 61 (by decide)) F_61 t_66
set_option maxRecDepth 100000 in
theorem F_62 : Rs.func Try.prog 62 = some rf_NaN2 := by kernel_rfl
theorem t_62 : S_NaN XT (Rs.func Try.prog) 62 := s_NaN2 (nX 62 (by decide)) F_62
theorem t_56 : S_BS XT (Rs.func Try.prog) 56 := s_BS (nX 56 (by decide)) F_56 t_61 t_62
theorem t_46_fTaken2 : S_fTaken2 XT (Rs.func Try.prog) 46 := s_fTaken2 (nX 46 (by decide)) F_46 t_56 iX
set_option maxRecDepth 100000 in
theorem F_47 : Rs.func Try.prog 47 = some (rf_fFreed 56 58) := by kernel_rfl
set_option maxRecDepth 100000 in
theorem F_58 : Rs.func Try.prog 58 = some rf_Del := by kernel_rfl
theorem t_58 : S_Del XT (Rs.func Try.prog) 58 := s_Del dX F_58
theorem t_47 : S_fFreed2 XT (Rs.func Try.prog) 47 := s_fFreed (nX 47 (by decide)) F_47 t_56 t_58
set_option maxRecDepth 100000 in
theorem F_48 : Rs.func Try.prog 48 = some (rf_fMany 44) := by kernel_rfl
theorem t_48 : S_fMany XT (Rs.func Try.prog) 48 := s_fMany (nX 48 (by decide)) F_48 t_44
theorem t_38 : S_fdsApply XT (Rs.func Try.prog) 38 := s_fdsApply (nX 38 (by decide)) F_38 t_45 t_41 (nX 42 (by decide)) F_42 (nX 54 (by decide)) F_54 t_46_fTaken2 t_47 t_48
theorem t_35 : S_tFds XT (Rs.func Try.prog) 35 := s_tFds (nX 35 (by decide)) F_35 t_38
set_option maxRecDepth 100000 in
theorem F_36 : Rs.func Try.prog 36 = some (rf_tQueue 39) := by kernel_rfl
set_option maxRecDepth 100000 in
theorem F_39 : Rs.func Try.prog 39 = some (rf_qApply 49 41 42 50 51 48) := by kernel_rfl
set_option maxRecDepth 100000 in
theorem F_49 : Rs.func Try.prog 49 = some (rf_qMay 52) := by kernel_rfl
theorem t_49 : S_qMay XT (Rs.func Try.prog) 49 := s_qMay (nX 49 (by decide)) F_49 t_52
set_option maxRecDepth 100000 in
theorem F_50 : Rs.func Try.prog 50 = some rf_qin := by kernel_rfl
theorem t_50 : S_in2 XT (Rs.func Try.prog) 50 := s_qin (nX 50 (by decide)) F_50
set_option maxRecDepth 100000 in
theorem F_51 : Rs.func Try.prog 51 = some rf_qout := by kernel_rfl
theorem t_51 : S_out2 XT (Rs.func Try.prog) 51 := s_qout (nX 51 (by decide)) F_51
theorem t_39 : S_qApply XT (Rs.func Try.prog) 39 := s_qApply (nX 39 (by decide)) F_39 t_49 t_41 (nX 42 (by decide)) F_42 (nX 54 (by decide)) F_54 t_50 t_51 t_48
theorem t_36 : S_tQueue XT (Rs.func Try.prog) 36 := s_tQueue (nX 36 (by decide)) F_36 t_39
theorem t_26 : S_oApply XT (Rs.func Try.prog) 26 := s_oApply (nX 26 (by decide)) F_26 t_33 t_34 t_35 t_36
theorem t_15 : S_cRow XT (Rs.func Try.prog) 15 := s_cRow (nX 15 (by decide)) F_15 t_26
set_option maxRecDepth 100000 in
theorem F_16 : Rs.func Try.prog 16 = some (rf_cSame 27 28) := by kernel_rfl
set_option maxRecDepth 100000 in
theorem F_27 : Rs.func Try.prog 27 = some rf_EqF := by kernel_rfl
theorem t_27 : S_EqF XT (Rs.func Try.prog) 27 := s_EqF (nX 27 (by decide)) F_27
set_option maxRecDepth 100000 in
theorem F_28 : Rs.func Try.prog 28 = some (rf_cSame1 29) := by kernel_rfl
set_option maxRecDepth 100000 in
theorem F_29 : Rs.func Try.prog 29 = some rf_Eq := by kernel_rfl
theorem t_29 : S_Eq XT (Rs.func Try.prog) 29 := s_Eq (nX 29 (by decide)) F_29
theorem t_28 : S_cSame1 XT (Rs.func Try.prog) 28 := s_cSame1 (nX 28 (by decide)) F_28 t_29
theorem t_16 : S_SameState XT (Rs.func Try.prog) 16 := s_cSame (nX 16 (by decide)) F_16 t_27 t_28
theorem t_9 : S_cBoth XT (Rs.func Try.prog) 9 := s_cBoth (nX 9 (by decide)) F_9 t_15 t_16
set_option maxRecDepth 100000 in
theorem F_11 : Rs.func Try.prog 11 = some rf_Num := by kernel_rfl
theorem t_11 : S_Num XT (Rs.func Try.prog) 11 := s_Num (nX 11 (by decide)) F_11
set_option maxRecDepth 100000 in
theorem law (h : AH) (us : List Value) (hu : AArgs h gs us) : Ret XT (Rs.func Try.prog) h.length 5 us h fun v _ => v = .bool true := by
  cases hu with
  | cons h0 k =>
  cases k
  obtain ⟨x0, rfl, hx0⟩ := h0.int
  exact s_CommuteTable (nX 5 (by decide)) F_5 t_aw t_9 t_11 h hx0
set_option maxRecDepth 100000 in
theorem lifted (os : Os) (started : os.Started) (H : Type) (enc : TypeId × Value → H) :
    ReturnsInHanded {} Try.checked os 5 .any (Rows.commuteTableSpec.pre6 enc Try.prog Try.f5 Rows.commuteTableRow.domain false) (Rows.commuteTableSpec.post enc Try.prog Try.f5 false true false false) := by
  refine returnsInHanded_of_change_sized (C := Try.checked) own started (by kernel_rfl) Try.func5
    (ChangeSpec.witness6 (enc := enc) (C := Try.checked) false ⟨#[], #[.int .i64 0], []⟩ 8 (by kernel_rfl) (by kernel_rfl) (by kernel_rfl) (by kernel_rfl)) ?_
  intro W base args ds gs0 before hval0 hW hcnd hsz0 _
  have hsz : (DataW.weightsEach Try.prog (Try.f5.params.toList ++ Rows.commuteTableSpec.plain.varTypes Try.prog) (ds ++ gs0)).all (· ≤ reachBytes) = true := hsz0
  have hval : ∀ (j : Nat) t v, Try.f5.params[j]? = some t → args[j]? = some v → Value.okWide Try.prog W .any base t v := hval0
  have hW' := hW
  obtain ⟨p, q, hA0, hV, rfl, hfz, hnd⟩ := hW
  have hA : DataW.TrodAll enc Try.prog W 0 (fun _ => true) true Try.f5.params.toList args.toList ds p := hA0
  rw [Try.params5] at hA hval hsz
  obtain ⟨v0, vs0, d0, ds0, p0, q0, hargs, rfl, rfl, h0, r0⟩ := trodAll_cons hA
  obtain ⟨rfl, rfl, rfl⟩ := trodAll_nil r0
  obtain rfl : args = #[v0] := by cases args; simp_all
  obtain ⟨rfl, rfl⟩ := trodVars_none hV
  have q_0 : ArgIs W (false, [.f (.int .i64)]) v0 := argIs_int Try.underlying3 (hval 0 3 v0 rfl rfl) h0 (arg_cok (j := 0) (d := 8) (ks := [.f (.int .i64)]) (by kernel_rfl) hsz rfl rfl h0)
  have hargs2 : Args W gs [v0] := .cons q_0 (.nil)
  refine (law_calls mixed ext hargs2 (wide_of rfl) law).mono fun e W' ⟨he, bel0⟩ => ?_
  have bel : Below W.heap.size W W' := bel0
  subst he
  exact ⟨_, rfl, _, _, _, [], _, [], hW', trodAll_mk1 (shut_bool Try.underlying4 _), (trodAll_cons_mk (Below.trod laidOut (by kernel_rfl) (of_decide_eq_true (by kernel_rfl)) h0 bel (trod_below h0)) trodAll_mk0), rfl, bel.frame _, fun h => by cases h⟩
theorem over : Rows.commuteTableRow.holds Try.pinned (OpenSpec.ofChange Rows.commuteTableSpec) :=
  OpenClaim.holds_of_wide 5 Try.f5 rfl rfl rfl rfl rfl rfl rfl ⟨rfl, rfl, rfl, rfl, rfl⟩ rfl rfl rfl rfl rfl (by kernel_rfl) Try.func5 (by kernel_rfl)
    (of_decide_eq_true (by kernel_rfl)) (by unfold Func.isWrapper; first | (rw [if_pos (by decide +kernel)]; kernel_rfl) | (rw [if_neg (by decide +kernel)]; exact ⟨rfl, rfl⟩))
    (fun os started H enc _ => lifted os started H enc)
theorem proved : Rows.CommuteTableSaid := over
#print axioms proved
end Go.Proofs.Ytomemdiaglbibaa.commuteTable
namespace Go.Proofs.Ytomemdiaglbibaa
/-- The row, under a short name, for the claim. -/
theorem commuteTable_holds : Rows.CommuteTableSaid := commuteTable.proved
end Go.Proofs.Ytomemdiaglbibaa

