/- The statement Folds: what the small machine answers, Go answers; written by wip/tools/row.py, out of wip/fn. -/
import Derived.Test.YtdcpmchhioilpaaRows
import Derived.Test.YtdcpmchhioilpaaLFolds
import Derived.Test.YtdcpmchhioilpaaMf
import Derived.WalkKit
import Derived.ProofKit
import Derived.OpenShut
import Derived.ShutString
import Derived.ChangeOld
import Derived.Below
import Derived.SizedLaws
import Derived.KernelRfl
namespace Go.Proofs.Ytdcpmchhioilpaa.folds
open Go.ChangeShapes Go.WideShapes Go.ChangeAt Go.RowKit
open Go.ChangeMaps (open_string shut_string)
open Go.Proofs.YtdcpmchhioilpaaW.Ai
set_option linter.unusedVariables false
set_option linter.unusedSimpArgs false
theorem own : ownKnob Try.prog.godebug = none := by kernel_rfl
theorem laidOut : laidOutB Try.prog = true := by kernel_rfl
theorem mixed : Try.prog.follows .mixedOrders = true := by kernel_rfl
open Go.Shelf
def ren : Ren := ⟨fun x => if x = 21 then 62 else if x = 27 then 66 else if x = 28 then 67 else if x = 35 then 69 else if x = 39 then 70 else x, fun x => if x = 0 then 0 else if x = 3 then 3 else if x = 4 then 4 else if x = 22 then 22 else x, fun x => x⟩
set_option maxRecDepth 100000 in
theorem lays : Lays2.n21 Try.prog ren where
  mixed := mixed
  f21 := Try.func62.trans (congrArg some (by kernel_rfl))
  f27 := Try.func66.trans (congrArg some (by kernel_rfl))
  f28 := Try.func67.trans (congrArg some (by kernel_rfl))
  f35 := Try.func69.trans (congrArg some (by kernel_rfl))
  f39 := Try.func70.trans (congrArg some (by kernel_rfl))
  t0 := Try.underlying0
  a0 := Try.isAgg0
  z0 := Try.sizeOf0
  v0 := Try.zeroValue0
  t3 := Try.underlying3
  a3 := Try.isAgg3
  z3 := Try.sizeOf3
  v3 := Try.zeroValue3
  t4 := Try.underlying4
  a4 := Try.isAgg4
  z4 := Try.sizeOf4
  v4 := Try.zeroValue4
  t22 := Try.underlying22
  a22 := Try.isAgg22
  z22 := Try.sizeOf22
  v22 := Try.zeroValue22
  i3 := by kernel_rfl
set_option maxRecDepth 100000 in
theorem awake : ClosedX (insExt 62) Try.prog 19 (.bool true) := ⟨rfl, 60, by kernel_rfl⟩
theorem ext (nb : Nat) : XOk Try.prog nb (clExtX (libX (Rs.func Try.prog) 62 63) [(19, .bool true)]) := clExtX_ok (fun nb => libX_ok lays mixed 63) (fun nb => insExt_ok lays) mixed (fun p hp => by simp at hp; subst hp; exact awake)
def gs : List (Bool × List CK) := [(false, [.f (.int .i64)]), (true, [.sl [.int .i64] 8, .sl [.int .i64] 8, .sl [.int .i64] 8, .sl [.int .i64] 8]), (false, [.sl [.int .i64, .int .i64, .int .i64] 24])]
noncomputable abbrev XT : Ext := clExtX (libX (Rs.func Try.prog) 62 63) [(19, .bool true)]
theorem nX (g : FuncId) (hg : g ≠ 19 ∧ g ≠ 62 ∧ g ≠ 63) : XT g = none := by simp [XT, clExtX, libX, Ne.symm hg.1, hg.2.1, hg.2.2]
theorem iX : XT 62 = some insA := by simp [XT, clExtX, libX]
theorem dX : XT 63 = some (cutX (Rs.func Try.prog) 63) := by simp [XT, clExtX, libX]
theorem t_aw : S_yes XT (Rs.func Try.prog) 19 := fun lim h => ⟨1, .bool true, h, rfl, Pfx.refl h, rfl⟩
set_option maxRecDepth 100000 in
theorem F_3 : Rs.func Try.prog 3 = some (rf_Folds 9 10 11 12 13 14 15 16 17 18 19) := by kernel_rfl
set_option maxRecDepth 100000 in
theorem F_9 : Rs.func Try.prog 9 = some rf_lCopyState := by kernel_rfl
theorem t_9 : S_lCopyState XT (Rs.func Try.prog) 9 := s_lCopyState (nX 9 (by decide)) F_9
set_option maxRecDepth 100000 in
theorem F_10 : Rs.func Try.prog 10 = some (rf_LendOps 22) := by kernel_rfl
set_option maxRecDepth 100000 in
theorem F_22 : Rs.func Try.prog 22 = some rf_CopyOps := by kernel_rfl
theorem t_22 : S_CopyOps XT (Rs.func Try.prog) 22 := s_CopyOps (nX 22 (by decide)) F_22
theorem t_10 : S_LendOps XT (Rs.func Try.prog) 10 := s_LendOps (nX 10 (by decide)) F_10 t_22
set_option maxRecDepth 100000 in
theorem F_11 : Rs.func Try.prog 11 = some (rf_fFold 23 24 25) := by kernel_rfl
set_option maxRecDepth 100000 in
theorem F_23 : Rs.func Try.prog 23 = some (rf_oMay3 34 35 36) := by kernel_rfl
set_option maxRecDepth 100000 in
theorem F_34 : Rs.func Try.prog 34 = some (rf_sMay 44) := by kernel_rfl
set_option maxRecDepth 100000 in
theorem F_44 : Rs.func Try.prog 44 = some (rf_Args 48 50) := by kernel_rfl
set_option maxRecDepth 100000 in
theorem F_48 : Rs.func Try.prog 48 = some (rf_Args1 49) := by kernel_rfl
set_option maxRecDepth 100000 in
theorem F_49 : Rs.func Try.prog 49 = some rf_oArg := by kernel_rfl
theorem t_49 : S_oArg XT (Rs.func Try.prog) 49 := s_oArg (nX 49 (by decide)) F_49
theorem t_48 : S_Args1 XT (Rs.func Try.prog) 48 := s_Args1 (nX 48 (by decide)) F_48 t_49
set_option maxRecDepth 100000 in
theorem F_50 : Rs.func Try.prog 50 = some (rf_ContainsFunc 59) := by kernel_rfl
set_option maxRecDepth 100000 in
theorem F_59 : Rs.func Try.prog 59 = some rf_IndexFunc := by kernel_rfl
theorem t_50 : S_ContainsFunc XT (Rs.func Try.prog) 50 := s_ContainsFunc (nX 50 (by decide)) F_50 (nX 59 (by decide)) F_59
theorem t_44 : S_Args XT (Rs.func Try.prog) 44 := s_Args (nX 44 (by decide)) F_44 t_48 t_50
theorem t_34 : S_sMay XT (Rs.func Try.prog) 34 := s_sMay (nX 34 (by decide)) F_34 t_44
set_option maxRecDepth 100000 in
theorem F_35 : Rs.func Try.prog 35 = some rf_fMay := by kernel_rfl
theorem t_35 : S_fMay XT (Rs.func Try.prog) 35 := s_fMay (nX 35 (by decide)) F_35
set_option maxRecDepth 100000 in
theorem F_36 : Rs.func Try.prog 36 = some (rf_qMay 44) := by kernel_rfl
theorem t_36 : S_qMay XT (Rs.func Try.prog) 36 := s_qMay (nX 36 (by decide)) F_36 t_44
theorem t_23 : S_oMay3 XT (Rs.func Try.prog) 23 := s_oMay3 (nX 23 (by decide)) F_23 t_34 t_35 t_36
set_option maxRecDepth 100000 in
theorem F_24 : Rs.func Try.prog 24 = some (rf_sCopy 37) := by kernel_rfl
set_option maxRecDepth 100000 in
theorem F_37 : Rs.func Try.prog 37 = some rf_Clone := by kernel_rfl
theorem t_37 : S_Clone XT (Rs.func Try.prog) 37 := s_Clone (nX 37 (by decide)) F_37
theorem t_24 : S_sCopy XT (Rs.func Try.prog) 24 := s_sCopy (nX 24 (by decide)) F_24 t_37
set_option maxRecDepth 100000 in
theorem F_25 : Rs.func Try.prog 25 = some (rf_oApply 38 39 40 41) := by kernel_rfl
set_option maxRecDepth 100000 in
theorem F_38 : Rs.func Try.prog 38 = some rf_oIs := by kernel_rfl
theorem t_38 : S_oIs XT (Rs.func Try.prog) 38 := s_oIs (nX 38 (by decide)) F_38
set_option maxRecDepth 100000 in
theorem F_39 : Rs.func Try.prog 39 = some (rf_tStore 45) := by kernel_rfl
set_option maxRecDepth 100000 in
theorem F_45 : Rs.func Try.prog 45 = some (rf_sApply 34 51 24 53 52) := by kernel_rfl
set_option maxRecDepth 100000 in
theorem F_51 : Rs.func Try.prog 51 = some (rf_oMay 49) := by kernel_rfl
theorem t_51 : S_oMay XT (Rs.func Try.prog) 51 := s_oMay (nX 51 (by decide)) F_51 t_49
set_option maxRecDepth 100000 in
theorem F_53 : Rs.func Try.prog 53 = some (rf_Concat 60) := by kernel_rfl
set_option maxRecDepth 100000 in
theorem F_60 : Rs.func Try.prog 60 = some rf_Grow := by kernel_rfl
theorem t_60 : S_Grow XT (Rs.func Try.prog) 60 := s_Grow (nX 60 (by decide)) F_60
theorem t_53 : S_Concat XT (Rs.func Try.prog) 53 := s_Concat (nX 53 (by decide)) F_53 t_60
set_option maxRecDepth 100000 in
theorem F_52 : Rs.func Try.prog 52 = some rf_sum := by kernel_rfl
theorem t_52 : S_sum XT (Rs.func Try.prog) 52 := s_sum (nX 52 (by decide)) F_52
theorem t_45 : S_sApply XT (Rs.func Try.prog) 45 := s_sApply (nX 45 (by decide)) F_45 t_34 t_51 t_24 t_53 t_52
theorem t_39 : S_tStore XT (Rs.func Try.prog) 39 := s_tStore (nX 39 (by decide)) F_39 t_45
set_option maxRecDepth 100000 in
theorem F_40 : Rs.func Try.prog 40 = some (rf_tFds 46) := by kernel_rfl
set_option maxRecDepth 100000 in
theorem F_46 : Rs.func Try.prog 46 = some (rf_fdsApply 35 51 24 54 55 56) := by kernel_rfl
set_option maxRecDepth 100000 in
theorem F_54 : Rs.func Try.prog 54 = some (rf_fTaken 61 62) := by kernel_rfl
set_option maxRecDepth 100000 in
theorem F_61 : Rs.func Try.prog 61 = some (rf_BS 64 65) := by kernel_rfl
set_option maxRecDepth 100000 in
theorem F_64 : Rs.func Try.prog 64 = some (rf_Less 68) := by kernel_rfl
set_option maxRecDepth 100000 in
theorem F_68 : Rs.func Try.prog 68 = some rf_NaN1 := by kernel_rfl
theorem t_68 : S_NaN XT (Rs.func Try.prog) 68 := s_NaN1 (nX 68 (by decide)) F_68
theorem t_64 : S_Less XT (Rs.func Try.prog) 64 := s_Less (nX 64 (by decide)) F_64 t_68
set_option maxRecDepth 100000 in
theorem F_65 : Rs.func Try.prog 65 = some rf_NaN2 := by kernel_rfl
theorem t_65 : S_NaN XT (Rs.func Try.prog) 65 := s_NaN2 (nX 65 (by decide)) F_65
theorem t_61 : S_BS XT (Rs.func Try.prog) 61 := s_BS (nX 61 (by decide)) F_61 t_64 t_65
theorem t_54_fTaken2 : S_fTaken2 XT (Rs.func Try.prog) 54 := s_fTaken2 (nX 54 (by decide)) F_54 t_61 iX
set_option maxRecDepth 100000 in
theorem F_55 : Rs.func Try.prog 55 = some (rf_fFreed 61 63) := by kernel_rfl
set_option maxRecDepth 100000 in
theorem F_63 : Rs.func Try.prog 63 = some rf_Del := by kernel_rfl
theorem t_63 : S_Del XT (Rs.func Try.prog) 63 := s_Del dX F_63
theorem t_55 : S_fFreed2 XT (Rs.func Try.prog) 55 := s_fFreed (nX 55 (by decide)) F_55 t_61 t_63
set_option maxRecDepth 100000 in
theorem F_56 : Rs.func Try.prog 56 = some (rf_fMany 53) := by kernel_rfl
theorem t_56 : S_fMany XT (Rs.func Try.prog) 56 := s_fMany (nX 56 (by decide)) F_56 t_53
theorem t_46 : S_fdsApply XT (Rs.func Try.prog) 46 := s_fdsApply (nX 46 (by decide)) F_46 t_35 t_51 (nX 24 (by decide)) F_24 (nX 37 (by decide)) F_37 t_54_fTaken2 t_55 t_56
theorem t_40 : S_tFds XT (Rs.func Try.prog) 40 := s_tFds (nX 40 (by decide)) F_40 t_46
set_option maxRecDepth 100000 in
theorem F_41 : Rs.func Try.prog 41 = some (rf_tQueue 47) := by kernel_rfl
set_option maxRecDepth 100000 in
theorem F_47 : Rs.func Try.prog 47 = some (rf_qApply 36 51 24 57 58 56) := by kernel_rfl
set_option maxRecDepth 100000 in
theorem F_57 : Rs.func Try.prog 57 = some rf_qin := by kernel_rfl
theorem t_57 : S_in2 XT (Rs.func Try.prog) 57 := s_qin (nX 57 (by decide)) F_57
set_option maxRecDepth 100000 in
theorem F_58 : Rs.func Try.prog 58 = some rf_qout := by kernel_rfl
theorem t_58 : S_out2 XT (Rs.func Try.prog) 58 := s_qout (nX 58 (by decide)) F_58
theorem t_47 : S_qApply XT (Rs.func Try.prog) 47 := s_qApply (nX 47 (by decide)) F_47 t_36 t_51 (nX 24 (by decide)) F_24 (nX 37 (by decide)) F_37 t_57 t_58 t_56
theorem t_41 : S_tQueue XT (Rs.func Try.prog) 41 := s_tQueue (nX 41 (by decide)) F_41 t_47
theorem t_25 : S_oApply XT (Rs.func Try.prog) 25 := s_oApply (nX 25 (by decide)) F_25 t_38 t_39 t_40 t_41
theorem t_11 : S_fFold XT (Rs.func Try.prog) 11 := s_fFold (nX 11 (by decide)) F_11 t_23 t_24 t_25
set_option maxRecDepth 100000 in
theorem F_12 : Rs.func Try.prog 12 = some (rf_rFold 21 26 20) := by kernel_rfl
set_option maxRecDepth 100000 in
theorem F_21 : Rs.func Try.prog 21 = some (rf_StateMay 33) := by kernel_rfl
set_option maxRecDepth 100000 in
theorem F_33 : Rs.func Try.prog 33 = some (rf_rowMay 42) := by kernel_rfl
set_option maxRecDepth 100000 in
theorem F_42 : Rs.func Try.prog 42 = some rf_upTo := by kernel_rfl
theorem t_42 : S_upTo XT (Rs.func Try.prog) 42 := s_upTo (nX 42 (by decide)) F_42
theorem t_33 : S_rowMay XT (Rs.func Try.prog) 33 := s_rowMay (nX 33 (by decide)) F_33 t_42
theorem t_21 : S_StateMay XT (Rs.func Try.prog) 21 := s_StateMay (nX 21 (by decide)) F_21 t_33
theorem t_33_rowMay1 : S_rowMay1 XT (Rs.func Try.prog) 33 := s_rowMay1 (nX 33 (by decide)) F_33 t_42
theorem t_21_StateMay1 : S_StateMay1 XT (Rs.func Try.prog) 21 := s_StateMay1 (nX 21 (by decide)) F_21 t_33_rowMay1
theorem t_21_StateMayX : S_rowMayX XT (Rs.func Try.prog) 21 := s_StateMayX (nX 21 (by decide)) F_21
theorem t_21_StateMayO : S_StateMayO XT (Rs.func Try.prog) 21 := s_StateMayO (nX 21 (by decide)) F_21 t_21 t_21_StateMay1 t_21_StateMayX
set_option maxRecDepth 100000 in
theorem F_26 : Rs.func Try.prog 26 = some rf_rCopyState := by kernel_rfl
theorem t_26 : S_rCopyState XT (Rs.func Try.prog) 26 := s_rCopyState (nX 26 (by decide)) F_26
set_option maxRecDepth 100000 in
theorem F_20 : Rs.func Try.prog 20 = some (rf_rApply 21 28 26 29 30 31 32) := by kernel_rfl
set_option maxRecDepth 100000 in
theorem F_28 : Rs.func Try.prog 28 = some (rf_OperMay 42) := by kernel_rfl
theorem t_28 : S_OperMay XT (Rs.func Try.prog) 28 := s_OperMay (nX 28 (by decide)) F_28 t_42
set_option maxRecDepth 100000 in
theorem F_29 : Rs.func Try.prog 29 = some rf_first := by kernel_rfl
theorem t_29 : S_first XT (Rs.func Try.prog) 29 := s_first (nX 29 (by decide)) F_29
set_option maxRecDepth 100000 in
theorem F_30 : Rs.func Try.prog 30 = some (rf_storeRow 29) := by kernel_rfl
theorem t_30 : S_storeRow XT (Rs.func Try.prog) 30 := s_storeRow (nX 30 (by decide)) F_30 t_29
theorem t_20 : S_rApplyS XT (Rs.func Try.prog) 20 := s_rApply (nX 20 (by decide)) F_20 t_21 t_28 t_26 t_29 t_30
set_option maxRecDepth 100000 in
theorem F_31 : Rs.func Try.prog 31 = some (rf_fdsRow 43) := by kernel_rfl
set_option maxRecDepth 100000 in
theorem F_43 : Rs.func Try.prog 43 = some rf_has := by kernel_rfl
theorem t_43 : S_has XT (Rs.func Try.prog) 43 := s_has (nX 43 (by decide)) F_43
theorem t_31 : S_fdsRow XT (Rs.func Try.prog) 31 := s_fdsRow (nX 31 (by decide)) F_31 t_43
theorem t_20_rApplyF : S_rApplyF XT (Rs.func Try.prog) 20 := s_rApplyF (nX 20 (by decide)) F_20 t_21_StateMay1 t_28 (nX 26 (by decide)) F_26 t_31
set_option maxRecDepth 100000 in
theorem F_32 : Rs.func Try.prog 32 = some rf_queueRow := by kernel_rfl
theorem t_32 : S_queueRow XT (Rs.func Try.prog) 32 := s_queueRow (nX 32 (by decide)) F_32
theorem t_20_rApplyQ : S_rApplyQ XT (Rs.func Try.prog) 20 := s_rApplyQ (nX 20 (by decide)) F_20 t_21 t_28 (nX 26 (by decide)) F_26 t_32
theorem t_20_rApplyX : S_rApplyX XT (Rs.func Try.prog) 20 := s_rApplyX (nX 20 (by decide)) F_20 t_21_StateMayX
theorem t_20_rApplyO : S_rApplyO XT (Rs.func Try.prog) 20 := s_rApplyO F_20 t_20 t_20_rApplyF t_20_rApplyQ t_20_rApplyX
theorem t_12 : S_rFold XT (Rs.func Try.prog) 12 := s_rFold (nX 12 (by decide)) F_12 t_21_StateMayO t_26 t_20_rApplyO
set_option maxRecDepth 100000 in
theorem F_13 : Rs.func Try.prog 13 = some (rf_SameState 14) := by kernel_rfl
set_option maxRecDepth 100000 in
theorem F_14 : Rs.func Try.prog 14 = some rf_SameInts := by kernel_rfl
theorem t_14 : S_SameInts XT (Rs.func Try.prog) 14 := s_SameInts (nX 14 (by decide)) F_14
theorem t_13 : S_SameState XT (Rs.func Try.prog) 13 := s_SameState (nX 13 (by decide)) F_13 t_14
set_option maxRecDepth 100000 in
theorem F_15 : Rs.func Try.prog 15 = some rf_Num := by kernel_rfl
theorem t_15 : S_Num XT (Rs.func Try.prog) 15 := s_Num (nX 15 (by decide)) F_15
set_option maxRecDepth 100000 in
theorem F_16 : Rs.func Try.prog 16 = some (rf_SpoilState 17) := by kernel_rfl
set_option maxRecDepth 100000 in
theorem F_17 : Rs.func Try.prog 17 = some rf_SpoilInts := by kernel_rfl
theorem t_17 : S_SpoilInts XT (Rs.func Try.prog) 17 := s_SpoilInts (nX 17 (by decide)) F_17
theorem t_16 : S_SpoilState XT (Rs.func Try.prog) 16 := s_SpoilState (nX 16 (by decide)) F_16 t_17
set_option maxRecDepth 100000 in
theorem F_18 : Rs.func Try.prog 18 = some (rf_KeptOps 27) := by kernel_rfl
set_option maxRecDepth 100000 in
theorem F_27 : Rs.func Try.prog 27 = some rf_SameOps := by kernel_rfl
theorem t_27 : S_SameOps XT (Rs.func Try.prog) 27 := s_SameOps (nX 27 (by decide)) F_27
theorem t_18 : S_KeptOps XT (Rs.func Try.prog) 18 := s_KeptOps (nX 18 (by decide)) F_18 t_27
set_option maxRecDepth 100000 in
theorem law (h : AH) (us : List Value) (hu : AArgs h gs us) : Ret XT (Rs.func Try.prog) h.length 3 us h fun v _ => v = .bool true := by
  cases hu with
  | cons h0 k =>
  cases k with
  | cons h1 k =>
  cases k with
  | cons h2 k =>
  cases k
  obtain ⟨x0, rfl, hx0⟩ := h0.int
  obtain ⟨r01, r11, r21, r31, rfl, hr1⟩ := h1.state
  obtain ⟨a2, n2, ss2, rfl, hs2, hf2, hn2⟩ := h2.ops
  exact s_Folds (nX 3 (by decide)) F_3 t_9 t_10 t_11 t_12 t_13 t_14 t_15 t_16 t_17 t_18 t_aw h hx0 hr1 hs2 hf2 hn2
set_option maxRecDepth 100000 in
theorem lifted (os : Os) (started : os.Started) (H : Type) (enc : TypeId × Value → H) :
    ReturnsInHanded {} Try.checked os 3 .any (Rows.foldsSpec.pre6 enc Try.prog Try.f3 Rows.foldsRow.domain false) (Rows.foldsSpec.post enc Try.prog Try.f3 false true false false) := by
  refine returnsInHanded_of_change_sized (C := Try.checked) own started (by kernel_rfl) Try.func3
    (ChangeSpec.witness6 (enc := enc) (C := Try.checked) false ⟨#[], #[.int .i64 0, .agg #[.slice none 0 0, .slice none 0 0, .slice none 0 0, .slice none 0 0], .slice none 0 0], []⟩ 8 (by kernel_rfl) (by kernel_rfl) (by kernel_rfl) (by kernel_rfl)) ?_
  intro W base args ds gs0 before hval0 hW hcnd hsz0 _
  have hsz : (DataW.weightsEach Try.prog (Try.f3.params.toList ++ Rows.foldsSpec.plain.varTypes Try.prog) (ds ++ gs0)).all (· ≤ reachBytes) = true := hsz0
  have hval : ∀ (j : Nat) t v, Try.f3.params[j]? = some t → args[j]? = some v → Value.okWide Try.prog W .any base t v := hval0
  have hW' := hW
  obtain ⟨p, q, hA0, hV, rfl, hfz, hnd⟩ := hW
  have hA : DataW.TrodAll enc Try.prog W 0 (fun _ => true) true Try.f3.params.toList args.toList ds p := hA0
  rw [Try.params3] at hA hval hsz
  obtain ⟨v0, vs0, d0, ds0, p0, q0, hargs, rfl, rfl, h0, r0⟩ := trodAll_cons hA
  obtain ⟨v1, vs1, d1, ds1, p1, q1, rfl, rfl, rfl, h1, r1⟩ := trodAll_cons r0
  obtain ⟨v2, vs2, d2, ds2, p2, q2, rfl, rfl, rfl, h2, r2⟩ := trodAll_cons r1
  obtain ⟨rfl, rfl, rfl⟩ := trodAll_nil r2
  obtain rfl : args = #[v0, v1, v2] := by cases args; simp_all
  obtain ⟨rfl, rfl⟩ := trodVars_none hV
  have q_0 : ArgIs W (false, [.f (.int .i64)]) v0 := argIs_int Try.underlying3 (hval 0 3 v0 rfl rfl) h0 (arg_cok (j := 0) (d := 8) (ks := [.f (.int .i64)]) (by kernel_rfl) hsz rfl rfl h0)
  have q_1 : ArgIs W (true, [.sl [.int .i64] 8, .sl [.int .i64] 8, .sl [.int .i64] 8, .sl [.int .i64] 8]) v1 := argIs_struct Try.underlying25 (hval 1 25 v1 rfl rfl) (arg_cok (j := 1) (d := 8) (ks := [.sl [.int .i64] 8, .sl [.int .i64] 8, .sl [.int .i64] 8, .sl [.int .i64] 8]) (by kernel_rfl) hsz rfl rfl h1)
  have q_2 : ArgIs W (false, [.sl [.int .i64, .int .i64, .int .i64] 24]) v2 := argIs_slice Try.underlying26 (hval 2 26 v2 rfl rfl) (arg_cok (j := 2) (d := 8) (ks := [.sl [.int .i64, .int .i64, .int .i64] 24]) (by kernel_rfl) hsz rfl rfl h2)
  have hargs2 : Args W gs [v0, v1, v2] := .cons q_0 (.cons q_1 (.cons q_2 (.nil)))
  refine (law_calls mixed ext hargs2 (wide_of rfl) law).mono fun e W' ⟨he, bel0⟩ => ?_
  have bel : Below W.heap.size W W' := bel0
  subst he
  exact ⟨_, rfl, _, _, _, [], _, [], hW', trodAll_mk1 (shut_bool Try.underlying4 _), (trodAll_cons_mk (Below.trod laidOut (by kernel_rfl) (of_decide_eq_true (by kernel_rfl)) h0 bel (trod_below h0)) (trodAll_cons_mk (Below.trod laidOut (by kernel_rfl) (of_decide_eq_true (by kernel_rfl)) h1 bel (trod_below h1)) (trodAll_cons_mk (Below.trod laidOut (by kernel_rfl) (of_decide_eq_true (by kernel_rfl)) h2 bel (trod_below h2)) trodAll_mk0))), rfl, bel.frame _, fun h => by cases h⟩
theorem over : Rows.foldsRow.holds Try.pinned (OpenSpec.ofChange Rows.foldsSpec) :=
  OpenClaim.holds_of_wide 3 Try.f3 rfl rfl rfl rfl rfl rfl rfl ⟨rfl, rfl, rfl, rfl, rfl⟩ rfl rfl rfl rfl rfl (by kernel_rfl) Try.func3 (by kernel_rfl)
    (of_decide_eq_true (by kernel_rfl)) (by unfold Func.isWrapper; first | (rw [if_pos (by decide +kernel)]; kernel_rfl) | (rw [if_neg (by decide +kernel)]; exact ⟨rfl, rfl⟩))
    (fun os started H enc _ => lifted os started H enc)
theorem proved : Rows.FoldsSaid := over
#print axioms proved
end Go.Proofs.Ytdcpmchhioilpaa.folds
namespace Go.Proofs.Ytdcpmchhioilpaa
/-- The row, under a short name, for the claim. -/
theorem folds_holds : Rows.FoldsSaid := folds.proved
end Go.Proofs.Ytdcpmchhioilpaa

