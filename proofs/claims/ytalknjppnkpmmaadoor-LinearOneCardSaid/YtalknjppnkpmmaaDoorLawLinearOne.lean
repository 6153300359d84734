/- The statement LinearOne: what the small machine answers, Go answers; written by wip/tools/row.py, out of wip/fn. -/
import Derived.Test.YtalknjppnkpmmaaDoorRows
import Derived.Test.YtalknjppnkpmmaaDoorLLinearOne
import Derived.Test.YtalknjppnkpmmaaDoorMf
import Derived.Test.YtalknjppnkpmmaaDoorTie
import Derived.Test.YtalknjppnkpmmaaDoorCards
import Derived.Test.YtalknjppnkpmmaaDoorNx
import Derived.Test.YtalknjppnkpmmaaDoorMh
import Derived.LaidMore
import Derived.Lib.LaidTab
import Derived.Stop.LaidErr
import Derived.Stop.Joined
import Derived.SevenTiedAt
import Derived.WalkKit
import Derived.ProofKit
import Derived.OpenShut
import Derived.ShutString
import Derived.ChangeOld
import Derived.Below
import Derived.SizedLaws
import Derived.KernelRfl
namespace Go.Proofs.YtalknjppnkpmmaaDoor.linearOne
open Go.ChangeShapes Go.WideShapes Go.ChangeAt Go.RowKit
open Go.ChangeMaps (open_string shut_string)
open Go.Proofs.YtalknjppnkpmmaaDoorW.Ai
set_option linter.unusedVariables false
set_option maxRecDepth 100000
set_option linter.unusedSimpArgs false
theorem own : ownKnob Tryd.prog.godebug = none := by kernel_rfl
theorem laidOut : laidOutB Tryd.prog = true := by kernel_rfl
theorem mixed : Tryd.prog.follows .mixedOrders = true := by kernel_rfl
open Go.Shelf
def ren : Ren := ⟨fun x => if x = 21 then 77 else if x = 27 then 88 else if x = 28 then 89 else if x = 35 then 94 else if x = 39 then 95 else x, fun x => if x = 0 then 0 else if x = 3 then 3 else if x = 4 then 4 else if x = 22 then 35 else x, fun x => x⟩
theorem lays : Lays2.n21 Tryd.prog ren where
  mixed := mixed
  f21 := Tryd.func77.trans (congrArg some (by kernel_rfl))
  f27 := Tryd.func88.trans (congrArg some (by kernel_rfl))
  f28 := Tryd.func89.trans (congrArg some (by kernel_rfl))
  f35 := Tryd.func94.trans (congrArg some (by kernel_rfl))
  f39 := Tryd.func95.trans (congrArg some (by kernel_rfl))
  t0 := Tryd.underlying0
  a0 := Tryd.isAgg0
  z0 := Tryd.sizeOf0
  v0 := Tryd.zeroValue0
  t3 := Tryd.underlying3
  a3 := Tryd.isAgg3
  z3 := Tryd.sizeOf3
  v3 := Tryd.zeroValue3
  t4 := Tryd.underlying4
  a4 := Tryd.isAgg4
  z4 := Tryd.sizeOf4
  v4 := Tryd.zeroValue4
  t22 := Tryd.underlying35
  a22 := Tryd.isAgg35
  z22 := Tryd.sizeOf35
  v22 := Tryd.zeroValue35
  i3 := by kernel_rfl
theorem awake : ClosedX nameX Tryd.prog 15 (.bool true) := ⟨rfl, 100, by kernel_rfl⟩
theorem ext (nb : Nat) : XOk Tryd.prog nb (clExtX (orX nameX (libX (Rs.func Tryd.prog) 77 78)) [(15, .bool true)]) := clExtX_ok (fun nb => orX_ok nameX_ok (libX_ok lays mixed 78)) (fun nb => nameX_ok) mixed (fun p hp => by simp at hp; subst hp; exact awake)
def gs : List (Bool × List CK) := [(false, [.f (.int .i64)]), (false, [.sl [.int .i64, .int .i64, .int .i64] 24]), (false, [.f (.int .i64)]), (false, [.f (.int .i64)])]
noncomputable abbrev XT : Ext := clExtX (orX nameX (libX (Rs.func Tryd.prog) 77 78)) [(15, .bool true)]
theorem nX (g : FuncId) (hg : g ≠ 15 ∧ g ≠ 77 ∧ g ≠ 78 ∧ g ≠ 38) : XT g = none := by simp [XT, clExtX, orX, nameX, libX, Ne.symm hg.1, hg.2.1, hg.2.2.1, hg.2.2.2]
theorem iX : XT 77 = some insA := by simp [XT, clExtX, orX, nameX, libX]
theorem dX : XT 78 = some (cutX (Rs.func Tryd.prog) 78) := by simp [XT, clExtX, orX, nameX, libX]
theorem mX : XT 38 = some nameA := by simp [XT, clExtX, orX, nameX]
theorem t_aw : S_yes XT (Rs.func Tryd.prog) 15 := fun lim h => ⟨1, .bool true, h, rfl, Pfx.refl h, rfl⟩
theorem F_4 : Rs.func Tryd.prog 4 = some (rf_LinearOne 15 16 12 13) := by kernel_rfl
theorem F_16 : Rs.func Tryd.prog 16 = some (rf_rApply 18 26 27 28 29 30 31) := by kernel_rfl
theorem F_18 : Rs.func Tryd.prog 18 = some (rf_StateMay 33) := by kernel_rfl
theorem F_33 : Rs.func Tryd.prog 33 = some (rf_rowMay 41) := by kernel_rfl
theorem F_41 : Rs.func Tryd.prog 41 = some rf_upTo := by kernel_rfl
theorem t_41 : S_upTo XT (Rs.func Tryd.prog) 41 := s_upTo (nX 41 (by decide)) F_41
theorem t_33 : S_rowMay XT (Rs.func Tryd.prog) 33 := s_rowMay (nX 33 (by decide)) F_33 t_41
theorem t_18 : S_StateMay XT (Rs.func Tryd.prog) 18 := s_StateMay (nX 18 (by decide)) F_18 t_33
theorem F_26 : Rs.func Tryd.prog 26 = some (rf_OperMay 41) := by kernel_rfl
theorem t_26 : S_OperMay XT (Rs.func Tryd.prog) 26 := s_OperMay (nX 26 (by decide)) F_26 t_41
theorem F_27 : Rs.func Tryd.prog 27 = some rf_rCopyState := by kernel_rfl
theorem t_27 : S_rCopyState XT (Rs.func Tryd.prog) 27 := s_rCopyState (nX 27 (by decide)) F_27
theorem F_28 : Rs.func Tryd.prog 28 = some rf_first := by kernel_rfl
theorem t_28 : S_first XT (Rs.func Tryd.prog) 28 := s_first (nX 28 (by decide)) F_28
theorem F_29 : Rs.func Tryd.prog 29 = some (rf_storeRow 28) := by kernel_rfl
theorem t_29 : S_storeRow XT (Rs.func Tryd.prog) 29 := s_storeRow (nX 29 (by decide)) F_29 t_28
theorem t_16 : S_rApplyS XT (Rs.func Tryd.prog) 16 := s_rApply (nX 16 (by decide)) F_16 t_18 t_26 t_27 t_28 t_29
theorem t_33_rowMay1 : S_rowMay1 XT (Rs.func Tryd.prog) 33 := s_rowMay1 (nX 33 (by decide)) F_33 t_41
theorem t_18_StateMay1 : S_StateMay1 XT (Rs.func Tryd.prog) 18 := s_StateMay1 (nX 18 (by decide)) F_18 t_33_rowMay1
theorem F_30 : Rs.func Tryd.prog 30 = some (rf_fdsRow 42) := by kernel_rfl
theorem F_42 : Rs.func Tryd.prog 42 = some rf_has := by kernel_rfl
theorem t_42 : S_has XT (Rs.func Tryd.prog) 42 := s_has (nX 42 (by decide)) F_42
theorem t_30 : S_fdsRow XT (Rs.func Tryd.prog) 30 := s_fdsRow (nX 30 (by decide)) F_30 t_42
theorem t_16_rApplyF : S_rApplyF XT (Rs.func Tryd.prog) 16 := s_rApplyF (nX 16 (by decide)) F_16 t_18_StateMay1 t_26 (nX 27 (by decide)) F_27 t_30
theorem F_31 : Rs.func Tryd.prog 31 = some rf_queueRow := by kernel_rfl
theorem t_31 : S_queueRow XT (Rs.func Tryd.prog) 31 := s_queueRow (nX 31 (by decide)) F_31
theorem t_16_rApplyQ : S_rApplyQ XT (Rs.func Tryd.prog) 16 := s_rApplyQ (nX 16 (by decide)) F_16 t_18 t_26 (nX 27 (by decide)) F_27 t_31
theorem t_18_StateMayX : S_rowMayX XT (Rs.func Tryd.prog) 18 := s_StateMayX (nX 18 (by decide)) F_18
theorem t_16_rApplyX : S_rApplyX XT (Rs.func Tryd.prog) 16 := s_rApplyX (nX 16 (by decide)) F_16 t_18_StateMayX
theorem t_16_rApplyO : S_rApplyO XT (Rs.func Tryd.prog) 16 := s_rApplyO F_16 t_16 t_16_rApplyF t_16_rApplyQ t_16_rApplyX
theorem F_12 : Rs.func Tryd.prog 12 = some (rf_lIs 22 23 24) := by kernel_rfl
theorem F_22 : Rs.func Tryd.prog 22 = some rf_oIs := by kernel_rfl
theorem t_22 : S_oIs XT (Rs.func Tryd.prog) 22 := s_oIs (nX 22 (by decide)) F_22
theorem F_23 : Rs.func Tryd.prog 23 = some (rf_lTake 35 36) := by kernel_rfl
theorem F_35 : Rs.func Tryd.prog 35 = some (rf_oMay 44) := by kernel_rfl
theorem F_44 : Rs.func Tryd.prog 44 = some rf_oArg := by kernel_rfl
theorem t_44 : S_oArg XT (Rs.func Tryd.prog) 44 := s_oArg (nX 44 (by decide)) F_44
theorem t_35 : S_oMay XT (Rs.func Tryd.prog) 35 := s_oMay (nX 35 (by decide)) F_35 t_44
theorem F_36 : Rs.func Tryd.prog 36 = some rf_lPending := by kernel_rfl
theorem t_36 : S_lPending XT (Rs.func Tryd.prog) 36 := s_lPending (nX 36 (by decide)) F_36
theorem t_23 : S_lTake XT (Rs.func Tryd.prog) 23 := s_lTake (nX 23 (by decide)) F_23 t_35 t_36
theorem F_24 : Rs.func Tryd.prog 24 = some (rf_lSearch 37 38 39 40 24) := by kernel_rfl
theorem F_37 : Rs.func Tryd.prog 37 = some (rf_lBound 39) := by kernel_rfl
theorem F_39 : Rs.func Tryd.prog 39 = some rf_lNext := by kernel_rfl
theorem t_39 : S_lNext XT (Rs.func Tryd.prog) 39 := s_lNext (nX 39 (by decide)) F_39
theorem t_37 : S_lBound XT (Rs.func Tryd.prog) 37 := s_lBound (nX 37 (by decide)) F_37 t_39
theorem F_40 : Rs.func Tryd.prog 40 = some (rf_oApply 22 48 49 50) := by kernel_rfl
theorem F_48 : Rs.func Tryd.prog 48 = some (rf_tStore 53) := by kernel_rfl
theorem F_53 : Rs.func Tryd.prog 53 = some (rf_sApply 58 35 59 61 60) := by kernel_rfl
theorem F_58 : Rs.func Tryd.prog 58 = some (rf_sMay 73) := by kernel_rfl
theorem F_73 : Rs.func Tryd.prog 73 = some (rf_Args 84 85) := by kernel_rfl
theorem F_84 : Rs.func Tryd.prog 84 = some (rf_Args1 44) := by kernel_rfl
theorem t_84 : S_Args1 XT (Rs.func Tryd.prog) 84 := s_Args1 (nX 84 (by decide)) F_84 t_44
theorem F_85 : Rs.func Tryd.prog 85 = some (rf_ContainsFunc 92) := by kernel_rfl
theorem F_92 : Rs.func Tryd.prog 92 = some rf_IndexFunc := by kernel_rfl
theorem t_85 : S_ContainsFunc XT (Rs.func Tryd.prog) 85 := s_ContainsFunc (nX 85 (by decide)) F_85 (nX 92 (by decide)) F_92
theorem t_73 : S_Args XT (Rs.func Tryd.prog) 73 := s_Args (nX 73 (by decide)) F_73 t_84 t_85
theorem t_58 : S_sMay XT (Rs.func Tryd.prog) 58 := s_sMay (nX 58 (by decide)) F_58 t_73
theorem F_59 : Rs.func Tryd.prog 59 = some (rf_sCopy 74) := by kernel_rfl
theorem F_74 : Rs.func Tryd.prog 74 = some rf_Clone := by kernel_rfl
theorem t_74 : S_Clone XT (Rs.func Tryd.prog) 74 := s_Clone (nX 74 (by decide)) F_74
theorem t_59 : S_sCopy XT (Rs.func Tryd.prog) 59 := s_sCopy (nX 59 (by decide)) F_59 t_74
theorem F_61 : Rs.func Tryd.prog 61 = some (rf_Concat 75) := by kernel_rfl
theorem F_75 : Rs.func Tryd.prog 75 = some rf_Grow := by kernel_rfl
theorem t_75 : S_Grow XT (Rs.func Tryd.prog) 75 := s_Grow (nX 75 (by decide)) F_75
theorem t_61 : S_Concat XT (Rs.func Tryd.prog) 61 := s_Concat (nX 61 (by decide)) F_61 t_75
theorem F_60 : Rs.func Tryd.prog 60 = some rf_sum := by kernel_rfl
theorem t_60 : S_sum XT (Rs.func Tryd.prog) 60 := s_sum (nX 60 (by decide)) F_60
theorem t_53 : S_sApply XT (Rs.func Tryd.prog) 53 := s_sApply (nX 53 (by decide)) F_53 t_58 t_35 t_59 t_61 t_60
theorem t_48 : S_tStore XT (Rs.func Tryd.prog) 48 := s_tStore (nX 48 (by decide)) F_48 t_53
theorem F_49 : Rs.func Tryd.prog 49 = some (rf_tFds 54) := by kernel_rfl
theorem F_54 : Rs.func Tryd.prog 54 = some (rf_fdsApply 62 35 59 63 64 65) := by kernel_rfl
theorem F_62 : Rs.func Tryd.prog 62 = some rf_fMay := by kernel_rfl
theorem t_62 : S_fMay XT (Rs.func Tryd.prog) 62 := s_fMay (nX 62 (by decide)) F_62
theorem F_63 : Rs.func Tryd.prog 63 = some (rf_fTaken 76 77) := by kernel_rfl
theorem F_76 : Rs.func Tryd.prog 76 = some (rf_BS 86 87) := by kernel_rfl
theorem F_86 : Rs.func Tryd.prog 86 = some (rf_Less 93) := by kernel_rfl
theorem F_93 : Rs.func Tryd.prog 93 = some rf_NaN1 := by kernel_rfl
theorem t_93 : S_NaN XT (Rs.func Tryd.prog) 93 := s_NaN1 (nX 93 (by decide)) F_93
theorem t_86 : S_Less XT (Rs.func Tryd.prog) 86 := s_Less (nX 86 (by decide)) F_86 t_93
theorem F_87 : Rs.func Tryd.prog 87 = some rf_NaN2 := by kernel_rfl
theorem t_87 : S_NaN XT (Rs.func Tryd.prog) 87 := s_NaN2 (nX 87 (by decide)) F_87
theorem t_76 : S_BS XT (Rs.func Tryd.prog) 76 := s_BS (nX 76 (by decide)) F_76 t_86 t_87
theorem t_63_fTaken2 : S_fTaken2 XT (Rs.func Tryd.prog) 63 := s_fTaken2 (nX 63 (by decide)) F_63 t_76 iX
theorem F_64 : Rs.func Tryd.prog 64 = some (rf_fFreed 76 78) := by kernel_rfl
theorem F_78 : Rs.func Tryd.prog 78 = some rf_Del := by kernel_rfl
theorem t_78 : S_Del XT (Rs.func Tryd.prog) 78 := s_Del dX F_78
theorem t_64 : S_fFreed2 XT (Rs.func Tryd.prog) 64 := s_fFreed (nX 64 (by decide)) F_64 t_76 t_78
theorem F_65 : Rs.func Tryd.prog 65 = some (rf_fMany 61) := by kernel_rfl
theorem t_65 : S_fMany XT (Rs.func Tryd.prog) 65 := s_fMany (nX 65 (by decide)) F_65 t_61
theorem t_54 : S_fdsApply XT (Rs.func Tryd.prog) 54 := s_fdsApply (nX 54 (by decide)) F_54 t_62 t_35 (nX 59 (by decide)) F_59 (nX 74 (by decide)) F_74 t_63_fTaken2 t_64 t_65
theorem t_49 : S_tFds XT (Rs.func Tryd.prog) 49 := s_tFds (nX 49 (by decide)) F_49 t_54
theorem F_50 : Rs.func Tryd.prog 50 = some (rf_tQueue 55) := by kernel_rfl
theorem F_55 : Rs.func Tryd.prog 55 = some (rf_qApply 66 35 59 67 68 65) := by kernel_rfl
theorem F_66 : Rs.func Tryd.prog 66 = some (rf_qMay 73) := by kernel_rfl
theorem t_66 : S_qMay XT (Rs.func Tryd.prog) 66 := s_qMay (nX 66 (by decide)) F_66 t_73
theorem F_67 : Rs.func Tryd.prog 67 = some rf_qin := by kernel_rfl
theorem t_67 : S_in2 XT (Rs.func Tryd.prog) 67 := s_qin (nX 67 (by decide)) F_67
theorem F_68 : Rs.func Tryd.prog 68 = some rf_qout := by kernel_rfl
theorem t_68 : S_out2 XT (Rs.func Tryd.prog) 68 := s_qout (nX 68 (by decide)) F_68
theorem t_55 : S_qApply XT (Rs.func Tryd.prog) 55 := s_qApply (nX 55 (by decide)) F_55 t_66 t_35 (nX 59 (by decide)) F_59 (nX 74 (by decide)) F_74 t_67 t_68 t_65
theorem t_50 : S_tQueue XT (Rs.func Tryd.prog) 50 := s_tQueue (nX 50 (by decide)) F_50 t_55
theorem t_40 : S_oApply XT (Rs.func Tryd.prog) 40 := s_oApply (nX 40 (by decide)) F_40 t_22 t_48 t_49 t_50
theorem t_24 : S_lSearch XT (Rs.func Tryd.prog) 24 := s_lSearch (nX 24 (by decide)) F_24 t_37 mX t_39 t_40
theorem t_12 : S_lIs XT (Rs.func Tryd.prog) 12 := s_lIs (nX 12 (by decide)) F_12 t_22 t_23 t_24
theorem F_13 : Rs.func Tryd.prog 13 = some rf_Num := by kernel_rfl
theorem t_13 : S_Num XT (Rs.func Tryd.prog) 13 := s_Num (nX 13 (by decide)) F_13
theorem law (h : AH) (us : List Value) (hu : AArgs h gs us) : Ret XT (Rs.func Tryd.prog) h.length 4 us h fun v _ => v = .bool true := by
  cases hu with
  | cons h0 k =>
  cases k with
  | cons h1 k =>
  cases k with
  | cons h2 k =>
  cases k with
  | cons h3 k =>
  cases k
  obtain ⟨x0, rfl, hx0⟩ := h0.int
  obtain ⟨a1, n1, ss1, rfl, hs1, hf1, hn1⟩ := h1.ops
  obtain ⟨x2, rfl, hx2⟩ := h2.int
  obtain ⟨x3, rfl, hx3⟩ := h3.int
  exact s_LinearOne (nX 4 (by decide)) F_4 t_aw t_16_rApplyO t_12 t_13 h hx0 hs1 hf1 hn1 hx2 hx3
def laid3 : List (String × DataW Unit) := [("math/bits.deBruijn32tab", Rows.laid_math_bits_deBruijn32tab), ("math/bits.deBruijn64tab", Rows.laid_math_bits_deBruijn64tab), ("internal/strconv.uint64pow10", Rows.laid_internal_strconv_uint64pow10)]
theorem door_met (os : Os) (args : Array Value) : laidMetH Tryd.prog laid3 ((World.doorLaid Tryd.prog 24 os).forCall (fun _ _ => 0) ⟨#[], args, []⟩).memory :=
  laidMetH_of_parts3 (fuel := 8) (laidMet_of_run' 8 (by kernel_rfl) (by kernel_rfl)) (by kernel_rfl) (by kernel_rfl)
theorem gTab : Tryd.prog.globalNamed "internal/strconv.uint64pow10" = some 0 := by kernel_rfl
theorem of_laid {W : World} (h : laidMetH Tryd.prog laid3 W) : ∀ p, p ∈ gTabs → ∃ t z, W.heap[p.1]? = some (.cells p.2 t z) := by
  rw [MakeChecks.laidMetH_plain _ _ _ (by kernel_rfl)] at h
  have hT : Lib.TabIs Tryd.prog W "internal/strconv.uint64pow10" .u64 Lib.pow10Tab := Lib.tabIs_of_head gTab (by kernel_rfl) Tryd.underlying131 Tryd.underlying119 (by kernel_rfl) (by kernel_rfl) (show laidMet Tryd.prog (("internal/strconv.uint64pow10", Lib.tabData .u64 Lib.pow10Tab) :: []) W from laidMet.tail (laidMet.tail h))
  intro p hp
  obtain rfl := List.mem_singleton.1 hp
  unfold Lib.TabIs World.var? at hT
  rw [gTab] at hT
  simp only [Option.bind_some] at hT
  split at hT
  · rename_i cs t z hc
    injection hT with hT
    exact ⟨t, z, by rw [show W.heap[(0 : Nat)]? = some (.cells cs t z) from hc, hT]; rfl⟩
  · cases hT
theorem lifted (os : Os) (started : os.Started) (H : Type) (enc : TypeId × Value → H) :
    ReturnsInHanded {} Tryd.checked os 4 .any (fun w args => (Rows.linearOneSpec.pre enc Tryd.prog Tryd.f4 [] false w args ∧ laidMetH Tryd.prog laid3 w) ∧ sizedMet enc Tryd.prog Tryd.f4 (OpenSpec.ofChange Rows.linearOneSpec) false w args) (Rows.linearOneSpec.post enc Tryd.prog Tryd.f4 false true false false) := by
  refine returnsInHanded_of_change_and (C := Tryd.checked) (X := fun w _ => laidMetH Tryd.prog laid3 w) (fun _ _ _ hh h => h.of_heap hh) own started (by kernel_rfl) Tryd.func4
    (ChangeSpec.witness_shaped (enc := enc) (C := Tryd.checked) (os := os) (X := fun w _ => laidMetH Tryd.prog laid3 w) false (World.doorLaid Tryd.prog 24 os) #[.int .i64 0, .slice none 0 0, .int .i64 0, .int .i64 0] 8 rfl (World.shaped_of_RefB (by kernel_rfl) (by kernel_rfl)) (by kernel_rfl) (by kernel_rfl) (by kernel_rfl) (door_met os _)) ?_
  intro W base args ds gs0 before hval0 hW hcnd hsz0 hlaid _
  have hsz : (DataW.weightsEach Tryd.prog (Tryd.f4.params.toList ++ Rows.linearOneSpec.plain.varTypes Tryd.prog) (ds ++ gs0)).all (· ≤ reachBytes) = true := hsz0
  have hval : ∀ (j : Nat) t v, Tryd.f4.params[j]? = some t → args[j]? = some v → Value.okWide Tryd.prog W .any base t v := hval0
  have hW' := hW
  obtain ⟨p, q, hA0, hV, rfl, hfz, hnd⟩ := hW
  have hA : DataW.TrodAll enc Tryd.prog W 0 (fun _ => true) true Tryd.f4.params.toList args.toList ds p := hA0
  rw [Tryd.params4] at hA hval hsz
  obtain ⟨v0, vs0, d0, ds0, p0, q0, hargs, rfl, rfl, h0, r0⟩ := trodAll_cons hA
  obtain ⟨v1, vs1, d1, ds1, p1, q1, rfl, rfl, rfl, h1, r1⟩ := trodAll_cons r0
  obtain ⟨v2, vs2, d2, ds2, p2, q2, rfl, rfl, rfl, h2, r2⟩ := trodAll_cons r1
  obtain ⟨v3, vs3, d3, ds3, p3, q3, rfl, rfl, rfl, h3, r3⟩ := trodAll_cons r2
  obtain ⟨rfl, rfl, rfl⟩ := trodAll_nil r3
  obtain rfl : args = #[v0, v1, v2, v3] := by cases args; simp_all
  obtain ⟨rfl, rfl⟩ := trodVars_none hV
  have q_0 : ArgIs W (false, [.f (.int .i64)]) v0 := argIs_int Tryd.underlying3 (hval 0 3 v0 rfl rfl) h0 (arg_cok (j := 0) (d := 8) (ks := [.f (.int .i64)]) (by kernel_rfl) hsz rfl rfl h0)
  have q_1 : ArgIs W (false, [.sl [.int .i64, .int .i64, .int .i64] 24]) v1 := argIs_slice Tryd.underlying33 (hval 1 33 v1 rfl rfl) (arg_cok (j := 1) (d := 8) (ks := [.sl [.int .i64, .int .i64, .int .i64] 24]) (by kernel_rfl) hsz rfl rfl h1)
  have q_2 : ArgIs W (false, [.f (.int .i64)]) v2 := argIs_int Tryd.underlying3 (hval 2 3 v2 rfl rfl) h2 (arg_cok (j := 2) (d := 8) (ks := [.f (.int .i64)]) (by kernel_rfl) hsz rfl rfl h2)
  have q_3 : ArgIs W (false, [.f (.int .i64)]) v3 := argIs_int Tryd.underlying3 (hval 3 3 v3 rfl rfl) h3 (arg_cok (j := 3) (d := 8) (ks := [.f (.int .i64)]) (by kernel_rfl) hsz rfl rfl h3)
  have hargs2 : Args W gs [v0, v1, v2, v3] := .cons q_0 (.cons q_1 (.cons q_2 (.cons q_3 (.nil))))
  refine (law_calls (of_laid hlaid) mixed ext hargs2 (wide_of rfl) law).mono fun e W' ⟨he, bel0⟩ => ?_
  have bel : Below W.heap.size W W' := bel0
  subst he
  exact ⟨_, rfl, _, _, _, [], _, [], hW', trodAll_mk1 (shut_bool Tryd.underlying4 _), (trodAll_cons_mk (Below.trod laidOut (by kernel_rfl) (of_decide_eq_true (by kernel_rfl)) h0 bel (trod_below h0)) (trodAll_cons_mk (Below.trod laidOut (by kernel_rfl) (of_decide_eq_true (by kernel_rfl)) h1 bel (trod_below h1)) (trodAll_cons_mk (Below.trod laidOut (by kernel_rfl) (of_decide_eq_true (by kernel_rfl)) h2 bel (trod_below h2)) (trodAll_cons_mk (Below.trod laidOut (by kernel_rfl) (of_decide_eq_true (by kernel_rfl)) h3 bel (trod_below h3)) trodAll_mk0)))), rfl, bel.frame _, fun h => by cases h⟩
theorem over : Rows.linearOneRow.holds Tryd.pinned (OpenSpec.ofChange Rows.linearOneSpec) :=
  OpenClaim.holds_of_wide 4 Tryd.f4 rfl rfl rfl rfl rfl rfl rfl ⟨rfl, rfl, rfl, rfl, rfl⟩ rfl rfl rfl rfl rfl (by kernel_rfl) Tryd.func4 (by kernel_rfl)
    (of_decide_eq_true (by kernel_rfl)) (by unfold Func.isWrapper; first | (rw [if_pos (by decide +kernel)]; kernel_rfl) | (rw [if_neg (by decide +kernel)]; exact ⟨rfl, rfl⟩))
    (fun os started H enc _ => lifted os started H enc)
theorem proved : Rows.LinearOneSaid := over
theorem card_holds : Rows.LinearOneCardSaid :=
  Claim7.holds_tied_plain_at .later [] [.data, .data, .data] true (true, "1e1cb0023b28ca99b64d39319f4f92cddf77da824aad8372afdac480ddd0923b") false
    proved (fun _ h => by cases h) (by kernel_rfl) (fun _ h => by cases h) linearOne_row_tie rfl ⟨rfl, rfl⟩ (by kernel_rfl) rfl
    (fun f fn hf hfn => by
      obtain rfl : f = 4 := Option.some.inj ((show Tryd.prog.funcNamed "chorus/choruslaw24.LinearOne" = some 4 by kernel_rfl).symm.trans hf) |>.symm
      obtain rfl : fn = Tryd.f4 := (Option.some.inj (Tryd.func4.symm.trans hfn)).symm
      exact ⟨by kernel_rfl, fun j t ht => by
        rw [Tryd.params4] at ht
        have hm : t ∈ [3, 33, 3, 3] := by simpa using Array.mem_of_getElem? ht
        have hall : ([3, 33, 3, 3].all fun u => !Tryd.prog.wantsStandIn u) = true := by kernel_rfl
        exact (show Tryd.prog.wantsStandIn t = false by simpa using List.all_eq_true.1 hall t hm)⟩)
    (by kernel_rfl)
#print axioms card_holds
end Go.Proofs.YtalknjppnkpmmaaDoor.linearOne
namespace Go.Proofs.YtalknjppnkpmmaaDoor
/-- The row, under a short name, for the claim. -/
theorem linearOne_holds : Rows.LinearOneCardSaid := linearOne.card_holds
end Go.Proofs.YtalknjppnkpmmaaDoor

