/- The statement FoldParts: what the small machine answers, Go answers; written by wip/tools/row.py, out of wip/fn. -/
import Derived.Test.YtdcpmchhioilpaaRows
import Derived.Test.YtdcpmchhioilpaaLFoldParts
import Derived.Test.YtdcpmchhioilpaaMf
import Derived.WalkKit
import Derived.ProofKit
import Derived.OpenShut
import Derived.ShutString
import Derived.ChangeOld
import Derived.Below
import Derived.SizedLaws
import Derived.KernelRfl
namespace Go.Proofs.Ytdcpmchhioilpaa.foldParts
open Go.ChangeShapes Go.WideShapes Go.ChangeAt Go.RowKit
open Go.ChangeMaps (open_string shut_string)
open Go.Proofs.YtdcpmchhioilpaaW.Ai
set_option linter.unusedVariables false
set_option linter.unusedSimpArgs false
theorem own : ownKnob Try.prog.godebug = none := by kernel_rfl
theorem laidOut : laidOutB Try.prog = true := by kernel_rfl
theorem mixed : Try.prog.follows .mixedOrders = true := by kernel_rfl
open Go.Shelf
def ren : Ren := ⟨fun x => if x = 21 then 62 else if x = 27 then 66 else if x = 28 then 67 else if x = 35 then 69 else if x = 39 then 70 else x, fun x => if x = 0 then 0 else if x = 3 then 3 else if x = 4 then 4 else if x = 22 then 22 else x, fun x => x⟩
set_option maxRecDepth 100000 in
theorem lays : Lays2.n21 Try.prog ren where
  mixed := mixed
  f21 := Try.func62.trans (congrArg some (by kernel_rfl))
  f27 := Try.func66.trans (congrArg some (by kernel_rfl))
  f28 := Try.func67.trans (congrArg some (by kernel_rfl))
  f35 := Try.func69.trans (congrArg some (by kernel_rfl))
  f39 := Try.func70.trans (congrArg some (by kernel_rfl))
  t0 := Try.underlying0
  a0 := Try.isAgg0
  z0 := Try.sizeOf0
  v0 := Try.zeroValue0
  t3 := Try.underlying3
  a3 := Try.isAgg3
  z3 := Try.sizeOf3
  v3 := Try.zeroValue3
  t4 := Try.underlying4
  a4 := Try.isAgg4
  z4 := Try.sizeOf4
  v4 := Try.zeroValue4
  t22 := Try.underlying22
  a22 := Try.isAgg22
  z22 := Try.sizeOf22
  v22 := Try.zeroValue22
  i3 := by kernel_rfl
set_option maxRecDepth 100000 in
theorem awake : ClosedX (insExt 62) Try.prog 19 (.bool true) := ⟨rfl, 60, by kernel_rfl⟩
theorem ext (nb : Nat) : XOk Try.prog nb (clExtX (libX (Rs.func Try.prog) 62 63) [(19, .bool true)]) := clExtX_ok (fun nb => libX_ok lays mixed 63) (fun nb => insExt_ok lays) mixed (fun p hp => by simp at hp; subst hp; exact awake)
def gs : List (Bool × List CK) := [(false, [.f (.int .i64)]), (true, [.sl [.int .i64] 8, .sl [.int .i64] 8, .sl [.int .i64] 8, .sl [.int .i64] 8]), (false, [.sl [.int .i64, .int .i64, .int .i64] 24]), (false, [.f (.int .i64)])]
noncomputable abbrev XT : Ext := clExtX (libX (Rs.func Try.prog) 62 63) [(19, .bool true)]
theorem nX (g : FuncId) (hg : g ≠ 19 ∧ g ≠ 62 ∧ g ≠ 63) : XT g = none := by simp [XT, clExtX, libX, Ne.symm hg.1, hg.2.1, hg.2.2]
theorem iX : XT 62 = some insA := by simp [XT, clExtX, libX]
theorem dX : XT 63 = some (cutX (Rs.func Try.prog) 63) := by simp [XT, clExtX, libX]
theorem t_aw : S_yes XT (Rs.func Try.prog) 19 := fun lim h => ⟨1, .bool true, h, rfl, Pfx.refl h, rfl⟩
set_option maxRecDepth 100000 in
theorem F_5 : Rs.func Try.prog 5 = some (rf_FoldParts 19 11 15 13 14) := by kernel_rfl
set_option maxRecDepth 100000 in
theorem F_11 : Rs.func Try.prog 11 = some (rf_fFold 23 24 25) := by kernel_rfl
set_option maxRecDepth 100000 in
theorem F_23 : Rs.func Try.prog 23 = some (rf_oMay3 34 35 36) := by kernel_rfl
set_option maxRecDepth 100000 in
theorem F_34 : Rs.func Try.prog 34 = some (rf_sMay 44) := by kernel_rfl
set_option maxRecDepth 100000 in
theorem F_44 : Rs.func Try.prog 44 = some (rf_Args 48 50) := by kernel_rfl
set_option maxRecDepth 100000 in
theorem F_48 : Rs.func Try.prog 48 = some (rf_Args1 49) := by kernel_rfl
set_option maxRecDepth 100000 in
theorem F_49 : Rs.func Try.prog 49 = some rf_oArg := by kernel_rfl
theorem t_49 : S_oArg XT (Rs.func Try.prog) 49 := s_oArg (nX 49 (by decide)) F_49
theorem t_48 : S_Args1 XT (Rs.func Try.prog) 48 := s_Args1 (nX 48 (by decide)) F_48 t_49
set_option maxRecDepth 100000 in
theorem F_50 : Rs.func Try.prog 50 = some (rf_ContainsFunc 59) := by kernel_rfl
set_option maxRecDepth 100000 in
theorem F_59 : Rs.func Try.prog 59 = some rf_IndexFunc := by kernel_rfl
theorem t_50 : S_ContainsFunc XT (Rs.func Try.prog) 50 := s_ContainsFunc (nX 50 (by decide)) F_50 (nX 59 (by decide)) F_59
theorem t_44 : S_Args XT (Rs.func Try.prog) 44 := s_Args (nX 44 (by decide)) F_44 t_48 t_50
theorem t_34 : S_sMay XT (Rs.func Try.prog) 34 := s_sMay (nX 34 (by decide)) F_34 t_44
set_option maxRecDepth 100000 in
theorem F_35 : Rs.func Try.prog 35 = some rf_fMay := by kernel_rfl
theorem t_35 : S_fMay XT (Rs.func Try.prog) 35 := s_fMay (nX 35 (by decide)) F_35
set_option maxRecDepth 100000 in
theorem F_36 : Rs.func Try.prog 36 = some (rf_qMay 44) := by kernel_rfl
theorem t_36 : S_qMay XT (Rs.func Try.prog) 36 := s_qMay (nX 36 (by decide)) F_36 t_44
theorem t_23 : S_oMay3 XT (Rs.func Try.prog) 23 := s_oMay3 (nX 23 (by decide)) F_23 t_34 t_35 t_36
set_option maxRecDepth 100000 in
theorem F_24 : Rs.func Try.prog 24 = some (rf_sCopy 37) := by kernel_rfl
set_option maxRecDepth 100000 in
theorem F_37 : Rs.func Try.prog 37 = some rf_Clone := by kernel_rfl
theorem t_37 : S_Clone XT (Rs.func Try.prog) 37 := s_Clone (nX 37 (by decide)) F_37
theorem t_24 : S_sCopy XT (Rs.func Try.prog) 24 := s_sCopy (nX 24 (by decide)) F_24 t_37
set_option maxRecDepth 100000 in
theorem F_25 : Rs.func Try.prog 25 = some (rf_oApply 38 39 40 41) := by kernel_rfl
set_option maxRecDepth 100000 in
theorem F_38 : Rs.func Try.prog 38 = some rf_oIs := by kernel_rfl
theorem t_38 : S_oIs XT (Rs.func Try.prog) 38 := s_oIs (nX 38 (by decide)) F_38
set_option maxRecDepth 100000 in
theorem F_39 : Rs.func Try.prog 39 = some (rf_tStore 45) := by kernel_rfl
set_option maxRecDepth 100000 in
theorem F_45 : Rs.func Try.prog 45 = some (rf_sApply 34 51 24 53 52) := by kernel_rfl
set_option maxRecDepth 100000 in
theorem F_51 : Rs.func Try.prog 51 = some (rf_oMay 49) := by kernel_rfl
theorem t_51 : S_oMay XT (Rs.func Try.prog) 51 := s_oMay (nX 51 (by decide)) F_51 t_49
set_option maxRecDepth 100000 in
theorem F_53 : Rs.func Try.prog 53 = some (rf_Concat 60) := by kernel_rfl
set_option maxRecDepth 100000 in
theorem F_60 : Rs.func Try.prog 60 = some rf_Grow := by kernel_rfl
theorem t_60 : S_Grow XT (Rs.func Try.prog) 60 := s_Grow (nX 60 (by decide)) F_60
theorem t_53 : S_Concat XT (Rs.func Try.prog) 53 := s_Concat (nX 53 (by decide)) F_53 t_60
set_option maxRecDepth 100000 in
theorem F_52 : Rs.func Try.prog 52 = some rf_sum := by kernel_rfl
theorem t_52 : S_sum XT (Rs.func Try.prog) 52 := s_sum (nX 52 (by decide)) F_52
theorem t_45 : S_sApply XT (Rs.func Try.prog) 45 := s_sApply (nX 45 (by decide)) F_45 t_34 t_51 t_24 t_53 t_52
theorem t_39 : S_tStore XT (Rs.func Try.prog) 39 := s_tStore (nX 39 (by decide)) F_39 t_45
set_option maxRecDepth 100000 in
theorem F_40 : Rs.func Try.prog 40 = some (rf_tFds 46) := by kernel_rfl
set_option maxRecDepth 100000 in
theorem F_46 : Rs.func Try.prog 46 = some (rf_fdsApply 35 51 24 54 55 56) := by kernel_rfl
set_option maxRecDepth 100000 in
theorem F_54 : Rs.func Try.prog 54 = some (rf_fTaken 61 62) := by kernel_rfl
set_option maxRecDepth 100000 in
theorem F_61 : Rs.func Try.prog 61 = some (rf_BS 64 65) := by kernel_rfl
set_option maxRecDepth 100000 in
theorem F_64 : Rs.func Try.prog 64 = some (rf_Less 68) := by kernel_rfl
set_option maxRecDepth 100000 in
theorem F_68 : Rs.func Try.prog 68 = some rf_NaN1 := by kernel_rfl
theorem t_68 : S_NaN XT (Rs.func Try.prog) 68 := s_NaN1 (nX 68 (by decide)) F_68
theorem t_64 : S_Less XT (Rs.func Try.prog) 64 := s_Less (nX 64 (by decide)) F_64 t_68
set_option maxRecDepth 100000 in
theorem F_65 : Rs.func Try.prog 65 = some rf_NaN2 := by kernel_rfl
theorem t_65 : S_NaN XT (Rs.func Try.prog) 65 := s_NaN2 (nX 65 (by decide)) F_65
theorem t_61 : S_BS XT (Rs.func Try.prog) 61 := s_BS (nX 61 (by decide)) F_61 t_64 t_65
theorem t_54_fTaken2 : S_fTaken2 XT (Rs.func Try.prog) 54 := s_fTaken2 (nX 54 (by decide)) F_54 t_61 iX
set_option maxRecDepth 100000 in
theorem F_55 : Rs.func Try.prog 55 = some (rf_fFreed 61 63) := by kernel_rfl
set_option maxRecDepth 100000 in
theorem F_63 : Rs.func Try.prog 63 = some rf_Del := by kernel_rfl
theorem t_63 : S_Del XT (Rs.func Try.prog) 63 := s_Del dX F_63
theorem t_55 : S_fFreed2 XT (Rs.func Try.prog) 55 := s_fFreed (nX 55 (by decide)) F_55 t_61 t_63
set_option maxRecDepth 100000 in
theorem F_56 : Rs.func Try.prog 56 = some (rf_fMany 53) := by kernel_rfl
theorem t_56 : S_fMany XT (Rs.func Try.prog) 56 := s_fMany (nX 56 (by decide)) F_56 t_53
theorem t_46 : S_fdsApply XT (Rs.func Try.prog) 46 := s_fdsApply (nX 46 (by decide)) F_46 t_35 t_51 (nX 24 (by decide)) F_24 (nX 37 (by decide)) F_37 t_54_fTaken2 t_55 t_56
theorem t_40 : S_tFds XT (Rs.func Try.prog) 40 := s_tFds (nX 40 (by decide)) F_40 t_46
set_option maxRecDepth 100000 in
theorem F_41 : Rs.func Try.prog 41 = some (rf_tQueue 47) := by kernel_rfl
set_option maxRecDepth 100000 in
theorem F_47 : Rs.func Try.prog 47 = some (rf_qApply 36 51 24 57 58 56) := by kernel_rfl
set_option maxRecDepth 100000 in
theorem F_57 : Rs.func Try.prog 57 = some rf_qin := by kernel_rfl
theorem t_57 : S_in2 XT (Rs.func Try.prog) 57 := s_qin (nX 57 (by decide)) F_57
set_option maxRecDepth 100000 in
theorem F_58 : Rs.func Try.prog 58 = some rf_qout := by kernel_rfl
theorem t_58 : S_out2 XT (Rs.func Try.prog) 58 := s_qout (nX 58 (by decide)) F_58
theorem t_47 : S_qApply XT (Rs.func Try.prog) 47 := s_qApply (nX 47 (by decide)) F_47 t_36 t_51 (nX 24 (by decide)) F_24 (nX 37 (by decide)) F_37 t_57 t_58 t_56
theorem t_41 : S_tQueue XT (Rs.func Try.prog) 41 := s_tQueue (nX 41 (by decide)) F_41 t_47
theorem t_25 : S_oApply XT (Rs.func Try.prog) 25 := s_oApply (nX 25 (by decide)) F_25 t_38 t_39 t_40 t_41
theorem t_11 : S_fFold XT (Rs.func Try.prog) 11 := s_fFold (nX 11 (by decide)) F_11 t_23 t_24 t_25
set_option maxRecDepth 100000 in
theorem F_15 : Rs.func Try.prog 15 = some rf_Num := by kernel_rfl
theorem t_15 : S_Num XT (Rs.func Try.prog) 15 := s_Num (nX 15 (by decide)) F_15
set_option maxRecDepth 100000 in
theorem F_13 : Rs.func Try.prog 13 = some (rf_SameState 14) := by kernel_rfl
set_option maxRecDepth 100000 in
theorem F_14 : Rs.func Try.prog 14 = some rf_SameInts := by kernel_rfl
theorem t_14 : S_SameInts XT (Rs.func Try.prog) 14 := s_SameInts (nX 14 (by decide)) F_14
theorem t_13 : S_SameState XT (Rs.func Try.prog) 13 := s_SameState (nX 13 (by decide)) F_13 t_14
set_option maxRecDepth 100000 in
theorem law (h : AH) (us : List Value) (hu : AArgs h gs us) : Ret XT (Rs.func Try.prog) h.length 5 us h fun v _ => v = .bool true := by
  cases hu with
  | cons h0 k =>
  cases k with
  | cons h1 k =>
  cases k with
  | cons h2 k =>
  cases k with
  | cons h3 k =>
  cases k
  obtain ⟨x0, rfl, hx0⟩ := h0.int
  obtain ⟨r01, r11, r21, r31, rfl, hr1⟩ := h1.state
  obtain ⟨a2, n2, ss2, rfl, hs2, hf2, hn2, hb2⟩ := h2.opsS
  obtain ⟨x3, rfl, hx3⟩ := h3.int
  exact s_FoldParts (nX 5 (by decide)) F_5 t_aw t_11 t_15 t_13 t_14 h hx0 hr1 hs2 hf2 hn2 hb2 hx3
set_option maxRecDepth 100000 in
theorem lifted (os : Os) (started : os.Started) (H : Type) (enc : TypeId × Value → H) :
    ReturnsInHanded {} Try.checked os 5 .any (Rows.foldPartsSpec.pre6 enc Try.prog Try.f5 Rows.foldPartsRow.domain false) (Rows.foldPartsSpec.post enc Try.prog Try.f5 false true false false) := by
  refine returnsInHanded_of_change_sized (C := Try.checked) own started (by kernel_rfl) Try.func5
    (ChangeSpec.witness6 (enc := enc) (C := Try.checked) false ⟨#[], #[.int .i64 0, .agg #[.slice none 0 0, .slice none 0 0, .slice none 0 0, .slice none 0 0], .slice none 0 0, .int .i64 0], []⟩ 8 (by kernel_rfl) (by kernel_rfl) (by kernel_rfl) (by kernel_rfl)) ?_
  intro W base args ds gs0 before hval0 hW hcnd hsz0 _
  have hsz : (DataW.weightsEach Try.prog (Try.f5.params.toList ++ Rows.foldPartsSpec.plain.varTypes Try.prog) (ds ++ gs0)).all (· ≤ reachBytes) = true := hsz0
  have hval : ∀ (j : Nat) t v, Try.f5.params[j]? = some t → args[j]? = some v → Value.okWide Try.prog W .any base t v := hval0
  have hW' := hW
  obtain ⟨p, q, hA0, hV, rfl, hfz, hnd⟩ := hW
  have hA : DataW.TrodAll enc Try.prog W 0 (fun _ => true) true Try.f5.params.toList args.toList ds p := hA0
  rw [Try.params5] at hA hval hsz
  obtain ⟨v0, vs0, d0, ds0, p0, q0, hargs, rfl, rfl, h0, r0⟩ := trodAll_cons hA
  obtain ⟨v1, vs1, d1, ds1, p1, q1, rfl, rfl, rfl, h1, r1⟩ := trodAll_cons r0
  obtain ⟨v2, vs2, d2, ds2, p2, q2, rfl, rfl, rfl, h2, r2⟩ := trodAll_cons r1
  obtain ⟨v3, vs3, d3, ds3, p3, q3, rfl, rfl, rfl, h3, r3⟩ := trodAll_cons r2
  obtain ⟨rfl, rfl, rfl⟩ := trodAll_nil r3
  obtain rfl : args = #[v0, v1, v2, v3] := by cases args; simp_all
  obtain ⟨rfl, rfl⟩ := trodVars_none hV
  have q_0 : ArgIs W (false, [.f (.int .i64)]) v0 := argIs_int Try.underlying3 (hval 0 3 v0 rfl rfl) h0 (arg_cok (j := 0) (d := 8) (ks := [.f (.int .i64)]) (by kernel_rfl) hsz rfl rfl h0)
  have q_1 : ArgIs W (true, [.sl [.int .i64] 8, .sl [.int .i64] 8, .sl [.int .i64] 8, .sl [.int .i64] 8]) v1 := argIs_struct Try.underlying25 (hval 1 25 v1 rfl rfl) (arg_cok (j := 1) (d := 8) (ks := [.sl [.int .i64] 8, .sl [.int .i64] 8, .sl [.int .i64] 8, .sl [.int .i64] 8]) (by kernel_rfl) hsz rfl rfl h1)
  have q_2 : ArgIs W (false, [.sl [.int .i64, .int .i64, .int .i64] 24]) v2 := argIs_slice Try.underlying26 (hval 2 26 v2 rfl rfl) (arg_cok (j := 2) (d := 8) (ks := [.sl [.int .i64, .int .i64, .int .i64] 24]) (by kernel_rfl) hsz rfl rfl h2)
  have q_3 : ArgIs W (false, [.f (.int .i64)]) v3 := argIs_int Try.underlying3 (hval 3 3 v3 rfl rfl) h3 (arg_cok (j := 3) (d := 8) (ks := [.f (.int .i64)]) (by kernel_rfl) hsz rfl rfl h3)
  have hargs2 : Args W gs [v0, v1, v2, v3] := .cons q_0 (.cons q_1 (.cons q_2 (.cons q_3 (.nil))))
  refine (law_calls mixed ext hargs2 (wide_of rfl) law).mono fun e W' ⟨he, bel0⟩ => ?_
  have bel : Below W.heap.size W W' := bel0
  subst he
  exact ⟨_, rfl, _, _, _, [], _, [], hW', trodAll_mk1 (shut_bool Try.underlying4 _), (trodAll_cons_mk (Below.trod laidOut (by kernel_rfl) (of_decide_eq_true (by kernel_rfl)) h0 bel (trod_below h0)) (trodAll_cons_mk (Below.trod laidOut (by kernel_rfl) (of_decide_eq_true (by kernel_rfl)) h1 bel (trod_below h1)) (trodAll_cons_mk (Below.trod laidOut (by kernel_rfl) (of_decide_eq_true (by kernel_rfl)) h2 bel (trod_below h2)) (trodAll_cons_mk (Below.trod laidOut (by kernel_rfl) (of_decide_eq_true (by kernel_rfl)) h3 bel (trod_below h3)) trodAll_mk0)))), rfl, bel.frame _, fun h => by cases h⟩
theorem over : Rows.foldPartsRow.holds Try.pinned (OpenSpec.ofChange Rows.foldPartsSpec) :=
  OpenClaim.holds_of_wide 5 Try.f5 rfl rfl rfl rfl rfl rfl rfl ⟨rfl, rfl, rfl, rfl, rfl⟩ rfl rfl rfl rfl rfl (by kernel_rfl) Try.func5 (by kernel_rfl)
    (of_decide_eq_true (by kernel_rfl)) (by unfold Func.isWrapper; first | (rw [if_pos (by decide +kernel)]; kernel_rfl) | (rw [if_neg (by decide +kernel)]; exact ⟨rfl, rfl⟩))
    (fun os started H enc _ => lifted os started H enc)
theorem proved : Rows.FoldPartsSaid := over
#print axioms proved
end Go.Proofs.Ytdcpmchhioilpaa.foldParts
namespace Go.Proofs.Ytdcpmchhioilpaa
/-- The row, under a short name, for the claim. -/
theorem foldParts_holds : Rows.FoldPartsSaid := foldParts.proved
end Go.Proofs.Ytdcpmchhioilpaa

