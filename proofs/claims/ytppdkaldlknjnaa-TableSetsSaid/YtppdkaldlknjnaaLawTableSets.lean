/- The statement TableSets: what the small machine answers, Go answers; written by wip/tools/row.py, out of wip/fn. -/
import Derived.Test.YtppdkaldlknjnaaRows
import Derived.Test.YtppdkaldlknjnaaLTableSets
import Derived.Test.YtppdkaldlknjnaaMf
import Derived.WalkKit
import Derived.ProofKit
import Derived.OpenShut
import Derived.ShutString
import Derived.ChangeOld
import Derived.Below
import Derived.SizedLaws
import Derived.KernelRfl
namespace Go.Proofs.Ytppdkaldlknjnaa.tableSets
open Go.ChangeShapes Go.WideShapes Go.ChangeAt Go.RowKit
open Go.ChangeMaps (open_string shut_string)
open Go.Proofs.YtppdkaldlknjnaaW.Ai
set_option linter.unusedVariables false
set_option linter.unusedSimpArgs false
theorem own : ownKnob Try.prog.godebug = none := by kernel_rfl
theorem laidOut : laidOutB Try.prog = true := by kernel_rfl
theorem mixed : Try.prog.follows .mixedOrders = true := by kernel_rfl
open Go.Shelf
def ren : Ren := ⟨fun x => if x = 21 then 34 else if x = 27 then 42 else if x = 28 then 43 else if x = 35 then 46 else if x = 39 then 47 else x, fun x => if x = 0 then 0 else if x = 3 then 3 else if x = 4 then 4 else if x = 22 then 22 else x, fun x => x⟩
set_option maxRecDepth 100000 in
theorem lays : Lays2.n21 Try.prog ren where
  mixed := mixed
  f21 := Try.func34.trans (congrArg some (by kernel_rfl))
  f27 := Try.func42.trans (congrArg some (by kernel_rfl))
  f28 := Try.func43.trans (congrArg some (by kernel_rfl))
  f35 := Try.func46.trans (congrArg some (by kernel_rfl))
  f39 := Try.func47.trans (congrArg some (by kernel_rfl))
  t0 := Try.underlying0
  a0 := Try.isAgg0
  z0 := Try.sizeOf0
  v0 := Try.zeroValue0
  t3 := Try.underlying3
  a3 := Try.isAgg3
  z3 := Try.sizeOf3
  v3 := Try.zeroValue3
  t4 := Try.underlying4
  a4 := Try.isAgg4
  z4 := Try.sizeOf4
  v4 := Try.zeroValue4
  t22 := Try.underlying22
  a22 := Try.isAgg22
  z22 := Try.sizeOf22
  v22 := Try.zeroValue22
  i3 := by kernel_rfl
set_option maxRecDepth 100000 in
theorem awake : ClosedX (insExt 34) Try.prog 15 (.bool true) := ⟨rfl, 60, by kernel_rfl⟩
theorem ext (nb : Nat) : XOk Try.prog nb (clExtX (libX (Rs.func Try.prog) 34 35) [(15, .bool true)]) := clExtX_ok (fun nb => libX_ok lays mixed 35) (fun nb => insExt_ok lays) mixed (fun p hp => by simp at hp; subst hp; exact awake)
def gs : List (Bool × List CK) := [(false, [.sl [.int .i64] 8]), (false, [.f (.int .i64)])]
noncomputable abbrev XT : Ext := clExtX (libX (Rs.func Try.prog) 34 35) [(15, .bool true)]
theorem nX (g : FuncId) (hg : g ≠ 15 ∧ g ≠ 34 ∧ g ≠ 35) : XT g = none := by simp [XT, clExtX, libX, Ne.symm hg.1, hg.2.1, hg.2.2]
theorem iX : XT 34 = some insA := by simp [XT, clExtX, libX]
theorem dX : XT 35 = some (cutX (Rs.func Try.prog) 35) := by simp [XT, clExtX, libX]
theorem t_aw : S_yes XT (Rs.func Try.prog) 15 := fun lim h => ⟨1, .bool true, h, rfl, Pfx.refl h, rfl⟩
set_option maxRecDepth 100000 in
theorem F_8 : Rs.func Try.prog 8 = some (rf_TableSets 15 10 13) := by kernel_rfl
set_option maxRecDepth 100000 in
theorem F_10 : Rs.func Try.prog 10 = some (rf_fdsApply 17 18 19 20 21 22) := by kernel_rfl
set_option maxRecDepth 100000 in
theorem F_17 : Rs.func Try.prog 17 = some rf_fMay := by kernel_rfl
theorem t_17 : S_fMay XT (Rs.func Try.prog) 17 := s_fMay (nX 17 (by decide)) F_17
set_option maxRecDepth 100000 in
theorem F_18 : Rs.func Try.prog 18 = some (rf_oMay 31) := by kernel_rfl
set_option maxRecDepth 100000 in
theorem F_31 : Rs.func Try.prog 31 = some rf_oArg := by kernel_rfl
theorem t_31 : S_oArg XT (Rs.func Try.prog) 31 := s_oArg (nX 31 (by decide)) F_31
theorem t_18 : S_oMay XT (Rs.func Try.prog) 18 := s_oMay (nX 18 (by decide)) F_18 t_31
set_option maxRecDepth 100000 in
theorem F_19 : Rs.func Try.prog 19 = some (rf_sCopy 32) := by kernel_rfl
set_option maxRecDepth 100000 in
theorem F_32 : Rs.func Try.prog 32 = some rf_Clone := by kernel_rfl
set_option maxRecDepth 100000 in
theorem F_20 : Rs.func Try.prog 20 = some (rf_fTaken 33 34) := by kernel_rfl
set_option maxRecDepth 100000 in
theorem F_33 : Rs.func Try.prog 33 = some (rf_BS 40 41) := by kernel_rfl
set_option maxRecDepth 100000 in
theorem F_40 : Rs.func Try.prog 40 = some (rf_Less 45) := by kernel_rfl
set_option maxRecDepth 100000 in
theorem F_45 : Rs.func Try.prog 45 = some rf_NaN1 := by kernel_rfl
theorem t_45 : S_NaN XT (Rs.func Try.prog) 45 := s_NaN1 (nX 45 (by decide)) F_45
theorem t_40 : S_Less XT (Rs.func Try.prog) 40 := s_Less (nX 40 (by decide)) F_40 t_45
set_option maxRecDepth 100000 in
theorem F_41 : Rs.func Try.prog 41 = some rf_NaN2 := by kernel_rfl
theorem t_41 : S_NaN XT (Rs.func Try.prog) 41 := s_NaN2 (nX 41 (by decide)) F_41
theorem t_33 : S_BS XT (Rs.func Try.prog) 33 := s_BS (nX 33 (by decide)) F_33 t_40 t_41
theorem t_20_fTaken2 : S_fTaken2 XT (Rs.func Try.prog) 20 := s_fTaken2 (nX 20 (by decide)) F_20 t_33 iX
set_option maxRecDepth 100000 in
theorem F_21 : Rs.func Try.prog 21 = some (rf_fFreed 33 35) := by kernel_rfl
set_option maxRecDepth 100000 in
theorem F_35 : Rs.func Try.prog 35 = some rf_Del := by kernel_rfl
theorem t_35 : S_Del XT (Rs.func Try.prog) 35 := s_Del dX F_35
theorem t_21 : S_fFreed2 XT (Rs.func Try.prog) 21 := s_fFreed (nX 21 (by decide)) F_21 t_33 t_35
set_option maxRecDepth 100000 in
theorem F_22 : Rs.func Try.prog 22 = some (rf_fMany 36) := by kernel_rfl
set_option maxRecDepth 100000 in
theorem F_36 : Rs.func Try.prog 36 = some (rf_Concat 44) := by kernel_rfl
set_option maxRecDepth 100000 in
theorem F_44 : Rs.func Try.prog 44 = some rf_Grow := by kernel_rfl
theorem t_44 : S_Grow XT (Rs.func Try.prog) 44 := s_Grow (nX 44 (by decide)) F_44
theorem t_36 : S_Concat XT (Rs.func Try.prog) 36 := s_Concat (nX 36 (by decide)) F_36 t_44
theorem t_22 : S_fMany XT (Rs.func Try.prog) 22 := s_fMany (nX 22 (by decide)) F_22 t_36
theorem t_10 : S_fdsApply XT (Rs.func Try.prog) 10 := s_fdsApply (nX 10 (by decide)) F_10 t_17 t_18 (nX 19 (by decide)) F_19 (nX 32 (by decide)) F_32 t_20_fTaken2 t_21 t_22
set_option maxRecDepth 100000 in
theorem F_13 : Rs.func Try.prog 13 = some rf_Num := by kernel_rfl
theorem t_13 : S_Num XT (Rs.func Try.prog) 13 := s_Num (nX 13 (by decide)) F_13
set_option maxRecDepth 100000 in
theorem law (h : AH) (us : List Value) (hu : AArgs h gs us) : Ret XT (Rs.func Try.prog) h.length 8 us h fun v _ => v = .bool true := by
  cases hu with
  | cons h0 k =>
  cases k with
  | cons h1 k =>
  cases k
  obtain ⟨a0, n0, xs0, rfl, hs0, hf0, hn0⟩ := h0.ints
  obtain ⟨x1, rfl, hx1⟩ := h1.int
  exact s_TableSets (nX 8 (by decide)) F_8 t_aw t_10 t_13 h hs0 hf0 hn0 hx1
set_option maxRecDepth 100000 in
theorem lifted (os : Os) (started : os.Started) (H : Type) (enc : TypeId × Value → H) :
    ReturnsInHanded {} Try.checked os 8 .any (Rows.tableSetsSpec.pre6 enc Try.prog Try.f8 Rows.tableSetsRow.domain false) (Rows.tableSetsSpec.post enc Try.prog Try.f8 false true false false) := by
  refine returnsInHanded_of_change_sized (C := Try.checked) own started (by kernel_rfl) Try.func8
    (ChangeSpec.witness6 (enc := enc) (C := Try.checked) false ⟨#[], #[.slice none 0 0, .int .i64 0], []⟩ 8 (by kernel_rfl) (by kernel_rfl) (by kernel_rfl) (by kernel_rfl)) ?_
  intro W base args ds gs0 before hval0 hW hcnd hsz0 _
  have hsz : (DataW.weightsEach Try.prog (Try.f8.params.toList ++ Rows.tableSetsSpec.plain.varTypes Try.prog) (ds ++ gs0)).all (· ≤ reachBytes) = true := hsz0
  have hval : ∀ (j : Nat) t v, Try.f8.params[j]? = some t → args[j]? = some v → Value.okWide Try.prog W .any base t v := hval0
  have hW' := hW
  obtain ⟨p, q, hA0, hV, rfl, hfz, hnd⟩ := hW
  have hA : DataW.TrodAll enc Try.prog W 0 (fun _ => true) true Try.f8.params.toList args.toList ds p := hA0
  rw [Try.params8] at hA hval hsz
  obtain ⟨v0, vs0, d0, ds0, p0, q0, hargs, rfl, rfl, h0, r0⟩ := trodAll_cons hA
  obtain ⟨v1, vs1, d1, ds1, p1, q1, rfl, rfl, rfl, h1, r1⟩ := trodAll_cons r0
  obtain ⟨rfl, rfl, rfl⟩ := trodAll_nil r1
  obtain rfl : args = #[v0, v1] := by cases args; simp_all
  obtain ⟨rfl, rfl⟩ := trodVars_none hV
  have q_0 : ArgIs W (false, [.sl [.int .i64] 8]) v0 := argIs_slice Try.underlying22 (hval 0 22 v0 rfl rfl) (arg_cok (j := 0) (d := 8) (ks := [.sl [.int .i64] 8]) (by kernel_rfl) hsz rfl rfl h0)
  have q_1 : ArgIs W (false, [.f (.int .i64)]) v1 := argIs_int Try.underlying3 (hval 1 3 v1 rfl rfl) h1 (arg_cok (j := 1) (d := 8) (ks := [.f (.int .i64)]) (by kernel_rfl) hsz rfl rfl h1)
  have hargs2 : Args W gs [v0, v1] := .cons q_0 (.cons q_1 (.nil))
  refine (law_calls mixed ext hargs2 (wide_of rfl) law).mono fun e W' ⟨he, bel0⟩ => ?_
  have bel : Below W.heap.size W W' := bel0
  subst he
  exact ⟨_, rfl, _, _, _, [], _, [], hW', trodAll_mk1 (shut_bool Try.underlying4 _), (trodAll_cons_mk (Below.trod laidOut (by kernel_rfl) (of_decide_eq_true (by kernel_rfl)) h0 bel (trod_below h0)) (trodAll_cons_mk (Below.trod laidOut (by kernel_rfl) (of_decide_eq_true (by kernel_rfl)) h1 bel (trod_below h1)) trodAll_mk0)), rfl, bel.frame _, fun h => by cases h⟩
theorem over : Rows.tableSetsRow.holds Try.pinned (OpenSpec.ofChange Rows.tableSetsSpec) :=
  OpenClaim.holds_of_wide 8 Try.f8 rfl rfl rfl rfl rfl rfl rfl ⟨rfl, rfl, rfl, rfl, rfl⟩ rfl rfl rfl rfl rfl (by kernel_rfl) Try.func8 (by kernel_rfl)
    (of_decide_eq_true (by kernel_rfl)) (by unfold Func.isWrapper; first | (rw [if_pos (by decide +kernel)]; kernel_rfl) | (rw [if_neg (by decide +kernel)]; exact ⟨rfl, rfl⟩))
    (fun os started H enc _ => lifted os started H enc)
theorem proved : Rows.TableSetsSaid := over
#print axioms proved
end Go.Proofs.Ytppdkaldlknjnaa.tableSets
namespace Go.Proofs.Ytppdkaldlknjnaa
/-- The row, under a short name, for the claim. -/
theorem tableSets_holds : Rows.TableSetsSaid := tableSets.proved
end Go.Proofs.Ytppdkaldlknjnaa

