/- The statement CursorLeast: what the small machine answers, Go answers; written by wip/tools/row.py, out of wip/fn. -/
import Derived.Test.YtjgcaojbfcaalaaRows
import Derived.Test.YtjgcaojbfcaalaaLCursorLeast
import Derived.Test.YtjgcaojbfcaalaaAi31
import Derived.WalkKit
import Derived.ProofKit
import Derived.OpenShut
import Derived.ShutString
import Derived.ChangeOld
import Derived.Below
import Derived.SizedLaws
import Derived.KernelRfl
namespace Go.Proofs.Ytjgcaojbfcaalaa.cursorLeast
open Go.ChangeShapes Go.WideShapes Go.ChangeAt Go.RowKit
open Go.ChangeMaps (open_string shut_string)
open Go.Proofs.YtjgcaojbfcaalaaW.Ai
set_option linter.unusedVariables false
set_option linter.unusedSimpArgs false
theorem own : ownKnob Try.prog.godebug = none := by kernel_rfl
theorem laidOut : laidOutB Try.prog = true := by kernel_rfl
theorem mixed : Try.prog.follows .mixedOrders = true := by kernel_rfl
set_option maxRecDepth 100000 in
theorem awake : Closed Try.prog 14 (.bool true) := ⟨rfl, 60, by kernel_rfl⟩
theorem ext (nb : Nat) : XOk Try.prog nb (clExt [(14, .bool true)]) := clExt_ok mixed (fun p hp => by simp at hp; subst hp; exact awake)
def gs : List (Bool × List CK) := [(false, [.sl [.int .i64] 8]), (false, [.f (.int .i64)])]
theorem nX (g : FuncId) (hg : g ≠ 14) : clExt [(14, .bool true)] g = none := by simp [clExt, Ne.symm hg]
theorem t_aw : S_yes (clExt [(14, .bool true)]) (Rs.func Try.prog) 14 := fun lim h => ⟨1, .bool true, h, rfl, Pfx.refl h, rfl⟩
set_option maxRecDepth 100000 in
theorem F_5 : Rs.func Try.prog 5 = some (rf_CursorLeast 14 8 10) := by kernel_rfl
set_option maxRecDepth 100000 in
theorem F_8 : Rs.func Try.prog 8 = some (rf_cLeast 18) := by kernel_rfl
set_option maxRecDepth 100000 in
theorem F_18 : Rs.func Try.prog 18 = some rf_Min := by kernel_rfl
theorem t_8 : S_cLeast (clExt [(14, .bool true)]) (Rs.func Try.prog) 8 := s_cLeast (nX 8 (by decide)) F_8 (nX 18 (by decide)) F_18
set_option maxRecDepth 100000 in
theorem F_10 : Rs.func Try.prog 10 = some rf_Num := by kernel_rfl
theorem t_10 : S_Num (clExt [(14, .bool true)]) (Rs.func Try.prog) 10 := s_Num (nX 10 (by decide)) F_10
set_option maxRecDepth 100000 in
theorem law (h : AH) (us : List Value) (hu : AArgs h gs us) : Ret (clExt [(14, .bool true)]) (Rs.func Try.prog) h.length 5 us h fun v _ => v = .bool true := by
  cases hu with
  | cons h0 k =>
  cases k with
  | cons h1 k =>
  cases k
  obtain ⟨a0, n0, xs0, rfl, hs0, hf0, hn0⟩ := h0.ints
  obtain ⟨x1, rfl, hx1⟩ := h1.int
  exact s_CursorLeast (nX 5 (by decide)) F_5 t_aw t_8 t_10 h hs0 hf0 hn0 hx1
set_option maxRecDepth 100000 in
theorem lifted (os : Os) (started : os.Started) (H : Type) (enc : TypeId × Value → H) :
    ReturnsInHanded {} Try.checked os 5 .any (Rows.cursorLeastSpec.pre6 enc Try.prog Try.f5 Rows.cursorLeastRow.domain false) (Rows.cursorLeastSpec.post enc Try.prog Try.f5 false true false false) := by
  refine returnsInHanded_of_change_sized (C := Try.checked) own started (by kernel_rfl) Try.func5
    (ChangeSpec.witness6 (enc := enc) (C := Try.checked) false ⟨#[], #[.slice none 0 0, .int .i64 0], []⟩ 8 (by kernel_rfl) (by kernel_rfl) (by kernel_rfl) (by kernel_rfl)) ?_
  intro W base args ds gs0 before hval0 hW hcnd hsz0 _
  have hsz : (DataW.weightsEach Try.prog (Try.f5.params.toList ++ Rows.cursorLeastSpec.plain.varTypes Try.prog) (ds ++ gs0)).all (· ≤ reachBytes) = true := hsz0
  have hval : ∀ (j : Nat) t v, Try.f5.params[j]? = some t → args[j]? = some v → Value.okWide Try.prog W .any base t v := hval0
  have hW' := hW
  obtain ⟨p, q, hA0, hV, rfl, hfz, hnd⟩ := hW
  have hA : DataW.TrodAll enc Try.prog W 0 (fun _ => true) true Try.f5.params.toList args.toList ds p := hA0
  rw [Try.params5] at hA hval hsz
  obtain ⟨v0, vs0, d0, ds0, p0, q0, hargs, rfl, rfl, h0, r0⟩ := trodAll_cons hA
  obtain ⟨v1, vs1, d1, ds1, p1, q1, rfl, rfl, rfl, h1, r1⟩ := trodAll_cons r0
  obtain ⟨rfl, rfl, rfl⟩ := trodAll_nil r1
  obtain rfl : args = #[v0, v1] := by cases args; simp_all
  obtain ⟨rfl, rfl⟩ := trodVars_none hV
  have q_0 : ArgIs W (false, [.sl [.int .i64] 8]) v0 := argIs_slice Try.underlying25 (hval 0 25 v0 rfl rfl) (arg_cok (j := 0) (d := 8) (ks := [.sl [.int .i64] 8]) (by kernel_rfl) hsz rfl rfl h0)
  have q_1 : ArgIs W (false, [.f (.int .i64)]) v1 := argIs_int Try.underlying3 (hval 1 3 v1 rfl rfl) h1 (arg_cok (j := 1) (d := 8) (ks := [.f (.int .i64)]) (by kernel_rfl) hsz rfl rfl h1)
  have hargs2 : Args W gs [v0, v1] := .cons q_0 (.cons q_1 (.nil))
  refine (law_calls mixed ext hargs2 (wide_of rfl) law).mono fun e W' ⟨he, bel0⟩ => ?_
  have bel : Below W.heap.size W W' := bel0
  subst he
  exact ⟨_, rfl, _, _, _, [], _, [], hW', trodAll_mk1 (shut_bool Try.underlying4 _), (trodAll_cons_mk (Below.trod laidOut (by kernel_rfl) (of_decide_eq_true (by kernel_rfl)) h0 bel (trod_below h0)) (trodAll_cons_mk (Below.trod laidOut (by kernel_rfl) (of_decide_eq_true (by kernel_rfl)) h1 bel (trod_below h1)) trodAll_mk0)), rfl, bel.frame _, fun h => by cases h⟩
theorem over : Rows.cursorLeastRow.holds Try.pinned (OpenSpec.ofChange Rows.cursorLeastSpec) :=
  OpenClaim.holds_of_wide 5 Try.f5 rfl rfl rfl rfl rfl rfl rfl ⟨rfl, rfl, rfl, rfl, rfl⟩ rfl rfl rfl rfl rfl (by kernel_rfl) Try.func5 (by kernel_rfl)
    (of_decide_eq_true (by kernel_rfl)) (by unfold Func.isWrapper; first | (rw [if_pos (by decide +kernel)]; kernel_rfl) | (rw [if_neg (by decide +kernel)]; exact ⟨rfl, rfl⟩))
    (fun os started H enc _ => lifted os started H enc)
theorem proved : Rows.CursorLeastSaid := over
#print axioms proved
end Go.Proofs.Ytjgcaojbfcaalaa.cursorLeast
namespace Go.Proofs.Ytjgcaojbfcaalaa
/-- The row, under a short name, for the claim. -/
theorem cursorLeast_holds : Rows.CursorLeastSaid := cursorLeast.proved
end Go.Proofs.Ytjgcaojbfcaalaa

