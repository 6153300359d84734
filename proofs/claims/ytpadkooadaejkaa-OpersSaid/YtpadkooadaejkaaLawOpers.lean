-- The row of the law choruslaw2_Opers, out of its Pure and its walk: written by a program of this session (wip/tools/extra.py).
import Derived.Test.YtpadkooadaejkaaRows
import Derived.Test.YtpadkooadaejkaaPOpersx5
import Derived.Test.YtpadkooadaejkaaPureOpers
import Derived.Test.YtpadkooadaejkaaOpen
import Derived.WalkKit
import Derived.ProofKit
import Derived.OpenShut
import Derived.ShutString
import Derived.ChangeOld
import Derived.Below
import Derived.SizedLaws
namespace Go.Proofs.Ytpadkooadaejkaa.opers
open Go.ChangeShapes Go.WideShapes Go.ChangeAt Go.RowKit
open Go.ChangeMaps (open_string shut_string)
open Go.Proofs.YtpadkooadaejkaaW.Open Go.Proofs.YtpadkooadaejkaaW.PrintWords Go.Proofs.Ytpadkooadaejkaa.POpers
set_option linter.unusedVariables false
theorem own : ownKnob Try.prog.godebug = none := by kernel_rfl
theorem laidOut : laidOutB Try.prog = true := by kernel_rfl
theorem opens0 : ∃ ok, Opens Try.prog 23 (Kd.pair (Kd.int .i64) (Kd.pair (Kd.int .i64) (Kd.int .i64))) ok ∧ (∀ x, ok x → ((Lit.int .i64 x.1).wf = true) ∧ (((Lit.int .i64 x.2.1).wf = true) ∧ ((Lit.int .i64 x.2.2).wf = true))) := ⟨_, (Opens.struct (l := [(3, 0), (3, 1), (3, 2)]) Try.underlying23 (by kernel_rfl) (by kernel_rfl) (FieldsOpen.cons (s' := 1) (Opens.int Try.underlying3 (by kernel_rfl)) rfl (FieldsOpen.cons (s' := 2) (Opens.int Try.underlying3 (by kernel_rfl)) rfl (FieldsOpen.one (Opens.int Try.underlying3 (by kernel_rfl)))))), fun x h => by first | exact h | simpa using h⟩
theorem opens1 : ∃ ok, Opens Try.prog 23 (Kd.pair (Kd.int .i64) (Kd.pair (Kd.int .i64) (Kd.int .i64))) ok ∧ (∀ x, ok x → ((Lit.int .i64 x.1).wf = true) ∧ (((Lit.int .i64 x.2.1).wf = true) ∧ ((Lit.int .i64 x.2.2).wf = true))) := ⟨_, (Opens.struct (l := [(3, 0), (3, 1), (3, 2)]) Try.underlying23 (by kernel_rfl) (by kernel_rfl) (FieldsOpen.cons (s' := 1) (Opens.int Try.underlying3 (by kernel_rfl)) rfl (FieldsOpen.cons (s' := 2) (Opens.int Try.underlying3 (by kernel_rfl)) rfl (FieldsOpen.one (Opens.int Try.underlying3 (by kernel_rfl)))))), fun x h => by first | exact h | simpa using h⟩
set_option maxRecDepth 100000 in
theorem lifted (os : Os) (started : os.Started) (H : Type) (enc : TypeId × Value → H) :
    ReturnsInHanded {} Try.checked os 3 .any (Rows.opersSpec.pre6 enc Try.prog Try.f3 Rows.opersRow.domain false) (Rows.opersSpec.post enc Try.prog Try.f3 false true false false) := by
  refine returnsInHanded_of_change_sized (C := Try.checked) own started (by kernel_rfl) Try.func3
    (ChangeSpec.witness6 (enc := enc) (C := Try.checked) false ⟨#[], #[.agg #[.int .i64 0, .int .i64 0, .int .i64 0], .agg #[.int .i64 0, .int .i64 0, .int .i64 0], .string ByteArray.empty], []⟩ 8 (by kernel_rfl) (by kernel_rfl) (by kernel_rfl) (by kernel_rfl)) ?_
  intro W base args ds gs before hval0 hW hcnd hsz0 _
  have hsz : (DataW.weightsEach Try.prog (Try.f3.params.toList ++ Rows.opersSpec.plain.varTypes Try.prog) (ds ++ gs)).all (· ≤ reachBytes) = true := hsz0
  have hval : ∀ (j : Nat) t v, Try.f3.params[j]? = some t → args[j]? = some v → Value.okWide Try.prog W .any base t v := hval0
  have hW' := hW
  obtain ⟨p, q, hA0, hV, rfl, hfz, hnd⟩ := hW
  have hA : DataW.TrodAll enc Try.prog W 0 (fun _ => true) true Try.f3.params.toList args.toList ds p := hA0
  rw [Try.params3] at hA hval hsz
  obtain ⟨v0, vs0, d0, ds0, p0, q0, hargs, rfl, rfl, h0, r0⟩ := trodAll_cons hA
  obtain ⟨v1, vs1, d1, ds1, p1, q1, rfl, rfl, rfl, h1, r1⟩ := trodAll_cons r0
  obtain ⟨v2, vs2, d2, ds2, p2, q2, rfl, rfl, rfl, h2, r2⟩ := trodAll_cons r1
  obtain ⟨rfl, rfl, rfl⟩ := trodAll_nil r2
  obtain rfl : args = #[v0, v1, v2] := by cases args; simp_all
  obtain ⟨rfl, rfl⟩ := trodVars_none hV
  have k0 := h0
  have lt0 := trod_lt h0
  obtain ⟨ok0, op0, im0⟩ := opens0
  obtain ⟨⟨a0_0, ⟨a0_1, a0_2⟩⟩, hK0, hok0⟩ := arg_opens (j := 0) op0 hsz rfl rfl h0
  obtain ⟨w0_0, ⟨w0_1, w0_2⟩⟩ := im0 _ hok0
  obtain ⟨_, _, e0, rfl, ⟨_, _, rfl, rfl, rfl⟩⟩ := hK0
  have g0 := agg_of Try.underlying23 (hval 0 23 v0 rfl rfl) e0
  simp only [List.cons_append, List.nil_append, List.singleton_append] at g0
  subst g0
  have k1 := h1
  have lt1 := trod_lt h1
  obtain ⟨ok1, op1, im1⟩ := opens1
  obtain ⟨⟨a1_0, ⟨a1_1, a1_2⟩⟩, hK1, hok1⟩ := arg_opens (j := 1) op1 hsz rfl rfl h1
  obtain ⟨w1_0, ⟨w1_1, w1_2⟩⟩ := im1 _ hok1
  obtain ⟨_, _, e1, rfl, ⟨_, _, rfl, rfl, rfl⟩⟩ := hK1
  have g1 := agg_of Try.underlying23 (hval 1 23 v1 rfl rfl) e1
  simp only [List.cons_append, List.nil_append, List.singleton_append] at g1
  subst g1
  obtain ⟨a2, rfl, rfl, rfl, y2⟩ := open_string Try.underlying9 (hval 2 9 v2 rfl rfl) h2
  have w2 : a2.size ≤ 140737488351232 := by
    have z := sized_string hsz (j := 2) (t := 9) rfl rfl
    rw [Array.length_toList] at z
    exact z
  clear hA0 hval0 hsz0 hsz
  obtain ⟨k, hpure⟩ := Pure.Opers a0_0 a0_1 a0_2 a1_0 a1_1 a1_2 a2 w0_0 w0_1 w0_2 w1_0 w1_1 w1_2 w2
  refine (choruslaw2_Opers.calls k a0_0 a0_1 a0_2 a1_0 a1_1 a1_2 a2 true W hpure).mono fun e W' ⟨he, bel0⟩ => ?_
  have bel : Below W.heap.size W W' := bel0
  subst he
  exact ⟨_, rfl, _, _, _, [], _, [], hW', trodAll_mk1 (shut_bool Try.underlying4 _), (trodAll_cons_mk (Below.trod laidOut (by kernel_rfl) (of_decide_eq_true (by kernel_rfl)) k0 bel lt0) (trodAll_cons_mk (Below.trod laidOut (by kernel_rfl) (of_decide_eq_true (by kernel_rfl)) k1 bel lt1) (trodAll_cons_mk (shut_string Try.underlying9 y2) trodAll_mk0))), rfl, bel.frame _, fun h => by cases h⟩
theorem over : Rows.opersRow.holds Try.pinned (OpenSpec.ofChange Rows.opersSpec) :=
  OpenClaim.holds_of_wide 3 Try.f3 rfl rfl rfl rfl rfl rfl rfl ⟨rfl, rfl, rfl, rfl, rfl⟩ rfl rfl rfl rfl rfl (by kernel_rfl) Try.func3 (by kernel_rfl)
    (of_decide_eq_true (by kernel_rfl)) (by unfold Func.isWrapper; first | (rw [if_pos (by decide +kernel)]; kernel_rfl) | (rw [if_neg (by decide +kernel)]; exact ⟨rfl, rfl⟩))
    (fun os started H enc _ => lifted os started H enc)
theorem proved : Rows.OpersSaid := over
#print axioms proved
end Go.Proofs.Ytpadkooadaejkaa.opers
namespace Go.Proofs.Ytpadkooadaejkaa
/-- The row, under a short name, for the claim. -/
theorem opers_holds : Rows.OpersSaid := opers.proved
end Go.Proofs.Ytpadkooadaejkaa
