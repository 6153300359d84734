-- The row of the law choruslaw13_Configs, out of its Pure and its walk: written by a program of this session (wip/tools/extra.py).
import Derived.Test.YtjnpbeekdljohaaRows
import Derived.Test.YtjnpbeekdljohaaPConfigsx2
import Derived.Test.YtjnpbeekdljohaaPureConfigs
import Derived.Test.YtjnpbeekdljohaaOpen
import Derived.WalkKit
import Derived.ProofKit
import Derived.OpenShut
import Derived.ShutString
import Derived.ChangeOld
import Derived.Below
import Derived.SizedLaws
namespace Go.Proofs.Ytjnpbeekdljohaa.configs
open Go.ChangeShapes Go.WideShapes Go.ChangeAt Go.RowKit
open Go.ChangeMaps (open_string shut_string)
open Go.Proofs.YtjnpbeekdljohaaW.Open Go.Proofs.YtjnpbeekdljohaaW.PrintWords Go.Proofs.Ytjnpbeekdljohaa.PConfigs
set_option linter.unusedVariables false
theorem own : ownKnob Try.prog.godebug = none := by kernel_rfl
theorem laidOut : laidOutB Try.prog = true := by kernel_rfl
theorem opens0 : ∃ ok, Opens Try.prog 23 (Kd.pair (Kd.int .i64) (Kd.pair (Kd.int .i64) (Kd.pair (Kd.int .i64) (Kd.pair (Kd.int .i64) (Kd.int .i64))))) ok ∧ (∀ x, ok x → ((Lit.int .i64 x.1).wf = true) ∧ (((Lit.int .i64 x.2.1).wf = true) ∧ (((Lit.int .i64 x.2.2.1).wf = true) ∧ (((Lit.int .i64 x.2.2.2.1).wf = true) ∧ ((Lit.int .i64 x.2.2.2.2).wf = true))))) := ⟨_, (Opens.struct (l := [(3, 0), (3, 1), (3, 2), (3, 3), (3, 4)]) Try.underlying23 (by kernel_rfl) (by kernel_rfl) (FieldsOpen.cons (s' := 1) (Opens.int Try.underlying3 (by kernel_rfl)) rfl (FieldsOpen.cons (s' := 2) (Opens.int Try.underlying3 (by kernel_rfl)) rfl (FieldsOpen.cons (s' := 3) (Opens.int Try.underlying3 (by kernel_rfl)) rfl (FieldsOpen.cons (s' := 4) (Opens.int Try.underlying3 (by kernel_rfl)) rfl (FieldsOpen.one (Opens.int Try.underlying3 (by kernel_rfl)))))))), fun x h => by first | exact h | simpa using h⟩
set_option maxRecDepth 100000 in
theorem lifted (os : Os) (started : os.Started) (H : Type) (enc : TypeId × Value → H) :
    ReturnsInHanded {} Try.checked os 3 .any (Rows.configsSpec.pre6 enc Try.prog Try.f3 Rows.configsRow.domain false) (Rows.configsSpec.post enc Try.prog Try.f3 false true false false) := by
  refine returnsInHanded_of_change_sized (C := Try.checked) own started (by kernel_rfl) Try.func3
    (ChangeSpec.witness6 (enc := enc) (C := Try.checked) false ⟨#[], #[.agg #[.int .i64 0, .int .i64 0, .int .i64 0, .int .i64 0, .int .i64 0], .int .i64 0], []⟩ 8 (by kernel_rfl) (by kernel_rfl) (by kernel_rfl) (by kernel_rfl)) ?_
  intro W base args ds gs before hval0 hW hcnd hsz0 _
  have hsz : (DataW.weightsEach Try.prog (Try.f3.params.toList ++ Rows.configsSpec.plain.varTypes Try.prog) (ds ++ gs)).all (· ≤ reachBytes) = true := hsz0
  have hval : ∀ (j : Nat) t v, Try.f3.params[j]? = some t → args[j]? = some v → Value.okWide Try.prog W .any base t v := hval0
  have hW' := hW
  obtain ⟨p, q, hA0, hV, rfl, hfz, hnd⟩ := hW
  have hA : DataW.TrodAll enc Try.prog W 0 (fun _ => true) true Try.f3.params.toList args.toList ds p := hA0
  rw [Try.params3] at hA hval hsz
  obtain ⟨v0, vs0, d0, ds0, p0, q0, hargs, rfl, rfl, h0, r0⟩ := trodAll_cons hA
  obtain ⟨v1, vs1, d1, ds1, p1, q1, rfl, rfl, rfl, h1, r1⟩ := trodAll_cons r0
  obtain ⟨rfl, rfl, rfl⟩ := trodAll_nil r1
  obtain rfl : args = #[v0, v1] := by cases args; simp_all
  obtain ⟨rfl, rfl⟩ := trodVars_none hV
  have k0 := h0
  have lt0 := trod_lt h0
  obtain ⟨ok0, op0, im0⟩ := opens0
  obtain ⟨⟨a0_0, ⟨a0_1, ⟨a0_2, ⟨a0_3, a0_4⟩⟩⟩⟩, hK0, hok0⟩ := arg_opens (j := 0) op0 hsz rfl rfl h0
  obtain ⟨w0_0, ⟨w0_1, ⟨w0_2, ⟨w0_3, w0_4⟩⟩⟩⟩ := im0 _ hok0
  obtain ⟨_, _, e0, rfl, ⟨_, _, rfl, rfl, ⟨_, _, rfl, rfl, ⟨_, _, rfl, rfl, rfl⟩⟩⟩⟩ := hK0
  have g0 := agg_of Try.underlying23 (hval 0 23 v0 rfl rfl) e0
  simp only [List.cons_append, List.nil_append, List.singleton_append] at g0
  subst g0
  obtain ⟨a1, rfl, rfl, rfl, w1⟩ := open_int Try.underlying3 (hval 1 3 v1 rfl rfl) h1
  clear hA0 hval0 hsz0 hsz
  have hpure := Pure.Configs a0_0 a0_1 a0_2 a0_3 a0_4 a1 w0_0 w0_1 w0_2 w0_3 w0_4 w1
  refine (choruslaw13_Configs.calls a0_0 a0_1 a0_2 a0_3 a0_4 a1 true W hpure).mono fun e W' ⟨he, bel0⟩ => ?_
  have bel : Below W.heap.size W W' := bel0
  subst he
  exact ⟨_, rfl, _, _, _, [], _, [], hW', trodAll_mk1 (shut_bool Try.underlying4 _), (trodAll_cons_mk (Below.trod laidOut (by kernel_rfl) (of_decide_eq_true (by kernel_rfl)) k0 bel lt0) (trodAll_cons_mk (shut_int Try.underlying3 w1) trodAll_mk0)), rfl, bel.frame _, fun h => by cases h⟩
theorem over : Rows.configsRow.holds Try.pinned (OpenSpec.ofChange Rows.configsSpec) :=
  OpenClaim.holds_of_wide 3 Try.f3 rfl rfl rfl rfl rfl rfl rfl ⟨rfl, rfl, rfl, rfl, rfl⟩ rfl rfl rfl rfl rfl (by kernel_rfl) Try.func3 (by kernel_rfl)
    (of_decide_eq_true (by kernel_rfl)) (by unfold Func.isWrapper; first | (rw [if_pos (by decide +kernel)]; kernel_rfl) | (rw [if_neg (by decide +kernel)]; exact ⟨rfl, rfl⟩))
    (fun os started H enc _ => lifted os started H enc)
theorem proved : Rows.ConfigsSaid := over
#print axioms proved
end Go.Proofs.Ytjnpbeekdljohaa.configs
namespace Go.Proofs.Ytjnpbeekdljohaa
/-- The row, under a short name, for the claim. -/
theorem configs_holds : Rows.ConfigsSaid := configs.proved
end Go.Proofs.Ytjnpbeekdljohaa
