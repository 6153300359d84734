-- The row of the law choruslaw7_Routes, out of its Pure and its walk: written by a program of this session (wip/tools/extra.py).
import Derived.Test.YtkdjbkfcfbignaaRows
import Derived.Test.YtkdjbkfcfbignaaPRoutesx6
import Derived.Test.YtkdjbkfcfbignaaPureRoutes
import Derived.Test.YtkdjbkfcfbignaaOpen
import Derived.WalkKit
import Derived.ProofKit
import Derived.OpenShut
import Derived.ShutString
import Derived.ChangeOld
import Derived.Below
import Derived.SizedLaws
namespace Go.Proofs.Ytkdjbkfcfbignaa.routes
open Go.ChangeShapes Go.WideShapes Go.ChangeAt Go.RowKit
open Go.ChangeMaps (open_string shut_string)
open Go.Proofs.YtkdjbkfcfbignaaW.Open Go.Proofs.YtkdjbkfcfbignaaW.PrintWords Go.Proofs.Ytkdjbkfcfbignaa.PRoutes
set_option linter.unusedVariables false
theorem own : ownKnob Try.prog.godebug = none := by kernel_rfl
theorem laidOut : laidOutB Try.prog = true := by kernel_rfl
theorem opens0 : ∃ ok, Opens Try.prog 23 (Kd.pair (Kd.int .i64) (Kd.pair (Kd.int .i64) (Kd.int .i64))) ok ∧ (∀ x, ok x → ((Lit.int .i64 x.1).wf = true) ∧ (((Lit.int .i64 x.2.1).wf = true) ∧ ((Lit.int .i64 x.2.2).wf = true))) := ⟨_, (Opens.struct (l := [(3, 0), (3, 1), (3, 2)]) Try.underlying23 (by kernel_rfl) (by kernel_rfl) (FieldsOpen.cons (s' := 1) (Opens.int Try.underlying3 (by kernel_rfl)) rfl (FieldsOpen.cons (s' := 2) (Opens.int Try.underlying3 (by kernel_rfl)) rfl (FieldsOpen.one (Opens.int Try.underlying3 (by kernel_rfl)))))), fun x h => by first | exact h | simpa using h⟩
theorem opens1 : ∃ ok, Opens Try.prog 27 (Kd.pair (Kd.slice 3 (Kd.int .i64)) (Kd.pair (Kd.slice 3 (Kd.int .i64)) (Kd.pair (Kd.slice 3 (Kd.int .i64)) (Kd.slice 3 (Kd.int .i64))))) ok ∧ (∀ x, ok x → (x.1.length ≤ maxLen ∧ x.1.length * 8 ≤ 140737488351232 ∧ (∀ y_ ∈ x.1, (Lit.int .i64 y_).wf = true)) ∧ ((x.2.1.length ≤ maxLen ∧ x.2.1.length * 8 ≤ 140737488351232 ∧ (∀ y_ ∈ x.2.1, (Lit.int .i64 y_).wf = true)) ∧ ((x.2.2.1.length ≤ maxLen ∧ x.2.2.1.length * 8 ≤ 140737488351232 ∧ (∀ y_ ∈ x.2.2.1, (Lit.int .i64 y_).wf = true)) ∧ (x.2.2.2.length ≤ maxLen ∧ x.2.2.2.length * 8 ≤ 140737488351232 ∧ (∀ y_ ∈ x.2.2.2, (Lit.int .i64 y_).wf = true))))) := ⟨_, (Opens.struct (l := [(25, 0)]) Try.underlying27 (by kernel_rfl) (by kernel_rfl) (FieldsOpen.one (Opens.array (l := [(24, 0), (24, 1), (24, 2), (24, 3)]) Try.underlying25 (by kernel_rfl) (by kernel_rfl) (FieldsOpen.cons (s' := 1) (Opens.slice (B := 8) (Opens.int Try.underlying3 (by kernel_rfl)) Try.underlying24 (by kernel_rfl) (by kernel_rfl)) rfl (FieldsOpen.cons (s' := 2) (Opens.slice (B := 8) (Opens.int Try.underlying3 (by kernel_rfl)) Try.underlying24 (by kernel_rfl) (by kernel_rfl)) rfl (FieldsOpen.cons (s' := 3) (Opens.slice (B := 8) (Opens.int Try.underlying3 (by kernel_rfl)) Try.underlying24 (by kernel_rfl) (by kernel_rfl)) rfl (FieldsOpen.one (Opens.slice (B := 8) (Opens.int Try.underlying3 (by kernel_rfl)) Try.underlying24 (by kernel_rfl) (by kernel_rfl))))))))), fun x h => by first | exact h | simpa using h⟩
set_option maxRecDepth 100000 in
theorem lifted (os : Os) (started : os.Started) (H : Type) (enc : TypeId × Value → H) :
    ReturnsInHanded {} Try.checked os 3 .any (Rows.routesSpec.pre6 enc Try.prog Try.f3 Rows.routesRow.domain false) (Rows.routesSpec.post enc Try.prog Try.f3 false true false false) := by
  refine returnsInHanded_of_change_sized (C := Try.checked) own started (by kernel_rfl) Try.func3
    (ChangeSpec.witness6 (enc := enc) (C := Try.checked) false ⟨#[], #[.agg #[.int .i64 0, .int .i64 0, .int .i64 0], .agg #[.slice none 0 0, .slice none 0 0, .slice none 0 0, .slice none 0 0], .int .i64 0, .int .i64 0], []⟩ 8 (by kernel_rfl) (by kernel_rfl) (by kernel_rfl) (by kernel_rfl)) ?_
  intro W base args ds gs before hval0 hW hcnd hsz0 _
  have hsz : (DataW.weightsEach Try.prog (Try.f3.params.toList ++ Rows.routesSpec.plain.varTypes Try.prog) (ds ++ gs)).all (· ≤ reachBytes) = true := hsz0
  have hval : ∀ (j : Nat) t v, Try.f3.params[j]? = some t → args[j]? = some v → Value.okWide Try.prog W .any base t v := hval0
  have hW' := hW
  obtain ⟨p, q, hA0, hV, rfl, hfz, hnd⟩ := hW
  have hA : DataW.TrodAll enc Try.prog W 0 (fun _ => true) true Try.f3.params.toList args.toList ds p := hA0
  rw [Try.params3] at hA hval hsz
  obtain ⟨v0, vs0, d0, ds0, p0, q0, hargs, rfl, rfl, h0, r0⟩ := trodAll_cons hA
  obtain ⟨v1, vs1, d1, ds1, p1, q1, rfl, rfl, rfl, h1, r1⟩ := trodAll_cons r0
  obtain ⟨v2, vs2, d2, ds2, p2, q2, rfl, rfl, rfl, h2, r2⟩ := trodAll_cons r1
  obtain ⟨v3, vs3, d3, ds3, p3, q3, rfl, rfl, rfl, h3, r3⟩ := trodAll_cons r2
  obtain ⟨rfl, rfl, rfl⟩ := trodAll_nil r3
  obtain rfl : args = #[v0, v1, v2, v3] := by cases args; simp_all
  obtain ⟨rfl, rfl⟩ := trodVars_none hV
  have k0 := h0
  have lt0 := trod_lt h0
  obtain ⟨ok0, op0, im0⟩ := opens0
  obtain ⟨⟨a0_0, ⟨a0_1, a0_2⟩⟩, hK0, hok0⟩ := arg_opens (j := 0) op0 hsz rfl rfl h0
  obtain ⟨w0_0, ⟨w0_1, w0_2⟩⟩ := im0 _ hok0
  obtain ⟨_, _, e0, rfl, ⟨_, _, rfl, rfl, rfl⟩⟩ := hK0
  have g0 := agg_of Try.underlying23 (hval 0 23 v0 rfl rfl) e0
  simp only [List.cons_append, List.nil_append, List.singleton_append] at g0
  subst g0
  have k1 := h1
  have lt1 := trod_lt h1
  obtain ⟨ok1, op1, im1⟩ := opens1
  obtain ⟨⟨l1_0, ⟨l1_1, ⟨l1_2, l1_3⟩⟩⟩, hK1, hok1⟩ := arg_opens (j := 1) op1 hsz rfl rfl h1
  obtain ⟨w1_0, ⟨w1_1, ⟨w1_2, w1_3⟩⟩⟩ := im1 _ hok1
  obtain ⟨_, _, e1, ⟨A1_0, c1_0, rfl, hc1_0, hr1_0⟩, ⟨_, _, rfl, ⟨A1_1, c1_1, rfl, hc1_1, hr1_1⟩, ⟨_, _, rfl, ⟨A1_2, c1_2, rfl, hc1_2, hr1_2⟩, ⟨A1_3, c1_3, rfl, hc1_3, hr1_3⟩⟩⟩⟩ := hK1
  have g1 := agg_of Try.underlying27 (hval 1 27 v1 rfl rfl) e1
  simp only [List.cons_append, List.nil_append, List.singleton_append] at g1
  subst g1
  obtain ⟨a2, rfl, rfl, rfl, w2⟩ := open_int Try.underlying3 (hval 2 3 v2 rfl rfl) h2
  obtain ⟨a3, rfl, rfl, rfl, w3⟩ := open_int Try.underlying3 (hval 3 3 v3 rfl rfl) h3
  clear hA0 hval0 hsz0 hsz
  obtain ⟨k, hpure⟩ := Pure.Routes a0_0 a0_1 a0_2 l1_0 l1_1 l1_2 l1_3 a2 a3 w0_0 w0_1 w0_2 w1_0 w1_1 w1_2 w1_3 w2 w3
  refine (choruslaw7_Routes.calls k a0_0 a0_1 a0_2 _ _ l1_0 _ _ l1_1 _ _ l1_2 _ _ l1_3 a2 a3 true W hr1_0 hc1_0 hr1_1 hc1_1 hr1_2 hc1_2 hr1_3 hc1_3 hpure).mono fun e W' ⟨he, bel0⟩ => ?_
  have bel : Below W.heap.size W W' := bel0
  subst he
  exact ⟨_, rfl, _, _, _, [], _, [], hW', trodAll_mk1 (shut_bool Try.underlying4 _), (trodAll_cons_mk (Below.trod laidOut (by kernel_rfl) (of_decide_eq_true (by kernel_rfl)) k0 bel lt0) (trodAll_cons_mk (Below.trod laidOut (by kernel_rfl) (of_decide_eq_true (by kernel_rfl)) k1 bel lt1) (trodAll_cons_mk (shut_int Try.underlying3 w2) (trodAll_cons_mk (shut_int Try.underlying3 w3) trodAll_mk0)))), rfl, bel.frame _, fun h => by cases h⟩
theorem over : Rows.routesRow.holds Try.pinned (OpenSpec.ofChange Rows.routesSpec) :=
  OpenClaim.holds_of_wide 3 Try.f3 rfl rfl rfl rfl rfl rfl rfl ⟨rfl, rfl, rfl, rfl, rfl⟩ rfl rfl rfl rfl rfl (by kernel_rfl) Try.func3 (by kernel_rfl)
    (of_decide_eq_true (by kernel_rfl)) (by unfold Func.isWrapper; first | (rw [if_pos (by decide +kernel)]; kernel_rfl) | (rw [if_neg (by decide +kernel)]; exact ⟨rfl, rfl⟩))
    (fun os started H enc _ => lifted os started H enc)
theorem proved : Rows.RoutesSaid := over
#print axioms proved
end Go.Proofs.Ytkdjbkfcfbignaa.routes
namespace Go.Proofs.Ytkdjbkfcfbignaa
/-- The row, under a short name, for the claim. -/
theorem routes_holds : Rows.RoutesSaid := routes.proved
end Go.Proofs.Ytkdjbkfcfbignaa
