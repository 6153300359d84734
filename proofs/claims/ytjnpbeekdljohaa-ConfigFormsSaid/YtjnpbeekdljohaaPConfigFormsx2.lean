-- Told by this session's own turn of the print (wip/tools): not typed by hand
import Derived.Test.YtjnpbeekdljohaaPConfigFormsx0
import Derived.Test.YtjnpbeekdljohaaPConfigFormsx1
namespace Go.Proofs.Ytjnpbeekdljohaa.PConfigForms
open Go.RowKit Go.Proofs.YtjnpbeekdljohaaW.PrintWords Go.Proofs.YtjnpbeekdljohaaW.PrintLast Go.Proofs.YtjnpbeekdljohaaW.PrintMore
attribute [local go_sem] max2_int min2_int max_two min_two max_three min_three max_four min_four   -- for this text's walks alone
set_option linter.unusedVariables false
set_option linter.unusedSimpArgs false

/-! ### choruslaw13_ConfigForms: function 4 -/
def choruslaw13_ConfigForms.j0 : Nat → Int → Int → Int → Int → Int → Int → Int → Int → Int → Int → Int → Option (Bool)
  | 0, _, _, _, _, _, _, _, _, _, _, _ => none
  | k + 1, x5, x121000, x121001, x121002, x121003, x121004, x122000, x122001, x122002, x122003, x122004 => (config_Replica.f x122000 x122001 x122002 x122003 x122004 0).bind fun bt122 => ((config_Replica.f x121000 x121001 x121002 x121003 x121004 (wrap64 (-x5))).bind fun bt124 => ((config_Replica.f x121000 x121001 x121002 x121003 x121004 (wrap64 (2 + x5))).bind fun bt126 => ((config_May.f x121000 x121001 x121002 x121003 x121004).bind fun t128 => (if t128 = true then ((config_May.f x122000 x122001 x122002 x122003 x122004).bind fun t129 => (if t129 = true then (some false) else ((choruslaw0_Num.f bt122.2).bind fun t130 => (if t130 = 1300 then ((choruslaw0_Num.f bt124.2).bind fun t131 => (if t131 = 1300 then ((choruslaw0_Num.f bt126.2).bind fun t132 => (if t132 = 1300 then (some true) else (some false))) else (some false))) else (some false))))) else (some false)))))
def choruslaw13_ConfigForms.f (k : Nat) (a0 : Int) (a1 : Int) : Option (Bool) := (choruslaw13_awake.f).bind fun t119 => (if t119 = true then (if (Int.tmod (IntKind.u64.wrap (a0)) 13) = 0 then (choruslaw13_ConfigForms.j0 k (wrap64 (1 + (Go.bits .and .i64 a1 1023))) 1 2 2 3 8 (wrap64 (-(wrap64 (1 + (Go.bits .and .i64 a1 1023))))) 2 2 3 8) else (if (Int.tmod (IntKind.u64.wrap (a0)) 13) = 1 then (choruslaw13_ConfigForms.j0 k (wrap64 (1 + (Go.bits .and .i64 a1 1023))) 1 2 2 3 8 (wrap64 (2 + (wrap64 (1 + (Go.bits .and .i64 a1 1023))))) 2 2 3 8) else (if (Int.tmod (IntKind.u64.wrap (a0)) 13) = 2 then (choruslaw13_ConfigForms.j0 k (wrap64 (1 + (Go.bits .and .i64 a1 1023))) 1 2 2 3 8 1 (wrap64 (1 - (wrap64 (1 + (Go.bits .and .i64 a1 1023))))) 2 3 8) else (if (Int.tmod (IntKind.u64.wrap (a0)) 13) = 3 then (choruslaw13_ConfigForms.j0 k (wrap64 (1 + (Go.bits .and .i64 a1 1023))) 1 2 2 3 8 1 (wrap64 (2 + (wrap64 (1 + (Go.bits .and .i64 a1 1023))))) 2 3 8) else (if (Int.tmod (IntKind.u64.wrap (a0)) 13) = 4 then (choruslaw13_ConfigForms.j0 k (wrap64 (1 + (Go.bits .and .i64 a1 1023))) 1 2 2 3 8 1 2 (wrap64 (1 - (wrap64 (1 + (Go.bits .and .i64 a1 1023))))) 3 8) else (if (Int.tmod (IntKind.u64.wrap (a0)) 13) = 5 then (choruslaw13_ConfigForms.j0 k (wrap64 (1 + (Go.bits .and .i64 a1 1023))) 1 2 2 3 8 1 2 (wrap64 (2 + (wrap64 (1 + (Go.bits .and .i64 a1 1023))))) 3 8) else (if (Int.tmod (IntKind.u64.wrap (a0)) 13) = 6 then (choruslaw13_ConfigForms.j0 k (wrap64 (1 + (Go.bits .and .i64 a1 1023))) 1 2 2 3 8 1 2 2 (wrap64 (1 - (wrap64 (1 + (Go.bits .and .i64 a1 1023))))) 8) else (if (Int.tmod (IntKind.u64.wrap (a0)) 13) = 7 then (choruslaw13_ConfigForms.j0 k (wrap64 (1 + (Go.bits .and .i64 a1 1023))) 1 2 2 3 8 1 2 2 (wrap64 (4 + (wrap64 (1 + (Go.bits .and .i64 a1 1023))))) 8) else (if (Int.tmod (IntKind.u64.wrap (a0)) 13) = 8 then (choruslaw13_ConfigForms.j0 k (wrap64 (1 + (Go.bits .and .i64 a1 1023))) 1 2 2 3 8 1 2 2 3 4) else (if (Int.tmod (IntKind.u64.wrap (a0)) 13) = 9 then (choruslaw13_ConfigForms.j0 k (wrap64 (1 + (Go.bits .and .i64 a1 1023))) 1 2 2 3 8 1 2 2 3 12) else (if (Int.tmod (IntKind.u64.wrap (a0)) 13) = 10 then (choruslaw13_ConfigForms.j0 k (wrap64 (1 + (Go.bits .and .i64 a1 1023))) 1 2 2 3 8 1 2 2 3 (wrap64 (16 + (wrap64 (1 + (Go.bits .and .i64 a1 1023)))))) else (if (Int.tmod (IntKind.u64.wrap (a0)) 13) = 11 then (choruslaw13_ConfigForms.j0 k (wrap64 (1 + (Go.bits .and .i64 a1 1023))) 1 2 2 3 8 1 2 2 3 (wrap64 (-(wrap64 (1 + (Go.bits .and .i64 a1 1023)))))) else (choruslaw13_ConfigForms.j0 k (wrap64 (1 + (Go.bits .and .i64 a1 1023))) 1 2 2 3 8 1 2 2 3 2))))))))))))) else (some false))
theorem choruslaw13_ConfigForms.mono_l : ∀ k, (∀ y0 y1 y2 y3 y4 y5 y6 y7 y8 y9 y10, LeO (choruslaw13_ConfigForms.j0 k y0 y1 y2 y3 y4 y5 y6 y7 y8 y9 y10) (choruslaw13_ConfigForms.j0 (k + 1) y0 y1 y2 y3 y4 y5 y6 y7 y8 y9 y10))
  | 0 => fun _ _ _ _ _ _ _ _ _ _ _ r h => by simp [choruslaw13_ConfigForms.j0] at h
  | k + 1 => by
    have ih0 := choruslaw13_ConfigForms.mono_l k
    · intro y0 y1 y2 y3 y4 y5 y6 y7 y8 y9 y10
      unfold choruslaw13_ConfigForms.j0
      repeat' first
      | (with_reducible exact ih0 _ _ _ _ _ _ _ _ _ _ _)
      | (with_reducible exact LeO.refl _)
      | (with_reducible exact LeO.none _)
      | (with_reducible refine LeO.ite ?_ ?_)
      | (with_reducible refine LeO.bind ?_ (fun _ => ?_))
      | exact ih0 _ _ _ _ _ _ _ _ _ _ _
      | exact LeO.none _
      | refine LeO.ite ?_ ?_
      | refine LeO.bind ?_ (fun _ => ?_)
theorem choruslaw13_ConfigForms.mono : ∀ a0 a1 k, LeO (choruslaw13_ConfigForms.f k a0 a1) (choruslaw13_ConfigForms.f (k + 1) a0 a1) := by
  intro a0 a1 k
  have ih0 := choruslaw13_ConfigForms.mono_l k
  unfold choruslaw13_ConfigForms.f
  repeat' first
      | (with_reducible exact ih0 _ _ _ _ _ _ _ _ _ _ _)
      | (with_reducible exact LeO.refl _)
      | (with_reducible exact LeO.none _)
      | (with_reducible refine LeO.ite ?_ ?_)
      | (with_reducible refine LeO.bind ?_ (fun _ => ?_))
      | exact ih0 _ _ _ _ _ _ _ _ _ _ _
      | exact LeO.none _
      | refine LeO.ite ?_ ?_
      | refine LeO.bind ?_ (fun _ => ?_)
set_option maxHeartbeats 8000000 in
set_option maxRecDepth 100000 in
theorem choruslaw13_ConfigForms.calls (k : Nat) (a0 : Int) (a1 : Int) (r : Bool) (w : World) (h : choruslaw13_ConfigForms.f k a0 a1 = some r) (hr_ : r = true := by first | rfl | assumption) :
    Calls Try.prog 4 #[.int .i64 a0, .int .i64 a1] w fun e w' => e = .returned (.bool r) ∧ Below w.heap.size w w' := by
  subst hr_
  have hu23 := Try.underlying23
  have HB := Aside0.mk (Below.refl w.heap.size w)
  have H : ((choruslaw13_awake.f).bind fun t119 => (if t119 = true then (if (Int.tmod (IntKind.u64.wrap (a0)) 13) = 0 then (choruslaw13_ConfigForms.j0 k (wrap64 (1 + (Go.bits .and .i64 a1 1023))) 1 2 2 3 8 (wrap64 (-(wrap64 (1 + (Go.bits .and .i64 a1 1023))))) 2 2 3 8) else (if (Int.tmod (IntKind.u64.wrap (a0)) 13) = 1 then (choruslaw13_ConfigForms.j0 k (wrap64 (1 + (Go.bits .and .i64 a1 1023))) 1 2 2 3 8 (wrap64 (2 + (wrap64 (1 + (Go.bits .and .i64 a1 1023))))) 2 2 3 8) else (if (Int.tmod (IntKind.u64.wrap (a0)) 13) = 2 then (choruslaw13_ConfigForms.j0 k (wrap64 (1 + (Go.bits .and .i64 a1 1023))) 1 2 2 3 8 1 (wrap64 (1 - (wrap64 (1 + (Go.bits .and .i64 a1 1023))))) 2 3 8) else (if (Int.tmod (IntKind.u64.wrap (a0)) 13) = 3 then (choruslaw13_ConfigForms.j0 k (wrap64 (1 + (Go.bits .and .i64 a1 1023))) 1 2 2 3 8 1 (wrap64 (2 + (wrap64 (1 + (Go.bits .and .i64 a1 1023))))) 2 3 8) else (if (Int.tmod (IntKind.u64.wrap (a0)) 13) = 4 then (choruslaw13_ConfigForms.j0 k (wrap64 (1 + (Go.bits .and .i64 a1 1023))) 1 2 2 3 8 1 2 (wrap64 (1 - (wrap64 (1 + (Go.bits .and .i64 a1 1023))))) 3 8) else (if (Int.tmod (IntKind.u64.wrap (a0)) 13) = 5 then (choruslaw13_ConfigForms.j0 k (wrap64 (1 + (Go.bits .and .i64 a1 1023))) 1 2 2 3 8 1 2 (wrap64 (2 + (wrap64 (1 + (Go.bits .and .i64 a1 1023))))) 3 8) else (if (Int.tmod (IntKind.u64.wrap (a0)) 13) = 6 then (choruslaw13_ConfigForms.j0 k (wrap64 (1 + (Go.bits .and .i64 a1 1023))) 1 2 2 3 8 1 2 2 (wrap64 (1 - (wrap64 (1 + (Go.bits .and .i64 a1 1023))))) 8) else (if (Int.tmod (IntKind.u64.wrap (a0)) 13) = 7 then (choruslaw13_ConfigForms.j0 k (wrap64 (1 + (Go.bits .and .i64 a1 1023))) 1 2 2 3 8 1 2 2 (wrap64 (4 + (wrap64 (1 + (Go.bits .and .i64 a1 1023))))) 8) else (if (Int.tmod (IntKind.u64.wrap (a0)) 13) = 8 then (choruslaw13_ConfigForms.j0 k (wrap64 (1 + (Go.bits .and .i64 a1 1023))) 1 2 2 3 8 1 2 2 3 4) else (if (Int.tmod (IntKind.u64.wrap (a0)) 13) = 9 then (choruslaw13_ConfigForms.j0 k (wrap64 (1 + (Go.bits .and .i64 a1 1023))) 1 2 2 3 8 1 2 2 3 12) else (if (Int.tmod (IntKind.u64.wrap (a0)) 13) = 10 then (choruslaw13_ConfigForms.j0 k (wrap64 (1 + (Go.bits .and .i64 a1 1023))) 1 2 2 3 8 1 2 2 3 (wrap64 (16 + (wrap64 (1 + (Go.bits .and .i64 a1 1023)))))) else (if (Int.tmod (IntKind.u64.wrap (a0)) 13) = 11 then (choruslaw13_ConfigForms.j0 k (wrap64 (1 + (Go.bits .and .i64 a1 1023))) 1 2 2 3 8 1 2 2 3 (wrap64 (-(wrap64 (1 + (Go.bits .and .i64 a1 1023)))))) else (choruslaw13_ConfigForms.j0 k (wrap64 (1 + (Go.bits .and .i64 a1 1023))) 1 2 2 3 8 1 2 2 3 2))))))))))))) else (some false))) = some true := h
  clear h
  replace H := Option.bind_eq_some_iff.mp H
  obtain ⟨t119, A30, H⟩ := H
  replace H : (if t119 = true then (if (Int.tmod (IntKind.u64.wrap (a0)) 13) = 0 then (choruslaw13_ConfigForms.j0 k (wrap64 (1 + (Go.bits .and .i64 a1 1023))) 1 2 2 3 8 (wrap64 (-(wrap64 (1 + (Go.bits .and .i64 a1 1023))))) 2 2 3 8) else (if (Int.tmod (IntKind.u64.wrap (a0)) 13) = 1 then (choruslaw13_ConfigForms.j0 k (wrap64 (1 + (Go.bits .and .i64 a1 1023))) 1 2 2 3 8 (wrap64 (2 + (wrap64 (1 + (Go.bits .and .i64 a1 1023))))) 2 2 3 8) else (if (Int.tmod (IntKind.u64.wrap (a0)) 13) = 2 then (choruslaw13_ConfigForms.j0 k (wrap64 (1 + (Go.bits .and .i64 a1 1023))) 1 2 2 3 8 1 (wrap64 (1 - (wrap64 (1 + (Go.bits .and .i64 a1 1023))))) 2 3 8) else (if (Int.tmod (IntKind.u64.wrap (a0)) 13) = 3 then (choruslaw13_ConfigForms.j0 k (wrap64 (1 + (Go.bits .and .i64 a1 1023))) 1 2 2 3 8 1 (wrap64 (2 + (wrap64 (1 + (Go.bits .and .i64 a1 1023))))) 2 3 8) else (if (Int.tmod (IntKind.u64.wrap (a0)) 13) = 4 then (choruslaw13_ConfigForms.j0 k (wrap64 (1 + (Go.bits .and .i64 a1 1023))) 1 2 2 3 8 1 2 (wrap64 (1 - (wrap64 (1 + (Go.bits .and .i64 a1 1023))))) 3 8) else (if (Int.tmod (IntKind.u64.wrap (a0)) 13) = 5 then (choruslaw13_ConfigForms.j0 k (wrap64 (1 + (Go.bits .and .i64 a1 1023))) 1 2 2 3 8 1 2 (wrap64 (2 + (wrap64 (1 + (Go.bits .and .i64 a1 1023))))) 3 8) else (if (Int.tmod (IntKind.u64.wrap (a0)) 13) = 6 then (choruslaw13_ConfigForms.j0 k (wrap64 (1 + (Go.bits .and .i64 a1 1023))) 1 2 2 3 8 1 2 2 (wrap64 (1 - (wrap64 (1 + (Go.bits .and .i64 a1 1023))))) 8) else (if (Int.tmod (IntKind.u64.wrap (a0)) 13) = 7 then (choruslaw13_ConfigForms.j0 k (wrap64 (1 + (Go.bits .and .i64 a1 1023))) 1 2 2 3 8 1 2 2 (wrap64 (4 + (wrap64 (1 + (Go.bits .and .i64 a1 1023))))) 8) else (if (Int.tmod (IntKind.u64.wrap (a0)) 13) = 8 then (choruslaw13_ConfigForms.j0 k (wrap64 (1 + (Go.bits .and .i64 a1 1023))) 1 2 2 3 8 1 2 2 3 4) else (if (Int.tmod (IntKind.u64.wrap (a0)) 13) = 9 then (choruslaw13_ConfigForms.j0 k (wrap64 (1 + (Go.bits .and .i64 a1 1023))) 1 2 2 3 8 1 2 2 3 12) else (if (Int.tmod (IntKind.u64.wrap (a0)) 13) = 10 then (choruslaw13_ConfigForms.j0 k (wrap64 (1 + (Go.bits .and .i64 a1 1023))) 1 2 2 3 8 1 2 2 3 (wrap64 (16 + (wrap64 (1 + (Go.bits .and .i64 a1 1023)))))) else (if (Int.tmod (IntKind.u64.wrap (a0)) 13) = 11 then (choruslaw13_ConfigForms.j0 k (wrap64 (1 + (Go.bits .and .i64 a1 1023))) 1 2 2 3 8 1 2 2 3 (wrap64 (-(wrap64 (1 + (Go.bits .and .i64 a1 1023)))))) else (choruslaw13_ConfigForms.j0 k (wrap64 (1 + (Go.bits .and .i64 a1 1023))) 1 2 2 3 8 1 2 2 3 2))))))))))))) else (some false)) = some true := H
  have A3 := Aside0.mk A30
  clear A30
  by_cases c4 : t119 = true
  · subst c4
    have H1 : (if (Int.tmod (IntKind.u64.wrap (a0)) 13) = 0 then (choruslaw13_ConfigForms.j0 k (wrap64 (1 + (Go.bits .and .i64 a1 1023))) 1 2 2 3 8 (wrap64 (-(wrap64 (1 + (Go.bits .and .i64 a1 1023))))) 2 2 3 8) else (if (Int.tmod (IntKind.u64.wrap (a0)) 13) = 1 then (choruslaw13_ConfigForms.j0 k (wrap64 (1 + (Go.bits .and .i64 a1 1023))) 1 2 2 3 8 (wrap64 (2 + (wrap64 (1 + (Go.bits .and .i64 a1 1023))))) 2 2 3 8) else (if (Int.tmod (IntKind.u64.wrap (a0)) 13) = 2 then (choruslaw13_ConfigForms.j0 k (wrap64 (1 + (Go.bits .and .i64 a1 1023))) 1 2 2 3 8 1 (wrap64 (1 - (wrap64 (1 + (Go.bits .and .i64 a1 1023))))) 2 3 8) else (if (Int.tmod (IntKind.u64.wrap (a0)) 13) = 3 then (choruslaw13_ConfigForms.j0 k (wrap64 (1 + (Go.bits .and .i64 a1 1023))) 1 2 2 3 8 1 (wrap64 (2 + (wrap64 (1 + (Go.bits .and .i64 a1 1023))))) 2 3 8) else (if (Int.tmod (IntKind.u64.wrap (a0)) 13) = 4 then (choruslaw13_ConfigForms.j0 k (wrap64 (1 + (Go.bits .and .i64 a1 1023))) 1 2 2 3 8 1 2 (wrap64 (1 - (wrap64 (1 + (Go.bits .and .i64 a1 1023))))) 3 8) else (if (Int.tmod (IntKind.u64.wrap (a0)) 13) = 5 then (choruslaw13_ConfigForms.j0 k (wrap64 (1 + (Go.bits .and .i64 a1 1023))) 1 2 2 3 8 1 2 (wrap64 (2 + (wrap64 (1 + (Go.bits .and .i64 a1 1023))))) 3 8) else (if (Int.tmod (IntKind.u64.wrap (a0)) 13) = 6 then (choruslaw13_ConfigForms.j0 k (wrap64 (1 + (Go.bits .and .i64 a1 1023))) 1 2 2 3 8 1 2 2 (wrap64 (1 - (wrap64 (1 + (Go.bits .and .i64 a1 1023))))) 8) else (if (Int.tmod (IntKind.u64.wrap (a0)) 13) = 7 then (choruslaw13_ConfigForms.j0 k (wrap64 (1 + (Go.bits .and .i64 a1 1023))) 1 2 2 3 8 1 2 2 (wrap64 (4 + (wrap64 (1 + (Go.bits .and .i64 a1 1023))))) 8) else (if (Int.tmod (IntKind.u64.wrap (a0)) 13) = 8 then (choruslaw13_ConfigForms.j0 k (wrap64 (1 + (Go.bits .and .i64 a1 1023))) 1 2 2 3 8 1 2 2 3 4) else (if (Int.tmod (IntKind.u64.wrap (a0)) 13) = 9 then (choruslaw13_ConfigForms.j0 k (wrap64 (1 + (Go.bits .and .i64 a1 1023))) 1 2 2 3 8 1 2 2 3 12) else (if (Int.tmod (IntKind.u64.wrap (a0)) 13) = 10 then (choruslaw13_ConfigForms.j0 k (wrap64 (1 + (Go.bits .and .i64 a1 1023))) 1 2 2 3 8 1 2 2 3 (wrap64 (16 + (wrap64 (1 + (Go.bits .and .i64 a1 1023)))))) else (if (Int.tmod (IntKind.u64.wrap (a0)) 13) = 11 then (choruslaw13_ConfigForms.j0 k (wrap64 (1 + (Go.bits .and .i64 a1 1023))) 1 2 2 3 8 1 2 2 3 (wrap64 (-(wrap64 (1 + (Go.bits .and .i64 a1 1023)))))) else (choruslaw13_ConfigForms.j0 k (wrap64 (1 + (Go.bits .and .i64 a1 1023))) 1 2 2 3 8 1 2 2 3 2))))))))))))) = some true := by first | (rw [if_pos rfl] at H; exact H) | rfl
    clear H
    have H := H1
    clear H1
    have HC5 := Aside0.mk H
    clear H
    go_enter Try.func4, Try.ntmps4
    go_upto_block 0 with (first | ((with_reducible refine gate_callee (f := 12) rfl ?_); refine goesL_ (some 14) rfl rfl Try.func12 (by kernel_rfl) rfl #[] rfl (by (try simp only [List.map_toArray, List.map_cons, List.map_nil]); first | done | rfl | (simp only [List.length_drop, List.length_take]; rfl)) ?_; (with_reducible refine (choruslaw13_awake.calls  true _ A3.out).mono ?_); rintro e w6 ⟨rfl, hb⟩; refine ⟨_, rfl, ?_⟩; have n0_ := Aside0.mk (below_step (by repeat (first | (with_reducible first | exact HB.out | apply below_alloc | apply pw_below_drewN | apply below_drew1) | exact HB.out)) hb); clear HB; have HB := n0_; clear n0_; (try clear hb); (try clear hb2); (try clear hk); (try clear hi)) | ((with_reducible refine gate_dst (N := 6) rfl ?_); refine box_event ?hg (N := 6) ?hd (cs := #[.int .i64 0, .int .i64 0, .int .i64 0, .int .i64 0, .int .i64 0]) (t := 23) ?hr ?_; (case hd => rfl); (case hg => rfl); (case hr => first | (go_simp; done) | (go_simp; rfl)); intro gb120 hg w7 hbox hb; have n0_ := Aside0.mk (below_step (by repeat (first | (with_reducible first | exact HB.out | apply below_alloc | apply pw_below_drewN | apply below_drew1) | exact HB.out)) hb); have n1_ := Aside0.mk (hbox); have n2_ := Aside0.mk ((by rw [hg]; exact (below_size (by repeat (first | (with_reducible first | exact HB.out | apply below_alloc | apply pw_below_drewN | apply below_drew1) | exact HB.out))) : w.heap.size ≤ gb120)); have n3_ := Aside0.mk ((by rw [hg]; exact (below_size (by repeat (first | (with_reducible first | exact HB.out | apply below_alloc | apply pw_below_drewN | apply below_drew1) | exact HB.out))) : w.heap.size ≤ gb120)); clear HB; have HB := n0_; have BK120 := n1_; have GW120 := n2_; have GE120 := n3_; clear n0_ n1_ n2_ n3_; clear hb hbox hg; have hcz8_0 : w7.cell? ⟨gb120, 0, none⟩ = some (.int .i64 0) := (blk_cell BK120.out 0).trans rfl; have hcz8_1 : w7.cell? ⟨gb120, 1, none⟩ = some (.int .i64 0) := (blk_cell BK120.out 1).trans rfl; have hcz8_2 : w7.cell? ⟨gb120, 2, none⟩ = some (.int .i64 0) := (blk_cell BK120.out 2).trans rfl; have hcz8_3 : w7.cell? ⟨gb120, 3, none⟩ = some (.int .i64 0) := (blk_cell BK120.out 3).trans rfl; have hcz8_4 : w7.cell? ⟨gb120, 4, none⟩ = some (.int .i64 0) := (blk_cell BK120.out 4).trans rfl; have hfz8_0 := blk_frozen BK120.out 0; have hfz8_1 := blk_frozen BK120.out 1; have hfz8_2 := blk_frozen BK120.out 2; have hfz8_3 := blk_frozen BK120.out 3; have hfz8_4 := blk_frozen BK120.out 4) | ((with_reducible refine gate_dst (N := 7) rfl ?_); refine box_event ?hg (N := 7) ?hd (cs := #[.int .i64 0, .int .i64 0, .int .i64 0, .int .i64 0, .int .i64 0]) (t := 23) ?hr ?_; (case hd => rfl); (case hg => rfl); (case hr => first | (go_simp; done) | (go_simp; rfl)); intro gb121 hg w9 hbox hb; have n0_ := Aside0.mk (blk_below (g := gb120) (o := .cells #[.int .i64 1, .int .i64 2, .int .i64 2, .int .i64 3, .int .i64 8] 23 (0, 0)) (by (with_reducible repeat (first | refine blk_drewN ?_ _ | refine blk_drew ?_ | refine blk_alloc ?_ _)); refine blk_put (cs := #[.int .i64 1, .int .i64 2, .int .i64 2, .int .i64 3, .int .i64 0]) ?_ 4 _ rfl; (with_reducible repeat (first | refine blk_drewN ?_ _ | refine blk_drew ?_ | refine blk_alloc ?_ _)); refine blk_put (cs := #[.int .i64 1, .int .i64 2, .int .i64 2, .int .i64 0, .int .i64 0]) ?_ 3 _ rfl; (with_reducible repeat (first | refine blk_drewN ?_ _ | refine blk_drew ?_ | refine blk_alloc ?_ _)); refine blk_put (cs := #[.int .i64 1, .int .i64 2, .int .i64 0, .int .i64 0, .int .i64 0]) ?_ 2 _ rfl; (with_reducible repeat (first | refine blk_drewN ?_ _ | refine blk_drew ?_ | refine blk_alloc ?_ _)); refine blk_put (cs := #[.int .i64 1, .int .i64 0, .int .i64 0, .int .i64 0, .int .i64 0]) ?_ 1 _ rfl; (with_reducible repeat (first | refine blk_drewN ?_ _ | refine blk_drew ?_ | refine blk_alloc ?_ _)); refine blk_put (cs := #[.int .i64 0, .int .i64 0, .int .i64 0, .int .i64 0, .int .i64 0]) ?_ 0 _ rfl; (with_reducible repeat (first | refine blk_drewN ?_ _ | refine blk_drew ?_ | refine blk_alloc ?_ _)); exact BK120.out) hb); have n1_ := Aside0.mk (below_step (by repeat (first | (with_reducible first | exact HB.out | apply below_alloc | apply pw_below_drewN | apply below_drew1 | refine below_set ?_ GE120.out) | exact HB.out)) hb); have n2_ := Aside0.mk (hbox); have n3_ := Aside0.mk ((by rw [hg]; exact (below_size (by repeat (first | (with_reducible first | exact HB.out | apply below_alloc | apply pw_below_drewN | apply below_drew1 | refine below_set ?_ GE120.out) | exact HB.out))) : w.heap.size ≤ gb121)); have n4_ := Aside0.mk ((by rw [hg]; exact (below_size (by repeat (first | (with_reducible first | exact HB.out | apply below_alloc | apply pw_below_drewN | apply below_drew1 | refine below_set ?_ GE120.out) | exact HB.out))) : w.heap.size ≤ gb121)); have n5_ := Aside0.mk ((by rw [hg]; exact Nat.ne_of_lt (blk_lt (g := gb120) (o := .cells #[.int .i64 1, .int .i64 2, .int .i64 2, .int .i64 3, .int .i64 8] 23 (0, 0)) (by (with_reducible repeat (first | refine blk_drewN ?_ _ | refine blk_drew ?_ | refine blk_alloc ?_ _)); refine blk_put (cs := #[.int .i64 1, .int .i64 2, .int .i64 2, .int .i64 3, .int .i64 0]) ?_ 4 _ rfl; (with_reducible repeat (first | refine blk_drewN ?_ _ | refine blk_drew ?_ | refine blk_alloc ?_ _)); refine blk_put (cs := #[.int .i64 1, .int .i64 2, .int .i64 2, .int .i64 0, .int .i64 0]) ?_ 3 _ rfl; (with_reducible repeat (first | refine blk_drewN ?_ _ | refine blk_drew ?_ | refine blk_alloc ?_ _)); refine blk_put (cs := #[.int .i64 1, .int .i64 2, .int .i64 0, .int .i64 0, .int .i64 0]) ?_ 2 _ rfl; (with_reducible repeat (first | refine blk_drewN ?_ _ | refine blk_drew ?_ | refine blk_alloc ?_ _)); refine blk_put (cs := #[.int .i64 1, .int .i64 0, .int .i64 0, .int .i64 0, .int .i64 0]) ?_ 1 _ rfl; (with_reducible repeat (first | refine blk_drewN ?_ _ | refine blk_drew ?_ | refine blk_alloc ?_ _)); refine blk_put (cs := #[.int .i64 0, .int .i64 0, .int .i64 0, .int .i64 0, .int .i64 0]) ?_ 0 _ rfl; (with_reducible repeat (first | refine blk_drewN ?_ _ | refine blk_drew ?_ | refine blk_alloc ?_ _)); exact BK120.out)) : gb120 ≠ gb121)); have n6_ := Aside0.mk ((by rw [hg]; exact Nat.ne_of_gt (blk_lt (g := gb120) (o := .cells #[.int .i64 1, .int .i64 2, .int .i64 2, .int .i64 3, .int .i64 8] 23 (0, 0)) (by (with_reducible repeat (first | refine blk_drewN ?_ _ | refine blk_drew ?_ | refine blk_alloc ?_ _)); refine blk_put (cs := #[.int .i64 1, .int .i64 2, .int .i64 2, .int .i64 3, .int .i64 0]) ?_ 4 _ rfl; (with_reducible repeat (first | refine blk_drewN ?_ _ | refine blk_drew ?_ | refine blk_alloc ?_ _)); refine blk_put (cs := #[.int .i64 1, .int .i64 2, .int .i64 2, .int .i64 0, .int .i64 0]) ?_ 3 _ rfl; (with_reducible repeat (first | refine blk_drewN ?_ _ | refine blk_drew ?_ | refine blk_alloc ?_ _)); refine blk_put (cs := #[.int .i64 1, .int .i64 2, .int .i64 0, .int .i64 0, .int .i64 0]) ?_ 2 _ rfl; (with_reducible repeat (first | refine blk_drewN ?_ _ | refine blk_drew ?_ | refine blk_alloc ?_ _)); refine blk_put (cs := #[.int .i64 1, .int .i64 0, .int .i64 0, .int .i64 0, .int .i64 0]) ?_ 1 _ rfl; (with_reducible repeat (first | refine blk_drewN ?_ _ | refine blk_drew ?_ | refine blk_alloc ?_ _)); refine blk_put (cs := #[.int .i64 0, .int .i64 0, .int .i64 0, .int .i64 0, .int .i64 0]) ?_ 0 _ rfl; (with_reducible repeat (first | refine blk_drewN ?_ _ | refine blk_drew ?_ | refine blk_alloc ?_ _)); exact BK120.out)) : gb121 ≠ gb120)); clear BK120; clear HB; have BK120 := n0_; have HB := n1_; have BK121 := n2_; have GW121 := n3_; have GE121 := n4_; have NB120_121 := n5_; have NB121_120 := n6_; clear n0_ n1_ n2_ n3_ n4_ n5_ n6_; clear hb hbox hg; have hnb10 := NB121_120.out; have hnc10 := NB120_121.out; have hcz11_0 : w9.cell? ⟨gb121, 0, none⟩ = some (.int .i64 0) := (blk_cell BK121.out 0).trans rfl; have hcz11_1 : w9.cell? ⟨gb121, 1, none⟩ = some (.int .i64 0) := (blk_cell BK121.out 1).trans rfl; have hcz11_2 : w9.cell? ⟨gb121, 2, none⟩ = some (.int .i64 0) := (blk_cell BK121.out 2).trans rfl; have hcz11_3 : w9.cell? ⟨gb121, 3, none⟩ = some (.int .i64 0) := (blk_cell BK121.out 3).trans rfl; have hcz11_4 : w9.cell? ⟨gb121, 4, none⟩ = some (.int .i64 0) := (blk_cell BK121.out 4).trans rfl; have hfz11_0 := blk_frozen BK121.out 0; have hfz11_1 := blk_frozen BK121.out 1; have hfz11_2 := blk_frozen BK121.out 2; have hfz11_3 := blk_frozen BK121.out 3; have hfz11_4 := blk_frozen BK121.out 4))
    (try simp only [Act.put, List.setIfInBounds_toArray, List.set_cons_zero, List.set_cons_succ])
    go_cut [] (fun wc => ∃ (kq : Nat) (x122000_4 : Int) (x122001_4 : Int) (x122002_4 : Int) (x122003_4 : Int) (x122004_4 : Int), Aside0 (choruslaw13_ConfigForms.j0 kq (wrap64 (1 + (Go.bits .and .i64 a1 1023))) 1 2 2 3 8 x122000_4 x122001_4 x122002_4 x122003_4 x122004_4 = some true) ∧ Aside0 (kq ≤ k) ∧ Aside0 (wc.heap[gb120]? = some (.cells #[.int .i64 1, .int .i64 2, .int .i64 2, .int .i64 3, .int .i64 8] 23 (0, 0))) ∧ Aside0 (wc.heap[gb121]? = some (.cells #[.int .i64 x122000_4, .int .i64 x122001_4, .int .i64 x122002_4, .int .i64 x122003_4, .int .i64 x122004_4] 23 (0, 0))) ∧ Aside0 (Below w.heap.size w wc))
    case first =>
      have H := HC5.out
      clear HC5
      by_cases c12 : (Int.tmod (IntKind.u64.wrap (a0)) 13) = 0
      · rw [if_pos c12] at H
        have c12b0 : ((Int.tmod (IntKind.u64.wrap (a0)) 13) == 0) = true := beq_iff_eq.mpr c12
        have c12b1 : ((Int.tmod (IntKind.u64.wrap (a0)) 13) != 0) = false := bne_eq_false_iff_eq.mpr c12
        clear c12
        (first | rw [c12b0] | (simp only [i64_w, i32_w]; rw [c12b0]) | skip)
        have H' := Aside0.mk H
        clear H
        have hnb13 := NB121_120.out
        have hnc13 := NB120_121.out
        have hcz14_0 : w9.cell? ⟨gb121, 0, none⟩ = some (.int .i64 0) := (blk_cell BK121.out 0).trans rfl
        have hcz14_1 : w9.cell? ⟨gb121, 1, none⟩ = some (.int .i64 0) := (blk_cell BK121.out 1).trans rfl
        have hcz14_2 : w9.cell? ⟨gb121, 2, none⟩ = some (.int .i64 0) := (blk_cell BK121.out 2).trans rfl
        have hcz14_3 : w9.cell? ⟨gb121, 3, none⟩ = some (.int .i64 0) := (blk_cell BK121.out 3).trans rfl
        have hcz14_4 : w9.cell? ⟨gb121, 4, none⟩ = some (.int .i64 0) := (blk_cell BK121.out 4).trans rfl
        have hfz14_0 := blk_frozen BK121.out 0
        have hfz14_1 := blk_frozen BK121.out 1
        have hfz14_2 := blk_frozen BK121.out 2
        have hfz14_3 := blk_frozen BK121.out 3
        have hfz14_4 := blk_frozen BK121.out 4
        go_wp2
        go_meet
        case rel => exact ⟨_, (wrap64 (-(wrap64 (1 + (Go.bits .and .i64 a1 1023))))), (2), (2), (3), (8), H', ⟨by first | omega | exact Nat.le_refl _⟩, ⟨by (with_reducible repeat (first | refine blk_drewN ?_ _ | refine blk_drew ?_ | refine blk_alloc ?_ _)); refine blk_far ?_ NB120_121.out _; (with_reducible repeat (first | refine blk_drewN ?_ _ | refine blk_drew ?_ | refine blk_alloc ?_ _)); refine blk_far ?_ NB120_121.out _; (with_reducible repeat (first | refine blk_drewN ?_ _ | refine blk_drew ?_ | refine blk_alloc ?_ _)); refine blk_far ?_ NB120_121.out _; (with_reducible repeat (first | refine blk_drewN ?_ _ | refine blk_drew ?_ | refine blk_alloc ?_ _)); refine blk_far ?_ NB120_121.out _; (with_reducible repeat (first | refine blk_drewN ?_ _ | refine blk_drew ?_ | refine blk_alloc ?_ _)); refine blk_far ?_ NB120_121.out _; (with_reducible repeat (first | refine blk_drewN ?_ _ | refine blk_drew ?_ | refine blk_alloc ?_ _)); refine blk_far ?_ NB120_121.out _; (with_reducible repeat (first | refine blk_drewN ?_ _ | refine blk_drew ?_ | refine blk_alloc ?_ _)); exact BK120.out⟩, ⟨by (with_reducible repeat (first | refine blk_drewN ?_ _ | refine blk_drew ?_ | refine blk_alloc ?_ _)); refine blk_put (cs := #[.int .i64 1, .int .i64 2, .int .i64 2, .int .i64 3, .int .i64 8]) ?_ 0 _ rfl; (with_reducible repeat (first | refine blk_drewN ?_ _ | refine blk_drew ?_ | refine blk_alloc ?_ _)); refine blk_put (cs := #[.int .i64 1, .int .i64 2, .int .i64 2, .int .i64 3, .int .i64 0]) ?_ 4 _ rfl; (with_reducible repeat (first | refine blk_drewN ?_ _ | refine blk_drew ?_ | refine blk_alloc ?_ _)); refine blk_put (cs := #[.int .i64 1, .int .i64 2, .int .i64 2, .int .i64 0, .int .i64 0]) ?_ 3 _ rfl; (with_reducible repeat (first | refine blk_drewN ?_ _ | refine blk_drew ?_ | refine blk_alloc ?_ _)); refine blk_put (cs := #[.int .i64 1, .int .i64 2, .int .i64 0, .int .i64 0, .int .i64 0]) ?_ 2 _ rfl; (with_reducible repeat (first | refine blk_drewN ?_ _ | refine blk_drew ?_ | refine blk_alloc ?_ _)); refine blk_put (cs := #[.int .i64 1, .int .i64 0, .int .i64 0, .int .i64 0, .int .i64 0]) ?_ 1 _ rfl; (with_reducible repeat (first | refine blk_drewN ?_ _ | refine blk_drew ?_ | refine blk_alloc ?_ _)); refine blk_put (cs := #[.int .i64 0, .int .i64 0, .int .i64 0, .int .i64 0, .int .i64 0]) ?_ 0 _ rfl; (with_reducible repeat (first | refine blk_drewN ?_ _ | refine blk_drew ?_ | refine blk_alloc ?_ _)); exact BK121.out⟩, ⟨by repeat (first | (with_reducible first | exact HB.out | apply below_alloc | apply pw_below_drewN | apply below_drew1 | refine below_set ?_ GE120.out | refine below_set ?_ GE121.out) | exact HB.out)⟩⟩
      · rw [if_neg c12] at H
        have c12b0 : ((Int.tmod (IntKind.u64.wrap (a0)) 13) == 0) = false := beq_eq_false_iff_ne.mpr c12
        have c12b1 : ((Int.tmod (IntKind.u64.wrap (a0)) 13) != 0) = true := bne_iff_ne.mpr c12
        (first | rw [c12b0] | (simp only [i64_w, i32_w]; rw [c12b0]) | skip)
        by_cases c15 : (Int.tmod (IntKind.u64.wrap (a0)) 13) = 1
        · rw [if_pos c15] at H
          have c15b0 : ((Int.tmod (IntKind.u64.wrap (a0)) 13) == 1) = true := beq_iff_eq.mpr c15
          have c15b1 : ((Int.tmod (IntKind.u64.wrap (a0)) 13) != 1) = false := bne_eq_false_iff_eq.mpr c15
          clear c15
          have H' := Aside0.mk H
          clear H
          have hnb16 := NB121_120.out
          have hnc16 := NB120_121.out
          have hcz17_0 : w9.cell? ⟨gb121, 0, none⟩ = some (.int .i64 0) := (blk_cell BK121.out 0).trans rfl
          have hcz17_1 : w9.cell? ⟨gb121, 1, none⟩ = some (.int .i64 0) := (blk_cell BK121.out 1).trans rfl
          have hcz17_2 : w9.cell? ⟨gb121, 2, none⟩ = some (.int .i64 0) := (blk_cell BK121.out 2).trans rfl
          have hcz17_3 : w9.cell? ⟨gb121, 3, none⟩ = some (.int .i64 0) := (blk_cell BK121.out 3).trans rfl
          have hcz17_4 : w9.cell? ⟨gb121, 4, none⟩ = some (.int .i64 0) := (blk_cell BK121.out 4).trans rfl
          have hfz17_0 := blk_frozen BK121.out 0
          have hfz17_1 := blk_frozen BK121.out 1
          have hfz17_2 := blk_frozen BK121.out 2
          have hfz17_3 := blk_frozen BK121.out 3
          have hfz17_4 := blk_frozen BK121.out 4
          go_wp2
          go_meet
          case rel => exact ⟨_, (wrap64 (2 + (wrap64 (1 + (Go.bits .and .i64 a1 1023))))), (2), (2), (3), (8), H', ⟨by first | omega | exact Nat.le_refl _⟩, ⟨by (with_reducible repeat (first | refine blk_drewN ?_ _ | refine blk_drew ?_ | refine blk_alloc ?_ _)); refine blk_far ?_ NB120_121.out _; (with_reducible repeat (first | refine blk_drewN ?_ _ | refine blk_drew ?_ | refine blk_alloc ?_ _)); refine blk_far ?_ NB120_121.out _; (with_reducible repeat (first | refine blk_drewN ?_ _ | refine blk_drew ?_ | refine blk_alloc ?_ _)); refine blk_far ?_ NB120_121.out _; (with_reducible repeat (first | refine blk_drewN ?_ _ | refine blk_drew ?_ | refine blk_alloc ?_ _)); refine blk_far ?_ NB120_121.out _; (with_reducible repeat (first | refine blk_drewN ?_ _ | refine blk_drew ?_ | refine blk_alloc ?_ _)); refine blk_far ?_ NB120_121.out _; (with_reducible repeat (first | refine blk_drewN ?_ _ | refine blk_drew ?_ | refine blk_alloc ?_ _)); refine blk_far ?_ NB120_121.out _; (with_reducible repeat (first | refine blk_drewN ?_ _ | refine blk_drew ?_ | refine blk_alloc ?_ _)); exact BK120.out⟩, ⟨by (with_reducible repeat (first | refine blk_drewN ?_ _ | refine blk_drew ?_ | refine blk_alloc ?_ _)); refine blk_put (cs := #[.int .i64 1, .int .i64 2, .int .i64 2, .int .i64 3, .int .i64 8]) ?_ 0 _ rfl; (with_reducible repeat (first | refine blk_drewN ?_ _ | refine blk_drew ?_ | refine blk_alloc ?_ _)); refine blk_put (cs := #[.int .i64 1, .int .i64 2, .int .i64 2, .int .i64 3, .int .i64 0]) ?_ 4 _ rfl; (with_reducible repeat (first | refine blk_drewN ?_ _ | refine blk_drew ?_ | refine blk_alloc ?_ _)); refine blk_put (cs := #[.int .i64 1, .int .i64 2, .int .i64 2, .int .i64 0, .int .i64 0]) ?_ 3 _ rfl; (with_reducible repeat (first | refine blk_drewN ?_ _ | refine blk_drew ?_ | refine blk_alloc ?_ _)); refine blk_put (cs := #[.int .i64 1, .int .i64 2, .int .i64 0, .int .i64 0, .int .i64 0]) ?_ 2 _ rfl; (with_reducible repeat (first | refine blk_drewN ?_ _ | refine blk_drew ?_ | refine blk_alloc ?_ _)); refine blk_put (cs := #[.int .i64 1, .int .i64 0, .int .i64 0, .int .i64 0, .int .i64 0]) ?_ 1 _ rfl; (with_reducible repeat (first | refine blk_drewN ?_ _ | refine blk_drew ?_ | refine blk_alloc ?_ _)); refine blk_put (cs := #[.int .i64 0, .int .i64 0, .int .i64 0, .int .i64 0, .int .i64 0]) ?_ 0 _ rfl; (with_reducible repeat (first | refine blk_drewN ?_ _ | refine blk_drew ?_ | refine blk_alloc ?_ _)); exact BK121.out⟩, ⟨by repeat (first | (with_reducible first | exact HB.out | apply below_alloc | apply pw_below_drewN | apply below_drew1 | refine below_set ?_ GE120.out | refine below_set ?_ GE121.out) | exact HB.out)⟩⟩
        · rw [if_neg c15] at H
          have c15b0 : ((Int.tmod (IntKind.u64.wrap (a0)) 13) == 1) = false := beq_eq_false_iff_ne.mpr c15
          have c15b1 : ((Int.tmod (IntKind.u64.wrap (a0)) 13) != 1) = true := bne_iff_ne.mpr c15
          by_cases c18 : (Int.tmod (IntKind.u64.wrap (a0)) 13) = 2
          · rw [if_pos c18] at H
            have c18b0 : ((Int.tmod (IntKind.u64.wrap (a0)) 13) == 2) = true := beq_iff_eq.mpr c18
            have c18b1 : ((Int.tmod (IntKind.u64.wrap (a0)) 13) != 2) = false := bne_eq_false_iff_eq.mpr c18
            clear c18
            have H' := Aside0.mk H
            clear H
            have hnb19 := NB121_120.out
            have hnc19 := NB120_121.out
            have hcz20_0 : w9.cell? ⟨gb121, 0, none⟩ = some (.int .i64 0) := (blk_cell BK121.out 0).trans rfl
            have hcz20_1 : w9.cell? ⟨gb121, 1, none⟩ = some (.int .i64 0) := (blk_cell BK121.out 1).trans rfl
            have hcz20_2 : w9.cell? ⟨gb121, 2, none⟩ = some (.int .i64 0) := (blk_cell BK121.out 2).trans rfl
            have hcz20_3 : w9.cell? ⟨gb121, 3, none⟩ = some (.int .i64 0) := (blk_cell BK121.out 3).trans rfl
            have hcz20_4 : w9.cell? ⟨gb121, 4, none⟩ = some (.int .i64 0) := (blk_cell BK121.out 4).trans rfl
            have hfz20_0 := blk_frozen BK121.out 0
            have hfz20_1 := blk_frozen BK121.out 1
            have hfz20_2 := blk_frozen BK121.out 2
            have hfz20_3 := blk_frozen BK121.out 3
            have hfz20_4 := blk_frozen BK121.out 4
            go_wp2
            go_meet
            case rel => exact ⟨_, (1), (wrap64 (1 - (wrap64 (1 + (Go.bits .and .i64 a1 1023))))), (2), (3), (8), H', ⟨by first | omega | exact Nat.le_refl _⟩, ⟨by (with_reducible repeat (first | refine blk_drewN ?_ _ | refine blk_drew ?_ | refine blk_alloc ?_ _)); refine blk_far ?_ NB120_121.out _; (with_reducible repeat (first | refine blk_drewN ?_ _ | refine blk_drew ?_ | refine blk_alloc ?_ _)); refine blk_far ?_ NB120_121.out _; (with_reducible repeat (first | refine blk_drewN ?_ _ | refine blk_drew ?_ | refine blk_alloc ?_ _)); refine blk_far ?_ NB120_121.out _; (with_reducible repeat (first | refine blk_drewN ?_ _ | refine blk_drew ?_ | refine blk_alloc ?_ _)); refine blk_far ?_ NB120_121.out _; (with_reducible repeat (first | refine blk_drewN ?_ _ | refine blk_drew ?_ | refine blk_alloc ?_ _)); refine blk_far ?_ NB120_121.out _; (with_reducible repeat (first | refine blk_drewN ?_ _ | refine blk_drew ?_ | refine blk_alloc ?_ _)); refine blk_far ?_ NB120_121.out _; (with_reducible repeat (first | refine blk_drewN ?_ _ | refine blk_drew ?_ | refine blk_alloc ?_ _)); exact BK120.out⟩, ⟨by (with_reducible repeat (first | refine blk_drewN ?_ _ | refine blk_drew ?_ | refine blk_alloc ?_ _)); refine blk_put (cs := #[.int .i64 1, .int .i64 2, .int .i64 2, .int .i64 3, .int .i64 8]) ?_ 1 _ rfl; (with_reducible repeat (first | refine blk_drewN ?_ _ | refine blk_drew ?_ | refine blk_alloc ?_ _)); refine blk_put (cs := #[.int .i64 1, .int .i64 2, .int .i64 2, .int .i64 3, .int .i64 0]) ?_ 4 _ rfl; (with_reducible repeat (first | refine blk_drewN ?_ _ | refine blk_drew ?_ | refine blk_alloc ?_ _)); refine blk_put (cs := #[.int .i64 1, .int .i64 2, .int .i64 2, .int .i64 0, .int .i64 0]) ?_ 3 _ rfl; (with_reducible repeat (first | refine blk_drewN ?_ _ | refine blk_drew ?_ | refine blk_alloc ?_ _)); refine blk_put (cs := #[.int .i64 1, .int .i64 2, .int .i64 0, .int .i64 0, .int .i64 0]) ?_ 2 _ rfl; (with_reducible repeat (first | refine blk_drewN ?_ _ | refine blk_drew ?_ | refine blk_alloc ?_ _)); refine blk_put (cs := #[.int .i64 1, .int .i64 0, .int .i64 0, .int .i64 0, .int .i64 0]) ?_ 1 _ rfl; (with_reducible repeat (first | refine blk_drewN ?_ _ | refine blk_drew ?_ | refine blk_alloc ?_ _)); refine blk_put (cs := #[.int .i64 0, .int .i64 0, .int .i64 0, .int .i64 0, .int .i64 0]) ?_ 0 _ rfl; (with_reducible repeat (first | refine blk_drewN ?_ _ | refine blk_drew ?_ | refine blk_alloc ?_ _)); exact BK121.out⟩, ⟨by repeat (first | (with_reducible first | exact HB.out | apply below_alloc | apply pw_below_drewN | apply below_drew1 | refine below_set ?_ GE120.out | refine below_set ?_ GE121.out) | exact HB.out)⟩⟩
          · rw [if_neg c18] at H
            have c18b0 : ((Int.tmod (IntKind.u64.wrap (a0)) 13) == 2) = false := beq_eq_false_iff_ne.mpr c18
            have c18b1 : ((Int.tmod (IntKind.u64.wrap (a0)) 13) != 2) = true := bne_iff_ne.mpr c18
            by_cases c21 : (Int.tmod (IntKind.u64.wrap (a0)) 13) = 3
            · rw [if_pos c21] at H
              have c21b0 : ((Int.tmod (IntKind.u64.wrap (a0)) 13) == 3) = true := beq_iff_eq.mpr c21
              have c21b1 : ((Int.tmod (IntKind.u64.wrap (a0)) 13) != 3) = false := bne_eq_false_iff_eq.mpr c21
              clear c21
              have H' := Aside0.mk H
              clear H
              have hnb22 := NB121_120.out
              have hnc22 := NB120_121.out
              have hcz23_0 : w9.cell? ⟨gb121, 0, none⟩ = some (.int .i64 0) := (blk_cell BK121.out 0).trans rfl
              have hcz23_1 : w9.cell? ⟨gb121, 1, none⟩ = some (.int .i64 0) := (blk_cell BK121.out 1).trans rfl
              have hcz23_2 : w9.cell? ⟨gb121, 2, none⟩ = some (.int .i64 0) := (blk_cell BK121.out 2).trans rfl
              have hcz23_3 : w9.cell? ⟨gb121, 3, none⟩ = some (.int .i64 0) := (blk_cell BK121.out 3).trans rfl
              have hcz23_4 : w9.cell? ⟨gb121, 4, none⟩ = some (.int .i64 0) := (blk_cell BK121.out 4).trans rfl
              have hfz23_0 := blk_frozen BK121.out 0
              have hfz23_1 := blk_frozen BK121.out 1
              have hfz23_2 := blk_frozen BK121.out 2
              have hfz23_3 := blk_frozen BK121.out 3
              have hfz23_4 := blk_frozen BK121.out 4
              go_wp2
              go_meet
              case rel => exact ⟨_, (1), (wrap64 (2 + (wrap64 (1 + (Go.bits .and .i64 a1 1023))))), (2), (3), (8), H', ⟨by first | omega | exact Nat.le_refl _⟩, ⟨by (with_reducible repeat (first | refine blk_drewN ?_ _ | refine blk_drew ?_ | refine blk_alloc ?_ _)); refine blk_far ?_ NB120_121.out _; (with_reducible repeat (first | refine blk_drewN ?_ _ | refine blk_drew ?_ | refine blk_alloc ?_ _)); refine blk_far ?_ NB120_121.out _; (with_reducible repeat (first | refine blk_drewN ?_ _ | refine blk_drew ?_ | refine blk_alloc ?_ _)); refine blk_far ?_ NB120_121.out _; (with_reducible repeat (first | refine blk_drewN ?_ _ | refine blk_drew ?_ | refine blk_alloc ?_ _)); refine blk_far ?_ NB120_121.out _; (with_reducible repeat (first | refine blk_drewN ?_ _ | refine blk_drew ?_ | refine blk_alloc ?_ _)); refine blk_far ?_ NB120_121.out _; (with_reducible repeat (first | refine blk_drewN ?_ _ | refine blk_drew ?_ | refine blk_alloc ?_ _)); refine blk_far ?_ NB120_121.out _; (with_reducible repeat (first | refine blk_drewN ?_ _ | refine blk_drew ?_ | refine blk_alloc ?_ _)); exact BK120.out⟩, ⟨by (with_reducible repeat (first | refine blk_drewN ?_ _ | refine blk_drew ?_ | refine blk_alloc ?_ _)); refine blk_put (cs := #[.int .i64 1, .int .i64 2, .int .i64 2, .int .i64 3, .int .i64 8]) ?_ 1 _ rfl; (with_reducible repeat (first | refine blk_drewN ?_ _ | refine blk_drew ?_ | refine blk_alloc ?_ _)); refine blk_put (cs := #[.int .i64 1, .int .i64 2, .int .i64 2, .int .i64 3, .int .i64 0]) ?_ 4 _ rfl; (with_reducible repeat (first | refine blk_drewN ?_ _ | refine blk_drew ?_ | refine blk_alloc ?_ _)); refine blk_put (cs := #[.int .i64 1, .int .i64 2, .int .i64 2, .int .i64 0, .int .i64 0]) ?_ 3 _ rfl; (with_reducible repeat (first | refine blk_drewN ?_ _ | refine blk_drew ?_ | refine blk_alloc ?_ _)); refine blk_put (cs := #[.int .i64 1, .int .i64 2, .int .i64 0, .int .i64 0, .int .i64 0]) ?_ 2 _ rfl; (with_reducible repeat (first | refine blk_drewN ?_ _ | refine blk_drew ?_ | refine blk_alloc ?_ _)); refine blk_put (cs := #[.int .i64 1, .int .i64 0, .int .i64 0, .int .i64 0, .int .i64 0]) ?_ 1 _ rfl; (with_reducible repeat (first | refine blk_drewN ?_ _ | refine blk_drew ?_ | refine blk_alloc ?_ _)); refine blk_put (cs := #[.int .i64 0, .int .i64 0, .int .i64 0, .int .i64 0, .int .i64 0]) ?_ 0 _ rfl; (with_reducible repeat (first | refine blk_drewN ?_ _ | refine blk_drew ?_ | refine blk_alloc ?_ _)); exact BK121.out⟩, ⟨by repeat (first | (with_reducible first | exact HB.out | apply below_alloc | apply pw_below_drewN | apply below_drew1 | refine below_set ?_ GE120.out | refine below_set ?_ GE121.out) | exact HB.out)⟩⟩
            · rw [if_neg c21] at H
              have c21b0 : ((Int.tmod (IntKind.u64.wrap (a0)) 13) == 3) = false := beq_eq_false_iff_ne.mpr c21
              have c21b1 : ((Int.tmod (IntKind.u64.wrap (a0)) 13) != 3) = true := bne_iff_ne.mpr c21
              by_cases c24 : (Int.tmod (IntKind.u64.wrap (a0)) 13) = 4
              · rw [if_pos c24] at H
                have c24b0 : ((Int.tmod (IntKind.u64.wrap (a0)) 13) == 4) = true := beq_iff_eq.mpr c24
                have c24b1 : ((Int.tmod (IntKind.u64.wrap (a0)) 13) != 4) = false := bne_eq_false_iff_eq.mpr c24
                clear c24
                have H' := Aside0.mk H
                clear H
                have hnb25 := NB121_120.out
                have hnc25 := NB120_121.out
                have hcz26_0 : w9.cell? ⟨gb121, 0, none⟩ = some (.int .i64 0) := (blk_cell BK121.out 0).trans rfl
                have hcz26_1 : w9.cell? ⟨gb121, 1, none⟩ = some (.int .i64 0) := (blk_cell BK121.out 1).trans rfl
                have hcz26_2 : w9.cell? ⟨gb121, 2, none⟩ = some (.int .i64 0) := (blk_cell BK121.out 2).trans rfl
                have hcz26_3 : w9.cell? ⟨gb121, 3, none⟩ = some (.int .i64 0) := (blk_cell BK121.out 3).trans rfl
                have hcz26_4 : w9.cell? ⟨gb121, 4, none⟩ = some (.int .i64 0) := (blk_cell BK121.out 4).trans rfl
                have hfz26_0 := blk_frozen BK121.out 0
                have hfz26_1 := blk_frozen BK121.out 1
                have hfz26_2 := blk_frozen BK121.out 2
                have hfz26_3 := blk_frozen BK121.out 3
                have hfz26_4 := blk_frozen BK121.out 4
                go_wp2
                go_meet
                case rel => exact ⟨_, (1), (2), (wrap64 (1 - (wrap64 (1 + (Go.bits .and .i64 a1 1023))))), (3), (8), H', ⟨by first | omega | exact Nat.le_refl _⟩, ⟨by (with_reducible repeat (first | refine blk_drewN ?_ _ | refine blk_drew ?_ | refine blk_alloc ?_ _)); refine blk_far ?_ NB120_121.out _; (with_reducible repeat (first | refine blk_drewN ?_ _ | refine blk_drew ?_ | refine blk_alloc ?_ _)); refine blk_far ?_ NB120_121.out _; (with_reducible repeat (first | refine blk_drewN ?_ _ | refine blk_drew ?_ | refine blk_alloc ?_ _)); refine blk_far ?_ NB120_121.out _; (with_reducible repeat (first | refine blk_drewN ?_ _ | refine blk_drew ?_ | refine blk_alloc ?_ _)); refine blk_far ?_ NB120_121.out _; (with_reducible repeat (first | refine blk_drewN ?_ _ | refine blk_drew ?_ | refine blk_alloc ?_ _)); refine blk_far ?_ NB120_121.out _; (with_reducible repeat (first | refine blk_drewN ?_ _ | refine blk_drew ?_ | refine blk_alloc ?_ _)); refine blk_far ?_ NB120_121.out _; (with_reducible repeat (first | refine blk_drewN ?_ _ | refine blk_drew ?_ | refine blk_alloc ?_ _)); exact BK120.out⟩, ⟨by (with_reducible repeat (first | refine blk_drewN ?_ _ | refine blk_drew ?_ | refine blk_alloc ?_ _)); refine blk_put (cs := #[.int .i64 1, .int .i64 2, .int .i64 2, .int .i64 3, .int .i64 8]) ?_ 2 _ rfl; (with_reducible repeat (first | refine blk_drewN ?_ _ | refine blk_drew ?_ | refine blk_alloc ?_ _)); refine blk_put (cs := #[.int .i64 1, .int .i64 2, .int .i64 2, .int .i64 3, .int .i64 0]) ?_ 4 _ rfl; (with_reducible repeat (first | refine blk_drewN ?_ _ | refine blk_drew ?_ | refine blk_alloc ?_ _)); refine blk_put (cs := #[.int .i64 1, .int .i64 2, .int .i64 2, .int .i64 0, .int .i64 0]) ?_ 3 _ rfl; (with_reducible repeat (first | refine blk_drewN ?_ _ | refine blk_drew ?_ | refine blk_alloc ?_ _)); refine blk_put (cs := #[.int .i64 1, .int .i64 2, .int .i64 0, .int .i64 0, .int .i64 0]) ?_ 2 _ rfl; (with_reducible repeat (first | refine blk_drewN ?_ _ | refine blk_drew ?_ | refine blk_alloc ?_ _)); refine blk_put (cs := #[.int .i64 1, .int .i64 0, .int .i64 0, .int .i64 0, .int .i64 0]) ?_ 1 _ rfl; (with_reducible repeat (first | refine blk_drewN ?_ _ | refine blk_drew ?_ | refine blk_alloc ?_ _)); refine blk_put (cs := #[.int .i64 0, .int .i64 0, .int .i64 0, .int .i64 0, .int .i64 0]) ?_ 0 _ rfl; (with_reducible repeat (first | refine blk_drewN ?_ _ | refine blk_drew ?_ | refine blk_alloc ?_ _)); exact BK121.out⟩, ⟨by repeat (first | (with_reducible first | exact HB.out | apply below_alloc | apply pw_below_drewN | apply below_drew1 | refine below_set ?_ GE120.out | refine below_set ?_ GE121.out) | exact HB.out)⟩⟩
              · rw [if_neg c24] at H
                have c24b0 : ((Int.tmod (IntKind.u64.wrap (a0)) 13) == 4) = false := beq_eq_false_iff_ne.mpr c24
                have c24b1 : ((Int.tmod (IntKind.u64.wrap (a0)) 13) != 4) = true := bne_iff_ne.mpr c24
                by_cases c27 : (Int.tmod (IntKind.u64.wrap (a0)) 13) = 5
                · rw [if_pos c27] at H
                  have c27b0 : ((Int.tmod (IntKind.u64.wrap (a0)) 13) == 5) = true := beq_iff_eq.mpr c27
                  have c27b1 : ((Int.tmod (IntKind.u64.wrap (a0)) 13) != 5) = false := bne_eq_false_iff_eq.mpr c27
                  clear c27
                  have H' := Aside0.mk H
                  clear H
                  have hnb28 := NB121_120.out
                  have hnc28 := NB120_121.out
                  have hcz29_0 : w9.cell? ⟨gb121, 0, none⟩ = some (.int .i64 0) := (blk_cell BK121.out 0).trans rfl
                  have hcz29_1 : w9.cell? ⟨gb121, 1, none⟩ = some (.int .i64 0) := (blk_cell BK121.out 1).trans rfl
                  have hcz29_2 : w9.cell? ⟨gb121, 2, none⟩ = some (.int .i64 0) := (blk_cell BK121.out 2).trans rfl
                  have hcz29_3 : w9.cell? ⟨gb121, 3, none⟩ = some (.int .i64 0) := (blk_cell BK121.out 3).trans rfl
                  have hcz29_4 : w9.cell? ⟨gb121, 4, none⟩ = some (.int .i64 0) := (blk_cell BK121.out 4).trans rfl
                  have hfz29_0 := blk_frozen BK121.out 0
                  have hfz29_1 := blk_frozen BK121.out 1
                  have hfz29_2 := blk_frozen BK121.out 2
                  have hfz29_3 := blk_frozen BK121.out 3
                  have hfz29_4 := blk_frozen BK121.out 4
                  go_wp2
                  go_meet
                  case rel => exact ⟨_, (1), (2), (wrap64 (2 + (wrap64 (1 + (Go.bits .and .i64 a1 1023))))), (3), (8), H', ⟨by first | omega | exact Nat.le_refl _⟩, ⟨by (with_reducible repeat (first | refine blk_drewN ?_ _ | refine blk_drew ?_ | refine blk_alloc ?_ _)); refine blk_far ?_ NB120_121.out _; (with_reducible repeat (first | refine blk_drewN ?_ _ | refine blk_drew ?_ | refine blk_alloc ?_ _)); refine blk_far ?_ NB120_121.out _; (with_reducible repeat (first | refine blk_drewN ?_ _ | refine blk_drew ?_ | refine blk_alloc ?_ _)); refine blk_far ?_ NB120_121.out _; (with_reducible repeat (first | refine blk_drewN ?_ _ | refine blk_drew ?_ | refine blk_alloc ?_ _)); refine blk_far ?_ NB120_121.out _; (with_reducible repeat (first | refine blk_drewN ?_ _ | refine blk_drew ?_ | refine blk_alloc ?_ _)); refine blk_far ?_ NB120_121.out _; (with_reducible repeat (first | refine blk_drewN ?_ _ | refine blk_drew ?_ | refine blk_alloc ?_ _)); refine blk_far ?_ NB120_121.out _; (with_reducible repeat (first | refine blk_drewN ?_ _ | refine blk_drew ?_ | refine blk_alloc ?_ _)); exact BK120.out⟩, ⟨by (with_reducible repeat (first | refine blk_drewN ?_ _ | refine blk_drew ?_ | refine blk_alloc ?_ _)); refine blk_put (cs := #[.int .i64 1, .int .i64 2, .int .i64 2, .int .i64 3, .int .i64 8]) ?_ 2 _ rfl; (with_reducible repeat (first | refine blk_drewN ?_ _ | refine blk_drew ?_ | refine blk_alloc ?_ _)); refine blk_put (cs := #[.int .i64 1, .int .i64 2, .int .i64 2, .int .i64 3, .int .i64 0]) ?_ 4 _ rfl; (with_reducible repeat (first | refine blk_drewN ?_ _ | refine blk_drew ?_ | refine blk_alloc ?_ _)); refine blk_put (cs := #[.int .i64 1, .int .i64 2, .int .i64 2, .int .i64 0, .int .i64 0]) ?_ 3 _ rfl; (with_reducible repeat (first | refine blk_drewN ?_ _ | refine blk_drew ?_ | refine blk_alloc ?_ _)); refine blk_put (cs := #[.int .i64 1, .int .i64 2, .int .i64 0, .int .i64 0, .int .i64 0]) ?_ 2 _ rfl; (with_reducible repeat (first | refine blk_drewN ?_ _ | refine blk_drew ?_ | refine blk_alloc ?_ _)); refine blk_put (cs := #[.int .i64 1, .int .i64 0, .int .i64 0, .int .i64 0, .int .i64 0]) ?_ 1 _ rfl; (with_reducible repeat (first | refine blk_drewN ?_ _ | refine blk_drew ?_ | refine blk_alloc ?_ _)); refine blk_put (cs := #[.int .i64 0, .int .i64 0, .int .i64 0, .int .i64 0, .int .i64 0]) ?_ 0 _ rfl; (with_reducible repeat (first | refine blk_drewN ?_ _ | refine blk_drew ?_ | refine blk_alloc ?_ _)); exact BK121.out⟩, ⟨by repeat (first | (with_reducible first | exact HB.out | apply below_alloc | apply pw_below_drewN | apply below_drew1 | refine below_set ?_ GE120.out | refine below_set ?_ GE121.out) | exact HB.out)⟩⟩
                · rw [if_neg c27] at H
                  have c27b0 : ((Int.tmod (IntKind.u64.wrap (a0)) 13) == 5) = false := beq_eq_false_iff_ne.mpr c27
                  have c27b1 : ((Int.tmod (IntKind.u64.wrap (a0)) 13) != 5) = true := bne_iff_ne.mpr c27
                  by_cases c30 : (Int.tmod (IntKind.u64.wrap (a0)) 13) = 6
                  · rw [if_pos c30] at H
                    have c30b0 : ((Int.tmod (IntKind.u64.wrap (a0)) 13) == 6) = true := beq_iff_eq.mpr c30
                    have c30b1 : ((Int.tmod (IntKind.u64.wrap (a0)) 13) != 6) = false := bne_eq_false_iff_eq.mpr c30
                    clear c30
                    have H' := Aside0.mk H
                    clear H
                    have hnb31 := NB121_120.out
                    have hnc31 := NB120_121.out
                    have hcz32_0 : w9.cell? ⟨gb121, 0, none⟩ = some (.int .i64 0) := (blk_cell BK121.out 0).trans rfl
                    have hcz32_1 : w9.cell? ⟨gb121, 1, none⟩ = some (.int .i64 0) := (blk_cell BK121.out 1).trans rfl
                    have hcz32_2 : w9.cell? ⟨gb121, 2, none⟩ = some (.int .i64 0) := (blk_cell BK121.out 2).trans rfl
                    have hcz32_3 : w9.cell? ⟨gb121, 3, none⟩ = some (.int .i64 0) := (blk_cell BK121.out 3).trans rfl
                    have hcz32_4 : w9.cell? ⟨gb121, 4, none⟩ = some (.int .i64 0) := (blk_cell BK121.out 4).trans rfl
                    have hfz32_0 := blk_frozen BK121.out 0
                    have hfz32_1 := blk_frozen BK121.out 1
                    have hfz32_2 := blk_frozen BK121.out 2
                    have hfz32_3 := blk_frozen BK121.out 3
                    have hfz32_4 := blk_frozen BK121.out 4
                    go_wp2
                    go_meet
                    case rel => exact ⟨_, (1), (2), (2), (wrap64 (1 - (wrap64 (1 + (Go.bits .and .i64 a1 1023))))), (8), H', ⟨by first | omega | exact Nat.le_refl _⟩, ⟨by (with_reducible repeat (first | refine blk_drewN ?_ _ | refine blk_drew ?_ | refine blk_alloc ?_ _)); refine blk_far ?_ NB120_121.out _; (with_reducible repeat (first | refine blk_drewN ?_ _ | refine blk_drew ?_ | refine blk_alloc ?_ _)); refine blk_far ?_ NB120_121.out _; (with_reducible repeat (first | refine blk_drewN ?_ _ | refine blk_drew ?_ | refine blk_alloc ?_ _)); refine blk_far ?_ NB120_121.out _; (with_reducible repeat (first | refine blk_drewN ?_ _ | refine blk_drew ?_ | refine blk_alloc ?_ _)); refine blk_far ?_ NB120_121.out _; (with_reducible repeat (first | refine blk_drewN ?_ _ | refine blk_drew ?_ | refine blk_alloc ?_ _)); refine blk_far ?_ NB120_121.out _; (with_reducible repeat (first | refine blk_drewN ?_ _ | refine blk_drew ?_ | refine blk_alloc ?_ _)); refine blk_far ?_ NB120_121.out _; (with_reducible repeat (first | refine blk_drewN ?_ _ | refine blk_drew ?_ | refine blk_alloc ?_ _)); exact BK120.out⟩, ⟨by (with_reducible repeat (first | refine blk_drewN ?_ _ | refine blk_drew ?_ | refine blk_alloc ?_ _)); refine blk_put (cs := #[.int .i64 1, .int .i64 2, .int .i64 2, .int .i64 3, .int .i64 8]) ?_ 3 _ rfl; (with_reducible repeat (first | refine blk_drewN ?_ _ | refine blk_drew ?_ | refine blk_alloc ?_ _)); refine blk_put (cs := #[.int .i64 1, .int .i64 2, .int .i64 2, .int .i64 3, .int .i64 0]) ?_ 4 _ rfl; (with_reducible repeat (first | refine blk_drewN ?_ _ | refine blk_drew ?_ | refine blk_alloc ?_ _)); refine blk_put (cs := #[.int .i64 1, .int .i64 2, .int .i64 2, .int .i64 0, .int .i64 0]) ?_ 3 _ rfl; (with_reducible repeat (first | refine blk_drewN ?_ _ | refine blk_drew ?_ | refine blk_alloc ?_ _)); refine blk_put (cs := #[.int .i64 1, .int .i64 2, .int .i64 0, .int .i64 0, .int .i64 0]) ?_ 2 _ rfl; (with_reducible repeat (first | refine blk_drewN ?_ _ | refine blk_drew ?_ | refine blk_alloc ?_ _)); refine blk_put (cs := #[.int .i64 1, .int .i64 0, .int .i64 0, .int .i64 0, .int .i64 0]) ?_ 1 _ rfl; (with_reducible repeat (first | refine blk_drewN ?_ _ | refine blk_drew ?_ | refine blk_alloc ?_ _)); refine blk_put (cs := #[.int .i64 0, .int .i64 0, .int .i64 0, .int .i64 0, .int .i64 0]) ?_ 0 _ rfl; (with_reducible repeat (first | refine blk_drewN ?_ _ | refine blk_drew ?_ | refine blk_alloc ?_ _)); exact BK121.out⟩, ⟨by repeat (first | (with_reducible first | exact HB.out | apply below_alloc | apply pw_below_drewN | apply below_drew1 | refine below_set ?_ GE120.out | refine below_set ?_ GE121.out) | exact HB.out)⟩⟩
                  · rw [if_neg c30] at H
                    have c30b0 : ((Int.tmod (IntKind.u64.wrap (a0)) 13) == 6) = false := beq_eq_false_iff_ne.mpr c30
                    have c30b1 : ((Int.tmod (IntKind.u64.wrap (a0)) 13) != 6) = true := bne_iff_ne.mpr c30
                    by_cases c33 : (Int.tmod (IntKind.u64.wrap (a0)) 13) = 7
                    · rw [if_pos c33] at H
                      have c33b0 : ((Int.tmod (IntKind.u64.wrap (a0)) 13) == 7) = true := beq_iff_eq.mpr c33
                      have c33b1 : ((Int.tmod (IntKind.u64.wrap (a0)) 13) != 7) = false := bne_eq_false_iff_eq.mpr c33
                      clear c33
                      have H' := Aside0.mk H
                      clear H
                      have hnb34 := NB121_120.out
                      have hnc34 := NB120_121.out
                      have hcz35_0 : w9.cell? ⟨gb121, 0, none⟩ = some (.int .i64 0) := (blk_cell BK121.out 0).trans rfl
                      have hcz35_1 : w9.cell? ⟨gb121, 1, none⟩ = some (.int .i64 0) := (blk_cell BK121.out 1).trans rfl
                      have hcz35_2 : w9.cell? ⟨gb121, 2, none⟩ = some (.int .i64 0) := (blk_cell BK121.out 2).trans rfl
                      have hcz35_3 : w9.cell? ⟨gb121, 3, none⟩ = some (.int .i64 0) := (blk_cell BK121.out 3).trans rfl
                      have hcz35_4 : w9.cell? ⟨gb121, 4, none⟩ = some (.int .i64 0) := (blk_cell BK121.out 4).trans rfl
                      have hfz35_0 := blk_frozen BK121.out 0
                      have hfz35_1 := blk_frozen BK121.out 1
                      have hfz35_2 := blk_frozen BK121.out 2
                      have hfz35_3 := blk_frozen BK121.out 3
                      have hfz35_4 := blk_frozen BK121.out 4
                      go_wp2
                      go_meet
                      case rel => exact ⟨_, (1), (2), (2), (wrap64 (4 + (wrap64 (1 + (Go.bits .and .i64 a1 1023))))), (8), H', ⟨by first | omega | exact Nat.le_refl _⟩, ⟨by (with_reducible repeat (first | refine blk_drewN ?_ _ | refine blk_drew ?_ | refine blk_alloc ?_ _)); refine blk_far ?_ NB120_121.out _; (with_reducible repeat (first | refine blk_drewN ?_ _ | refine blk_drew ?_ | refine blk_alloc ?_ _)); refine blk_far ?_ NB120_121.out _; (with_reducible repeat (first | refine blk_drewN ?_ _ | refine blk_drew ?_ | refine blk_alloc ?_ _)); refine blk_far ?_ NB120_121.out _; (with_reducible repeat (first | refine blk_drewN ?_ _ | refine blk_drew ?_ | refine blk_alloc ?_ _)); refine blk_far ?_ NB120_121.out _; (with_reducible repeat (first | refine blk_drewN ?_ _ | refine blk_drew ?_ | refine blk_alloc ?_ _)); refine blk_far ?_ NB120_121.out _; (with_reducible repeat (first | refine blk_drewN ?_ _ | refine blk_drew ?_ | refine blk_alloc ?_ _)); refine blk_far ?_ NB120_121.out _; (with_reducible repeat (first | refine blk_drewN ?_ _ | refine blk_drew ?_ | refine blk_alloc ?_ _)); exact BK120.out⟩, ⟨by (with_reducible repeat (first | refine blk_drewN ?_ _ | refine blk_drew ?_ | refine blk_alloc ?_ _)); refine blk_put (cs := #[.int .i64 1, .int .i64 2, .int .i64 2, .int .i64 3, .int .i64 8]) ?_ 3 _ rfl; (with_reducible repeat (first | refine blk_drewN ?_ _ | refine blk_drew ?_ | refine blk_alloc ?_ _)); refine blk_put (cs := #[.int .i64 1, .int .i64 2, .int .i64 2, .int .i64 3, .int .i64 0]) ?_ 4 _ rfl; (with_reducible repeat (first | refine blk_drewN ?_ _ | refine blk_drew ?_ | refine blk_alloc ?_ _)); refine blk_put (cs := #[.int .i64 1, .int .i64 2, .int .i64 2, .int .i64 0, .int .i64 0]) ?_ 3 _ rfl; (with_reducible repeat (first | refine blk_drewN ?_ _ | refine blk_drew ?_ | refine blk_alloc ?_ _)); refine blk_put (cs := #[.int .i64 1, .int .i64 2, .int .i64 0, .int .i64 0, .int .i64 0]) ?_ 2 _ rfl; (with_reducible repeat (first | refine blk_drewN ?_ _ | refine blk_drew ?_ | refine blk_alloc ?_ _)); refine blk_put (cs := #[.int .i64 1, .int .i64 0, .int .i64 0, .int .i64 0, .int .i64 0]) ?_ 1 _ rfl; (with_reducible repeat (first | refine blk_drewN ?_ _ | refine blk_drew ?_ | refine blk_alloc ?_ _)); refine blk_put (cs := #[.int .i64 0, .int .i64 0, .int .i64 0, .int .i64 0, .int .i64 0]) ?_ 0 _ rfl; (with_reducible repeat (first | refine blk_drewN ?_ _ | refine blk_drew ?_ | refine blk_alloc ?_ _)); exact BK121.out⟩, ⟨by repeat (first | (with_reducible first | exact HB.out | apply below_alloc | apply pw_below_drewN | apply below_drew1 | refine below_set ?_ GE120.out | refine below_set ?_ GE121.out) | exact HB.out)⟩⟩
                    · rw [if_neg c33] at H
                      have c33b0 : ((Int.tmod (IntKind.u64.wrap (a0)) 13) == 7) = false := beq_eq_false_iff_ne.mpr c33
                      have c33b1 : ((Int.tmod (IntKind.u64.wrap (a0)) 13) != 7) = true := bne_iff_ne.mpr c33
                      by_cases c36 : (Int.tmod (IntKind.u64.wrap (a0)) 13) = 8
                      · rw [if_pos c36] at H
                        have c36b0 : ((Int.tmod (IntKind.u64.wrap (a0)) 13) == 8) = true := beq_iff_eq.mpr c36
                        have c36b1 : ((Int.tmod (IntKind.u64.wrap (a0)) 13) != 8) = false := bne_eq_false_iff_eq.mpr c36
                        clear c36
                        have H' := Aside0.mk H
                        clear H
                        have hnb37 := NB121_120.out
                        have hnc37 := NB120_121.out
                        have hcz38_0 : w9.cell? ⟨gb121, 0, none⟩ = some (.int .i64 0) := (blk_cell BK121.out 0).trans rfl
                        have hcz38_1 : w9.cell? ⟨gb121, 1, none⟩ = some (.int .i64 0) := (blk_cell BK121.out 1).trans rfl
                        have hcz38_2 : w9.cell? ⟨gb121, 2, none⟩ = some (.int .i64 0) := (blk_cell BK121.out 2).trans rfl
                        have hcz38_3 : w9.cell? ⟨gb121, 3, none⟩ = some (.int .i64 0) := (blk_cell BK121.out 3).trans rfl
                        have hcz38_4 : w9.cell? ⟨gb121, 4, none⟩ = some (.int .i64 0) := (blk_cell BK121.out 4).trans rfl
                        have hfz38_0 := blk_frozen BK121.out 0
                        have hfz38_1 := blk_frozen BK121.out 1
                        have hfz38_2 := blk_frozen BK121.out 2
                        have hfz38_3 := blk_frozen BK121.out 3
                        have hfz38_4 := blk_frozen BK121.out 4
                        go_wp2
                        go_meet
                        case rel => exact ⟨_, (1), (2), (2), (3), (4), H', ⟨by first | omega | exact Nat.le_refl _⟩, ⟨by (with_reducible repeat (first | refine blk_drewN ?_ _ | refine blk_drew ?_ | refine blk_alloc ?_ _)); refine blk_far ?_ NB120_121.out _; (with_reducible repeat (first | refine blk_drewN ?_ _ | refine blk_drew ?_ | refine blk_alloc ?_ _)); refine blk_far ?_ NB120_121.out _; (with_reducible repeat (first | refine blk_drewN ?_ _ | refine blk_drew ?_ | refine blk_alloc ?_ _)); refine blk_far ?_ NB120_121.out _; (with_reducible repeat (first | refine blk_drewN ?_ _ | refine blk_drew ?_ | refine blk_alloc ?_ _)); refine blk_far ?_ NB120_121.out _; (with_reducible repeat (first | refine blk_drewN ?_ _ | refine blk_drew ?_ | refine blk_alloc ?_ _)); refine blk_far ?_ NB120_121.out _; (with_reducible repeat (first | refine blk_drewN ?_ _ | refine blk_drew ?_ | refine blk_alloc ?_ _)); refine blk_far ?_ NB120_121.out _; (with_reducible repeat (first | refine blk_drewN ?_ _ | refine blk_drew ?_ | refine blk_alloc ?_ _)); exact BK120.out⟩, ⟨by (with_reducible repeat (first | refine blk_drewN ?_ _ | refine blk_drew ?_ | refine blk_alloc ?_ _)); refine blk_put (cs := #[.int .i64 1, .int .i64 2, .int .i64 2, .int .i64 3, .int .i64 8]) ?_ 4 _ rfl; (with_reducible repeat (first | refine blk_drewN ?_ _ | refine blk_drew ?_ | refine blk_alloc ?_ _)); refine blk_put (cs := #[.int .i64 1, .int .i64 2, .int .i64 2, .int .i64 3, .int .i64 0]) ?_ 4 _ rfl; (with_reducible repeat (first | refine blk_drewN ?_ _ | refine blk_drew ?_ | refine blk_alloc ?_ _)); refine blk_put (cs := #[.int .i64 1, .int .i64 2, .int .i64 2, .int .i64 0, .int .i64 0]) ?_ 3 _ rfl; (with_reducible repeat (first | refine blk_drewN ?_ _ | refine blk_drew ?_ | refine blk_alloc ?_ _)); refine blk_put (cs := #[.int .i64 1, .int .i64 2, .int .i64 0, .int .i64 0, .int .i64 0]) ?_ 2 _ rfl; (with_reducible repeat (first | refine blk_drewN ?_ _ | refine blk_drew ?_ | refine blk_alloc ?_ _)); refine blk_put (cs := #[.int .i64 1, .int .i64 0, .int .i64 0, .int .i64 0, .int .i64 0]) ?_ 1 _ rfl; (with_reducible repeat (first | refine blk_drewN ?_ _ | refine blk_drew ?_ | refine blk_alloc ?_ _)); refine blk_put (cs := #[.int .i64 0, .int .i64 0, .int .i64 0, .int .i64 0, .int .i64 0]) ?_ 0 _ rfl; (with_reducible repeat (first | refine blk_drewN ?_ _ | refine blk_drew ?_ | refine blk_alloc ?_ _)); exact BK121.out⟩, ⟨by repeat (first | (with_reducible first | exact HB.out | apply below_alloc | apply pw_below_drewN | apply below_drew1 | refine below_set ?_ GE120.out | refine below_set ?_ GE121.out) | exact HB.out)⟩⟩
                      · rw [if_neg c36] at H
                        have c36b0 : ((Int.tmod (IntKind.u64.wrap (a0)) 13) == 8) = false := beq_eq_false_iff_ne.mpr c36
                        have c36b1 : ((Int.tmod (IntKind.u64.wrap (a0)) 13) != 8) = true := bne_iff_ne.mpr c36
                        by_cases c39 : (Int.tmod (IntKind.u64.wrap (a0)) 13) = 9
                        · rw [if_pos c39] at H
                          have c39b0 : ((Int.tmod (IntKind.u64.wrap (a0)) 13) == 9) = true := beq_iff_eq.mpr c39
                          have c39b1 : ((Int.tmod (IntKind.u64.wrap (a0)) 13) != 9) = false := bne_eq_false_iff_eq.mpr c39
                          clear c39
                          have H' := Aside0.mk H
                          clear H
                          have hnb40 := NB121_120.out
                          have hnc40 := NB120_121.out
                          have hcz41_0 : w9.cell? ⟨gb121, 0, none⟩ = some (.int .i64 0) := (blk_cell BK121.out 0).trans rfl
                          have hcz41_1 : w9.cell? ⟨gb121, 1, none⟩ = some (.int .i64 0) := (blk_cell BK121.out 1).trans rfl
                          have hcz41_2 : w9.cell? ⟨gb121, 2, none⟩ = some (.int .i64 0) := (blk_cell BK121.out 2).trans rfl
                          have hcz41_3 : w9.cell? ⟨gb121, 3, none⟩ = some (.int .i64 0) := (blk_cell BK121.out 3).trans rfl
                          have hcz41_4 : w9.cell? ⟨gb121, 4, none⟩ = some (.int .i64 0) := (blk_cell BK121.out 4).trans rfl
                          have hfz41_0 := blk_frozen BK121.out 0
                          have hfz41_1 := blk_frozen BK121.out 1
                          have hfz41_2 := blk_frozen BK121.out 2
                          have hfz41_3 := blk_frozen BK121.out 3
                          have hfz41_4 := blk_frozen BK121.out 4
                          go_wp2
                          go_meet
                          case rel => exact ⟨_, (1), (2), (2), (3), (12), H', ⟨by first | omega | exact Nat.le_refl _⟩, ⟨by (with_reducible repeat (first | refine blk_drewN ?_ _ | refine blk_drew ?_ | refine blk_alloc ?_ _)); refine blk_far ?_ NB120_121.out _; (with_reducible repeat (first | refine blk_drewN ?_ _ | refine blk_drew ?_ | refine blk_alloc ?_ _)); refine blk_far ?_ NB120_121.out _; (with_reducible repeat (first | refine blk_drewN ?_ _ | refine blk_drew ?_ | refine blk_alloc ?_ _)); refine blk_far ?_ NB120_121.out _; (with_reducible repeat (first | refine blk_drewN ?_ _ | refine blk_drew ?_ | refine blk_alloc ?_ _)); refine blk_far ?_ NB120_121.out _; (with_reducible repeat (first | refine blk_drewN ?_ _ | refine blk_drew ?_ | refine blk_alloc ?_ _)); refine blk_far ?_ NB120_121.out _; (with_reducible repeat (first | refine blk_drewN ?_ _ | refine blk_drew ?_ | refine blk_alloc ?_ _)); refine blk_far ?_ NB120_121.out _; (with_reducible repeat (first | refine blk_drewN ?_ _ | refine blk_drew ?_ | refine blk_alloc ?_ _)); exact BK120.out⟩, ⟨by (with_reducible repeat (first | refine blk_drewN ?_ _ | refine blk_drew ?_ | refine blk_alloc ?_ _)); refine blk_put (cs := #[.int .i64 1, .int .i64 2, .int .i64 2, .int .i64 3, .int .i64 8]) ?_ 4 _ rfl; (with_reducible repeat (first | refine blk_drewN ?_ _ | refine blk_drew ?_ | refine blk_alloc ?_ _)); refine blk_put (cs := #[.int .i64 1, .int .i64 2, .int .i64 2, .int .i64 3, .int .i64 0]) ?_ 4 _ rfl; (with_reducible repeat (first | refine blk_drewN ?_ _ | refine blk_drew ?_ | refine blk_alloc ?_ _)); refine blk_put (cs := #[.int .i64 1, .int .i64 2, .int .i64 2, .int .i64 0, .int .i64 0]) ?_ 3 _ rfl; (with_reducible repeat (first | refine blk_drewN ?_ _ | refine blk_drew ?_ | refine blk_alloc ?_ _)); refine blk_put (cs := #[.int .i64 1, .int .i64 2, .int .i64 0, .int .i64 0, .int .i64 0]) ?_ 2 _ rfl; (with_reducible repeat (first | refine blk_drewN ?_ _ | refine blk_drew ?_ | refine blk_alloc ?_ _)); refine blk_put (cs := #[.int .i64 1, .int .i64 0, .int .i64 0, .int .i64 0, .int .i64 0]) ?_ 1 _ rfl; (with_reducible repeat (first | refine blk_drewN ?_ _ | refine blk_drew ?_ | refine blk_alloc ?_ _)); refine blk_put (cs := #[.int .i64 0, .int .i64 0, .int .i64 0, .int .i64 0, .int .i64 0]) ?_ 0 _ rfl; (with_reducible repeat (first | refine blk_drewN ?_ _ | refine blk_drew ?_ | refine blk_alloc ?_ _)); exact BK121.out⟩, ⟨by repeat (first | (with_reducible first | exact HB.out | apply below_alloc | apply pw_below_drewN | apply below_drew1 | refine below_set ?_ GE120.out | refine below_set ?_ GE121.out) | exact HB.out)⟩⟩
                        · rw [if_neg c39] at H
                          have c39b0 : ((Int.tmod (IntKind.u64.wrap (a0)) 13) == 9) = false := beq_eq_false_iff_ne.mpr c39
                          have c39b1 : ((Int.tmod (IntKind.u64.wrap (a0)) 13) != 9) = true := bne_iff_ne.mpr c39
                          by_cases c42 : (Int.tmod (IntKind.u64.wrap (a0)) 13) = 10
                          · rw [if_pos c42] at H
                            have c42b0 : ((Int.tmod (IntKind.u64.wrap (a0)) 13) == 10) = true := beq_iff_eq.mpr c42
                            have c42b1 : ((Int.tmod (IntKind.u64.wrap (a0)) 13) != 10) = false := bne_eq_false_iff_eq.mpr c42
                            clear c42
                            have H' := Aside0.mk H
                            clear H
                            have hnb43 := NB121_120.out
                            have hnc43 := NB120_121.out
                            have hcz44_0 : w9.cell? ⟨gb121, 0, none⟩ = some (.int .i64 0) := (blk_cell BK121.out 0).trans rfl
                            have hcz44_1 : w9.cell? ⟨gb121, 1, none⟩ = some (.int .i64 0) := (blk_cell BK121.out 1).trans rfl
                            have hcz44_2 : w9.cell? ⟨gb121, 2, none⟩ = some (.int .i64 0) := (blk_cell BK121.out 2).trans rfl
                            have hcz44_3 : w9.cell? ⟨gb121, 3, none⟩ = some (.int .i64 0) := (blk_cell BK121.out 3).trans rfl
                            have hcz44_4 : w9.cell? ⟨gb121, 4, none⟩ = some (.int .i64 0) := (blk_cell BK121.out 4).trans rfl
                            have hfz44_0 := blk_frozen BK121.out 0
                            have hfz44_1 := blk_frozen BK121.out 1
                            have hfz44_2 := blk_frozen BK121.out 2
                            have hfz44_3 := blk_frozen BK121.out 3
                            have hfz44_4 := blk_frozen BK121.out 4
                            go_wp2
                            go_meet
                            case rel => exact ⟨_, (1), (2), (2), (3), (wrap64 (16 + (wrap64 (1 + (Go.bits .and .i64 a1 1023))))), H', ⟨by first | omega | exact Nat.le_refl _⟩, ⟨by (with_reducible repeat (first | refine blk_drewN ?_ _ | refine blk_drew ?_ | refine blk_alloc ?_ _)); refine blk_far ?_ NB120_121.out _; (with_reducible repeat (first | refine blk_drewN ?_ _ | refine blk_drew ?_ | refine blk_alloc ?_ _)); refine blk_far ?_ NB120_121.out _; (with_reducible repeat (first | refine blk_drewN ?_ _ | refine blk_drew ?_ | refine blk_alloc ?_ _)); refine blk_far ?_ NB120_121.out _; (with_reducible repeat (first | refine blk_drewN ?_ _ | refine blk_drew ?_ | refine blk_alloc ?_ _)); refine blk_far ?_ NB120_121.out _; (with_reducible repeat (first | refine blk_drewN ?_ _ | refine blk_drew ?_ | refine blk_alloc ?_ _)); refine blk_far ?_ NB120_121.out _; (with_reducible repeat (first | refine blk_drewN ?_ _ | refine blk_drew ?_ | refine blk_alloc ?_ _)); refine blk_far ?_ NB120_121.out _; (with_reducible repeat (first | refine blk_drewN ?_ _ | refine blk_drew ?_ | refine blk_alloc ?_ _)); exact BK120.out⟩, ⟨by (with_reducible repeat (first | refine blk_drewN ?_ _ | refine blk_drew ?_ | refine blk_alloc ?_ _)); refine blk_put (cs := #[.int .i64 1, .int .i64 2, .int .i64 2, .int .i64 3, .int .i64 8]) ?_ 4 _ rfl; (with_reducible repeat (first | refine blk_drewN ?_ _ | refine blk_drew ?_ | refine blk_alloc ?_ _)); refine blk_put (cs := #[.int .i64 1, .int .i64 2, .int .i64 2, .int .i64 3, .int .i64 0]) ?_ 4 _ rfl; (with_reducible repeat (first | refine blk_drewN ?_ _ | refine blk_drew ?_ | refine blk_alloc ?_ _)); refine blk_put (cs := #[.int .i64 1, .int .i64 2, .int .i64 2, .int .i64 0, .int .i64 0]) ?_ 3 _ rfl; (with_reducible repeat (first | refine blk_drewN ?_ _ | refine blk_drew ?_ | refine blk_alloc ?_ _)); refine blk_put (cs := #[.int .i64 1, .int .i64 2, .int .i64 0, .int .i64 0, .int .i64 0]) ?_ 2 _ rfl; (with_reducible repeat (first | refine blk_drewN ?_ _ | refine blk_drew ?_ | refine blk_alloc ?_ _)); refine blk_put (cs := #[.int .i64 1, .int .i64 0, .int .i64 0, .int .i64 0, .int .i64 0]) ?_ 1 _ rfl; (with_reducible repeat (first | refine blk_drewN ?_ _ | refine blk_drew ?_ | refine blk_alloc ?_ _)); refine blk_put (cs := #[.int .i64 0, .int .i64 0, .int .i64 0, .int .i64 0, .int .i64 0]) ?_ 0 _ rfl; (with_reducible repeat (first | refine blk_drewN ?_ _ | refine blk_drew ?_ | refine blk_alloc ?_ _)); exact BK121.out⟩, ⟨by repeat (first | (with_reducible first | exact HB.out | apply below_alloc | apply pw_below_drewN | apply below_drew1 | refine below_set ?_ GE120.out | refine below_set ?_ GE121.out) | exact HB.out)⟩⟩
                          · rw [if_neg c42] at H
                            have c42b0 : ((Int.tmod (IntKind.u64.wrap (a0)) 13) == 10) = false := beq_eq_false_iff_ne.mpr c42
                            have c42b1 : ((Int.tmod (IntKind.u64.wrap (a0)) 13) != 10) = true := bne_iff_ne.mpr c42
                            by_cases c45 : (Int.tmod (IntKind.u64.wrap (a0)) 13) = 11
                            · rw [if_pos c45] at H
                              have c45b0 : ((Int.tmod (IntKind.u64.wrap (a0)) 13) == 11) = true := beq_iff_eq.mpr c45
                              have c45b1 : ((Int.tmod (IntKind.u64.wrap (a0)) 13) != 11) = false := bne_eq_false_iff_eq.mpr c45
                              clear c45
                              have H' := Aside0.mk H
                              clear H
                              have hnb46 := NB121_120.out
                              have hnc46 := NB120_121.out
                              have hcz47_0 : w9.cell? ⟨gb121, 0, none⟩ = some (.int .i64 0) := (blk_cell BK121.out 0).trans rfl
                              have hcz47_1 : w9.cell? ⟨gb121, 1, none⟩ = some (.int .i64 0) := (blk_cell BK121.out 1).trans rfl
                              have hcz47_2 : w9.cell? ⟨gb121, 2, none⟩ = some (.int .i64 0) := (blk_cell BK121.out 2).trans rfl
                              have hcz47_3 : w9.cell? ⟨gb121, 3, none⟩ = some (.int .i64 0) := (blk_cell BK121.out 3).trans rfl
                              have hcz47_4 : w9.cell? ⟨gb121, 4, none⟩ = some (.int .i64 0) := (blk_cell BK121.out 4).trans rfl
                              have hfz47_0 := blk_frozen BK121.out 0
                              have hfz47_1 := blk_frozen BK121.out 1
                              have hfz47_2 := blk_frozen BK121.out 2
                              have hfz47_3 := blk_frozen BK121.out 3
                              have hfz47_4 := blk_frozen BK121.out 4
                              go_wp2
                              go_meet
                              case rel => exact ⟨_, (1), (2), (2), (3), (wrap64 (-(wrap64 (1 + (Go.bits .and .i64 a1 1023))))), H', ⟨by first | omega | exact Nat.le_refl _⟩, ⟨by (with_reducible repeat (first | refine blk_drewN ?_ _ | refine blk_drew ?_ | refine blk_alloc ?_ _)); refine blk_far ?_ NB120_121.out _; (with_reducible repeat (first | refine blk_drewN ?_ _ | refine blk_drew ?_ | refine blk_alloc ?_ _)); refine blk_far ?_ NB120_121.out _; (with_reducible repeat (first | refine blk_drewN ?_ _ | refine blk_drew ?_ | refine blk_alloc ?_ _)); refine blk_far ?_ NB120_121.out _; (with_reducible repeat (first | refine blk_drewN ?_ _ | refine blk_drew ?_ | refine blk_alloc ?_ _)); refine blk_far ?_ NB120_121.out _; (with_reducible repeat (first | refine blk_drewN ?_ _ | refine blk_drew ?_ | refine blk_alloc ?_ _)); refine blk_far ?_ NB120_121.out _; (with_reducible repeat (first | refine blk_drewN ?_ _ | refine blk_drew ?_ | refine blk_alloc ?_ _)); refine blk_far ?_ NB120_121.out _; (with_reducible repeat (first | refine blk_drewN ?_ _ | refine blk_drew ?_ | refine blk_alloc ?_ _)); exact BK120.out⟩, ⟨by (with_reducible repeat (first | refine blk_drewN ?_ _ | refine blk_drew ?_ | refine blk_alloc ?_ _)); refine blk_put (cs := #[.int .i64 1, .int .i64 2, .int .i64 2, .int .i64 3, .int .i64 8]) ?_ 4 _ rfl; (with_reducible repeat (first | refine blk_drewN ?_ _ | refine blk_drew ?_ | refine blk_alloc ?_ _)); refine blk_put (cs := #[.int .i64 1, .int .i64 2, .int .i64 2, .int .i64 3, .int .i64 0]) ?_ 4 _ rfl; (with_reducible repeat (first | refine blk_drewN ?_ _ | refine blk_drew ?_ | refine blk_alloc ?_ _)); refine blk_put (cs := #[.int .i64 1, .int .i64 2, .int .i64 2, .int .i64 0, .int .i64 0]) ?_ 3 _ rfl; (with_reducible repeat (first | refine blk_drewN ?_ _ | refine blk_drew ?_ | refine blk_alloc ?_ _)); refine blk_put (cs := #[.int .i64 1, .int .i64 2, .int .i64 0, .int .i64 0, .int .i64 0]) ?_ 2 _ rfl; (with_reducible repeat (first | refine blk_drewN ?_ _ | refine blk_drew ?_ | refine blk_alloc ?_ _)); refine blk_put (cs := #[.int .i64 1, .int .i64 0, .int .i64 0, .int .i64 0, .int .i64 0]) ?_ 1 _ rfl; (with_reducible repeat (first | refine blk_drewN ?_ _ | refine blk_drew ?_ | refine blk_alloc ?_ _)); refine blk_put (cs := #[.int .i64 0, .int .i64 0, .int .i64 0, .int .i64 0, .int .i64 0]) ?_ 0 _ rfl; (with_reducible repeat (first | refine blk_drewN ?_ _ | refine blk_drew ?_ | refine blk_alloc ?_ _)); exact BK121.out⟩, ⟨by repeat (first | (with_reducible first | exact HB.out | apply below_alloc | apply pw_below_drewN | apply below_drew1 | refine below_set ?_ GE120.out | refine below_set ?_ GE121.out) | exact HB.out)⟩⟩
                            · rw [if_neg c45] at H
                              have c45b0 : ((Int.tmod (IntKind.u64.wrap (a0)) 13) == 11) = false := beq_eq_false_iff_ne.mpr c45
                              have c45b1 : ((Int.tmod (IntKind.u64.wrap (a0)) 13) != 11) = true := bne_iff_ne.mpr c45
                              have H' := Aside0.mk H
                              clear H
                              have hnb48 := NB121_120.out
                              have hnc48 := NB120_121.out
                              have hcz49_0 : w9.cell? ⟨gb121, 0, none⟩ = some (.int .i64 0) := (blk_cell BK121.out 0).trans rfl
                              have hcz49_1 : w9.cell? ⟨gb121, 1, none⟩ = some (.int .i64 0) := (blk_cell BK121.out 1).trans rfl
                              have hcz49_2 : w9.cell? ⟨gb121, 2, none⟩ = some (.int .i64 0) := (blk_cell BK121.out 2).trans rfl
                              have hcz49_3 : w9.cell? ⟨gb121, 3, none⟩ = some (.int .i64 0) := (blk_cell BK121.out 3).trans rfl
                              have hcz49_4 : w9.cell? ⟨gb121, 4, none⟩ = some (.int .i64 0) := (blk_cell BK121.out 4).trans rfl
                              have hfz49_0 := blk_frozen BK121.out 0
                              have hfz49_1 := blk_frozen BK121.out 1
                              have hfz49_2 := blk_frozen BK121.out 2
                              have hfz49_3 := blk_frozen BK121.out 3
                              have hfz49_4 := blk_frozen BK121.out 4
                              go_wp2
                              go_meet
                              case rel => exact ⟨_, (1), (2), (2), (3), (2), H', ⟨by first | omega | exact Nat.le_refl _⟩, ⟨by (with_reducible repeat (first | refine blk_drewN ?_ _ | refine blk_drew ?_ | refine blk_alloc ?_ _)); refine blk_far ?_ NB120_121.out _; (with_reducible repeat (first | refine blk_drewN ?_ _ | refine blk_drew ?_ | refine blk_alloc ?_ _)); refine blk_far ?_ NB120_121.out _; (with_reducible repeat (first | refine blk_drewN ?_ _ | refine blk_drew ?_ | refine blk_alloc ?_ _)); refine blk_far ?_ NB120_121.out _; (with_reducible repeat (first | refine blk_drewN ?_ _ | refine blk_drew ?_ | refine blk_alloc ?_ _)); refine blk_far ?_ NB120_121.out _; (with_reducible repeat (first | refine blk_drewN ?_ _ | refine blk_drew ?_ | refine blk_alloc ?_ _)); refine blk_far ?_ NB120_121.out _; (with_reducible repeat (first | refine blk_drewN ?_ _ | refine blk_drew ?_ | refine blk_alloc ?_ _)); refine blk_far ?_ NB120_121.out _; (with_reducible repeat (first | refine blk_drewN ?_ _ | refine blk_drew ?_ | refine blk_alloc ?_ _)); exact BK120.out⟩, ⟨by (with_reducible repeat (first | refine blk_drewN ?_ _ | refine blk_drew ?_ | refine blk_alloc ?_ _)); refine blk_put (cs := #[.int .i64 1, .int .i64 2, .int .i64 2, .int .i64 3, .int .i64 8]) ?_ 4 _ rfl; (with_reducible repeat (first | refine blk_drewN ?_ _ | refine blk_drew ?_ | refine blk_alloc ?_ _)); refine blk_put (cs := #[.int .i64 1, .int .i64 2, .int .i64 2, .int .i64 3, .int .i64 0]) ?_ 4 _ rfl; (with_reducible repeat (first | refine blk_drewN ?_ _ | refine blk_drew ?_ | refine blk_alloc ?_ _)); refine blk_put (cs := #[.int .i64 1, .int .i64 2, .int .i64 2, .int .i64 0, .int .i64 0]) ?_ 3 _ rfl; (with_reducible repeat (first | refine blk_drewN ?_ _ | refine blk_drew ?_ | refine blk_alloc ?_ _)); refine blk_put (cs := #[.int .i64 1, .int .i64 2, .int .i64 0, .int .i64 0, .int .i64 0]) ?_ 2 _ rfl; (with_reducible repeat (first | refine blk_drewN ?_ _ | refine blk_drew ?_ | refine blk_alloc ?_ _)); refine blk_put (cs := #[.int .i64 1, .int .i64 0, .int .i64 0, .int .i64 0, .int .i64 0]) ?_ 1 _ rfl; (with_reducible repeat (first | refine blk_drewN ?_ _ | refine blk_drew ?_ | refine blk_alloc ?_ _)); refine blk_put (cs := #[.int .i64 0, .int .i64 0, .int .i64 0, .int .i64 0, .int .i64 0]) ?_ 0 _ rfl; (with_reducible repeat (first | refine blk_drewN ?_ _ | refine blk_drew ?_ | refine blk_alloc ?_ _)); exact BK121.out⟩, ⟨by repeat (first | (with_reducible first | exact HB.out | apply below_alloc | apply pw_below_drewN | apply below_drew1 | refine below_set ?_ GE120.out | refine below_set ?_ GE121.out) | exact HB.out)⟩⟩
    case rest =>
      clear HC5
      try clear c1
      try clear c2
      try clear p2
      try clear c3
      try clear c4
      try clear p6
      try clear c10
      try clear c12
      try clear c12b0
      try clear c12b1
      try clear c13
      try clear c15
      try clear c15b0
      try clear c15b1
      try clear c16
      try clear c18
      try clear c18b0
      try clear c18b1
      try clear c19
      try clear c21
      try clear c21b0
      try clear c21b1
      try clear c22
      try clear c24
      try clear c24b0
      try clear c24b1
      try clear c25
      try clear c27
      try clear c27b0
      try clear c27b1
      try clear c28
      try clear c30
      try clear c30b0
      try clear c30b1
      try clear c31
      try clear c33
      try clear c33b0
      try clear c33b1
      try clear c34
      try clear c36
      try clear c36b0
      try clear c36b1
      try clear c37
      try clear c39
      try clear c39b0
      try clear c39b1
      try clear c40
      try clear c42
      try clear c42b0
      try clear c42b1
      try clear c43
      try clear c45
      try clear c45b0
      try clear c45b1
      try clear c46
      try clear c48
      try clear hcz11_0
      try clear hcz11_1
      try clear hcz11_2
      try clear hcz11_3
      try clear hcz11_4
      try clear hcz14_0
      try clear hcz14_1
      try clear hcz14_2
      try clear hcz14_3
      try clear hcz14_4
      try clear hcz17_0
      try clear hcz17_1
      try clear hcz17_2
      try clear hcz17_3
      try clear hcz17_4
      try clear hcz20_0
      try clear hcz20_1
      try clear hcz20_2
      try clear hcz20_3
      try clear hcz20_4
      try clear hcz23_0
      try clear hcz23_1
      try clear hcz23_2
      try clear hcz23_3
      try clear hcz23_4
      try clear hcz26_0
      try clear hcz26_1
      try clear hcz26_2
      try clear hcz26_3
      try clear hcz26_4
      try clear hcz29_0
      try clear hcz29_1
      try clear hcz29_2
      try clear hcz29_3
      try clear hcz29_4
      try clear hcz32_0
      try clear hcz32_1
      try clear hcz32_2
      try clear hcz32_3
      try clear hcz32_4
      try clear hcz35_0
      try clear hcz35_1
      try clear hcz35_2
      try clear hcz35_3
      try clear hcz35_4
      try clear hcz38_0
      try clear hcz38_1
      try clear hcz38_2
      try clear hcz38_3
      try clear hcz38_4
      try clear hcz41_0
      try clear hcz41_1
      try clear hcz41_2
      try clear hcz41_3
      try clear hcz41_4
      try clear hcz44_0
      try clear hcz44_1
      try clear hcz44_2
      try clear hcz44_3
      try clear hcz44_4
      try clear hcz47_0
      try clear hcz47_1
      try clear hcz47_2
      try clear hcz47_3
      try clear hcz47_4
      try clear hcz49_0
      try clear hcz49_1
      try clear hcz49_2
      try clear hcz49_3
      try clear hcz49_4
      try clear hcz8_0
      try clear hcz8_1
      try clear hcz8_2
      try clear hcz8_3
      try clear hcz8_4
      try clear hfz11_0
      try clear hfz11_1
      try clear hfz11_2
      try clear hfz11_3
      try clear hfz11_4
      try clear hfz14_0
      try clear hfz14_1
      try clear hfz14_2
      try clear hfz14_3
      try clear hfz14_4
      try clear hfz17_0
      try clear hfz17_1
      try clear hfz17_2
      try clear hfz17_3
      try clear hfz17_4
      try clear hfz20_0
      try clear hfz20_1
      try clear hfz20_2
      try clear hfz20_3
      try clear hfz20_4
      try clear hfz23_0
      try clear hfz23_1
      try clear hfz23_2
      try clear hfz23_3
      try clear hfz23_4
      try clear hfz26_0
      try clear hfz26_1
      try clear hfz26_2
      try clear hfz26_3
      try clear hfz26_4
      try clear hfz29_0
      try clear hfz29_1
      try clear hfz29_2
      try clear hfz29_3
      try clear hfz29_4
      try clear hfz32_0
      try clear hfz32_1
      try clear hfz32_2
      try clear hfz32_3
      try clear hfz32_4
      try clear hfz35_0
      try clear hfz35_1
      try clear hfz35_2
      try clear hfz35_3
      try clear hfz35_4
      try clear hfz38_0
      try clear hfz38_1
      try clear hfz38_2
      try clear hfz38_3
      try clear hfz38_4
      try clear hfz41_0
      try clear hfz41_1
      try clear hfz41_2
      try clear hfz41_3
      try clear hfz41_4
      try clear hfz44_0
      try clear hfz44_1
      try clear hfz44_2
      try clear hfz44_3
      try clear hfz44_4
      try clear hfz47_0
      try clear hfz47_1
      try clear hfz47_2
      try clear hfz47_3
      try clear hfz47_4
      try clear hfz49_0
      try clear hfz49_1
      try clear hfz49_2
      try clear hfz49_3
      try clear hfz49_4
      try clear hfz8_0
      try clear hfz8_1
      try clear hfz8_2
      try clear hfz8_3
      try clear hfz8_4
      obtain ⟨kq, x122000_4, x122001_4, x122002_4, x122003_4, x122004_4, HA, HJ4, BK120, BK121, HB⟩ := hcut
      cases kq with
      | zero => exact absurd HA.out (by simp [choruslaw13_ConfigForms.j0])
      | succ kj4 =>
        have H := HA.out
        clear HA
        simp only [choruslaw13_ConfigForms.j0] at H
        replace H := Option.bind_eq_some_iff.mp H
        obtain ⟨⟨t122, t123⟩, A500, H⟩ := H
        replace H : ((config_Replica.f 1 2 2 3 8 (wrap64 (-(wrap64 (1 + (Go.bits .and .i64 a1 1023)))))).bind fun bt124 => ((config_Replica.f 1 2 2 3 8 (wrap64 (2 + (wrap64 (1 + (Go.bits .and .i64 a1 1023)))))).bind fun bt126 => ((config_May.f 1 2 2 3 8).bind fun t128 => (if t128 = true then ((config_May.f x122000_4 x122001_4 x122002_4 x122003_4 x122004_4).bind fun t129 => (if t129 = true then (some false) else ((choruslaw0_Num.f t123).bind fun t130 => (if t130 = 1300 then ((choruslaw0_Num.f bt124.2).bind fun t131 => (if t131 = 1300 then ((choruslaw0_Num.f bt126.2).bind fun t132 => (if t132 = 1300 then (some true) else (some false))) else (some false))) else (some false))))) else (some false))))) = some true := H
        have A50 := Aside0.mk A500
        clear A500
        replace H := Option.bind_eq_some_iff.mp H
        obtain ⟨⟨t124, t125⟩, A510, H⟩ := H
        replace H : ((config_Replica.f 1 2 2 3 8 (wrap64 (2 + (wrap64 (1 + (Go.bits .and .i64 a1 1023)))))).bind fun bt126 => ((config_May.f 1 2 2 3 8).bind fun t128 => (if t128 = true then ((config_May.f x122000_4 x122001_4 x122002_4 x122003_4 x122004_4).bind fun t129 => (if t129 = true then (some false) else ((choruslaw0_Num.f t123).bind fun t130 => (if t130 = 1300 then ((choruslaw0_Num.f t125).bind fun t131 => (if t131 = 1300 then ((choruslaw0_Num.f bt126.2).bind fun t132 => (if t132 = 1300 then (some true) else (some false))) else (some false))) else (some false))))) else (some false)))) = some true := H
        have A51 := Aside0.mk A510
        clear A510
        replace H := Option.bind_eq_some_iff.mp H
        obtain ⟨⟨t126, t127⟩, A520, H⟩ := H
        replace H : ((config_May.f 1 2 2 3 8).bind fun t128 => (if t128 = true then ((config_May.f x122000_4 x122001_4 x122002_4 x122003_4 x122004_4).bind fun t129 => (if t129 = true then (some false) else ((choruslaw0_Num.f t123).bind fun t130 => (if t130 = 1300 then ((choruslaw0_Num.f t125).bind fun t131 => (if t131 = 1300 then ((choruslaw0_Num.f t127).bind fun t132 => (if t132 = 1300 then (some true) else (some false))) else (some false))) else (some false))))) else (some false))) = some true := H
        have A52 := Aside0.mk A520
        clear A520
        replace H := Option.bind_eq_some_iff.mp H
        obtain ⟨t128, A530, H⟩ := H
        replace H : (if t128 = true then ((config_May.f x122000_4 x122001_4 x122002_4 x122003_4 x122004_4).bind fun t129 => (if t129 = true then (some false) else ((choruslaw0_Num.f t123).bind fun t130 => (if t130 = 1300 then ((choruslaw0_Num.f t125).bind fun t131 => (if t131 = 1300 then ((choruslaw0_Num.f t127).bind fun t132 => (if t132 = 1300 then (some true) else (some false))) else (some false))) else (some false))))) else (some false)) = some true := H
        have A53 := Aside0.mk A530
        clear A530
        by_cases c54 : t128 = true
        · subst c54
          have H1 : ((config_May.f x122000_4 x122001_4 x122002_4 x122003_4 x122004_4).bind fun t129 => (if t129 = true then (some false) else ((choruslaw0_Num.f t123).bind fun t130 => (if t130 = 1300 then ((choruslaw0_Num.f t125).bind fun t131 => (if t131 = 1300 then ((choruslaw0_Num.f t127).bind fun t132 => (if t132 = 1300 then (some true) else (some false))) else (some false))) else (some false))))) = some true := by first | (rw [if_pos rfl] at H; exact H) | rfl
          clear H
          have H := H1
          clear H1
          replace H := Option.bind_eq_some_iff.mp H
          obtain ⟨t129, A550, H⟩ := H
          replace H : (if t129 = true then (some false) else ((choruslaw0_Num.f t123).bind fun t130 => (if t130 = 1300 then ((choruslaw0_Num.f t125).bind fun t131 => (if t131 = 1300 then ((choruslaw0_Num.f t127).bind fun t132 => (if t132 = 1300 then (some true) else (some false))) else (some false))) else (some false)))) = some true := H
          have A55 := Aside0.mk A550
          clear A550
          by_cases c56 : t129 = true
          · subst c56
            have H1 : (some false) = some true := by first | (rw [if_pos rfl] at H; exact H) | rfl
            clear H
            have H := H1
            clear H1
            exact absurd (Option.some.inj H) (by simp)
          · replace c56 := Bool.eq_false_iff.mpr c56
            subst c56
            have H1 : ((choruslaw0_Num.f t123).bind fun t130 => (if t130 = 1300 then ((choruslaw0_Num.f t125).bind fun t131 => (if t131 = 1300 then ((choruslaw0_Num.f t127).bind fun t132 => (if t132 = 1300 then (some true) else (some false))) else (some false))) else (some false))) = some true := by first | (rw [if_neg (show ¬ (false = true) by decide)] at H; exact H) | rfl
            clear H
            have H := H1
            clear H1
            replace H := Option.bind_eq_some_iff.mp H
            obtain ⟨t130, A570, H⟩ := H
            replace H : (if t130 = 1300 then ((choruslaw0_Num.f t125).bind fun t131 => (if t131 = 1300 then ((choruslaw0_Num.f t127).bind fun t132 => (if t132 = 1300 then (some true) else (some false))) else (some false))) else (some false)) = some true := H
            have A57 := Aside0.mk A570
            clear A570
            by_cases c58 : t130 = 1300
            · rw [if_pos c58] at H
              have c58b0 : (t130 == 1300) = true := beq_iff_eq.mpr c58
              have c58b1 : (t130 != 1300) = false := bne_eq_false_iff_eq.mpr c58
              clear c58
              replace H := Option.bind_eq_some_iff.mp H
              obtain ⟨t131, A590, H⟩ := H
              replace H : (if t131 = 1300 then ((choruslaw0_Num.f t127).bind fun t132 => (if t132 = 1300 then (some true) else (some false))) else (some false)) = some true := H
              have A59 := Aside0.mk A590
              clear A590
              by_cases c60 : t131 = 1300
              · rw [if_pos c60] at H
                have c60b0 : (t131 == 1300) = true := beq_iff_eq.mpr c60
                have c60b1 : (t131 != 1300) = false := bne_eq_false_iff_eq.mpr c60
                clear c60
                replace H := Option.bind_eq_some_iff.mp H
                obtain ⟨t132, A610, H⟩ := H
                replace H : (if t132 = 1300 then (some true) else (some false)) = some true := H
                have A61 := Aside0.mk A610
                clear A610
                by_cases c62 : t132 = 1300
                · rw [if_pos c62] at H
                  have c62b0 : (t132 == 1300) = true := beq_iff_eq.mpr c62
                  have c62b1 : (t132 != 1300) = false := bne_eq_false_iff_eq.mpr c62
                  clear c62
                  clear H
                  have hnb63 := NB121_120.out
                  have hnc63 := NB120_121.out
                  have hcz64_0 : wc.cell? ⟨gb121, 0, none⟩ = some (.int .i64 x122000_4) := (blk_cell BK121.out 0).trans rfl
                  have hcz64_1 : wc.cell? ⟨gb121, 1, none⟩ = some (.int .i64 x122001_4) := (blk_cell BK121.out 1).trans rfl
                  have hcz64_2 : wc.cell? ⟨gb121, 2, none⟩ = some (.int .i64 x122002_4) := (blk_cell BK121.out 2).trans rfl
                  have hcz64_3 : wc.cell? ⟨gb121, 3, none⟩ = some (.int .i64 x122003_4) := (blk_cell BK121.out 3).trans rfl
                  have hcz64_4 : wc.cell? ⟨gb121, 4, none⟩ = some (.int .i64 x122004_4) := (blk_cell BK121.out 4).trans rfl
                  have hfz64_0 := blk_frozen BK121.out 0
                  have hfz64_1 := blk_frozen BK121.out 1
                  have hfz64_2 := blk_frozen BK121.out 2
                  have hfz64_3 := blk_frozen BK121.out 3
                  have hfz64_4 := blk_frozen BK121.out 4
                  go_wp2_with (first | ((with_reducible refine gate_callee (f := 7) rfl ?_); refine goesL_ (some 83) rfl rfl Try.func7 (by kernel_rfl) rfl #[.agg #[.int .i64 x122000_4, .int .i64 x122001_4, .int .i64 x122002_4, .int .i64 x122003_4, .int .i64 x122004_4], .int .i64 0] rfl (by (try simp only [List.map_toArray, List.map_cons, List.map_nil]); first | done | rfl | (simp only [List.length_drop, List.length_take]; rfl)) ?_; (with_reducible refine (config_Replica.calls x122000_4 x122001_4 x122002_4 x122003_4 x122004_4 0 t122 t123 _ A50.out).mono ?_); rintro e w65 ⟨rfl, hb⟩; refine ⟨_, rfl, ?_⟩; have n0_ := Aside0.mk (blk_below (g := gb120) (o := .cells #[.int .i64 1, .int .i64 2, .int .i64 2, .int .i64 3, .int .i64 8] 23 (0, 0)) (by (with_reducible repeat (first | refine blk_drewN ?_ _ | refine blk_drew ?_ | refine blk_alloc ?_ _)); exact BK120.out) hb); have n1_ := Aside0.mk (blk_below (g := gb121) (o := .cells #[.int .i64 x122000_4, .int .i64 x122001_4, .int .i64 x122002_4, .int .i64 x122003_4, .int .i64 x122004_4] 23 (0, 0)) (by (with_reducible repeat (first | refine blk_drewN ?_ _ | refine blk_drew ?_ | refine blk_alloc ?_ _)); exact BK121.out) hb); have n2_ := Aside0.mk (below_step (by repeat (first | (with_reducible first | exact HB.out | apply below_alloc | apply pw_below_drewN | apply below_drew1 | refine below_set ?_ GE120.out | refine below_set ?_ GE121.out) | exact HB.out)) hb); clear BK120; clear BK121; clear HB; have BK120 := n0_; have BK121 := n1_; have HB := n2_; clear n0_ n1_ n2_; (try clear hb); (try clear hb2); (try clear hk); (try clear hi); have hcz66_0 : w65.cell? ⟨gb120, 0, none⟩ = some (.int .i64 1) := (blk_cell BK120.out 0).trans rfl; have hcz66_1 : w65.cell? ⟨gb120, 1, none⟩ = some (.int .i64 2) := (blk_cell BK120.out 1).trans rfl; have hcz66_2 : w65.cell? ⟨gb120, 2, none⟩ = some (.int .i64 2) := (blk_cell BK120.out 2).trans rfl; have hcz66_3 : w65.cell? ⟨gb120, 3, none⟩ = some (.int .i64 3) := (blk_cell BK120.out 3).trans rfl; have hcz66_4 : w65.cell? ⟨gb120, 4, none⟩ = some (.int .i64 8) := (blk_cell BK120.out 4).trans rfl; have hfz66_0 := blk_frozen BK120.out 0; have hfz66_1 := blk_frozen BK120.out 1; have hfz66_2 := blk_frozen BK120.out 2; have hfz66_3 := blk_frozen BK120.out 3; have hfz66_4 := blk_frozen BK120.out 4) | ((with_reducible refine gate_callee (f := 7) rfl ?_); refine goesL_ (some 90) rfl rfl Try.func7 (by kernel_rfl) rfl #[.agg #[.int .i64 1, .int .i64 2, .int .i64 2, .int .i64 3, .int .i64 8], .int .i64 (wrap64 (-(wrap64 (1 + (Go.bits .and .i64 a1 1023)))))] rfl (by (try simp only [List.map_toArray, List.map_cons, List.map_nil]); first | done | rfl | (simp only [List.length_drop, List.length_take]; rfl)) ?_; (with_reducible refine (config_Replica.calls 1 2 2 3 8 (wrap64 (-(wrap64 (1 + (Go.bits .and .i64 a1 1023))))) t124 t125 _ A51.out).mono ?_); rintro e w67 ⟨rfl, hb⟩; refine ⟨_, rfl, ?_⟩; have n0_ := Aside0.mk (blk_below (g := gb120) (o := .cells #[.int .i64 1, .int .i64 2, .int .i64 2, .int .i64 3, .int .i64 8] 23 (0, 0)) (by (with_reducible repeat (first | refine blk_drewN ?_ _ | refine blk_drew ?_ | refine blk_alloc ?_ _)); exact BK120.out) hb); have n1_ := Aside0.mk (blk_below (g := gb121) (o := .cells #[.int .i64 x122000_4, .int .i64 x122001_4, .int .i64 x122002_4, .int .i64 x122003_4, .int .i64 x122004_4] 23 (0, 0)) (by (with_reducible repeat (first | refine blk_drewN ?_ _ | refine blk_drew ?_ | refine blk_alloc ?_ _)); exact BK121.out) hb); have n2_ := Aside0.mk (below_step (by repeat (first | (with_reducible first | exact HB.out | apply below_alloc | apply pw_below_drewN | apply below_drew1 | refine below_set ?_ GE120.out | refine below_set ?_ GE121.out) | exact HB.out)) hb); clear BK120; clear BK121; clear HB; have BK120 := n0_; have BK121 := n1_; have HB := n2_; clear n0_ n1_ n2_; (try clear hb); (try clear hb2); (try clear hk); (try clear hi); have hcz68_0 : w67.cell? ⟨gb120, 0, none⟩ = some (.int .i64 1) := (blk_cell BK120.out 0).trans rfl; have hcz68_1 : w67.cell? ⟨gb120, 1, none⟩ = some (.int .i64 2) := (blk_cell BK120.out 1).trans rfl; have hcz68_2 : w67.cell? ⟨gb120, 2, none⟩ = some (.int .i64 2) := (blk_cell BK120.out 2).trans rfl; have hcz68_3 : w67.cell? ⟨gb120, 3, none⟩ = some (.int .i64 3) := (blk_cell BK120.out 3).trans rfl; have hcz68_4 : w67.cell? ⟨gb120, 4, none⟩ = some (.int .i64 8) := (blk_cell BK120.out 4).trans rfl; have hfz68_0 := blk_frozen BK120.out 0; have hfz68_1 := blk_frozen BK120.out 1; have hfz68_2 := blk_frozen BK120.out 2; have hfz68_3 := blk_frozen BK120.out 3; have hfz68_4 := blk_frozen BK120.out 4) | ((with_reducible refine gate_callee (f := 7) rfl ?_); refine goesL_ (some 97) rfl rfl Try.func7 (by kernel_rfl) rfl #[.agg #[.int .i64 1, .int .i64 2, .int .i64 2, .int .i64 3, .int .i64 8], .int .i64 (wrap64 (2 + (wrap64 (1 + (Go.bits .and .i64 a1 1023)))))] rfl (by (try simp only [List.map_toArray, List.map_cons, List.map_nil]); first | done | rfl | (simp only [List.length_drop, List.length_take]; rfl)) ?_; (with_reducible refine (config_Replica.calls 1 2 2 3 8 (wrap64 (2 + (wrap64 (1 + (Go.bits .and .i64 a1 1023))))) t126 t127 _ A52.out).mono ?_); rintro e w69 ⟨rfl, hb⟩; refine ⟨_, rfl, ?_⟩; have n0_ := Aside0.mk (blk_below (g := gb120) (o := .cells #[.int .i64 1, .int .i64 2, .int .i64 2, .int .i64 3, .int .i64 8] 23 (0, 0)) (by (with_reducible repeat (first | refine blk_drewN ?_ _ | refine blk_drew ?_ | refine blk_alloc ?_ _)); exact BK120.out) hb); have n1_ := Aside0.mk (blk_below (g := gb121) (o := .cells #[.int .i64 x122000_4, .int .i64 x122001_4, .int .i64 x122002_4, .int .i64 x122003_4, .int .i64 x122004_4] 23 (0, 0)) (by (with_reducible repeat (first | refine blk_drewN ?_ _ | refine blk_drew ?_ | refine blk_alloc ?_ _)); exact BK121.out) hb); have n2_ := Aside0.mk (below_step (by repeat (first | (with_reducible first | exact HB.out | apply below_alloc | apply pw_below_drewN | apply below_drew1 | refine below_set ?_ GE120.out | refine below_set ?_ GE121.out) | exact HB.out)) hb); clear BK120; clear BK121; clear HB; have BK120 := n0_; have BK121 := n1_; have HB := n2_; clear n0_ n1_ n2_; (try clear hb); (try clear hb2); (try clear hk); (try clear hi); have hcz70_0 : w69.cell? ⟨gb120, 0, none⟩ = some (.int .i64 1) := (blk_cell BK120.out 0).trans rfl; have hcz70_1 : w69.cell? ⟨gb120, 1, none⟩ = some (.int .i64 2) := (blk_cell BK120.out 1).trans rfl; have hcz70_2 : w69.cell? ⟨gb120, 2, none⟩ = some (.int .i64 2) := (blk_cell BK120.out 2).trans rfl; have hcz70_3 : w69.cell? ⟨gb120, 3, none⟩ = some (.int .i64 3) := (blk_cell BK120.out 3).trans rfl; have hcz70_4 : w69.cell? ⟨gb120, 4, none⟩ = some (.int .i64 8) := (blk_cell BK120.out 4).trans rfl; have hfz70_0 := blk_frozen BK120.out 0; have hfz70_1 := blk_frozen BK120.out 1; have hfz70_2 := blk_frozen BK120.out 2; have hfz70_3 := blk_frozen BK120.out 3; have hfz70_4 := blk_frozen BK120.out 4) | ((with_reducible refine gate_callee (f := 10) rfl ?_); refine goesL_ (some 101) rfl rfl Try.func10 (by kernel_rfl) rfl #[.agg #[.int .i64 1, .int .i64 2, .int .i64 2, .int .i64 3, .int .i64 8]] rfl (by (try simp only [List.map_toArray, List.map_cons, List.map_nil]); first | done | rfl | (simp only [List.length_drop, List.length_take]; rfl)) ?_; (with_reducible refine (config_May.calls 1 2 2 3 8 true _ A53.out).mono ?_); rintro e w71 ⟨rfl, hb⟩; refine ⟨_, rfl, ?_⟩; have n0_ := Aside0.mk (blk_below (g := gb120) (o := .cells #[.int .i64 1, .int .i64 2, .int .i64 2, .int .i64 3, .int .i64 8] 23 (0, 0)) (by (with_reducible repeat (first | refine blk_drewN ?_ _ | refine blk_drew ?_ | refine blk_alloc ?_ _)); exact BK120.out) hb); have n1_ := Aside0.mk (blk_below (g := gb121) (o := .cells #[.int .i64 x122000_4, .int .i64 x122001_4, .int .i64 x122002_4, .int .i64 x122003_4, .int .i64 x122004_4] 23 (0, 0)) (by (with_reducible repeat (first | refine blk_drewN ?_ _ | refine blk_drew ?_ | refine blk_alloc ?_ _)); exact BK121.out) hb); have n2_ := Aside0.mk (below_step (by repeat (first | (with_reducible first | exact HB.out | apply below_alloc | apply pw_below_drewN | apply below_drew1 | refine below_set ?_ GE120.out | refine below_set ?_ GE121.out) | exact HB.out)) hb); clear BK120; clear BK121; clear HB; have BK120 := n0_; have BK121 := n1_; have HB := n2_; clear n0_ n1_ n2_; (try clear hb); (try clear hb2); (try clear hk); (try clear hi); have hcz72_0 : w71.cell? ⟨gb121, 0, none⟩ = some (.int .i64 x122000_4) := (blk_cell BK121.out 0).trans rfl; have hcz72_1 : w71.cell? ⟨gb121, 1, none⟩ = some (.int .i64 x122001_4) := (blk_cell BK121.out 1).trans rfl; have hcz72_2 : w71.cell? ⟨gb121, 2, none⟩ = some (.int .i64 x122002_4) := (blk_cell BK121.out 2).trans rfl; have hcz72_3 : w71.cell? ⟨gb121, 3, none⟩ = some (.int .i64 x122003_4) := (blk_cell BK121.out 3).trans rfl; have hcz72_4 : w71.cell? ⟨gb121, 4, none⟩ = some (.int .i64 x122004_4) := (blk_cell BK121.out 4).trans rfl; have hfz72_0 := blk_frozen BK121.out 0; have hfz72_1 := blk_frozen BK121.out 1; have hfz72_2 := blk_frozen BK121.out 2; have hfz72_3 := blk_frozen BK121.out 3; have hfz72_4 := blk_frozen BK121.out 4) | (go_at_call 10; (with_reducible refine (config_May.calls x122000_4 x122001_4 x122002_4 x122003_4 x122004_4 false _ A55.out).mono ?_); rintro e w73 ⟨rfl, hb⟩; have n0_ := Aside0.mk (blk_below (g := gb120) (o := .cells #[.int .i64 1, .int .i64 2, .int .i64 2, .int .i64 3, .int .i64 8] 23 (0, 0)) (by (with_reducible repeat (first | refine blk_drewN ?_ _ | refine blk_drew ?_ | refine blk_alloc ?_ _)); exact BK120.out) hb); have n1_ := Aside0.mk (blk_below (g := gb121) (o := .cells #[.int .i64 x122000_4, .int .i64 x122001_4, .int .i64 x122002_4, .int .i64 x122003_4, .int .i64 x122004_4] 23 (0, 0)) (by (with_reducible repeat (first | refine blk_drewN ?_ _ | refine blk_drew ?_ | refine blk_alloc ?_ _)); exact BK121.out) hb); have n2_ := Aside0.mk (below_step (by repeat (first | (with_reducible first | exact HB.out | apply below_alloc | apply pw_below_drewN | apply below_drew1 | refine below_set ?_ GE120.out | refine below_set ?_ GE121.out) | exact HB.out)) hb); clear BK120; clear BK121; clear HB; have BK120 := n0_; have BK121 := n1_; have HB := n2_; clear n0_ n1_ n2_; (try clear hb); (try clear hb2); (try clear hk); (try clear hi)) | (go_at_call 9; (with_reducible refine (choruslaw0_Num.calls t123 t130 _ A57.out).mono ?_); rintro e w' ⟨rfl, ⟨nd, rfl⟩⟩) | (go_at_call 9; (with_reducible refine (choruslaw0_Num.calls t125 t131 _ A59.out).mono ?_); rintro e w' ⟨rfl, ⟨nd, rfl⟩⟩) | (go_at_call 9; (with_reducible refine (choruslaw0_Num.calls t127 t132 _ A61.out).mono ?_); rintro e w' ⟨rfl, ⟨nd, rfl⟩⟩))
                  go_ret
                  exact ⟨by first | rfl | (simp [errW_none, errW_some] <;> rfl) | (simp [*, errW_none, errW_some] <;> rfl), by repeat (first | (with_reducible first | exact HB.out | apply below_alloc | apply pw_below_drewN | apply below_drew1 | refine below_set ?_ GE120.out | refine below_set ?_ GE121.out) | exact HB.out)⟩
                · rw [if_neg c62] at H
                  have c62b0 : (t132 == 1300) = false := beq_eq_false_iff_ne.mpr c62
                  have c62b1 : (t132 != 1300) = true := bne_iff_ne.mpr c62
                  exact absurd (Option.some.inj H) (by simp)
              · rw [if_neg c60] at H
                have c60b0 : (t131 == 1300) = false := beq_eq_false_iff_ne.mpr c60
                have c60b1 : (t131 != 1300) = true := bne_iff_ne.mpr c60
                exact absurd (Option.some.inj H) (by simp)
            · rw [if_neg c58] at H
              have c58b0 : (t130 == 1300) = false := beq_eq_false_iff_ne.mpr c58
              have c58b1 : (t130 != 1300) = true := bne_iff_ne.mpr c58
              exact absurd (Option.some.inj H) (by simp)
        · replace c54 := Bool.eq_false_iff.mpr c54
          subst c54
          have H1 : (some false) = some true := by first | (rw [if_neg (show ¬ (false = true) by decide)] at H; exact H) | rfl
          clear H
          have H := H1
          clear H1
          exact absurd (Option.some.inj H) (by simp)
  · replace c4 := Bool.eq_false_iff.mpr c4
    subst c4
    have H1 : (some false) = some true := by first | (rw [if_neg (show ¬ (false = true) by decide)] at H; exact H) | rfl
    clear H
    have H := H1
    clear H1
    exact absurd (Option.some.inj H) (by simp)

/-- THE ONE PURE STATEMENT of choruslaw13_ConfigForms: yours. -/
def choruslaw13_ConfigForms.Pure : Prop := ∀ (a0 : Int) (a1 : Int), (Lit.int .i64 a0).wf = true → (Lit.int .i64 a1).wf = true → ∃ k, choruslaw13_ConfigForms.f k a0 a1 = some true
theorem choruslaw13_ConfigForms.walk (P : choruslaw13_ConfigForms.Pure) (a0 : Int) (a1 : Int) (w : World) (w0 : (Lit.int .i64 a0).wf = true) (w1 : (Lit.int .i64 a1).wf = true) :
    Calls Try.prog 4 #[.int .i64 a0, .int .i64 a1] w fun e w' => e = .returned (.bool true) ∧ Below w.heap.size w w' := by
  obtain ⟨k, h⟩ := P a0 a1 w0 w1
  refine (choruslaw13_ConfigForms.calls k a0 a1 true w h).mono ?_
  rintro e w' ⟨rfl, hd⟩
  exact ⟨rfl, hd⟩

end Go.Proofs.Ytjnpbeekdljohaa.PConfigForms
