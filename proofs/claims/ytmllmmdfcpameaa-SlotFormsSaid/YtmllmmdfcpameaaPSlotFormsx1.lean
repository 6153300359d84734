-- Told by this session's own turn of the print (wip/tools): not typed by hand
import Derived.Test.YtmllmmdfcpameaaPSlotFormsx0
namespace Go.Proofs.Ytmllmmdfcpameaa.PSlotForms
open Go.RowKit Go.Proofs.YtmllmmdfcpameaaW.PrintWords Go.Proofs.YtmllmmdfcpameaaW.PrintLast Go.Proofs.YtmllmmdfcpameaaW.PrintMore
attribute [local go_sem] max2_int min2_int max_two min_two max_three min_three max_four min_four   -- for this text's walks alone
set_option linter.unusedVariables false
set_option linter.unusedSimpArgs false

/-! ### slot_Many: function 14 -/
def slot_Many.f (a0 : Int) : Option (Bool) := if a0 ≥ 2 then (if a0 ≤ 16 then (some ((Go.bits .and .i64 a0 (wrap64 (a0 - 1))) == 0)) else (some false)) else (some false)
set_option maxHeartbeats 8000000 in
set_option maxRecDepth 100000 in
theorem slot_Many.calls (a0 : Int) (r : Bool) (w : World) (h : slot_Many.f a0 = some r) :
    Calls Try.prog 14 #[.int .i64 a0] w fun e w' => e = .returned (.bool r) ∧ Drawn0 w w' := by
  have H : (if a0 ≥ 2 then (if a0 ≤ 16 then (some ((Go.bits .and .i64 a0 (wrap64 (a0 - 1))) == 0)) else (some false)) else (some false)) = some r := h
  clear h
  by_cases c2 : a0 ≥ 2
  · rw [if_pos c2] at H
    have c2b0 : decide (2 ≤ a0) = true := decide_eq_true c2
    clear c2
    by_cases c3 : a0 ≤ 16
    · rw [if_pos c3] at H
      have c3b0 : decide (a0 ≤ 16) = true := decide_eq_true c3
      clear c3
      obtain rfl := Option.some.inj H
      go_enter Try.func14, Try.ntmps14
      go_wp2
      go_ret
      exact ⟨by first | rfl | (simp; done) | (simp [*]; done) | (congr 1 <;> (first | rfl | (unfold wrap64; omega))), by repeat (first | exact Drawn0.refl _ | apply Drawn0.step)⟩
    · rw [if_neg c3] at H
      have c3b0 : decide (a0 ≤ 16) = false := decide_eq_false c3
      clear c3
      obtain rfl := Option.some.inj H
      go_enter Try.func14, Try.ntmps14
      go_wp2
      go_ret
      exact ⟨by first | rfl | (simp; done) | (simp [*]; done) | (congr 1 <;> (first | rfl | (unfold wrap64; omega))), by repeat (first | exact Drawn0.refl _ | apply Drawn0.step)⟩
  · rw [if_neg c2] at H
    have c2b0 : decide (2 ≤ a0) = false := decide_eq_false c2
    clear c2
    obtain rfl := Option.some.inj H
    go_enter Try.func14, Try.ntmps14
    go_wp2
    go_ret
    exact ⟨by first | rfl | (simp; done) | (simp [*]; done) | (congr 1 <;> (first | rfl | (unfold wrap64; omega))), by repeat (first | exact Drawn0.refl _ | apply Drawn0.step)⟩

/-! ### cell_Number: function 15 -/
def cell_Number.f (a0 : Int) : Option (Bool) := if a0 ≥ 0 then (some (decide (a0 ≤ 1048576))) else (some false)
set_option maxHeartbeats 8000000 in
set_option maxRecDepth 100000 in
theorem cell_Number.calls (a0 : Int) (r : Bool) (w : World) (h : cell_Number.f a0 = some r) :
    Calls Try.prog 15 #[.int .i64 a0] w fun e w' => e = .returned (.bool r) ∧ Drawn0 w w' := by
  have H : (if a0 ≥ 0 then (some (decide (a0 ≤ 1048576))) else (some false)) = some r := h
  clear h
  by_cases c2 : a0 ≥ 0
  · rw [if_pos c2] at H
    have c2b0 : decide (0 ≤ a0) = true := decide_eq_true c2
    clear c2
    obtain rfl := Option.some.inj H
    go_enter Try.func15, Try.ntmps15
    go_wp2
    go_ret
    exact ⟨by first | rfl | (simp; done) | (simp [*]; done) | (congr 1 <;> (first | rfl | (unfold wrap64; omega))), by repeat (first | exact Drawn0.refl _ | apply Drawn0.step)⟩
  · rw [if_neg c2] at H
    have c2b0 : decide (0 ≤ a0) = false := decide_eq_false c2
    clear c2
    obtain rfl := Option.some.inj H
    go_enter Try.func15, Try.ntmps15
    go_wp2
    go_ret
    exact ⟨by first | rfl | (simp; done) | (simp [*]; done) | (congr 1 <;> (first | rfl | (unfold wrap64; omega))), by repeat (first | exact Drawn0.refl _ | apply Drawn0.step)⟩

/-! ### slot_Bit: function 8 -/
def slot_Bit.f (a0 : Int) (a1 : Int) : Option (Int × Int) := (slot_Many.f a1).bind fun t101 => (if t101 = true then ((cell_Number.f a0).bind fun t102 => (if t102 = true then (if a1 = 0 then (none) else (some (wrap64 (1 - (Int.tmod (wrap64 (Int.tdiv a0 a1)) 2)), 0))) else (some (0, 900)))) else (some (0, 900)))
set_option maxHeartbeats 8000000 in
set_option maxRecDepth 100000 in
theorem slot_Bit.calls (a0 : Int) (a1 : Int) (r1 : Int) (r2 : Int) (w : World) (h : slot_Bit.f a0 a1 = some (r1, r2)) :
    Calls Try.prog 8 #[.int .i64 a0, .int .i64 a1] w fun e w' => e = .returned (.tuple #[.int .i64 r1, .int .i64 r2]) ∧ Drawn0 w w' := by
  have H : ((slot_Many.f a1).bind fun t101 => (if t101 = true then ((cell_Number.f a0).bind fun t102 => (if t102 = true then (if a1 = 0 then (none) else (some (wrap64 (1 - (Int.tmod (wrap64 (Int.tdiv a0 a1)) 2)), 0))) else (some (0, 900)))) else (some (0, 900)))) = some (r1, r2) := h
  clear h
  replace H := Option.bind_eq_some_iff.mp H
  obtain ⟨t101, A30, H⟩ := H
  replace H : (if t101 = true then ((cell_Number.f a0).bind fun t102 => (if t102 = true then (if a1 = 0 then (none) else (some (wrap64 (1 - (Int.tmod (wrap64 (Int.tdiv a0 a1)) 2)), 0))) else (some (0, 900)))) else (some (0, 900))) = some (r1, r2) := H
  have A3 := Aside0.mk A30
  clear A30
  by_cases c4 : t101 = true
  · subst c4
    have H1 : ((cell_Number.f a0).bind fun t102 => (if t102 = true then (if a1 = 0 then (none) else (some (wrap64 (1 - (Int.tmod (wrap64 (Int.tdiv a0 a1)) 2)), 0))) else (some (0, 900)))) = some (r1, r2) := by rw [if_pos rfl] at H; exact H
    clear H
    have H := H1
    clear H1
    replace H := Option.bind_eq_some_iff.mp H
    obtain ⟨t102, A50, H⟩ := H
    replace H : (if t102 = true then (if a1 = 0 then (none) else (some (wrap64 (1 - (Int.tmod (wrap64 (Int.tdiv a0 a1)) 2)), 0))) else (some (0, 900))) = some (r1, r2) := H
    have A5 := Aside0.mk A50
    clear A50
    by_cases c6 : t102 = true
    · subst c6
      have H1 : (if a1 = 0 then (none) else (some (wrap64 (1 - (Int.tmod (wrap64 (Int.tdiv a0 a1)) 2)), 0))) = some (r1, r2) := by rw [if_pos rfl] at H; exact H
      clear H
      have H := H1
      clear H1
      by_cases c7 : a1 = 0
      · rw [if_pos c7] at H
        exact absurd H (by simp)
      · rw [if_neg c7] at H
        have c7b0 : (a1 == 0) = false := beq_eq_false_iff_ne.mpr c7
        have c7b1 : (a1 != 0) = true := bne_iff_ne.mpr c7
        simp only [Option.some.injEq, Prod.mk.injEq] at H
        obtain ⟨rfl, rfl⟩ := H
        go_enter Try.func8, Try.ntmps8
        go_wp2_with (first | ((with_reducible refine gate_callee (f := 14) rfl ?_); refine goesL_ (some 7) rfl rfl Try.func14 (by kernel_rfl) rfl #[.int .i64 a1] rfl (by (try simp only [List.map_toArray, List.map_cons, List.map_nil]); first | done | rfl | (simp only [List.length_drop, List.length_take]; rfl)) ?_; (with_reducible refine (slot_Many.calls a1 true _ A3.out).mono ?_); rintro e w' ⟨rfl, ⟨nd, rfl⟩⟩; refine ⟨_, rfl, ?_⟩) | (go_at_call 15; (with_reducible refine (cell_Number.calls a0 true _ A5.out).mono ?_); rintro e w' ⟨rfl, ⟨nd, rfl⟩⟩))
        go_ret2
        exact ⟨by first | rfl | (simp; done) | (simp [*]; done) | (congr 1 <;> (first | rfl | (unfold wrap64; omega))), by repeat (first | exact Drawn0.refl _ | apply Drawn0.step)⟩
    · replace c6 := Bool.eq_false_iff.mpr c6
      subst c6
      have H1 : (some (0, 900)) = some (r1, r2) := by rw [if_neg (show ¬ (false = true) by decide)] at H; exact H
      clear H
      have H := H1
      clear H1
      simp only [Option.some.injEq, Prod.mk.injEq] at H
      obtain ⟨rfl, rfl⟩ := H
      go_enter Try.func8, Try.ntmps8
      go_wp2_with (first | ((with_reducible refine gate_callee (f := 14) rfl ?_); refine goesL_ (some 7) rfl rfl Try.func14 (by kernel_rfl) rfl #[.int .i64 a1] rfl (by (try simp only [List.map_toArray, List.map_cons, List.map_nil]); first | done | rfl | (simp only [List.length_drop, List.length_take]; rfl)) ?_; (with_reducible refine (slot_Many.calls a1 true _ A3.out).mono ?_); rintro e w' ⟨rfl, ⟨nd, rfl⟩⟩; refine ⟨_, rfl, ?_⟩) | (go_at_call 15; (with_reducible refine (cell_Number.calls a0 false _ A5.out).mono ?_); rintro e w' ⟨rfl, ⟨nd, rfl⟩⟩))
      go_ret2
      exact ⟨by first | rfl | (simp; done) | (simp [*]; done) | (congr 1 <;> (first | rfl | (unfold wrap64; omega))), by repeat (first | exact Drawn0.refl _ | apply Drawn0.step)⟩
  · replace c4 := Bool.eq_false_iff.mpr c4
    subst c4
    have H1 : (some (0, 900)) = some (r1, r2) := by rw [if_neg (show ¬ (false = true) by decide)] at H; exact H
    clear H
    have H := H1
    clear H1
    simp only [Option.some.injEq, Prod.mk.injEq] at H
    obtain ⟨rfl, rfl⟩ := H
    go_enter Try.func8, Try.ntmps8
    go_wp2_with (first | ((with_reducible refine gate_callee (f := 14) rfl ?_); refine goesL_ (some 7) rfl rfl Try.func14 (by kernel_rfl) rfl #[.int .i64 a1] rfl (by (try simp only [List.map_toArray, List.map_cons, List.map_nil]); first | done | rfl | (simp only [List.length_drop, List.length_take]; rfl)) ?_; (with_reducible refine (slot_Many.calls a1 false _ A3.out).mono ?_); rintro e w' ⟨rfl, ⟨nd, rfl⟩⟩; refine ⟨_, rfl, ?_⟩))
    go_ret2
    exact ⟨by first | rfl | (simp; done) | (simp [*]; done) | (congr 1 <;> (first | rfl | (unfold wrap64; omega))), by repeat (first | exact Drawn0.refl _ | apply Drawn0.step)⟩

/-! ### slot_Alive: function 10 -/
def slot_Alive.f (a0_0 : Int) (a0_1 : Int) (a0_2 : Int) (a0_3 : Int) (a0_4 : Int) (a1 : Int) (a2 : Int) : Option (Bool × Int) := (slot_Bit.f a1 a2).bind fun bt104 => (if bt104.2 = 0 then (some ((a0_4 == bt104.1), bt104.2)) else (some (false, bt104.2)))
set_option maxHeartbeats 8000000 in
set_option maxRecDepth 100000 in
theorem slot_Alive.calls (a0_0 : Int) (a0_1 : Int) (a0_2 : Int) (a0_3 : Int) (a0_4 : Int) (a1 : Int) (a2 : Int) (r1 : Bool) (r2 : Int) (w : World) (h : slot_Alive.f a0_0 a0_1 a0_2 a0_3 a0_4 a1 a2 = some (r1, r2)) :
    Calls Try.prog 10 #[.agg #[.int .i64 a0_0, .int .i64 a0_1, .int .i64 a0_2, .int .i64 a0_3, .int .i64 a0_4], .int .i64 a1, .int .i64 a2] w fun e w' => e = .returned (.tuple #[.bool r1, .int .i64 r2]) ∧ Below w.heap.size w w' := by
  have hu25 := Try.underlying25
  have HB := Aside0.mk (Below.refl w.heap.size w)
  have H : ((slot_Bit.f a1 a2).bind fun bt104 => (if bt104.2 = 0 then (some ((a0_4 == bt104.1), bt104.2)) else (some (false, bt104.2)))) = some (r1, r2) := h
  clear h
  replace H := Option.bind_eq_some_iff.mp H
  obtain ⟨⟨t104, t105⟩, A40, H⟩ := H
  replace H : (if t105 = 0 then (some ((a0_4 == t104), t105)) else (some (false, t105))) = some (r1, r2) := H
  have A4 := Aside0.mk A40
  clear A40
  by_cases c5 : t105 = 0
  · rw [if_pos c5] at H
    have c5b0 : (t105 == 0) = true := beq_iff_eq.mpr c5
    have c5b1 : (t105 != 0) = false := bne_eq_false_iff_eq.mpr c5
    clear c5
    simp only [Option.some.injEq, Prod.mk.injEq] at H
    obtain ⟨rfl, rfl⟩ := H
    go_enter Try.func10, Try.ntmps10
    go_wp2_with (first | ((with_reducible refine gate_dst (N := 3) rfl ?_); refine box_event ?hg (N := 3) ?hd (cs := #[.int .i64 a0_0, .int .i64 a0_1, .int .i64 a0_2, .int .i64 a0_3, .int .i64 a0_4]) (t := 25) ?hr ?_; (case hd => rfl); (case hg => rfl); (case hr => first | (go_simp; done) | (go_simp; rfl)); intro gb103 hg w6 hbox hb; have n0_ := Aside0.mk (below_step (by repeat (first | (with_reducible first | exact HB.out | apply below_alloc | apply pw_below_drewN | apply below_drew1) | exact HB.out)) hb); have n1_ := Aside0.mk (hbox); have n2_ := Aside0.mk ((by rw [hg]; exact (below_size (by repeat (first | (with_reducible first | exact HB.out | apply below_alloc | apply pw_below_drewN | apply below_drew1) | exact HB.out))) : w.heap.size ≤ gb103)); have n3_ := Aside0.mk ((by rw [hg]; exact (below_size (by repeat (first | (with_reducible first | exact HB.out | apply below_alloc | apply pw_below_drewN | apply below_drew1) | exact HB.out))) : w.heap.size ≤ gb103)); clear HB; have HB := n0_; have BK103 := n1_; have GW103 := n2_; have GE103 := n3_; clear n0_ n1_ n2_ n3_; clear hb hbox hg) | ((with_reducible refine gate_callee (f := 8) rfl ?_); refine goesL_ (some 13) rfl rfl Try.func8 (by kernel_rfl) rfl #[.int .i64 a1, .int .i64 a2] rfl (by (try simp only [List.map_toArray, List.map_cons, List.map_nil]); first | done | rfl | (simp only [List.length_drop, List.length_take]; rfl)) ?_; (with_reducible refine (slot_Bit.calls a1 a2 t104 t105 _ A4.out).mono ?_); rintro e w' ⟨rfl, ⟨nd, rfl⟩⟩; refine ⟨_, rfl, ?_⟩; have hcz7_0 : w6.cell? ⟨gb103, 0, none⟩ = some (.int .i64 a0_0) := (blk_cell BK103.out 0).trans rfl; have hcz7_1 : w6.cell? ⟨gb103, 1, none⟩ = some (.int .i64 a0_1) := (blk_cell BK103.out 1).trans rfl; have hcz7_2 : w6.cell? ⟨gb103, 2, none⟩ = some (.int .i64 a0_2) := (blk_cell BK103.out 2).trans rfl; have hcz7_3 : w6.cell? ⟨gb103, 3, none⟩ = some (.int .i64 a0_3) := (blk_cell BK103.out 3).trans rfl; have hcz7_4 : w6.cell? ⟨gb103, 4, none⟩ = some (.int .i64 a0_4) := (blk_cell BK103.out 4).trans rfl; have hfz7_0 := blk_frozen BK103.out 0; have hfz7_1 := blk_frozen BK103.out 1; have hfz7_2 := blk_frozen BK103.out 2; have hfz7_3 := blk_frozen BK103.out 3; have hfz7_4 := blk_frozen BK103.out 4))
    go_ret2
    exact ⟨by first | rfl | (simp [errW_none, errW_some] <;> rfl) | (simp [*, errW_none, errW_some] <;> rfl), by repeat (first | (with_reducible first | exact HB.out | apply below_alloc | apply pw_below_drewN | apply below_drew1 | refine below_set ?_ GE103.out) | exact HB.out)⟩
  · rw [if_neg c5] at H
    have c5b0 : (t105 == 0) = false := beq_eq_false_iff_ne.mpr c5
    have c5b1 : (t105 != 0) = true := bne_iff_ne.mpr c5
    simp only [Option.some.injEq, Prod.mk.injEq] at H
    obtain ⟨rfl, rfl⟩ := H
    go_enter Try.func10, Try.ntmps10
    go_wp2_with (first | ((with_reducible refine gate_dst (N := 3) rfl ?_); refine box_event ?hg (N := 3) ?hd (cs := #[.int .i64 a0_0, .int .i64 a0_1, .int .i64 a0_2, .int .i64 a0_3, .int .i64 a0_4]) (t := 25) ?hr ?_; (case hd => rfl); (case hg => rfl); (case hr => first | (go_simp; done) | (go_simp; rfl)); intro gb103 hg w8 hbox hb; have n0_ := Aside0.mk (below_step (by repeat (first | (with_reducible first | exact HB.out | apply below_alloc | apply pw_below_drewN | apply below_drew1) | exact HB.out)) hb); have n1_ := Aside0.mk (hbox); have n2_ := Aside0.mk ((by rw [hg]; exact (below_size (by repeat (first | (with_reducible first | exact HB.out | apply below_alloc | apply pw_below_drewN | apply below_drew1) | exact HB.out))) : w.heap.size ≤ gb103)); have n3_ := Aside0.mk ((by rw [hg]; exact (below_size (by repeat (first | (with_reducible first | exact HB.out | apply below_alloc | apply pw_below_drewN | apply below_drew1) | exact HB.out))) : w.heap.size ≤ gb103)); clear HB; have HB := n0_; have BK103 := n1_; have GW103 := n2_; have GE103 := n3_; clear n0_ n1_ n2_ n3_; clear hb hbox hg) | ((with_reducible refine gate_callee (f := 8) rfl ?_); refine goesL_ (some 13) rfl rfl Try.func8 (by kernel_rfl) rfl #[.int .i64 a1, .int .i64 a2] rfl (by (try simp only [List.map_toArray, List.map_cons, List.map_nil]); first | done | rfl | (simp only [List.length_drop, List.length_take]; rfl)) ?_; (with_reducible refine (slot_Bit.calls a1 a2 t104 t105 _ A4.out).mono ?_); rintro e w' ⟨rfl, ⟨nd, rfl⟩⟩; refine ⟨_, rfl, ?_⟩))
    go_ret2
    exact ⟨by first | rfl | (simp [errW_none, errW_some] <;> rfl) | (simp [*, errW_none, errW_some] <;> rfl), by repeat (first | (with_reducible first | exact HB.out | apply below_alloc | apply pw_below_drewN | apply below_drew1 | refine below_set ?_ GE103.out) | exact HB.out)⟩

/-! ### choruslaw0_Num: function 12 -/
def choruslaw0_Num.f (a0 : Int) : Option (Int) := some a0
set_option maxHeartbeats 8000000 in
set_option maxRecDepth 100000 in
theorem choruslaw0_Num.calls (a0 : Int) (r : Int) (w : World) (h : choruslaw0_Num.f a0 = some r) :
    Calls Try.prog 12 #[.int .i64 a0] w fun e w' => e = .returned (.int .i64 r) ∧ Drawn0 w w' := by
  have H : (some a0) = some r := h
  clear h
  obtain rfl := Option.some.inj H
  go_enter Try.func12, Try.ntmps12
  go_wp2
  go_ret
  exact ⟨by first | rfl | (simp; done) | (simp [*]; done) | (congr 1 <;> (first | rfl | (unfold wrap64; omega))), by repeat (first | exact Drawn0.refl _ | apply Drawn0.step)⟩

/-! ### choruslaw9_awake: function 13 -/
def choruslaw9_awake.f  : Option (Bool) := (slot_Bit.f 3 4).bind fun bt106 => ((slot_Bit.f 4 4).bind fun bt108 => ((slot_Alive.f 0 0 0 0 1 9 4).bind fun bt110 => ((slot_Bit.f 3 3).bind fun bt112 => ((slot_Alive.f 0 0 0 0 0 (-1) 4).bind fun bt114 => (if bt106.1 = 1 then ((choruslaw0_Num.f bt106.2).bind fun t116 => (if t116 = 0 then (if bt108.1 = 0 then ((choruslaw0_Num.f bt108.2).bind fun t117 => (if t117 = 0 then (if bt110.1 = true then ((choruslaw0_Num.f bt110.2).bind fun t118 => (if t118 = 0 then ((choruslaw0_Num.f bt112.2).bind fun t119 => (if t119 = 900 then ((choruslaw0_Num.f bt114.2).bind fun t120 => (if t120 = 900 then (some true) else (some false))) else (some false))) else (some false))) else (some false)) else (some false))) else (some false)) else (some false))) else (some false))))))
set_option maxHeartbeats 8000000 in
set_option maxRecDepth 100000 in
theorem choruslaw9_awake.calls  (r : Bool) (w : World) (h : choruslaw9_awake.f  = some r) (hr_ : r = true := by first | rfl | assumption) :
    Calls Try.prog 13 #[] w fun e w' => e = .returned (.bool r) ∧ Below w.heap.size w w' := by
  subst hr_
  have hu25 := Try.underlying25
  have HB := Aside0.mk (Below.refl w.heap.size w)
  have H : ((slot_Bit.f 3 4).bind fun bt106 => ((slot_Bit.f 4 4).bind fun bt108 => ((slot_Alive.f 0 0 0 0 1 9 4).bind fun bt110 => ((slot_Bit.f 3 3).bind fun bt112 => ((slot_Alive.f 0 0 0 0 0 (-1) 4).bind fun bt114 => (if bt106.1 = 1 then ((choruslaw0_Num.f bt106.2).bind fun t116 => (if t116 = 0 then (if bt108.1 = 0 then ((choruslaw0_Num.f bt108.2).bind fun t117 => (if t117 = 0 then (if bt110.1 = true then ((choruslaw0_Num.f bt110.2).bind fun t118 => (if t118 = 0 then ((choruslaw0_Num.f bt112.2).bind fun t119 => (if t119 = 900 then ((choruslaw0_Num.f bt114.2).bind fun t120 => (if t120 = 900 then (some true) else (some false))) else (some false))) else (some false))) else (some false)) else (some false))) else (some false)) else (some false))) else (some false))))))) = some true := h
  clear h
  replace H := Option.bind_eq_some_iff.mp H
  obtain ⟨⟨t106, t107⟩, A10, H⟩ := H
  replace H : ((slot_Bit.f 4 4).bind fun bt108 => ((slot_Alive.f 0 0 0 0 1 9 4).bind fun bt110 => ((slot_Bit.f 3 3).bind fun bt112 => ((slot_Alive.f 0 0 0 0 0 (-1) 4).bind fun bt114 => (if t106 = 1 then ((choruslaw0_Num.f t107).bind fun t116 => (if t116 = 0 then (if bt108.1 = 0 then ((choruslaw0_Num.f bt108.2).bind fun t117 => (if t117 = 0 then (if bt110.1 = true then ((choruslaw0_Num.f bt110.2).bind fun t118 => (if t118 = 0 then ((choruslaw0_Num.f bt112.2).bind fun t119 => (if t119 = 900 then ((choruslaw0_Num.f bt114.2).bind fun t120 => (if t120 = 900 then (some true) else (some false))) else (some false))) else (some false))) else (some false)) else (some false))) else (some false)) else (some false))) else (some false)))))) = some true := H
  have A1 := Aside0.mk A10
  clear A10
  replace H := Option.bind_eq_some_iff.mp H
  obtain ⟨⟨t108, t109⟩, A20, H⟩ := H
  replace H : ((slot_Alive.f 0 0 0 0 1 9 4).bind fun bt110 => ((slot_Bit.f 3 3).bind fun bt112 => ((slot_Alive.f 0 0 0 0 0 (-1) 4).bind fun bt114 => (if t106 = 1 then ((choruslaw0_Num.f t107).bind fun t116 => (if t116 = 0 then (if t108 = 0 then ((choruslaw0_Num.f t109).bind fun t117 => (if t117 = 0 then (if bt110.1 = true then ((choruslaw0_Num.f bt110.2).bind fun t118 => (if t118 = 0 then ((choruslaw0_Num.f bt112.2).bind fun t119 => (if t119 = 900 then ((choruslaw0_Num.f bt114.2).bind fun t120 => (if t120 = 900 then (some true) else (some false))) else (some false))) else (some false))) else (some false)) else (some false))) else (some false)) else (some false))) else (some false))))) = some true := H
  have A2 := Aside0.mk A20
  clear A20
  replace H := Option.bind_eq_some_iff.mp H
  obtain ⟨⟨t110, t111⟩, A30, H⟩ := H
  replace H : ((slot_Bit.f 3 3).bind fun bt112 => ((slot_Alive.f 0 0 0 0 0 (-1) 4).bind fun bt114 => (if t106 = 1 then ((choruslaw0_Num.f t107).bind fun t116 => (if t116 = 0 then (if t108 = 0 then ((choruslaw0_Num.f t109).bind fun t117 => (if t117 = 0 then (if t110 = true then ((choruslaw0_Num.f t111).bind fun t118 => (if t118 = 0 then ((choruslaw0_Num.f bt112.2).bind fun t119 => (if t119 = 900 then ((choruslaw0_Num.f bt114.2).bind fun t120 => (if t120 = 900 then (some true) else (some false))) else (some false))) else (some false))) else (some false)) else (some false))) else (some false)) else (some false))) else (some false)))) = some true := H
  have A3 := Aside0.mk A30
  clear A30
  replace H := Option.bind_eq_some_iff.mp H
  obtain ⟨⟨t112, t113⟩, A40, H⟩ := H
  replace H : ((slot_Alive.f 0 0 0 0 0 (-1) 4).bind fun bt114 => (if t106 = 1 then ((choruslaw0_Num.f t107).bind fun t116 => (if t116 = 0 then (if t108 = 0 then ((choruslaw0_Num.f t109).bind fun t117 => (if t117 = 0 then (if t110 = true then ((choruslaw0_Num.f t111).bind fun t118 => (if t118 = 0 then ((choruslaw0_Num.f t113).bind fun t119 => (if t119 = 900 then ((choruslaw0_Num.f bt114.2).bind fun t120 => (if t120 = 900 then (some true) else (some false))) else (some false))) else (some false))) else (some false)) else (some false))) else (some false)) else (some false))) else (some false))) = some true := H
  have A4 := Aside0.mk A40
  clear A40
  replace H := Option.bind_eq_some_iff.mp H
  obtain ⟨⟨t114, t115⟩, A50, H⟩ := H
  replace H : (if t106 = 1 then ((choruslaw0_Num.f t107).bind fun t116 => (if t116 = 0 then (if t108 = 0 then ((choruslaw0_Num.f t109).bind fun t117 => (if t117 = 0 then (if t110 = true then ((choruslaw0_Num.f t111).bind fun t118 => (if t118 = 0 then ((choruslaw0_Num.f t113).bind fun t119 => (if t119 = 900 then ((choruslaw0_Num.f t115).bind fun t120 => (if t120 = 900 then (some true) else (some false))) else (some false))) else (some false))) else (some false)) else (some false))) else (some false)) else (some false))) else (some false)) = some true := H
  have A5 := Aside0.mk A50
  clear A50
  by_cases c6 : t106 = 1
  · rw [if_pos c6] at H
    have c6b0 : (t106 == 1) = true := beq_iff_eq.mpr c6
    have c6b1 : (t106 != 1) = false := bne_eq_false_iff_eq.mpr c6
    clear c6
    replace H := Option.bind_eq_some_iff.mp H
    obtain ⟨t116, A70, H⟩ := H
    replace H : (if t116 = 0 then (if t108 = 0 then ((choruslaw0_Num.f t109).bind fun t117 => (if t117 = 0 then (if t110 = true then ((choruslaw0_Num.f t111).bind fun t118 => (if t118 = 0 then ((choruslaw0_Num.f t113).bind fun t119 => (if t119 = 900 then ((choruslaw0_Num.f t115).bind fun t120 => (if t120 = 900 then (some true) else (some false))) else (some false))) else (some false))) else (some false)) else (some false))) else (some false)) else (some false)) = some true := H
    have A7 := Aside0.mk A70
    clear A70
    by_cases c8 : t116 = 0
    · rw [if_pos c8] at H
      have c8b0 : (t116 == 0) = true := beq_iff_eq.mpr c8
      have c8b1 : (t116 != 0) = false := bne_eq_false_iff_eq.mpr c8
      clear c8
      by_cases c9 : t108 = 0
      · rw [if_pos c9] at H
        have c9b0 : (t108 == 0) = true := beq_iff_eq.mpr c9
        have c9b1 : (t108 != 0) = false := bne_eq_false_iff_eq.mpr c9
        clear c9
        replace H := Option.bind_eq_some_iff.mp H
        obtain ⟨t117, A100, H⟩ := H
        replace H : (if t117 = 0 then (if t110 = true then ((choruslaw0_Num.f t111).bind fun t118 => (if t118 = 0 then ((choruslaw0_Num.f t113).bind fun t119 => (if t119 = 900 then ((choruslaw0_Num.f t115).bind fun t120 => (if t120 = 900 then (some true) else (some false))) else (some false))) else (some false))) else (some false)) else (some false)) = some true := H
        have A10 := Aside0.mk A100
        clear A100
        by_cases c11 : t117 = 0
        · rw [if_pos c11] at H
          have c11b0 : (t117 == 0) = true := beq_iff_eq.mpr c11
          have c11b1 : (t117 != 0) = false := bne_eq_false_iff_eq.mpr c11
          clear c11
          by_cases c12 : t110 = true
          · subst c12
            have H1 : ((choruslaw0_Num.f t111).bind fun t118 => (if t118 = 0 then ((choruslaw0_Num.f t113).bind fun t119 => (if t119 = 900 then ((choruslaw0_Num.f t115).bind fun t120 => (if t120 = 900 then (some true) else (some false))) else (some false))) else (some false))) = some true := by first | (rw [if_pos rfl] at H; exact H) | rfl
            clear H
            have H := H1
            clear H1
            replace H := Option.bind_eq_some_iff.mp H
            obtain ⟨t118, A130, H⟩ := H
            replace H : (if t118 = 0 then ((choruslaw0_Num.f t113).bind fun t119 => (if t119 = 900 then ((choruslaw0_Num.f t115).bind fun t120 => (if t120 = 900 then (some true) else (some false))) else (some false))) else (some false)) = some true := H
            have A13 := Aside0.mk A130
            clear A130
            by_cases c14 : t118 = 0
            · rw [if_pos c14] at H
              have c14b0 : (t118 == 0) = true := beq_iff_eq.mpr c14
              have c14b1 : (t118 != 0) = false := bne_eq_false_iff_eq.mpr c14
              clear c14
              replace H := Option.bind_eq_some_iff.mp H
              obtain ⟨t119, A150, H⟩ := H
              replace H : (if t119 = 900 then ((choruslaw0_Num.f t115).bind fun t120 => (if t120 = 900 then (some true) else (some false))) else (some false)) = some true := H
              have A15 := Aside0.mk A150
              clear A150
              by_cases c16 : t119 = 900
              · rw [if_pos c16] at H
                have c16b0 : (t119 == 900) = true := beq_iff_eq.mpr c16
                have c16b1 : (t119 != 900) = false := bne_eq_false_iff_eq.mpr c16
                clear c16
                replace H := Option.bind_eq_some_iff.mp H
                obtain ⟨t120, A170, H⟩ := H
                replace H : (if t120 = 900 then (some true) else (some false)) = some true := H
                have A17 := Aside0.mk A170
                clear A170
                by_cases c18 : t120 = 900
                · rw [if_pos c18] at H
                  have c18b0 : (t120 == 900) = true := beq_iff_eq.mpr c18
                  have c18b1 : (t120 != 900) = false := bne_eq_false_iff_eq.mpr c18
                  clear c18
                  clear H
                  go_enter Try.func13, Try.ntmps13
                  (try simp only [List.append_eq, List.cons_append, List.nil_append])
                  go_wp2_with (first | ((with_reducible refine gate_callee (f := 8) rfl ?_); refine goesL_ (some 12) rfl rfl Try.func8 (by kernel_rfl) rfl #[.int .i64 3, .int .i64 4] rfl (by (try simp only [List.map_toArray, List.map_cons, List.map_nil]); first | done | rfl | (simp only [List.length_drop, List.length_take]; rfl)) ?_; (with_reducible refine (slot_Bit.calls 3 4 t106 t107 _ A1.out).mono ?_); rintro e w' ⟨rfl, ⟨nd, rfl⟩⟩; refine ⟨_, rfl, ?_⟩) | ((with_reducible refine gate_callee (f := 8) rfl ?_); refine goesL_ (some 16) rfl rfl Try.func8 (by kernel_rfl) rfl #[.int .i64 4, .int .i64 4] rfl (by (try simp only [List.map_toArray, List.map_cons, List.map_nil]); first | done | rfl | (simp only [List.length_drop, List.length_take]; rfl)) ?_; (with_reducible refine (slot_Bit.calls 4 4 t108 t109 _ A2.out).mono ?_); rintro e w' ⟨rfl, ⟨nd, rfl⟩⟩; refine ⟨_, rfl, ?_⟩) | ((with_reducible refine gate_callee (f := 10) rfl ?_); refine goesL_ (some 21) rfl rfl Try.func10 (by kernel_rfl) rfl #[.agg #[.int .i64 0, .int .i64 0, .int .i64 0, .int .i64 0, .int .i64 1], .int .i64 9, .int .i64 4] rfl (by (try simp only [List.map_toArray, List.map_cons, List.map_nil]); first | done | rfl | (simp only [List.length_drop, List.length_take]; rfl)) ?_; (with_reducible refine (slot_Alive.calls 0 0 0 0 1 9 4 true t111 _ A3.out).mono ?_); rintro e w19 ⟨rfl, hb⟩; refine ⟨_, rfl, ?_⟩; have n0_ := Aside0.mk (below_step (by repeat (first | (with_reducible first | exact HB.out | apply below_alloc | apply pw_below_drewN | apply below_drew1) | exact HB.out)) hb); clear HB; have HB := n0_; clear n0_; (try clear hb); (try clear hb2); (try clear hk); (try clear hi)) | ((with_reducible refine gate_callee (f := 8) rfl ?_); refine goesL_ (some 25) rfl rfl Try.func8 (by kernel_rfl) rfl #[.int .i64 3, .int .i64 3] rfl (by (try simp only [List.map_toArray, List.map_cons, List.map_nil]); first | done | rfl | (simp only [List.length_drop, List.length_take]; rfl)) ?_; (with_reducible refine (slot_Bit.calls 3 3 t112 t113 _ A4.out).mono ?_); rintro e w' ⟨rfl, ⟨nd, rfl⟩⟩; refine ⟨_, rfl, ?_⟩) | ((with_reducible refine gate_callee (f := 10) rfl ?_); refine goesL_ (some 30) rfl rfl Try.func10 (by kernel_rfl) rfl #[.agg #[.int .i64 0, .int .i64 0, .int .i64 0, .int .i64 0, .int .i64 0], .int .i64 (-1), .int .i64 4] rfl (by (try simp only [List.map_toArray, List.map_cons, List.map_nil]); first | done | rfl | (simp only [List.length_drop, List.length_take]; rfl)) ?_; (with_reducible refine (slot_Alive.calls 0 0 0 0 0 (-1) 4 t114 t115 _ A5.out).mono ?_); rintro e w20 ⟨rfl, hb⟩; refine ⟨_, rfl, ?_⟩; have n0_ := Aside0.mk (below_step (by repeat (first | (with_reducible first | exact HB.out | apply below_alloc | apply pw_below_drewN | apply below_drew1) | exact HB.out)) hb); clear HB; have HB := n0_; clear n0_; (try clear hb); (try clear hb2); (try clear hk); (try clear hi)) | (go_at_call 12; (with_reducible refine (choruslaw0_Num.calls t107 t116 _ A7.out).mono ?_); rintro e w' ⟨rfl, ⟨nd, rfl⟩⟩) | (go_at_call 12; (with_reducible refine (choruslaw0_Num.calls t109 t117 _ A10.out).mono ?_); rintro e w' ⟨rfl, ⟨nd, rfl⟩⟩) | (go_at_call 12; (with_reducible refine (choruslaw0_Num.calls t111 t118 _ A13.out).mono ?_); rintro e w' ⟨rfl, ⟨nd, rfl⟩⟩) | (go_at_call 12; (with_reducible refine (choruslaw0_Num.calls t113 t119 _ A15.out).mono ?_); rintro e w' ⟨rfl, ⟨nd, rfl⟩⟩) | (go_at_call 12; (with_reducible refine (choruslaw0_Num.calls t115 t120 _ A17.out).mono ?_); rintro e w' ⟨rfl, ⟨nd, rfl⟩⟩))
                  go_ret
                  exact ⟨by first | rfl | (simp [errW_none, errW_some] <;> rfl) | (simp [*, errW_none, errW_some] <;> rfl), by repeat (first | (with_reducible first | exact HB.out | apply below_alloc | apply pw_below_drewN | apply below_drew1) | exact HB.out)⟩
                · rw [if_neg c18] at H
                  have c18b0 : (t120 == 900) = false := beq_eq_false_iff_ne.mpr c18
                  have c18b1 : (t120 != 900) = true := bne_iff_ne.mpr c18
                  exact absurd (Option.some.inj H) (by simp)
              · rw [if_neg c16] at H
                have c16b0 : (t119 == 900) = false := beq_eq_false_iff_ne.mpr c16
                have c16b1 : (t119 != 900) = true := bne_iff_ne.mpr c16
                exact absurd (Option.some.inj H) (by simp)
            · rw [if_neg c14] at H
              have c14b0 : (t118 == 0) = false := beq_eq_false_iff_ne.mpr c14
              have c14b1 : (t118 != 0) = true := bne_iff_ne.mpr c14
              exact absurd (Option.some.inj H) (by simp)
          · replace c12 := Bool.eq_false_iff.mpr c12
            subst c12
            have H1 : (some false) = some true := by first | (rw [if_neg (show ¬ (false = true) by decide)] at H; exact H) | rfl
            clear H
            have H := H1
            clear H1
            exact absurd (Option.some.inj H) (by simp)
        · rw [if_neg c11] at H
          have c11b0 : (t117 == 0) = false := beq_eq_false_iff_ne.mpr c11
          have c11b1 : (t117 != 0) = true := bne_iff_ne.mpr c11
          exact absurd (Option.some.inj H) (by simp)
      · rw [if_neg c9] at H
        have c9b0 : (t108 == 0) = false := beq_eq_false_iff_ne.mpr c9
        have c9b1 : (t108 != 0) = true := bne_iff_ne.mpr c9
        exact absurd (Option.some.inj H) (by simp)
    · rw [if_neg c8] at H
      have c8b0 : (t116 == 0) = false := beq_eq_false_iff_ne.mpr c8
      have c8b1 : (t116 != 0) = true := bne_iff_ne.mpr c8
      exact absurd (Option.some.inj H) (by simp)
  · rw [if_neg c6] at H
    have c6b0 : (t106 == 1) = false := beq_eq_false_iff_ne.mpr c6
    have c6b1 : (t106 != 1) = true := bne_iff_ne.mpr c6
    exact absurd (Option.some.inj H) (by simp)

/-! ### choruslaw9_SlotForms: function 5 -/
def choruslaw9_SlotForms.f (a0 : Int) (a1 : Int) : Option (Bool) := (choruslaw9_awake.f).bind fun t121 => (if t121 = true then ((some (([wrap64 (-(wrap64 (1 + (Go.bits .and .i64 a1 1023)))), 0, 1, 3, 5, 6, 7, 12, 15, 17, 32, wrap64 (16 + (wrap64 (1 + (Go.bits .and .i64 a1 1023))))] : List Int) : List Int)).bind fun y122 => (if 0 ≤ (wrap64 (Int.tmod (IntKind.u64.wrap (a0)) 12)) then (if (wrap64 (Int.tmod (IntKind.u64.wrap (a0)) 12)) < (y122.length : Int) then ((slot_Bit.f 0 (rd y122 (wrap64 (Int.tmod (IntKind.u64.wrap (a0)) 12)))).bind fun bt126 => ((slot_Bit.f (wrap64 (-(wrap64 (1 + (Go.bits .and .i64 a1 1023))))) 4).bind fun bt128 => ((slot_Bit.f (wrap64 (1048576 + (wrap64 (1 + (Go.bits .and .i64 a1 1023))))) 4).bind fun bt130 => ((slot_Alive.f 0 0 0 0 1 0 (rd y122 (wrap64 (Int.tmod (IntKind.u64.wrap (a0)) 12)))).bind fun bt132 => ((slot_Alive.f 0 0 0 0 1 (wrap64 (-(wrap64 (1 + (Go.bits .and .i64 a1 1023))))) 4).bind fun bt134 => ((choruslaw0_Num.f bt126.2).bind fun t136 => (if t136 = 900 then ((choruslaw0_Num.f bt128.2).bind fun t137 => (if t137 = 900 then ((choruslaw0_Num.f bt130.2).bind fun t138 => (if t138 = 900 then (if bt132.1 = true then (some false) else ((choruslaw0_Num.f bt132.2).bind fun t139 => (if t139 = 900 then (if bt134.1 = true then (some false) else ((choruslaw0_Num.f bt134.2).bind fun t140 => (if t140 = 900 then (some true) else (some false)))) else (some false)))) else (some false))) else (some false))) else (some false)))))))) else (none)) else (none))) else (some false))
set_option maxHeartbeats 8000000 in
set_option maxRecDepth 100000 in
theorem choruslaw9_SlotForms.calls (a0 : Int) (a1 : Int) (r : Bool) (w : World) (h : choruslaw9_SlotForms.f a0 a1 = some r) (hr_ : r = true := by first | rfl | assumption) :
    Calls Try.prog 5 #[.int .i64 a0, .int .i64 a1] w fun e w' => e = .returned (.bool r) ∧ Below w.heap.size w w' := by
  subst hr_
  have hu25 := Try.underlying25
  have HB := Aside0.mk (Below.refl w.heap.size w)
  have H : ((choruslaw9_awake.f).bind fun t121 => (if t121 = true then ((some (([wrap64 (-(wrap64 (1 + (Go.bits .and .i64 a1 1023)))), 0, 1, 3, 5, 6, 7, 12, 15, 17, 32, wrap64 (16 + (wrap64 (1 + (Go.bits .and .i64 a1 1023))))] : List Int) : List Int)).bind fun y122 => (if 0 ≤ (wrap64 (Int.tmod (IntKind.u64.wrap (a0)) 12)) then (if (wrap64 (Int.tmod (IntKind.u64.wrap (a0)) 12)) < (y122.length : Int) then ((slot_Bit.f 0 (rd y122 (wrap64 (Int.tmod (IntKind.u64.wrap (a0)) 12)))).bind fun bt126 => ((slot_Bit.f (wrap64 (-(wrap64 (1 + (Go.bits .and .i64 a1 1023))))) 4).bind fun bt128 => ((slot_Bit.f (wrap64 (1048576 + (wrap64 (1 + (Go.bits .and .i64 a1 1023))))) 4).bind fun bt130 => ((slot_Alive.f 0 0 0 0 1 0 (rd y122 (wrap64 (Int.tmod (IntKind.u64.wrap (a0)) 12)))).bind fun bt132 => ((slot_Alive.f 0 0 0 0 1 (wrap64 (-(wrap64 (1 + (Go.bits .and .i64 a1 1023))))) 4).bind fun bt134 => ((choruslaw0_Num.f bt126.2).bind fun t136 => (if t136 = 900 then ((choruslaw0_Num.f bt128.2).bind fun t137 => (if t137 = 900 then ((choruslaw0_Num.f bt130.2).bind fun t138 => (if t138 = 900 then (if bt132.1 = true then (some false) else ((choruslaw0_Num.f bt132.2).bind fun t139 => (if t139 = 900 then (if bt134.1 = true then (some false) else ((choruslaw0_Num.f bt134.2).bind fun t140 => (if t140 = 900 then (some true) else (some false)))) else (some false)))) else (some false))) else (some false))) else (some false)))))))) else (none)) else (none))) else (some false))) = some true := h
  clear h
  replace H := Option.bind_eq_some_iff.mp H
  obtain ⟨t121, A30, H⟩ := H
  replace H : (if t121 = true then ((some (([wrap64 (-(wrap64 (1 + (Go.bits .and .i64 a1 1023)))), 0, 1, 3, 5, 6, 7, 12, 15, 17, 32, wrap64 (16 + (wrap64 (1 + (Go.bits .and .i64 a1 1023))))] : List Int) : List Int)).bind fun y122 => (if 0 ≤ (wrap64 (Int.tmod (IntKind.u64.wrap (a0)) 12)) then (if (wrap64 (Int.tmod (IntKind.u64.wrap (a0)) 12)) < (y122.length : Int) then ((slot_Bit.f 0 (rd y122 (wrap64 (Int.tmod (IntKind.u64.wrap (a0)) 12)))).bind fun bt126 => ((slot_Bit.f (wrap64 (-(wrap64 (1 + (Go.bits .and .i64 a1 1023))))) 4).bind fun bt128 => ((slot_Bit.f (wrap64 (1048576 + (wrap64 (1 + (Go.bits .and .i64 a1 1023))))) 4).bind fun bt130 => ((slot_Alive.f 0 0 0 0 1 0 (rd y122 (wrap64 (Int.tmod (IntKind.u64.wrap (a0)) 12)))).bind fun bt132 => ((slot_Alive.f 0 0 0 0 1 (wrap64 (-(wrap64 (1 + (Go.bits .and .i64 a1 1023))))) 4).bind fun bt134 => ((choruslaw0_Num.f bt126.2).bind fun t136 => (if t136 = 900 then ((choruslaw0_Num.f bt128.2).bind fun t137 => (if t137 = 900 then ((choruslaw0_Num.f bt130.2).bind fun t138 => (if t138 = 900 then (if bt132.1 = true then (some false) else ((choruslaw0_Num.f bt132.2).bind fun t139 => (if t139 = 900 then (if bt134.1 = true then (some false) else ((choruslaw0_Num.f bt134.2).bind fun t140 => (if t140 = 900 then (some true) else (some false)))) else (some false)))) else (some false))) else (some false))) else (some false)))))))) else (none)) else (none))) else (some false)) = some true := H
  have A3 := Aside0.mk A30
  clear A30
  by_cases c4 : t121 = true
  · subst c4
    have H1 : ((some (([wrap64 (-(wrap64 (1 + (Go.bits .and .i64 a1 1023)))), 0, 1, 3, 5, 6, 7, 12, 15, 17, 32, wrap64 (16 + (wrap64 (1 + (Go.bits .and .i64 a1 1023))))] : List Int) : List Int)).bind fun y122 => (if 0 ≤ (wrap64 (Int.tmod (IntKind.u64.wrap (a0)) 12)) then (if (wrap64 (Int.tmod (IntKind.u64.wrap (a0)) 12)) < (y122.length : Int) then ((slot_Bit.f 0 (rd y122 (wrap64 (Int.tmod (IntKind.u64.wrap (a0)) 12)))).bind fun bt126 => ((slot_Bit.f (wrap64 (-(wrap64 (1 + (Go.bits .and .i64 a1 1023))))) 4).bind fun bt128 => ((slot_Bit.f (wrap64 (1048576 + (wrap64 (1 + (Go.bits .and .i64 a1 1023))))) 4).bind fun bt130 => ((slot_Alive.f 0 0 0 0 1 0 (rd y122 (wrap64 (Int.tmod (IntKind.u64.wrap (a0)) 12)))).bind fun bt132 => ((slot_Alive.f 0 0 0 0 1 (wrap64 (-(wrap64 (1 + (Go.bits .and .i64 a1 1023))))) 4).bind fun bt134 => ((choruslaw0_Num.f bt126.2).bind fun t136 => (if t136 = 900 then ((choruslaw0_Num.f bt128.2).bind fun t137 => (if t137 = 900 then ((choruslaw0_Num.f bt130.2).bind fun t138 => (if t138 = 900 then (if bt132.1 = true then (some false) else ((choruslaw0_Num.f bt132.2).bind fun t139 => (if t139 = 900 then (if bt134.1 = true then (some false) else ((choruslaw0_Num.f bt134.2).bind fun t140 => (if t140 = 900 then (some true) else (some false)))) else (some false)))) else (some false))) else (some false))) else (some false)))))))) else (none)) else (none))) = some true := by first | (rw [if_pos rfl] at H; exact H) | rfl
    clear H
    have H := H1
    clear H1
    obtain ⟨y122, hy122⟩ : ∃ y_ : List Int, y_ = (([wrap64 (-(wrap64 (1 + (Go.bits .and .i64 a1 1023)))), 0, 1, 3, 5, 6, 7, 12, 15, 17, 32, wrap64 (16 + (wrap64 (1 + (Go.bits .and .i64 a1 1023))))] : List Int)) := ⟨_, rfl⟩
    replace H : (if 0 ≤ (wrap64 (Int.tmod (IntKind.u64.wrap (a0)) 12)) then (if (wrap64 (Int.tmod (IntKind.u64.wrap (a0)) 12)) < (y122.length : Int) then ((slot_Bit.f 0 (rd y122 (wrap64 (Int.tmod (IntKind.u64.wrap (a0)) 12)))).bind fun bt126 => ((slot_Bit.f (wrap64 (-(wrap64 (1 + (Go.bits .and .i64 a1 1023))))) 4).bind fun bt128 => ((slot_Bit.f (wrap64 (1048576 + (wrap64 (1 + (Go.bits .and .i64 a1 1023))))) 4).bind fun bt130 => ((slot_Alive.f 0 0 0 0 1 0 (rd y122 (wrap64 (Int.tmod (IntKind.u64.wrap (a0)) 12)))).bind fun bt132 => ((slot_Alive.f 0 0 0 0 1 (wrap64 (-(wrap64 (1 + (Go.bits .and .i64 a1 1023))))) 4).bind fun bt134 => ((choruslaw0_Num.f bt126.2).bind fun t136 => (if t136 = 900 then ((choruslaw0_Num.f bt128.2).bind fun t137 => (if t137 = 900 then ((choruslaw0_Num.f bt130.2).bind fun t138 => (if t138 = 900 then (if bt132.1 = true then (some false) else ((choruslaw0_Num.f bt132.2).bind fun t139 => (if t139 = 900 then (if bt134.1 = true then (some false) else ((choruslaw0_Num.f bt134.2).bind fun t140 => (if t140 = 900 then (some true) else (some false)))) else (some false)))) else (some false))) else (some false))) else (some false)))))))) else (none)) else (none)) = some true := by first | (rw [hy122]; with_reducible exact H) | (have H2_ := (Option.bind_some _ _).symm.trans H; rw [hy122]; with_reducible exact H2_) | (have H2_ := (Option.bind_some _ _).symm.trans H; with_reducible exact H2_) | with_reducible exact H | (rw [hy122]; exact H) | exact H
    have Ny122 := Aside0.mk hy122
    clear hy122
    obtain ⟨ji5, hji5⟩ : ∃ j_ : Int, (wrap64 (Int.tmod (IntKind.u64.wrap (a0)) 12)) = j_ := ⟨_, rfl⟩
    replace H : (if 0 ≤ (ji5) then (if (ji5) < (y122.length : Int) then ((slot_Bit.f 0 (rd y122 (ji5))).bind fun bt126 => ((slot_Bit.f (wrap64 (-(wrap64 (1 + (Go.bits .and .i64 a1 1023))))) 4).bind fun bt128 => ((slot_Bit.f (wrap64 (1048576 + (wrap64 (1 + (Go.bits .and .i64 a1 1023))))) 4).bind fun bt130 => ((slot_Alive.f 0 0 0 0 1 0 (rd y122 (ji5))).bind fun bt132 => ((slot_Alive.f 0 0 0 0 1 (wrap64 (-(wrap64 (1 + (Go.bits .and .i64 a1 1023))))) 4).bind fun bt134 => ((choruslaw0_Num.f bt126.2).bind fun t136 => (if t136 = 900 then ((choruslaw0_Num.f bt128.2).bind fun t137 => (if t137 = 900 then ((choruslaw0_Num.f bt130.2).bind fun t138 => (if t138 = 900 then (if bt132.1 = true then (some false) else ((choruslaw0_Num.f bt132.2).bind fun t139 => (if t139 = 900 then (if bt134.1 = true then (some false) else ((choruslaw0_Num.f bt134.2).bind fun t140 => (if t140 = 900 then (some true) else (some false)))) else (some false)))) else (some false))) else (some false))) else (some false)))))))) else (none)) else (none)) = some true := by first | (rw [hji5] at H; exact H) | (simp only [hji5] at H ⊢; exact H)
    (try rw [hji5] at A3)
    have hji5w : (IntKind.i64.wrap (Int.tmod (IntKind.u64.wrap (a0)) 12)) = ji5 := (i64_w _).trans hji5
    by_cases c6 : 0 ≤ (ji5)
    · rw [if_pos c6] at H
      have c6b0 : decide (0 ≤ (ji5)) = true := decide_eq_true c6
      clear c6
      by_cases c7 : (ji5) < (y122.length : Int)
      · rw [if_pos c7] at H
        have c7b0 : decide ((ji5) < (y122.length : Int)) = true := decide_eq_true c7
        clear c7
        replace H := Option.bind_eq_some_iff.mp H
        obtain ⟨⟨t126, t127⟩, A80, H⟩ := H
        replace H : ((slot_Bit.f (wrap64 (-(wrap64 (1 + (Go.bits .and .i64 a1 1023))))) 4).bind fun bt128 => ((slot_Bit.f (wrap64 (1048576 + (wrap64 (1 + (Go.bits .and .i64 a1 1023))))) 4).bind fun bt130 => ((slot_Alive.f 0 0 0 0 1 0 (rd y122 (ji5))).bind fun bt132 => ((slot_Alive.f 0 0 0 0 1 (wrap64 (-(wrap64 (1 + (Go.bits .and .i64 a1 1023))))) 4).bind fun bt134 => ((choruslaw0_Num.f t127).bind fun t136 => (if t136 = 900 then ((choruslaw0_Num.f bt128.2).bind fun t137 => (if t137 = 900 then ((choruslaw0_Num.f bt130.2).bind fun t138 => (if t138 = 900 then (if bt132.1 = true then (some false) else ((choruslaw0_Num.f bt132.2).bind fun t139 => (if t139 = 900 then (if bt134.1 = true then (some false) else ((choruslaw0_Num.f bt134.2).bind fun t140 => (if t140 = 900 then (some true) else (some false)))) else (some false)))) else (some false))) else (some false))) else (some false))))))) = some true := H
        have A8 := Aside0.mk A80
        clear A80
        replace H := Option.bind_eq_some_iff.mp H
        obtain ⟨⟨t128, t129⟩, A90, H⟩ := H
        replace H : ((slot_Bit.f (wrap64 (1048576 + (wrap64 (1 + (Go.bits .and .i64 a1 1023))))) 4).bind fun bt130 => ((slot_Alive.f 0 0 0 0 1 0 (rd y122 (ji5))).bind fun bt132 => ((slot_Alive.f 0 0 0 0 1 (wrap64 (-(wrap64 (1 + (Go.bits .and .i64 a1 1023))))) 4).bind fun bt134 => ((choruslaw0_Num.f t127).bind fun t136 => (if t136 = 900 then ((choruslaw0_Num.f t129).bind fun t137 => (if t137 = 900 then ((choruslaw0_Num.f bt130.2).bind fun t138 => (if t138 = 900 then (if bt132.1 = true then (some false) else ((choruslaw0_Num.f bt132.2).bind fun t139 => (if t139 = 900 then (if bt134.1 = true then (some false) else ((choruslaw0_Num.f bt134.2).bind fun t140 => (if t140 = 900 then (some true) else (some false)))) else (some false)))) else (some false))) else (some false))) else (some false)))))) = some true := H
        have A9 := Aside0.mk A90
        clear A90
        replace H := Option.bind_eq_some_iff.mp H
        obtain ⟨⟨t130, t131⟩, A100, H⟩ := H
        replace H : ((slot_Alive.f 0 0 0 0 1 0 (rd y122 (ji5))).bind fun bt132 => ((slot_Alive.f 0 0 0 0 1 (wrap64 (-(wrap64 (1 + (Go.bits .and .i64 a1 1023))))) 4).bind fun bt134 => ((choruslaw0_Num.f t127).bind fun t136 => (if t136 = 900 then ((choruslaw0_Num.f t129).bind fun t137 => (if t137 = 900 then ((choruslaw0_Num.f t131).bind fun t138 => (if t138 = 900 then (if bt132.1 = true then (some false) else ((choruslaw0_Num.f bt132.2).bind fun t139 => (if t139 = 900 then (if bt134.1 = true then (some false) else ((choruslaw0_Num.f bt134.2).bind fun t140 => (if t140 = 900 then (some true) else (some false)))) else (some false)))) else (some false))) else (some false))) else (some false))))) = some true := H
        have A10 := Aside0.mk A100
        clear A100
        replace H := Option.bind_eq_some_iff.mp H
        obtain ⟨⟨t132, t133⟩, A110, H⟩ := H
        replace H : ((slot_Alive.f 0 0 0 0 1 (wrap64 (-(wrap64 (1 + (Go.bits .and .i64 a1 1023))))) 4).bind fun bt134 => ((choruslaw0_Num.f t127).bind fun t136 => (if t136 = 900 then ((choruslaw0_Num.f t129).bind fun t137 => (if t137 = 900 then ((choruslaw0_Num.f t131).bind fun t138 => (if t138 = 900 then (if t132 = true then (some false) else ((choruslaw0_Num.f t133).bind fun t139 => (if t139 = 900 then (if bt134.1 = true then (some false) else ((choruslaw0_Num.f bt134.2).bind fun t140 => (if t140 = 900 then (some true) else (some false)))) else (some false)))) else (some false))) else (some false))) else (some false)))) = some true := H
        have A11 := Aside0.mk A110
        clear A110
        replace H := Option.bind_eq_some_iff.mp H
        obtain ⟨⟨t134, t135⟩, A120, H⟩ := H
        replace H : ((choruslaw0_Num.f t127).bind fun t136 => (if t136 = 900 then ((choruslaw0_Num.f t129).bind fun t137 => (if t137 = 900 then ((choruslaw0_Num.f t131).bind fun t138 => (if t138 = 900 then (if t132 = true then (some false) else ((choruslaw0_Num.f t133).bind fun t139 => (if t139 = 900 then (if t134 = true then (some false) else ((choruslaw0_Num.f t135).bind fun t140 => (if t140 = 900 then (some true) else (some false)))) else (some false)))) else (some false))) else (some false))) else (some false))) = some true := H
        have A12 := Aside0.mk A120
        clear A120
        replace H := Option.bind_eq_some_iff.mp H
        obtain ⟨t136, A130, H⟩ := H
        replace H : (if t136 = 900 then ((choruslaw0_Num.f t129).bind fun t137 => (if t137 = 900 then ((choruslaw0_Num.f t131).bind fun t138 => (if t138 = 900 then (if t132 = true then (some false) else ((choruslaw0_Num.f t133).bind fun t139 => (if t139 = 900 then (if t134 = true then (some false) else ((choruslaw0_Num.f t135).bind fun t140 => (if t140 = 900 then (some true) else (some false)))) else (some false)))) else (some false))) else (some false))) else (some false)) = some true := H
        have A13 := Aside0.mk A130
        clear A130
        by_cases c14 : t136 = 900
        · rw [if_pos c14] at H
          have c14b0 : (t136 == 900) = true := beq_iff_eq.mpr c14
          have c14b1 : (t136 != 900) = false := bne_eq_false_iff_eq.mpr c14
          clear c14
          replace H := Option.bind_eq_some_iff.mp H
          obtain ⟨t137, A150, H⟩ := H
          replace H : (if t137 = 900 then ((choruslaw0_Num.f t131).bind fun t138 => (if t138 = 900 then (if t132 = true then (some false) else ((choruslaw0_Num.f t133).bind fun t139 => (if t139 = 900 then (if t134 = true then (some false) else ((choruslaw0_Num.f t135).bind fun t140 => (if t140 = 900 then (some true) else (some false)))) else (some false)))) else (some false))) else (some false)) = some true := H
          have A15 := Aside0.mk A150
          clear A150
          by_cases c16 : t137 = 900
          · rw [if_pos c16] at H
            have c16b0 : (t137 == 900) = true := beq_iff_eq.mpr c16
            have c16b1 : (t137 != 900) = false := bne_eq_false_iff_eq.mpr c16
            clear c16
            replace H := Option.bind_eq_some_iff.mp H
            obtain ⟨t138, A170, H⟩ := H
            replace H : (if t138 = 900 then (if t132 = true then (some false) else ((choruslaw0_Num.f t133).bind fun t139 => (if t139 = 900 then (if t134 = true then (some false) else ((choruslaw0_Num.f t135).bind fun t140 => (if t140 = 900 then (some true) else (some false)))) else (some false)))) else (some false)) = some true := H
            have A17 := Aside0.mk A170
            clear A170
            by_cases c18 : t138 = 900
            · rw [if_pos c18] at H
              have c18b0 : (t138 == 900) = true := beq_iff_eq.mpr c18
              have c18b1 : (t138 != 900) = false := bne_eq_false_iff_eq.mpr c18
              clear c18
              by_cases c19 : t132 = true
              · subst c19
                have H1 : (some false) = some true := by first | (rw [if_pos rfl] at H; exact H) | rfl
                clear H
                have H := H1
                clear H1
                exact absurd (Option.some.inj H) (by simp)
              · replace c19 := Bool.eq_false_iff.mpr c19
                subst c19
                have H1 : ((choruslaw0_Num.f t133).bind fun t139 => (if t139 = 900 then (if t134 = true then (some false) else ((choruslaw0_Num.f t135).bind fun t140 => (if t140 = 900 then (some true) else (some false)))) else (some false))) = some true := by first | (rw [if_neg (show ¬ (false = true) by decide)] at H; exact H) | rfl
                clear H
                have H := H1
                clear H1
                replace H := Option.bind_eq_some_iff.mp H
                obtain ⟨t139, A200, H⟩ := H
                replace H : (if t139 = 900 then (if t134 = true then (some false) else ((choruslaw0_Num.f t135).bind fun t140 => (if t140 = 900 then (some true) else (some false)))) else (some false)) = some true := H
                have A20 := Aside0.mk A200
                clear A200
                by_cases c21 : t139 = 900
                · rw [if_pos c21] at H
                  have c21b0 : (t139 == 900) = true := beq_iff_eq.mpr c21
                  have c21b1 : (t139 != 900) = false := bne_eq_false_iff_eq.mpr c21
                  clear c21
                  by_cases c22 : t134 = true
                  · subst c22
                    have H1 : (some false) = some true := by first | (rw [if_pos rfl] at H; exact H) | rfl
                    clear H
                    have H := H1
                    clear H1
                    exact absurd (Option.some.inj H) (by simp)
                  · replace c22 := Bool.eq_false_iff.mpr c22
                    subst c22
                    have H1 : ((choruslaw0_Num.f t135).bind fun t140 => (if t140 = 900 then (some true) else (some false))) = some true := by first | (rw [if_neg (show ¬ (false = true) by decide)] at H; exact H) | rfl
                    clear H
                    have H := H1
                    clear H1
                    replace H := Option.bind_eq_some_iff.mp H
                    obtain ⟨t140, A230, H⟩ := H
                    replace H : (if t140 = 900 then (some true) else (some false)) = some true := H
                    have A23 := Aside0.mk A230
                    clear A230
                    by_cases c24 : t140 = 900
                    · rw [if_pos c24] at H
                      have c24b0 : (t140 == 900) = true := beq_iff_eq.mpr c24
                      have c24b1 : (t140 != 900) = false := bne_eq_false_iff_eq.mpr c24
                      clear c24
                      clear H
                      go_enter Try.func5, Try.ntmps5
                      (try simp only [List.append_eq, List.cons_append, List.nil_append])
                      go_wp2_with (first | ((with_reducible refine gate_callee (f := 13) rfl ?_); refine goesL_ (some 18) rfl rfl Try.func13 (by kernel_rfl) rfl #[] rfl (by (try simp only [List.map_toArray, List.map_cons, List.map_nil]); first | done | rfl | (simp only [List.length_drop, List.length_take]; rfl)) ?_; (with_reducible refine (choruslaw9_awake.calls  true _ A3.out).mono ?_); rintro e w25 ⟨rfl, hb⟩; refine ⟨_, rfl, ?_⟩; have n0_ := Aside0.mk (below_step (by repeat (first | (with_reducible first | exact HB.out | apply below_alloc | apply pw_below_drewN | apply below_drew1) | exact HB.out)) hb); clear HB; have HB := n0_; clear n0_; (try clear hb); (try clear hb2); (try clear hk); (try clear hi)) | ((with_reducible refine gate_dst (N := 27) rfl ?_); refine Kd.R_lit (Kd.int .i64) _ 3 ?hg (N := 27) ?hd (xs := ([wrap64 (-(wrap64 (1 + (Go.bits .and .i64 a1 1023)))), 0, 1, 3, 5, 6, 7, 12, 15, 17, 32, wrap64 (16 + (wrap64 (1 + (Go.bits .and .i64 a1 1023))))] : List Int)) (inner := [.int .i64 (wrap64 (-(wrap64 (1 + (Go.bits .and .i64 a1 1023))))), .int .i64 0, .int .i64 1, .int .i64 3, .int .i64 5, .int .i64 6, .int .i64 7, .int .i64 12, .int .i64 15, .int .i64 17, .int .i64 32, .int .i64 (wrap64 (16 + (wrap64 (1 + (Go.bits .and .i64 a1 1023)))))]) (ok := fun _ => True) (okp := fun _ => True) ?hr ?hp (fun _ hk => hk) trivial (Below.refl _ _) (Nat.le_refl _) (by simp) ?_; (case hd => rfl); (case hg => rfl); (case hr => first | (go_simp; done) | (go_simp; rfl)); (case hp => exact (Reps.one (show Kd.M (Kd.int .i64) _ _ _ (wrap64 (-(wrap64 (1 + (Go.bits .and .i64 a1 1023))))) [.int .i64 (wrap64 (-(wrap64 (1 + (Go.bits .and .i64 a1 1023)))))] from rfl) (Reps.one (show Kd.M (Kd.int .i64) _ _ _ 0 [.int .i64 0] from rfl) (Reps.one (show Kd.M (Kd.int .i64) _ _ _ 1 [.int .i64 1] from rfl) (Reps.one (show Kd.M (Kd.int .i64) _ _ _ 3 [.int .i64 3] from rfl) (Reps.one (show Kd.M (Kd.int .i64) _ _ _ 5 [.int .i64 5] from rfl) (Reps.one (show Kd.M (Kd.int .i64) _ _ _ 6 [.int .i64 6] from rfl) (Reps.one (show Kd.M (Kd.int .i64) _ _ _ 7 [.int .i64 7] from rfl) (Reps.one (show Kd.M (Kd.int .i64) _ _ _ 12 [.int .i64 12] from rfl) (Reps.one (show Kd.M (Kd.int .i64) _ _ _ 15 [.int .i64 15] from rfl) (Reps.one (show Kd.M (Kd.int .i64) _ _ _ 17 [.int .i64 17] from rfl) (Reps.one (show Kd.M (Kd.int .i64) _ _ _ 32 [.int .i64 32] from rfl) (Reps.one (show Kd.M (Kd.int .i64) _ _ _ (wrap64 (16 + (wrap64 (1 + (Go.bits .and .i64 a1 1023))))) [.int .i64 (wrap64 (16 + (wrap64 (1 + (Go.bits .and .i64 a1 1023)))))] from rfl) (Reps.none _ _)))))))))))))); intro v123 w26 ho27 hb hg_ hnew_; clear hg_ hnew_; (first | rw [← Ny122.out] at ho27 | (simp only [Int.reduceToNat] at ho27; rw [← Ny122.out] at ho27)); have n0_ := Aside0.mk (Kd.R_lower ho27 (below_size (by repeat (first | (with_reducible first | exact HB.out | apply below_alloc | apply pw_below_drewN | apply below_drew1) | exact HB.out)))); have n1_ := Aside0.mk (below_step (by repeat (first | (with_reducible first | exact HB.out | apply below_alloc | apply pw_below_drewN | apply below_drew1) | exact HB.out)) hb); clear HB; have HO124 := n0_; have HB := n1_; clear n0_ n1_; clear hb ho27; obtain ⟨Ao28, co28, eo28⟩ := Kd.R_slice HO124.out; subst eo28; have p125 : 0 ≤ ((ji5) : Int) := of_decide_eq_true (by first | (with_reducible assumption) | assumption); have q125 : (ji5) < (y122.length : Int) := of_decide_eq_true (by first | (with_reducible assumption) | assumption); obtain ⟨ad125, e125, hx125_0⟩ := Kd.at_int (Kd.R_reads' HO124.out).2.2 (ji5) p125 q125; cases e125; replace p125 := eq_true p125; replace q125 := eq_true q125) | ((with_reducible refine gate_callee (f := 8) rfl ?_); refine goesL_ (some 37) rfl rfl Try.func8 (by kernel_rfl) rfl #[.int .i64 0, .int .i64 (rd y122 (ji5))] rfl (by (try simp only [List.map_toArray, List.map_cons, List.map_nil]); first | done | (simp only [hji5]; rfl) | rfl | (simp only [List.length_drop, List.length_take]; rfl)) ?_; (with_reducible refine (slot_Bit.calls 0 (rd y122 (ji5)) t126 t127 _ A8.out).mono ?_); rintro e w' ⟨rfl, ⟨nd, rfl⟩⟩; refine ⟨_, rfl, ?_⟩) | ((with_reducible refine gate_callee (f := 8) rfl ?_); refine goesL_ (some 43) rfl rfl Try.func8 (by kernel_rfl) rfl #[.int .i64 (wrap64 (-(wrap64 (1 + (Go.bits .and .i64 a1 1023))))), .int .i64 4] rfl (by (try simp only [List.map_toArray, List.map_cons, List.map_nil]); first | done | rfl | (simp only [List.length_drop, List.length_take]; rfl)) ?_; (with_reducible refine (slot_Bit.calls (wrap64 (-(wrap64 (1 + (Go.bits .and .i64 a1 1023))))) 4 t128 t129 _ A9.out).mono ?_); rintro e w' ⟨rfl, ⟨nd, rfl⟩⟩; refine ⟨_, rfl, ?_⟩) | ((with_reducible refine gate_callee (f := 8) rfl ?_); refine goesL_ (some 49) rfl rfl Try.func8 (by kernel_rfl) rfl #[.int .i64 (wrap64 (1048576 + (wrap64 (1 + (Go.bits .and .i64 a1 1023))))), .int .i64 4] rfl (by (try simp only [List.map_toArray, List.map_cons, List.map_nil]); first | done | rfl | (simp only [List.length_drop, List.length_take]; rfl)) ?_; (with_reducible refine (slot_Bit.calls (wrap64 (1048576 + (wrap64 (1 + (Go.bits .and .i64 a1 1023))))) 4 t130 t131 _ A10.out).mono ?_); rintro e w' ⟨rfl, ⟨nd, rfl⟩⟩; refine ⟨_, rfl, ?_⟩) | ((with_reducible refine gate_callee (f := 10) rfl ?_); refine goesL_ (some 55) rfl rfl Try.func10 (by kernel_rfl) rfl #[.agg #[.int .i64 0, .int .i64 0, .int .i64 0, .int .i64 0, .int .i64 1], .int .i64 0, .int .i64 (rd y122 (ji5))] rfl (by (try simp only [List.map_toArray, List.map_cons, List.map_nil]); first | done | (simp only [hji5]; rfl) | rfl | (simp only [List.length_drop, List.length_take]; rfl)) ?_; (with_reducible refine (slot_Alive.calls 0 0 0 0 1 0 (rd y122 (ji5)) false t133 _ A11.out).mono ?_); rintro e w29 ⟨rfl, hb⟩; refine ⟨_, rfl, ?_⟩; have n0_ := Aside0.mk (Kd.R_below (by (with_reducible repeat (first | apply Kd.R_alloc | apply Kd.R_drewN | apply Kd.R_drew)); exact HO124.out) hb); have n1_ := Aside0.mk (below_step (by repeat (first | (with_reducible first | exact HB.out | apply below_alloc | apply pw_below_drewN | apply below_drew1) | exact HB.out)) hb); clear HO124; clear HB; have HO124 := n0_; have HB := n1_; clear n0_ n1_; (try clear hb); (try clear hb2); (try clear hk); (try clear hi)) | ((with_reducible refine gate_callee (f := 10) rfl ?_); refine goesL_ (some 62) rfl rfl Try.func10 (by kernel_rfl) rfl #[.agg #[.int .i64 0, .int .i64 0, .int .i64 0, .int .i64 0, .int .i64 1], .int .i64 (wrap64 (-(wrap64 (1 + (Go.bits .and .i64 a1 1023))))), .int .i64 4] rfl (by (try simp only [List.map_toArray, List.map_cons, List.map_nil]); first | done | rfl | (simp only [List.length_drop, List.length_take]; rfl)) ?_; (with_reducible refine (slot_Alive.calls 0 0 0 0 1 (wrap64 (-(wrap64 (1 + (Go.bits .and .i64 a1 1023))))) 4 false t135 _ A12.out).mono ?_); rintro e w30 ⟨rfl, hb⟩; refine ⟨_, rfl, ?_⟩; have n0_ := Aside0.mk (Kd.R_below (by (with_reducible repeat (first | apply Kd.R_alloc | apply Kd.R_drewN | apply Kd.R_drew)); exact HO124.out) hb); have n1_ := Aside0.mk (below_step (by repeat (first | (with_reducible first | exact HB.out | apply below_alloc | apply pw_below_drewN | apply below_drew1) | exact HB.out)) hb); clear HO124; clear HB; have HO124 := n0_; have HB := n1_; clear n0_ n1_; (try clear hb); (try clear hb2); (try clear hk); (try clear hi)) | ((with_reducible refine gate_callee (f := 12) rfl ?_); refine goesL_ (some 66) rfl rfl Try.func12 (by kernel_rfl) rfl #[.int .i64 t127] rfl (by (try simp only [List.map_toArray, List.map_cons, List.map_nil]); first | done | rfl | (simp only [List.length_drop, List.length_take]; rfl)) ?_; (with_reducible refine (choruslaw0_Num.calls t127 t136 _ A13.out).mono ?_); rintro e w' ⟨rfl, ⟨nd, rfl⟩⟩; refine ⟨_, rfl, ?_⟩) | (go_at_call 12; (with_reducible refine (choruslaw0_Num.calls t129 t137 _ A15.out).mono ?_); rintro e w' ⟨rfl, ⟨nd, rfl⟩⟩) | (go_at_call 12; (with_reducible refine (choruslaw0_Num.calls t131 t138 _ A17.out).mono ?_); rintro e w' ⟨rfl, ⟨nd, rfl⟩⟩) | (go_at_call 12; (with_reducible refine (choruslaw0_Num.calls t133 t139 _ A20.out).mono ?_); rintro e w' ⟨rfl, ⟨nd, rfl⟩⟩) | (go_at_call 12; (with_reducible refine (choruslaw0_Num.calls t135 t140 _ A23.out).mono ?_); rintro e w' ⟨rfl, ⟨nd, rfl⟩⟩))
                      go_ret
                      exact ⟨by first | rfl | (simp [errW_none, errW_some] <;> rfl) | (simp only [← hji5]; first | rfl | (simp [errW_none, errW_some] <;> rfl)) | (simp [*, errW_none, errW_some] <;> rfl), by repeat (first | (with_reducible first | exact HB.out | apply below_alloc | apply pw_below_drewN | apply below_drew1) | exact HB.out)⟩
                    · rw [if_neg c24] at H
                      have c24b0 : (t140 == 900) = false := beq_eq_false_iff_ne.mpr c24
                      have c24b1 : (t140 != 900) = true := bne_iff_ne.mpr c24
                      exact absurd (Option.some.inj H) (by simp)
                · rw [if_neg c21] at H
                  have c21b0 : (t139 == 900) = false := beq_eq_false_iff_ne.mpr c21
                  have c21b1 : (t139 != 900) = true := bne_iff_ne.mpr c21
                  exact absurd (Option.some.inj H) (by simp)
            · rw [if_neg c18] at H
              have c18b0 : (t138 == 900) = false := beq_eq_false_iff_ne.mpr c18
              have c18b1 : (t138 != 900) = true := bne_iff_ne.mpr c18
              exact absurd (Option.some.inj H) (by simp)
          · rw [if_neg c16] at H
            have c16b0 : (t137 == 900) = false := beq_eq_false_iff_ne.mpr c16
            have c16b1 : (t137 != 900) = true := bne_iff_ne.mpr c16
            exact absurd (Option.some.inj H) (by simp)
        · rw [if_neg c14] at H
          have c14b0 : (t136 == 900) = false := beq_eq_false_iff_ne.mpr c14
          have c14b1 : (t136 != 900) = true := bne_iff_ne.mpr c14
          exact absurd (Option.some.inj H) (by simp)
      · rw [if_neg c7] at H
        exact absurd H (by simp)
    · rw [if_neg c6] at H
      exact absurd H (by simp)
  · replace c4 := Bool.eq_false_iff.mpr c4
    subst c4
    have H1 : (some false) = some true := by first | (rw [if_neg (show ¬ (false = true) by decide)] at H; exact H) | rfl
    clear H
    have H := H1
    clear H1
    exact absurd (Option.some.inj H) (by simp)

/-- THE ONE PURE STATEMENT of choruslaw9_SlotForms: yours. -/
def choruslaw9_SlotForms.Pure : Prop := ∀ (a0 : Int) (a1 : Int), (Lit.int .i64 a0).wf = true → (Lit.int .i64 a1).wf = true → choruslaw9_SlotForms.f a0 a1 = some true
theorem choruslaw9_SlotForms.walk (P : choruslaw9_SlotForms.Pure) (a0 : Int) (a1 : Int) (w : World) (w0 : (Lit.int .i64 a0).wf = true) (w1 : (Lit.int .i64 a1).wf = true) :
    Calls Try.prog 5 #[.int .i64 a0, .int .i64 a1] w fun e w' => e = .returned (.bool true) ∧ Below w.heap.size w w' := by
  have h := P a0 a1 w0 w1
  refine (choruslaw9_SlotForms.calls a0 a1 true w h).mono ?_
  rintro e w' ⟨rfl, hd⟩
  exact ⟨rfl, hd⟩

end Go.Proofs.Ytmllmmdfcpameaa.PSlotForms
