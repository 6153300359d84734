-- Told by this session's own turn of the print (wip/tools): not typed by hand
import Derived.Test.YtmllmmdfcpameaaPSlotRowx0
namespace Go.Proofs.Ytmllmmdfcpameaa.PSlotRow
open Go.RowKit Go.Proofs.YtmllmmdfcpameaaW.PrintWords Go.Proofs.YtmllmmdfcpameaaW.PrintLast Go.Proofs.YtmllmmdfcpameaaW.PrintMore
attribute [local go_sem] max2_int min2_int max_two min_two max_three min_three max_four min_four   -- for this text's walks alone
set_option linter.unusedVariables false
set_option linter.unusedSimpArgs false

/-! ### slot_Many: function 14 -/
def slot_Many.f (a0 : Int) : Option (Bool) := if a0 ≥ 2 then (if a0 ≤ 16 then (some ((Go.bits .and .i64 a0 (wrap64 (a0 - 1))) == 0)) else (some false)) else (some false)
set_option maxHeartbeats 8000000 in
set_option maxRecDepth 100000 in
theorem slot_Many.calls (a0 : Int) (r : Bool) (w : World) (h : slot_Many.f a0 = some r) :
    Calls Try.prog 14 #[.int .i64 a0] w fun e w' => e = .returned (.bool r) ∧ Drawn0 w w' := by
  have H : (if a0 ≥ 2 then (if a0 ≤ 16 then (some ((Go.bits .and .i64 a0 (wrap64 (a0 - 1))) == 0)) else (some false)) else (some false)) = some r := h
  clear h
  by_cases c2 : a0 ≥ 2
  · rw [if_pos c2] at H
    have c2b0 : decide (2 ≤ a0) = true := decide_eq_true c2
    clear c2
    by_cases c3 : a0 ≤ 16
    · rw [if_pos c3] at H
      have c3b0 : decide (a0 ≤ 16) = true := decide_eq_true c3
      clear c3
      obtain rfl := Option.some.inj H
      go_enter Try.func14, Try.ntmps14
      go_wp2
      go_ret
      exact ⟨by first | rfl | (simp; done) | (simp [*]; done) | (congr 1 <;> (first | rfl | (unfold wrap64; omega))), by repeat (first | exact Drawn0.refl _ | apply Drawn0.step)⟩
    · rw [if_neg c3] at H
      have c3b0 : decide (a0 ≤ 16) = false := decide_eq_false c3
      clear c3
      obtain rfl := Option.some.inj H
      go_enter Try.func14, Try.ntmps14
      go_wp2
      go_ret
      exact ⟨by first | rfl | (simp; done) | (simp [*]; done) | (congr 1 <;> (first | rfl | (unfold wrap64; omega))), by repeat (first | exact Drawn0.refl _ | apply Drawn0.step)⟩
  · rw [if_neg c2] at H
    have c2b0 : decide (2 ≤ a0) = false := decide_eq_false c2
    clear c2
    obtain rfl := Option.some.inj H
    go_enter Try.func14, Try.ntmps14
    go_wp2
    go_ret
    exact ⟨by first | rfl | (simp; done) | (simp [*]; done) | (congr 1 <;> (first | rfl | (unfold wrap64; omega))), by repeat (first | exact Drawn0.refl _ | apply Drawn0.step)⟩

/-! ### cell_Number: function 15 -/
def cell_Number.f (a0 : Int) : Option (Bool) := if a0 ≥ 0 then (some (decide (a0 ≤ 1048576))) else (some false)
set_option maxHeartbeats 8000000 in
set_option maxRecDepth 100000 in
theorem cell_Number.calls (a0 : Int) (r : Bool) (w : World) (h : cell_Number.f a0 = some r) :
    Calls Try.prog 15 #[.int .i64 a0] w fun e w' => e = .returned (.bool r) ∧ Drawn0 w w' := by
  have H : (if a0 ≥ 0 then (some (decide (a0 ≤ 1048576))) else (some false)) = some r := h
  clear h
  by_cases c2 : a0 ≥ 0
  · rw [if_pos c2] at H
    have c2b0 : decide (0 ≤ a0) = true := decide_eq_true c2
    clear c2
    obtain rfl := Option.some.inj H
    go_enter Try.func15, Try.ntmps15
    go_wp2
    go_ret
    exact ⟨by first | rfl | (simp; done) | (simp [*]; done) | (congr 1 <;> (first | rfl | (unfold wrap64; omega))), by repeat (first | exact Drawn0.refl _ | apply Drawn0.step)⟩
  · rw [if_neg c2] at H
    have c2b0 : decide (0 ≤ a0) = false := decide_eq_false c2
    clear c2
    obtain rfl := Option.some.inj H
    go_enter Try.func15, Try.ntmps15
    go_wp2
    go_ret
    exact ⟨by first | rfl | (simp; done) | (simp [*]; done) | (congr 1 <;> (first | rfl | (unfold wrap64; omega))), by repeat (first | exact Drawn0.refl _ | apply Drawn0.step)⟩

/-! ### slot_Bit: function 8 -/
def slot_Bit.f (a0 : Int) (a1 : Int) : Option (Int × Int) := (slot_Many.f a1).bind fun t101 => (if t101 = true then ((cell_Number.f a0).bind fun t102 => (if t102 = true then (if a1 = 0 then (none) else (some (wrap64 (1 - (Int.tmod (wrap64 (Int.tdiv a0 a1)) 2)), 0))) else (some (0, 900)))) else (some (0, 900)))
set_option maxHeartbeats 8000000 in
set_option maxRecDepth 100000 in
theorem slot_Bit.calls (a0 : Int) (a1 : Int) (r1 : Int) (r2 : Int) (w : World) (h : slot_Bit.f a0 a1 = some (r1, r2)) :
    Calls Try.prog 8 #[.int .i64 a0, .int .i64 a1] w fun e w' => e = .returned (.tuple #[.int .i64 r1, .int .i64 r2]) ∧ Drawn0 w w' := by
  have H : ((slot_Many.f a1).bind fun t101 => (if t101 = true then ((cell_Number.f a0).bind fun t102 => (if t102 = true then (if a1 = 0 then (none) else (some (wrap64 (1 - (Int.tmod (wrap64 (Int.tdiv a0 a1)) 2)), 0))) else (some (0, 900)))) else (some (0, 900)))) = some (r1, r2) := h
  clear h
  replace H := Option.bind_eq_some_iff.mp H
  obtain ⟨t101, A30, H⟩ := H
  replace H : (if t101 = true then ((cell_Number.f a0).bind fun t102 => (if t102 = true then (if a1 = 0 then (none) else (some (wrap64 (1 - (Int.tmod (wrap64 (Int.tdiv a0 a1)) 2)), 0))) else (some (0, 900)))) else (some (0, 900))) = some (r1, r2) := H
  have A3 := Aside0.mk A30
  clear A30
  by_cases c4 : t101 = true
  · subst c4
    have H1 : ((cell_Number.f a0).bind fun t102 => (if t102 = true then (if a1 = 0 then (none) else (some (wrap64 (1 - (Int.tmod (wrap64 (Int.tdiv a0 a1)) 2)), 0))) else (some (0, 900)))) = some (r1, r2) := by rw [if_pos rfl] at H; exact H
    clear H
    have H := H1
    clear H1
    replace H := Option.bind_eq_some_iff.mp H
    obtain ⟨t102, A50, H⟩ := H
    replace H : (if t102 = true then (if a1 = 0 then (none) else (some (wrap64 (1 - (Int.tmod (wrap64 (Int.tdiv a0 a1)) 2)), 0))) else (some (0, 900))) = some (r1, r2) := H
    have A5 := Aside0.mk A50
    clear A50
    by_cases c6 : t102 = true
    · subst c6
      have H1 : (if a1 = 0 then (none) else (some (wrap64 (1 - (Int.tmod (wrap64 (Int.tdiv a0 a1)) 2)), 0))) = some (r1, r2) := by rw [if_pos rfl] at H; exact H
      clear H
      have H := H1
      clear H1
      by_cases c7 : a1 = 0
      · rw [if_pos c7] at H
        exact absurd H (by simp)
      · rw [if_neg c7] at H
        have c7b0 : (a1 == 0) = false := beq_eq_false_iff_ne.mpr c7
        have c7b1 : (a1 != 0) = true := bne_iff_ne.mpr c7
        simp only [Option.some.injEq, Prod.mk.injEq] at H
        obtain ⟨rfl, rfl⟩ := H
        go_enter Try.func8, Try.ntmps8
        go_wp2_with (first | ((with_reducible refine gate_callee (f := 14) rfl ?_); refine goesL_ (some 7) rfl rfl Try.func14 (by kernel_rfl) rfl #[.int .i64 a1] rfl (by (try simp only [List.map_toArray, List.map_cons, List.map_nil]); first | done | rfl | (simp only [List.length_drop, List.length_take]; rfl)) ?_; (with_reducible refine (slot_Many.calls a1 true _ A3.out).mono ?_); rintro e w' ⟨rfl, ⟨nd, rfl⟩⟩; refine ⟨_, rfl, ?_⟩) | (go_at_call 15; (with_reducible refine (cell_Number.calls a0 true _ A5.out).mono ?_); rintro e w' ⟨rfl, ⟨nd, rfl⟩⟩))
        go_ret2
        exact ⟨by first | rfl | (simp; done) | (simp [*]; done) | (congr 1 <;> (first | rfl | (unfold wrap64; omega))), by repeat (first | exact Drawn0.refl _ | apply Drawn0.step)⟩
    · replace c6 := Bool.eq_false_iff.mpr c6
      subst c6
      have H1 : (some (0, 900)) = some (r1, r2) := by rw [if_neg (show ¬ (false = true) by decide)] at H; exact H
      clear H
      have H := H1
      clear H1
      simp only [Option.some.injEq, Prod.mk.injEq] at H
      obtain ⟨rfl, rfl⟩ := H
      go_enter Try.func8, Try.ntmps8
      go_wp2_with (first | ((with_reducible refine gate_callee (f := 14) rfl ?_); refine goesL_ (some 7) rfl rfl Try.func14 (by kernel_rfl) rfl #[.int .i64 a1] rfl (by (try simp only [List.map_toArray, List.map_cons, List.map_nil]); first | done | rfl | (simp only [List.length_drop, List.length_take]; rfl)) ?_; (with_reducible refine (slot_Many.calls a1 true _ A3.out).mono ?_); rintro e w' ⟨rfl, ⟨nd, rfl⟩⟩; refine ⟨_, rfl, ?_⟩) | (go_at_call 15; (with_reducible refine (cell_Number.calls a0 false _ A5.out).mono ?_); rintro e w' ⟨rfl, ⟨nd, rfl⟩⟩))
      go_ret2
      exact ⟨by first | rfl | (simp; done) | (simp [*]; done) | (congr 1 <;> (first | rfl | (unfold wrap64; omega))), by repeat (first | exact Drawn0.refl _ | apply Drawn0.step)⟩
  · replace c4 := Bool.eq_false_iff.mpr c4
    subst c4
    have H1 : (some (0, 900)) = some (r1, r2) := by rw [if_neg (show ¬ (false = true) by decide)] at H; exact H
    clear H
    have H := H1
    clear H1
    simp only [Option.some.injEq, Prod.mk.injEq] at H
    obtain ⟨rfl, rfl⟩ := H
    go_enter Try.func8, Try.ntmps8
    go_wp2_with (first | ((with_reducible refine gate_callee (f := 14) rfl ?_); refine goesL_ (some 7) rfl rfl Try.func14 (by kernel_rfl) rfl #[.int .i64 a1] rfl (by (try simp only [List.map_toArray, List.map_cons, List.map_nil]); first | done | rfl | (simp only [List.length_drop, List.length_take]; rfl)) ?_; (with_reducible refine (slot_Many.calls a1 false _ A3.out).mono ?_); rintro e w' ⟨rfl, ⟨nd, rfl⟩⟩; refine ⟨_, rfl, ?_⟩))
    go_ret2
    exact ⟨by first | rfl | (simp; done) | (simp [*]; done) | (congr 1 <;> (first | rfl | (unfold wrap64; omega))), by repeat (first | exact Drawn0.refl _ | apply Drawn0.step)⟩

/-! ### choruslaw0_Num: function 12 -/
def choruslaw0_Num.f (a0 : Int) : Option (Int) := some a0
set_option maxHeartbeats 8000000 in
set_option maxRecDepth 100000 in
theorem choruslaw0_Num.calls (a0 : Int) (r : Int) (w : World) (h : choruslaw0_Num.f a0 = some r) :
    Calls Try.prog 12 #[.int .i64 a0] w fun e w' => e = .returned (.int .i64 r) ∧ Drawn0 w w' := by
  have H : (some a0) = some r := h
  clear h
  obtain rfl := Option.some.inj H
  go_enter Try.func12, Try.ntmps12
  go_wp2
  go_ret
  exact ⟨by first | rfl | (simp; done) | (simp [*]; done) | (congr 1 <;> (first | rfl | (unfold wrap64; omega))), by repeat (first | exact Drawn0.refl _ | apply Drawn0.step)⟩

/-! ### slot_Alive: function 10 -/
def slot_Alive.f (a0_0 : Int) (a0_1 : Int) (a0_2 : Int) (a0_3 : Int) (a0_4 : Int) (a1 : Int) (a2 : Int) : Option (Bool × Int) := (slot_Bit.f a1 a2).bind fun bt104 => (if bt104.2 = 0 then (some ((a0_4 == bt104.1), bt104.2)) else (some (false, bt104.2)))
set_option maxHeartbeats 8000000 in
set_option maxRecDepth 100000 in
theorem slot_Alive.calls (a0_0 : Int) (a0_1 : Int) (a0_2 : Int) (a0_3 : Int) (a0_4 : Int) (a1 : Int) (a2 : Int) (r1 : Bool) (r2 : Int) (w : World) (h : slot_Alive.f a0_0 a0_1 a0_2 a0_3 a0_4 a1 a2 = some (r1, r2)) :
    Calls Try.prog 10 #[.agg #[.int .i64 a0_0, .int .i64 a0_1, .int .i64 a0_2, .int .i64 a0_3, .int .i64 a0_4], .int .i64 a1, .int .i64 a2] w fun e w' => e = .returned (.tuple #[.bool r1, .int .i64 r2]) ∧ Below w.heap.size w w' := by
  have hu25 := Try.underlying25
  have HB := Aside0.mk (Below.refl w.heap.size w)
  have H : ((slot_Bit.f a1 a2).bind fun bt104 => (if bt104.2 = 0 then (some ((a0_4 == bt104.1), bt104.2)) else (some (false, bt104.2)))) = some (r1, r2) := h
  clear h
  replace H := Option.bind_eq_some_iff.mp H
  obtain ⟨⟨t104, t105⟩, A40, H⟩ := H
  replace H : (if t105 = 0 then (some ((a0_4 == t104), t105)) else (some (false, t105))) = some (r1, r2) := H
  have A4 := Aside0.mk A40
  clear A40
  by_cases c5 : t105 = 0
  · rw [if_pos c5] at H
    have c5b0 : (t105 == 0) = true := beq_iff_eq.mpr c5
    have c5b1 : (t105 != 0) = false := bne_eq_false_iff_eq.mpr c5
    clear c5
    simp only [Option.some.injEq, Prod.mk.injEq] at H
    obtain ⟨rfl, rfl⟩ := H
    go_enter Try.func10, Try.ntmps10
    go_wp2_with (first | ((with_reducible refine gate_dst (N := 3) rfl ?_); refine box_event ?hg (N := 3) ?hd (cs := #[.int .i64 a0_0, .int .i64 a0_1, .int .i64 a0_2, .int .i64 a0_3, .int .i64 a0_4]) (t := 25) ?hr ?_; (case hd => rfl); (case hg => rfl); (case hr => first | (go_simp; done) | (go_simp; rfl)); intro gb103 hg w6 hbox hb; have n0_ := Aside0.mk (below_step (by repeat (first | (with_reducible first | exact HB.out | apply below_alloc | apply pw_below_drewN | apply below_drew1) | exact HB.out)) hb); have n1_ := Aside0.mk (hbox); have n2_ := Aside0.mk ((by rw [hg]; exact (below_size (by repeat (first | (with_reducible first | exact HB.out | apply below_alloc | apply pw_below_drewN | apply below_drew1) | exact HB.out))) : w.heap.size ≤ gb103)); have n3_ := Aside0.mk ((by rw [hg]; exact (below_size (by repeat (first | (with_reducible first | exact HB.out | apply below_alloc | apply pw_below_drewN | apply below_drew1) | exact HB.out))) : w.heap.size ≤ gb103)); clear HB; have HB := n0_; have BK103 := n1_; have GW103 := n2_; have GE103 := n3_; clear n0_ n1_ n2_ n3_; clear hb hbox hg) | ((with_reducible refine gate_callee (f := 8) rfl ?_); refine goesL_ (some 13) rfl rfl Try.func8 (by kernel_rfl) rfl #[.int .i64 a1, .int .i64 a2] rfl (by (try simp only [List.map_toArray, List.map_cons, List.map_nil]); first | done | rfl | (simp only [List.length_drop, List.length_take]; rfl)) ?_; (with_reducible refine (slot_Bit.calls a1 a2 t104 t105 _ A4.out).mono ?_); rintro e w' ⟨rfl, ⟨nd, rfl⟩⟩; refine ⟨_, rfl, ?_⟩; have hcz7_0 : w6.cell? ⟨gb103, 0, none⟩ = some (.int .i64 a0_0) := (blk_cell BK103.out 0).trans rfl; have hcz7_1 : w6.cell? ⟨gb103, 1, none⟩ = some (.int .i64 a0_1) := (blk_cell BK103.out 1).trans rfl; have hcz7_2 : w6.cell? ⟨gb103, 2, none⟩ = some (.int .i64 a0_2) := (blk_cell BK103.out 2).trans rfl; have hcz7_3 : w6.cell? ⟨gb103, 3, none⟩ = some (.int .i64 a0_3) := (blk_cell BK103.out 3).trans rfl; have hcz7_4 : w6.cell? ⟨gb103, 4, none⟩ = some (.int .i64 a0_4) := (blk_cell BK103.out 4).trans rfl; have hfz7_0 := blk_frozen BK103.out 0; have hfz7_1 := blk_frozen BK103.out 1; have hfz7_2 := blk_frozen BK103.out 2; have hfz7_3 := blk_frozen BK103.out 3; have hfz7_4 := blk_frozen BK103.out 4))
    go_ret2
    exact ⟨by first | rfl | (simp [errW_none, errW_some] <;> rfl) | (simp [*, errW_none, errW_some] <;> rfl), by repeat (first | (with_reducible first | exact HB.out | apply below_alloc | apply pw_below_drewN | apply below_drew1 | refine below_set ?_ GE103.out) | exact HB.out)⟩
  · rw [if_neg c5] at H
    have c5b0 : (t105 == 0) = false := beq_eq_false_iff_ne.mpr c5
    have c5b1 : (t105 != 0) = true := bne_iff_ne.mpr c5
    simp only [Option.some.injEq, Prod.mk.injEq] at H
    obtain ⟨rfl, rfl⟩ := H
    go_enter Try.func10, Try.ntmps10
    go_wp2_with (first | ((with_reducible refine gate_dst (N := 3) rfl ?_); refine box_event ?hg (N := 3) ?hd (cs := #[.int .i64 a0_0, .int .i64 a0_1, .int .i64 a0_2, .int .i64 a0_3, .int .i64 a0_4]) (t := 25) ?hr ?_; (case hd => rfl); (case hg => rfl); (case hr => first | (go_simp; done) | (go_simp; rfl)); intro gb103 hg w8 hbox hb; have n0_ := Aside0.mk (below_step (by repeat (first | (with_reducible first | exact HB.out | apply below_alloc | apply pw_below_drewN | apply below_drew1) | exact HB.out)) hb); have n1_ := Aside0.mk (hbox); have n2_ := Aside0.mk ((by rw [hg]; exact (below_size (by repeat (first | (with_reducible first | exact HB.out | apply below_alloc | apply pw_below_drewN | apply below_drew1) | exact HB.out))) : w.heap.size ≤ gb103)); have n3_ := Aside0.mk ((by rw [hg]; exact (below_size (by repeat (first | (with_reducible first | exact HB.out | apply below_alloc | apply pw_below_drewN | apply below_drew1) | exact HB.out))) : w.heap.size ≤ gb103)); clear HB; have HB := n0_; have BK103 := n1_; have GW103 := n2_; have GE103 := n3_; clear n0_ n1_ n2_ n3_; clear hb hbox hg) | ((with_reducible refine gate_callee (f := 8) rfl ?_); refine goesL_ (some 13) rfl rfl Try.func8 (by kernel_rfl) rfl #[.int .i64 a1, .int .i64 a2] rfl (by (try simp only [List.map_toArray, List.map_cons, List.map_nil]); first | done | rfl | (simp only [List.length_drop, List.length_take]; rfl)) ?_; (with_reducible refine (slot_Bit.calls a1 a2 t104 t105 _ A4.out).mono ?_); rintro e w' ⟨rfl, ⟨nd, rfl⟩⟩; refine ⟨_, rfl, ?_⟩))
    go_ret2
    exact ⟨by first | rfl | (simp [errW_none, errW_some] <;> rfl) | (simp [*, errW_none, errW_some] <;> rfl), by repeat (first | (with_reducible first | exact HB.out | apply below_alloc | apply pw_below_drewN | apply below_drew1 | refine below_set ?_ GE103.out) | exact HB.out)⟩

/-! ### choruslaw9_awake: function 13 -/
def choruslaw9_awake.f  : Option (Bool) := (slot_Bit.f 3 4).bind fun bt106 => ((slot_Bit.f 4 4).bind fun bt108 => ((slot_Alive.f 0 0 0 0 1 9 4).bind fun bt110 => ((slot_Bit.f 3 3).bind fun bt112 => ((slot_Alive.f 0 0 0 0 0 (-1) 4).bind fun bt114 => (if bt106.1 = 1 then ((choruslaw0_Num.f bt106.2).bind fun t116 => (if t116 = 0 then (if bt108.1 = 0 then ((choruslaw0_Num.f bt108.2).bind fun t117 => (if t117 = 0 then (if bt110.1 = true then ((choruslaw0_Num.f bt110.2).bind fun t118 => (if t118 = 0 then ((choruslaw0_Num.f bt112.2).bind fun t119 => (if t119 = 900 then ((choruslaw0_Num.f bt114.2).bind fun t120 => (if t120 = 900 then (some true) else (some false))) else (some false))) else (some false))) else (some false)) else (some false))) else (some false)) else (some false))) else (some false))))))
set_option maxHeartbeats 8000000 in
set_option maxRecDepth 100000 in
theorem choruslaw9_awake.calls  (r : Bool) (w : World) (h : choruslaw9_awake.f  = some r) (hr_ : r = true := by first | rfl | assumption) :
    Calls Try.prog 13 #[] w fun e w' => e = .returned (.bool r) ∧ Below w.heap.size w w' := by
  subst hr_
  have hu25 := Try.underlying25
  have HB := Aside0.mk (Below.refl w.heap.size w)
  have H : ((slot_Bit.f 3 4).bind fun bt106 => ((slot_Bit.f 4 4).bind fun bt108 => ((slot_Alive.f 0 0 0 0 1 9 4).bind fun bt110 => ((slot_Bit.f 3 3).bind fun bt112 => ((slot_Alive.f 0 0 0 0 0 (-1) 4).bind fun bt114 => (if bt106.1 = 1 then ((choruslaw0_Num.f bt106.2).bind fun t116 => (if t116 = 0 then (if bt108.1 = 0 then ((choruslaw0_Num.f bt108.2).bind fun t117 => (if t117 = 0 then (if bt110.1 = true then ((choruslaw0_Num.f bt110.2).bind fun t118 => (if t118 = 0 then ((choruslaw0_Num.f bt112.2).bind fun t119 => (if t119 = 900 then ((choruslaw0_Num.f bt114.2).bind fun t120 => (if t120 = 900 then (some true) else (some false))) else (some false))) else (some false))) else (some false)) else (some false))) else (some false)) else (some false))) else (some false))))))) = some true := h
  clear h
  replace H := Option.bind_eq_some_iff.mp H
  obtain ⟨⟨t106, t107⟩, A10, H⟩ := H
  replace H : ((slot_Bit.f 4 4).bind fun bt108 => ((slot_Alive.f 0 0 0 0 1 9 4).bind fun bt110 => ((slot_Bit.f 3 3).bind fun bt112 => ((slot_Alive.f 0 0 0 0 0 (-1) 4).bind fun bt114 => (if t106 = 1 then ((choruslaw0_Num.f t107).bind fun t116 => (if t116 = 0 then (if bt108.1 = 0 then ((choruslaw0_Num.f bt108.2).bind fun t117 => (if t117 = 0 then (if bt110.1 = true then ((choruslaw0_Num.f bt110.2).bind fun t118 => (if t118 = 0 then ((choruslaw0_Num.f bt112.2).bind fun t119 => (if t119 = 900 then ((choruslaw0_Num.f bt114.2).bind fun t120 => (if t120 = 900 then (some true) else (some false))) else (some false))) else (some false))) else (some false)) else (some false))) else (some false)) else (some false))) else (some false)))))) = some true := H
  have A1 := Aside0.mk A10
  clear A10
  replace H := Option.bind_eq_some_iff.mp H
  obtain ⟨⟨t108, t109⟩, A20, H⟩ := H
  replace H : ((slot_Alive.f 0 0 0 0 1 9 4).bind fun bt110 => ((slot_Bit.f 3 3).bind fun bt112 => ((slot_Alive.f 0 0 0 0 0 (-1) 4).bind fun bt114 => (if t106 = 1 then ((choruslaw0_Num.f t107).bind fun t116 => (if t116 = 0 then (if t108 = 0 then ((choruslaw0_Num.f t109).bind fun t117 => (if t117 = 0 then (if bt110.1 = true then ((choruslaw0_Num.f bt110.2).bind fun t118 => (if t118 = 0 then ((choruslaw0_Num.f bt112.2).bind fun t119 => (if t119 = 900 then ((choruslaw0_Num.f bt114.2).bind fun t120 => (if t120 = 900 then (some true) else (some false))) else (some false))) else (some false))) else (some false)) else (some false))) else (some false)) else (some false))) else (some false))))) = some true := H
  have A2 := Aside0.mk A20
  clear A20
  replace H := Option.bind_eq_some_iff.mp H
  obtain ⟨⟨t110, t111⟩, A30, H⟩ := H
  replace H : ((slot_Bit.f 3 3).bind fun bt112 => ((slot_Alive.f 0 0 0 0 0 (-1) 4).bind fun bt114 => (if t106 = 1 then ((choruslaw0_Num.f t107).bind fun t116 => (if t116 = 0 then (if t108 = 0 then ((choruslaw0_Num.f t109).bind fun t117 => (if t117 = 0 then (if t110 = true then ((choruslaw0_Num.f t111).bind fun t118 => (if t118 = 0 then ((choruslaw0_Num.f bt112.2).bind fun t119 => (if t119 = 900 then ((choruslaw0_Num.f bt114.2).bind fun t120 => (if t120 = 900 then (some true) else (some false))) else (some false))) else (some false))) else (some false)) else (some false))) else (some false)) else (some false))) else (some false)))) = some true := H
  have A3 := Aside0.mk A30
  clear A30
  replace H := Option.bind_eq_some_iff.mp H
  obtain ⟨⟨t112, t113⟩, A40, H⟩ := H
  replace H : ((slot_Alive.f 0 0 0 0 0 (-1) 4).bind fun bt114 => (if t106 = 1 then ((choruslaw0_Num.f t107).bind fun t116 => (if t116 = 0 then (if t108 = 0 then ((choruslaw0_Num.f t109).bind fun t117 => (if t117 = 0 then (if t110 = true then ((choruslaw0_Num.f t111).bind fun t118 => (if t118 = 0 then ((choruslaw0_Num.f t113).bind fun t119 => (if t119 = 900 then ((choruslaw0_Num.f bt114.2).bind fun t120 => (if t120 = 900 then (some true) else (some false))) else (some false))) else (some false))) else (some false)) else (some false))) else (some false)) else (some false))) else (some false))) = some true := H
  have A4 := Aside0.mk A40
  clear A40
  replace H := Option.bind_eq_some_iff.mp H
  obtain ⟨⟨t114, t115⟩, A50, H⟩ := H
  replace H : (if t106 = 1 then ((choruslaw0_Num.f t107).bind fun t116 => (if t116 = 0 then (if t108 = 0 then ((choruslaw0_Num.f t109).bind fun t117 => (if t117 = 0 then (if t110 = true then ((choruslaw0_Num.f t111).bind fun t118 => (if t118 = 0 then ((choruslaw0_Num.f t113).bind fun t119 => (if t119 = 900 then ((choruslaw0_Num.f t115).bind fun t120 => (if t120 = 900 then (some true) else (some false))) else (some false))) else (some false))) else (some false)) else (some false))) else (some false)) else (some false))) else (some false)) = some true := H
  have A5 := Aside0.mk A50
  clear A50
  by_cases c6 : t106 = 1
  · rw [if_pos c6] at H
    have c6b0 : (t106 == 1) = true := beq_iff_eq.mpr c6
    have c6b1 : (t106 != 1) = false := bne_eq_false_iff_eq.mpr c6
    clear c6
    replace H := Option.bind_eq_some_iff.mp H
    obtain ⟨t116, A70, H⟩ := H
    replace H : (if t116 = 0 then (if t108 = 0 then ((choruslaw0_Num.f t109).bind fun t117 => (if t117 = 0 then (if t110 = true then ((choruslaw0_Num.f t111).bind fun t118 => (if t118 = 0 then ((choruslaw0_Num.f t113).bind fun t119 => (if t119 = 900 then ((choruslaw0_Num.f t115).bind fun t120 => (if t120 = 900 then (some true) else (some false))) else (some false))) else (some false))) else (some false)) else (some false))) else (some false)) else (some false)) = some true := H
    have A7 := Aside0.mk A70
    clear A70
    by_cases c8 : t116 = 0
    · rw [if_pos c8] at H
      have c8b0 : (t116 == 0) = true := beq_iff_eq.mpr c8
      have c8b1 : (t116 != 0) = false := bne_eq_false_iff_eq.mpr c8
      clear c8
      by_cases c9 : t108 = 0
      · rw [if_pos c9] at H
        have c9b0 : (t108 == 0) = true := beq_iff_eq.mpr c9
        have c9b1 : (t108 != 0) = false := bne_eq_false_iff_eq.mpr c9
        clear c9
        replace H := Option.bind_eq_some_iff.mp H
        obtain ⟨t117, A100, H⟩ := H
        replace H : (if t117 = 0 then (if t110 = true then ((choruslaw0_Num.f t111).bind fun t118 => (if t118 = 0 then ((choruslaw0_Num.f t113).bind fun t119 => (if t119 = 900 then ((choruslaw0_Num.f t115).bind fun t120 => (if t120 = 900 then (some true) else (some false))) else (some false))) else (some false))) else (some false)) else (some false)) = some true := H
        have A10 := Aside0.mk A100
        clear A100
        by_cases c11 : t117 = 0
        · rw [if_pos c11] at H
          have c11b0 : (t117 == 0) = true := beq_iff_eq.mpr c11
          have c11b1 : (t117 != 0) = false := bne_eq_false_iff_eq.mpr c11
          clear c11
          by_cases c12 : t110 = true
          · subst c12
            have H1 : ((choruslaw0_Num.f t111).bind fun t118 => (if t118 = 0 then ((choruslaw0_Num.f t113).bind fun t119 => (if t119 = 900 then ((choruslaw0_Num.f t115).bind fun t120 => (if t120 = 900 then (some true) else (some false))) else (some false))) else (some false))) = some true := by first | (rw [if_pos rfl] at H; exact H) | rfl
            clear H
            have H := H1
            clear H1
            replace H := Option.bind_eq_some_iff.mp H
            obtain ⟨t118, A130, H⟩ := H
            replace H : (if t118 = 0 then ((choruslaw0_Num.f t113).bind fun t119 => (if t119 = 900 then ((choruslaw0_Num.f t115).bind fun t120 => (if t120 = 900 then (some true) else (some false))) else (some false))) else (some false)) = some true := H
            have A13 := Aside0.mk A130
            clear A130
            by_cases c14 : t118 = 0
            · rw [if_pos c14] at H
              have c14b0 : (t118 == 0) = true := beq_iff_eq.mpr c14
              have c14b1 : (t118 != 0) = false := bne_eq_false_iff_eq.mpr c14
              clear c14
              replace H := Option.bind_eq_some_iff.mp H
              obtain ⟨t119, A150, H⟩ := H
              replace H : (if t119 = 900 then ((choruslaw0_Num.f t115).bind fun t120 => (if t120 = 900 then (some true) else (some false))) else (some false)) = some true := H
              have A15 := Aside0.mk A150
              clear A150
              by_cases c16 : t119 = 900
              · rw [if_pos c16] at H
                have c16b0 : (t119 == 900) = true := beq_iff_eq.mpr c16
                have c16b1 : (t119 != 900) = false := bne_eq_false_iff_eq.mpr c16
                clear c16
                replace H := Option.bind_eq_some_iff.mp H
                obtain ⟨t120, A170, H⟩ := H
                replace H : (if t120 = 900 then (some true) else (some false)) = some true := H
                have A17 := Aside0.mk A170
                clear A170
                by_cases c18 : t120 = 900
                · rw [if_pos c18] at H
                  have c18b0 : (t120 == 900) = true := beq_iff_eq.mpr c18
                  have c18b1 : (t120 != 900) = false := bne_eq_false_iff_eq.mpr c18
                  clear c18
                  clear H
                  go_enter Try.func13, Try.ntmps13
                  (try simp only [List.append_eq, List.cons_append, List.nil_append])
                  go_wp2_with (first | ((with_reducible refine gate_callee (f := 8) rfl ?_); refine goesL_ (some 12) rfl rfl Try.func8 (by kernel_rfl) rfl #[.int .i64 3, .int .i64 4] rfl (by (try simp only [List.map_toArray, List.map_cons, List.map_nil]); first | done | rfl | (simp only [List.length_drop, List.length_take]; rfl)) ?_; (with_reducible refine (slot_Bit.calls 3 4 t106 t107 _ A1.out).mono ?_); rintro e w' ⟨rfl, ⟨nd, rfl⟩⟩; refine ⟨_, rfl, ?_⟩) | ((with_reducible refine gate_callee (f := 8) rfl ?_); refine goesL_ (some 16) rfl rfl Try.func8 (by kernel_rfl) rfl #[.int .i64 4, .int .i64 4] rfl (by (try simp only [List.map_toArray, List.map_cons, List.map_nil]); first | done | rfl | (simp only [List.length_drop, List.length_take]; rfl)) ?_; (with_reducible refine (slot_Bit.calls 4 4 t108 t109 _ A2.out).mono ?_); rintro e w' ⟨rfl, ⟨nd, rfl⟩⟩; refine ⟨_, rfl, ?_⟩) | ((with_reducible refine gate_callee (f := 10) rfl ?_); refine goesL_ (some 21) rfl rfl Try.func10 (by kernel_rfl) rfl #[.agg #[.int .i64 0, .int .i64 0, .int .i64 0, .int .i64 0, .int .i64 1], .int .i64 9, .int .i64 4] rfl (by (try simp only [List.map_toArray, List.map_cons, List.map_nil]); first | done | rfl | (simp only [List.length_drop, List.length_take]; rfl)) ?_; (with_reducible refine (slot_Alive.calls 0 0 0 0 1 9 4 true t111 _ A3.out).mono ?_); rintro e w19 ⟨rfl, hb⟩; refine ⟨_, rfl, ?_⟩; have n0_ := Aside0.mk (below_step (by repeat (first | (with_reducible first | exact HB.out | apply below_alloc | apply pw_below_drewN | apply below_drew1) | exact HB.out)) hb); clear HB; have HB := n0_; clear n0_; (try clear hb); (try clear hb2); (try clear hk); (try clear hi)) | ((with_reducible refine gate_callee (f := 8) rfl ?_); refine goesL_ (some 25) rfl rfl Try.func8 (by kernel_rfl) rfl #[.int .i64 3, .int .i64 3] rfl (by (try simp only [List.map_toArray, List.map_cons, List.map_nil]); first | done | rfl | (simp only [List.length_drop, List.length_take]; rfl)) ?_; (with_reducible refine (slot_Bit.calls 3 3 t112 t113 _ A4.out).mono ?_); rintro e w' ⟨rfl, ⟨nd, rfl⟩⟩; refine ⟨_, rfl, ?_⟩) | ((with_reducible refine gate_callee (f := 10) rfl ?_); refine goesL_ (some 30) rfl rfl Try.func10 (by kernel_rfl) rfl #[.agg #[.int .i64 0, .int .i64 0, .int .i64 0, .int .i64 0, .int .i64 0], .int .i64 (-1), .int .i64 4] rfl (by (try simp only [List.map_toArray, List.map_cons, List.map_nil]); first | done | rfl | (simp only [List.length_drop, List.length_take]; rfl)) ?_; (with_reducible refine (slot_Alive.calls 0 0 0 0 0 (-1) 4 t114 t115 _ A5.out).mono ?_); rintro e w20 ⟨rfl, hb⟩; refine ⟨_, rfl, ?_⟩; have n0_ := Aside0.mk (below_step (by repeat (first | (with_reducible first | exact HB.out | apply below_alloc | apply pw_below_drewN | apply below_drew1) | exact HB.out)) hb); clear HB; have HB := n0_; clear n0_; (try clear hb); (try clear hb2); (try clear hk); (try clear hi)) | (go_at_call 12; (with_reducible refine (choruslaw0_Num.calls t107 t116 _ A7.out).mono ?_); rintro e w' ⟨rfl, ⟨nd, rfl⟩⟩) | (go_at_call 12; (with_reducible refine (choruslaw0_Num.calls t109 t117 _ A10.out).mono ?_); rintro e w' ⟨rfl, ⟨nd, rfl⟩⟩) | (go_at_call 12; (with_reducible refine (choruslaw0_Num.calls t111 t118 _ A13.out).mono ?_); rintro e w' ⟨rfl, ⟨nd, rfl⟩⟩) | (go_at_call 12; (with_reducible refine (choruslaw0_Num.calls t113 t119 _ A15.out).mono ?_); rintro e w' ⟨rfl, ⟨nd, rfl⟩⟩) | (go_at_call 12; (with_reducible refine (choruslaw0_Num.calls t115 t120 _ A17.out).mono ?_); rintro e w' ⟨rfl, ⟨nd, rfl⟩⟩))
                  go_ret
                  exact ⟨by first | rfl | (simp [errW_none, errW_some] <;> rfl) | (simp [*, errW_none, errW_some] <;> rfl), by repeat (first | (with_reducible first | exact HB.out | apply below_alloc | apply pw_below_drewN | apply below_drew1) | exact HB.out)⟩
                · rw [if_neg c18] at H
                  have c18b0 : (t120 == 900) = false := beq_eq_false_iff_ne.mpr c18
                  have c18b1 : (t120 != 900) = true := bne_iff_ne.mpr c18
                  exact absurd (Option.some.inj H) (by simp)
              · rw [if_neg c16] at H
                have c16b0 : (t119 == 900) = false := beq_eq_false_iff_ne.mpr c16
                have c16b1 : (t119 != 900) = true := bne_iff_ne.mpr c16
                exact absurd (Option.some.inj H) (by simp)
            · rw [if_neg c14] at H
              have c14b0 : (t118 == 0) = false := beq_eq_false_iff_ne.mpr c14
              have c14b1 : (t118 != 0) = true := bne_iff_ne.mpr c14
              exact absurd (Option.some.inj H) (by simp)
          · replace c12 := Bool.eq_false_iff.mpr c12
            subst c12
            have H1 : (some false) = some true := by first | (rw [if_neg (show ¬ (false = true) by decide)] at H; exact H) | rfl
            clear H
            have H := H1
            clear H1
            exact absurd (Option.some.inj H) (by simp)
        · rw [if_neg c11] at H
          have c11b0 : (t117 == 0) = false := beq_eq_false_iff_ne.mpr c11
          have c11b1 : (t117 != 0) = true := bne_iff_ne.mpr c11
          exact absurd (Option.some.inj H) (by simp)
      · rw [if_neg c9] at H
        have c9b0 : (t108 == 0) = false := beq_eq_false_iff_ne.mpr c9
        have c9b1 : (t108 != 0) = true := bne_iff_ne.mpr c9
        exact absurd (Option.some.inj H) (by simp)
    · rw [if_neg c8] at H
      have c8b0 : (t116 == 0) = false := beq_eq_false_iff_ne.mpr c8
      have c8b1 : (t116 != 0) = true := bne_iff_ne.mpr c8
      exact absurd (Option.some.inj H) (by simp)
  · rw [if_neg c6] at H
    have c6b0 : (t106 == 1) = false := beq_eq_false_iff_ne.mpr c6
    have c6b1 : (t106 != 1) = true := bne_iff_ne.mpr c6
    exact absurd (Option.some.inj H) (by simp)

/-! ### choruslaw9_SlotRow: function 7 -/
mutual
def choruslaw9_SlotRow.l0 : Nat → Int → Int → Int → Option (Bool)
  | 0, _, _, _ => none
  | k + 1, x5, x6, x7 => if x7 < (wrap64 (3 * x5)) then ((slot_Bit.f (wrap64 (x6 + x7)) x5).bind fun bt122 => (choruslaw9_SlotRow.l1 k x5 x6 x7 bt122.1 bt122.2 0 1 (wrap64 (x6 + x7)))) else (some true)
def choruslaw9_SlotRow.j2 : Nat → Int → Int → Int → Int → Int → Int → Int → Option (Bool)
  | 0, _, _, _, _, _, _, _ => none
  | k + 1, x5, x6, x7, x8, x9, x10, x11 => if (Go.bits .and .i64 x10 1) = 1 then ((choruslaw0_Num.f x9).bind fun t124 => (if t124 = 0 then (if x8 = 0 then (choruslaw9_SlotRow.l0 k x5 x6 (wrap64 (x7 + 1))) else (some false)) else (some false))) else ((choruslaw0_Num.f x9).bind fun t125 => (if t125 = 0 then (if x8 = x11 then (choruslaw9_SlotRow.l0 k x5 x6 (wrap64 (x7 + 1))) else (some false)) else (some false)))
def choruslaw9_SlotRow.l1 : Nat → Int → Int → Int → Int → Int → Int → Int → Int → Option (Bool)
  | 0, _, _, _, _, _, _, _, _ => none
  | k + 1, x5, x6, x7, x8, x9, x10, x11, x12 => if x12 ≥ x5 then (if x10 < 131072 then (choruslaw9_SlotRow.l1 k x5 x6 x7 x8 x9 (wrap64 (x10 + 1)) x11 (wrap64 (x12 - x5))) else (choruslaw9_SlotRow.j2 k x5 x6 x7 x8 x9 x10 x11)) else (choruslaw9_SlotRow.j2 k x5 x6 x7 x8 x9 x10 x11)
end
def choruslaw9_SlotRow.f (k : Nat) (a0 : Int) (a1 : Int) : Option (Bool) := (choruslaw9_awake.f).bind fun t121 => (if t121 = true then (if 0 ≤ (Go.bits .and .i64 a1 3) then (choruslaw9_SlotRow.l0 k (shl .i64 2 (Go.bits .and .i64 a1 3)) (Go.bits .and .i64 a0 1023) 0) else (none)) else (some false))
theorem choruslaw9_SlotRow.mono_l : ∀ k, (∀ y0 y1 y2, LeO (choruslaw9_SlotRow.l0 k y0 y1 y2) (choruslaw9_SlotRow.l0 (k + 1) y0 y1 y2)) ∧ (∀ y0 y1 y2 y3 y4 y5 y6, LeO (choruslaw9_SlotRow.j2 k y0 y1 y2 y3 y4 y5 y6) (choruslaw9_SlotRow.j2 (k + 1) y0 y1 y2 y3 y4 y5 y6)) ∧ (∀ y0 y1 y2 y3 y4 y5 y6 y7, LeO (choruslaw9_SlotRow.l1 k y0 y1 y2 y3 y4 y5 y6 y7) (choruslaw9_SlotRow.l1 (k + 1) y0 y1 y2 y3 y4 y5 y6 y7))
  | 0 => ⟨fun _ _ _ r h => by simp [choruslaw9_SlotRow.l0] at h, fun _ _ _ _ _ _ _ r h => by simp [choruslaw9_SlotRow.j2] at h, fun _ _ _ _ _ _ _ _ r h => by simp [choruslaw9_SlotRow.l1] at h⟩
  | k + 1 => by
    obtain ⟨ih0, ih1, ih2⟩ := choruslaw9_SlotRow.mono_l k
    refine ⟨?_, ?_, ?_⟩
    · intro y0 y1 y2
      unfold choruslaw9_SlotRow.l0
      repeat' first
      | (with_reducible exact ih0 _ _ _)
      | (with_reducible exact ih1 _ _ _ _ _ _ _)
      | (with_reducible exact ih2 _ _ _ _ _ _ _ _)
      | (with_reducible exact LeO.refl _)
      | (with_reducible exact LeO.none _)
      | (with_reducible refine LeO.ite ?_ ?_)
      | (with_reducible refine LeO.bind ?_ (fun _ => ?_))
      | exact ih0 _ _ _
      | exact ih1 _ _ _ _ _ _ _
      | exact ih2 _ _ _ _ _ _ _ _
      | exact LeO.none _
      | refine LeO.ite ?_ ?_
      | refine LeO.bind ?_ (fun _ => ?_)
    · intro y0 y1 y2 y3 y4 y5 y6
      unfold choruslaw9_SlotRow.j2
      repeat' first
      | (with_reducible exact ih0 _ _ _)
      | (with_reducible exact ih1 _ _ _ _ _ _ _)
      | (with_reducible exact ih2 _ _ _ _ _ _ _ _)
      | (with_reducible exact LeO.refl _)
      | (with_reducible exact LeO.none _)
      | (with_reducible refine LeO.ite ?_ ?_)
      | (with_reducible refine LeO.bind ?_ (fun _ => ?_))
      | exact ih0 _ _ _
      | exact ih1 _ _ _ _ _ _ _
      | exact ih2 _ _ _ _ _ _ _ _
      | exact LeO.none _
      | refine LeO.ite ?_ ?_
      | refine LeO.bind ?_ (fun _ => ?_)
    · intro y0 y1 y2 y3 y4 y5 y6 y7
      unfold choruslaw9_SlotRow.l1
      repeat' first
      | (with_reducible exact ih0 _ _ _)
      | (with_reducible exact ih1 _ _ _ _ _ _ _)
      | (with_reducible exact ih2 _ _ _ _ _ _ _ _)
      | (with_reducible exact LeO.refl _)
      | (with_reducible exact LeO.none _)
      | (with_reducible refine LeO.ite ?_ ?_)
      | (with_reducible refine LeO.bind ?_ (fun _ => ?_))
      | exact ih0 _ _ _
      | exact ih1 _ _ _ _ _ _ _
      | exact ih2 _ _ _ _ _ _ _ _
      | exact LeO.none _
      | refine LeO.ite ?_ ?_
      | refine LeO.bind ?_ (fun _ => ?_)
theorem choruslaw9_SlotRow.mono : ∀ a0 a1 k, LeO (choruslaw9_SlotRow.f k a0 a1) (choruslaw9_SlotRow.f (k + 1) a0 a1) := by
  intro a0 a1 k
  obtain ⟨ih0, ih1, ih2⟩ := choruslaw9_SlotRow.mono_l k
  unfold choruslaw9_SlotRow.f
  repeat' first
      | (with_reducible exact ih0 _ _ _)
      | (with_reducible exact ih1 _ _ _ _ _ _ _)
      | (with_reducible exact ih2 _ _ _ _ _ _ _ _)
      | (with_reducible exact LeO.refl _)
      | (with_reducible exact LeO.none _)
      | (with_reducible refine LeO.ite ?_ ?_)
      | (with_reducible refine LeO.bind ?_ (fun _ => ?_))
      | exact ih0 _ _ _
      | exact ih1 _ _ _ _ _ _ _
      | exact ih2 _ _ _ _ _ _ _ _
      | exact LeO.none _
      | refine LeO.ite ?_ ?_
      | refine LeO.bind ?_ (fun _ => ?_)
set_option maxHeartbeats 8000000 in
set_option maxRecDepth 100000 in
theorem choruslaw9_SlotRow.calls (k : Nat) (a0 : Int) (a1 : Int) (r : Bool) (w : World) (h : choruslaw9_SlotRow.f k a0 a1 = some r) (hr_ : r = true := by first | rfl | assumption) :
    Calls Try.prog 7 #[.int .i64 a0, .int .i64 a1] w fun e w' => e = .returned (.bool r) ∧ Below w.heap.size w w' := by
  subst hr_
  have HB := Aside0.mk (Below.refl w.heap.size w)
  have H : ((choruslaw9_awake.f).bind fun t121 => (if t121 = true then (if 0 ≤ (Go.bits .and .i64 a1 3) then (choruslaw9_SlotRow.l0 k (shl .i64 2 (Go.bits .and .i64 a1 3)) (Go.bits .and .i64 a0 1023) 0) else (none)) else (some false))) = some true := h
  clear h
  replace H := Option.bind_eq_some_iff.mp H
  obtain ⟨t121, A30, H⟩ := H
  replace H : (if t121 = true then (if 0 ≤ (Go.bits .and .i64 a1 3) then (choruslaw9_SlotRow.l0 k (shl .i64 2 (Go.bits .and .i64 a1 3)) (Go.bits .and .i64 a0 1023) 0) else (none)) else (some false)) = some true := H
  have A3 := Aside0.mk A30
  clear A30
  by_cases c4 : t121 = true
  · subst c4
    have H1 : (if 0 ≤ (Go.bits .and .i64 a1 3) then (choruslaw9_SlotRow.l0 k (shl .i64 2 (Go.bits .and .i64 a1 3)) (Go.bits .and .i64 a0 1023) 0) else (none)) = some true := by first | (rw [if_pos rfl] at H; exact H) | rfl
    clear H
    have H := H1
    clear H1
    by_cases c5 : 0 ≤ (Go.bits .and .i64 a1 3)
    · rw [if_pos c5] at H
      have c5b0 := eq_true c5
      have c5b1 : decide (0 ≤ (Go.bits .and .i64 a1 3)) = true := decide_eq_true c5
      clear c5
      obtain ⟨ji6, hji6⟩ : ∃ j_ : Int, (shl .i64 2 (Go.bits .and .i64 a1 3)) = j_ := ⟨_, rfl⟩
      replace H : (choruslaw9_SlotRow.l0 k ji6 (Go.bits .and .i64 a0 1023) 0) = some true := by first | (rw [hji6] at H; exact H) | (simp only [hji6] at H ⊢; exact H)
      (try rw [hji6] at A3)
      have hji6_ : (IntKind.i64.wrap (2 * 2 ^ min (Go.bits .and .i64 a1 3).toNat 64)) = ji6 := hji6
      have hji6z : (Go.bits .and .i64 a1 3) ≤ 64 → (IntKind.i64.wrap (2 * 2 ^ (Go.bits .and .i64 a1 3).toNat)) = ji6 := shl_small hji6
      have hji6y : (wrap64 (2 * 2 ^ min (Go.bits .and .i64 a1 3).toNat 64)) = ji6 := (i64_w _).symm.trans hji6_
      have hji6x : (Go.bits .and .i64 a1 3) ≤ 64 → (wrap64 (2 * 2 ^ (Go.bits .and .i64 a1 3).toNat)) = ji6 := fun h_ => (i64_w _).symm.trans (hji6z h_)
      have H' := Aside0.mk H
      clear H
      go_enter Try.func7, Try.ntmps7
      go_wp2_with (first | ((with_reducible refine gate_callee (f := 13) rfl ?_); refine goesL_ (some 13) rfl rfl Try.func13 (by kernel_rfl) rfl #[] rfl (by (try simp only [List.map_toArray, List.map_cons, List.map_nil]); first | done | rfl | (simp only [List.length_drop, List.length_take]; rfl)) ?_; (with_reducible refine (choruslaw9_awake.calls  true _ A3.out).mono ?_); rintro e w7 ⟨rfl, hb⟩; refine ⟨_, rfl, ?_⟩; have n0_ := Aside0.mk (below_step (by repeat (first | (with_reducible first | exact HB.out | apply below_alloc | apply pw_below_drewN | apply below_drew1) | exact HB.out)) hb); clear HB; have HB := n0_; clear n0_; (try clear hb); (try clear hb2); (try clear hk); (try clear hi)))
      go_loopg [7] k (fun kq v7 w' => ∃ (x7_1 : Int), v7 = .int .i64 x7_1 ∧ Aside0 (choruslaw9_SlotRow.l0 kq ji6 (Go.bits .and .i64 a0 1023) x7_1 = some true) ∧ Aside0 (kq ≤ k) ∧ Aside0 (Below w.heap.size w w'))
      case atStart => exact ⟨(0), (by first | rfl | (simp; done) | (simp [*]; done) | (congr 1 <;> (first | rfl | (unfold wrap64; omega)))), H', ⟨Nat.le_refl _⟩, ⟨by repeat (first | (with_reducible first | exact HB.out | apply below_alloc | apply pw_below_drewN | apply below_drew1) | exact HB.out)⟩⟩
      case round =>
        clear H'
        try clear c1
        try clear p2
        try clear c4
        try clear c5
        try clear c5b0
        try clear c5b1
        try clear p6
        try clear c7
        obtain ⟨x7_1, rfl, HA, HK1, HB⟩ := hrel
        cases gk with
        | zero => exact absurd HA.out (by simp [choruslaw9_SlotRow.l0])
        | succ k1 =>
          have H := HA.out
          clear HA
          simp only [choruslaw9_SlotRow.l0] at H
          by_cases c8 : x7_1 < (wrap64 (3 * ji6))
          · rw [if_pos c8] at H
            have c8b0 : decide (x7_1 < (wrap64 (3 * ji6))) = true := decide_eq_true c8
            clear c8
            replace H := Option.bind_eq_some_iff.mp H
            obtain ⟨⟨t122, t123⟩, A90, H⟩ := H
            replace H : (choruslaw9_SlotRow.l1 k1 ji6 (Go.bits .and .i64 a0 1023) x7_1 t122 t123 0 1 (wrap64 ((Go.bits .and .i64 a0 1023) + x7_1))) = some true := H
            have A9 := Aside0.mk A90
            clear A90
            have HC10 := Aside0.mk H
            clear H
            go_upto_block 2 with (first | ((with_reducible refine gate_callee (f := 8) rfl ?_); refine goesL_ (some 31) rfl rfl Try.func8 (by kernel_rfl) rfl #[.int .i64 (wrap64 ((Go.bits .and .i64 a0 1023) + x7_1)), .int .i64 ji6] rfl (by (try simp only [List.map_toArray, List.map_cons, List.map_nil]); first | done | (simp only [hji6]; rfl) | rfl | (simp only [List.length_drop, List.length_take]; rfl)) ?_; (with_reducible refine (slot_Bit.calls (wrap64 ((Go.bits .and .i64 a0 1023) + x7_1)) ji6 t122 t123 _ A9.out).mono ?_); rintro e w' ⟨rfl, ⟨nd, rfl⟩⟩; refine ⟨_, rfl, ?_⟩))
            (try simp only [Act.put, List.setIfInBounds_toArray, List.set_cons_zero, List.set_cons_succ])
            go_cut [10] (fun v10 wc => ∃ (kq : Nat) (x10_9 : Int), v10 = .int .i64 x10_9 ∧ Aside0 (choruslaw9_SlotRow.j2 kq ji6 (Go.bits .and .i64 a0 1023) x7_1 t122 t123 x10_9 1 = some true) ∧ Aside0 (kq ≤ k1) ∧ Aside0 (Below w.heap.size w wc))
            case first =>
              have H := HC10.out
              clear HC10
              have H' := Aside0.mk H
              clear H
              go_wp2
              go_loopg [10, 12] k1 (fun kq v10 v12 w' => ∃ (x10_2 : Int) (x12_2 : Int), v10 = .int .i64 x10_2 ∧ v12 = .int .i64 x12_2 ∧ Aside0 (choruslaw9_SlotRow.l1 kq ji6 (Go.bits .and .i64 a0 1023) x7_1 t122 t123 x10_2 1 x12_2 = some true) ∧ Aside0 (kq ≤ k1) ∧ Aside0 (Below w.heap.size w w'))
              case atStart => exact ⟨(0), (wrap64 ((Go.bits .and .i64 a0 1023) + x7_1)), (by first | rfl | (simp; done) | (simp [*]; done) | (congr 1 <;> (first | rfl | (unfold wrap64; omega)))), (by first | rfl | (simp; done) | (simp [*]; done) | (congr 1 <;> (first | rfl | (unfold wrap64; omega)))), H', ⟨Nat.le_refl _⟩, ⟨by repeat (first | (with_reducible first | exact HB.out | apply below_alloc | apply pw_below_drewN | apply below_drew1) | exact HB.out)⟩⟩
              case round =>
                clear H'
                try clear c1
                try clear p2
                try clear c4
                try clear c5
                try clear c5b0
                try clear c5b1
                try clear p6
                try clear c7
                try clear c8
                try clear c8b0
                try clear p2
                try clear p6
                obtain ⟨x10_2, x12_2, rfl, rfl, HA, HK2, HB⟩ := hrel
                cases gk with
                | zero => exact absurd HA.out (by simp [choruslaw9_SlotRow.l1])
                | succ k2 =>
                  have H := HA.out
                  clear HA
                  simp only [choruslaw9_SlotRow.l1] at H
                  by_cases c11 : x12_2 ≥ ji6
                  · rw [if_pos c11] at H
                    have c11b0 : decide (ji6 ≤ x12_2) = true := decide_eq_true c11
                    clear c11
                    (first | rw [c11b0] | (simp only [i64_w, i32_w]; rw [c11b0]) | skip)
                    by_cases c12 : x10_2 < 131072
                    · rw [if_pos c12] at H
                      have c12b0 : decide (x10_2 < 131072) = true := decide_eq_true c12
                      clear c12
                      have H' := Aside0.mk H
                      clear H
                      go_wp2
                      go_roundg k2
                      case measure => have := HK1.out; have := HK2.out; omega
                      case rel => exact ⟨(wrap64 (x10_2 + 1)), (wrap64 (x12_2 - ji6)), (by first | rfl | (simp; done) | (simp [*]; done) | (congr 1 <;> (first | rfl | (unfold wrap64; omega)))), (by first | rfl | (simp; done) | (simp only [← hji6] <;> (first | rfl | simp)) | (simp [*]; done)), H', ⟨by have := HK1.out; have := HK2.out; omega⟩, ⟨by repeat (first | (with_reducible first | exact HB.out | apply below_alloc | apply pw_below_drewN | apply below_drew1) | exact HB.out)⟩⟩
                    · rw [if_neg c12] at H
                      have c12b0 : decide (x10_2 < 131072) = false := decide_eq_false c12
                      clear c12
                      have H' := Aside0.mk H
                      clear H
                      go_wp2
                      go_meet
                      case rel => exact ⟨_, (x10_2), (by first | rfl | (simp; done) | (simp [*]; done) | (congr 1 <;> (first | rfl | (unfold wrap64; omega)))), H', ⟨by have := HK1.out; have := HK2.out; first | omega | exact Nat.le_refl _⟩, ⟨by repeat (first | (with_reducible first | exact HB.out | apply below_alloc | apply pw_below_drewN | apply below_drew1) | exact HB.out)⟩⟩
                  · rw [if_neg c11] at H
                    have c11b0 : decide (ji6 ≤ x12_2) = false := decide_eq_false c11
                    clear c11
                    (first | rw [c11b0] | (simp only [i64_w, i32_w]; rw [c11b0]) | skip)
                    have H' := Aside0.mk H
                    clear H
                    go_wp2
                    go_meet
                    case rel => exact ⟨_, (x10_2), (by first | rfl | (simp; done) | (simp [*]; done) | (congr 1 <;> (first | rfl | (unfold wrap64; omega)))), H', ⟨by have := HK1.out; have := HK2.out; first | omega | exact Nat.le_refl _⟩, ⟨by repeat (first | (with_reducible first | exact HB.out | apply below_alloc | apply pw_below_drewN | apply below_drew1) | exact HB.out)⟩⟩
            case rest =>
              clear HC10
              try clear c1
              try clear p2
              try clear c4
              try clear c5
              try clear c5b0
              try clear c5b1
              try clear p6
              try clear c7
              try clear c8
              try clear c8b0
              try clear c11
              try clear c11b0
              try clear c12
              try clear c12b0
              try clear p2
              try clear p6
              obtain ⟨kq, x10_9, rfl, HA, HJ9, HB⟩ := hcut
              cases kq with
              | zero => exact absurd HA.out (by simp [choruslaw9_SlotRow.j2])
              | succ kj9 =>
                have H := HA.out
                clear HA
                simp only [choruslaw9_SlotRow.j2] at H
                by_cases c13 : (Go.bits .and .i64 x10_9 1) = 1
                · rw [if_pos c13] at H
                  have c13b0 : ((Go.bits .and .i64 x10_9 1) == 1) = true := beq_iff_eq.mpr c13
                  have c13b1 : ((Go.bits .and .i64 x10_9 1) != 1) = false := bne_eq_false_iff_eq.mpr c13
                  clear c13
                  replace H := Option.bind_eq_some_iff.mp H
                  obtain ⟨t124, A140, H⟩ := H
                  replace H : (if t124 = 0 then (if t122 = 0 then (choruslaw9_SlotRow.l0 kj9 ji6 (Go.bits .and .i64 a0 1023) (wrap64 (x7_1 + 1))) else (some false)) else (some false)) = some true := H
                  have A14 := Aside0.mk A140
                  clear A140
                  by_cases c15 : t124 = 0
                  · rw [if_pos c15] at H
                    have c15b0 : (t124 == 0) = true := beq_iff_eq.mpr c15
                    have c15b1 : (t124 != 0) = false := bne_eq_false_iff_eq.mpr c15
                    clear c15
                    by_cases c16 : t122 = 0
                    · rw [if_pos c16] at H
                      have c16b0 : (t122 == 0) = true := beq_iff_eq.mpr c16
                      have c16b1 : (t122 != 0) = false := bne_eq_false_iff_eq.mpr c16
                      clear c16
                      have H' := Aside0.mk H
                      clear H
                      go_wp2_with (first | ((with_reducible refine gate_callee (f := 12) rfl ?_); refine goesL_ (some 53) rfl rfl Try.func12 (by kernel_rfl) rfl #[.int .i64 t123] rfl (by (try simp only [List.map_toArray, List.map_cons, List.map_nil]); first | done | rfl | (simp only [List.length_drop, List.length_take]; rfl)) ?_; (with_reducible refine (choruslaw0_Num.calls t123 t124 _ A14.out).mono ?_); rintro e w' ⟨rfl, ⟨nd, rfl⟩⟩; refine ⟨_, rfl, ?_⟩))
                      go_roundg kj9
                      case measure => have := HK1.out; have := HJ9.out; omega
                      case rel => exact ⟨(wrap64 (x7_1 + 1)), (by first | rfl | (simp; done) | (simp [*]; done) | (congr 1 <;> (first | rfl | (unfold wrap64; omega)))), H', ⟨by have := HK1.out; have := HJ9.out; omega⟩, ⟨by repeat (first | (with_reducible first | exact HB.out | apply below_alloc | apply pw_below_drewN | apply below_drew1) | exact HB.out)⟩⟩
                    · rw [if_neg c16] at H
                      have c16b0 : (t122 == 0) = false := beq_eq_false_iff_ne.mpr c16
                      have c16b1 : (t122 != 0) = true := bne_iff_ne.mpr c16
                      exact absurd (Option.some.inj H) (by simp)
                  · rw [if_neg c15] at H
                    have c15b0 : (t124 == 0) = false := beq_eq_false_iff_ne.mpr c15
                    have c15b1 : (t124 != 0) = true := bne_iff_ne.mpr c15
                    exact absurd (Option.some.inj H) (by simp)
                · rw [if_neg c13] at H
                  have c13b0 : ((Go.bits .and .i64 x10_9 1) == 1) = false := beq_eq_false_iff_ne.mpr c13
                  have c13b1 : ((Go.bits .and .i64 x10_9 1) != 1) = true := bne_iff_ne.mpr c13
                  replace H := Option.bind_eq_some_iff.mp H
                  obtain ⟨t125, A170, H⟩ := H
                  replace H : (if t125 = 0 then (if t122 = 1 then (choruslaw9_SlotRow.l0 kj9 ji6 (Go.bits .and .i64 a0 1023) (wrap64 (x7_1 + 1))) else (some false)) else (some false)) = some true := H
                  have A17 := Aside0.mk A170
                  clear A170
                  by_cases c18 : t125 = 0
                  · rw [if_pos c18] at H
                    have c18b0 : (t125 == 0) = true := beq_iff_eq.mpr c18
                    have c18b1 : (t125 != 0) = false := bne_eq_false_iff_eq.mpr c18
                    clear c18
                    by_cases c19 : t122 = 1
                    · rw [if_pos c19] at H
                      have c19b0 : (t122 == 1) = true := beq_iff_eq.mpr c19
                      have c19b1 : (t122 != 1) = false := bne_eq_false_iff_eq.mpr c19
                      clear c19
                      have H' := Aside0.mk H
                      clear H
                      go_wp2_with (first | ((with_reducible refine gate_callee (f := 12) rfl ?_); refine goesL_ (some 53) rfl rfl Try.func12 (by kernel_rfl) rfl #[.int .i64 t123] rfl (by (try simp only [List.map_toArray, List.map_cons, List.map_nil]); first | done | rfl | (simp only [List.length_drop, List.length_take]; rfl)) ?_; (with_reducible refine (choruslaw0_Num.calls t123 t125 _ A17.out).mono ?_); rintro e w' ⟨rfl, ⟨nd, rfl⟩⟩; refine ⟨_, rfl, ?_⟩))
                      go_roundg kj9
                      case measure => have := HK1.out; have := HJ9.out; omega
                      case rel => exact ⟨(wrap64 (x7_1 + 1)), (by first | rfl | (simp; done) | (simp [*]; done) | (congr 1 <;> (first | rfl | (unfold wrap64; omega)))), H', ⟨by have := HK1.out; have := HJ9.out; omega⟩, ⟨by repeat (first | (with_reducible first | exact HB.out | apply below_alloc | apply pw_below_drewN | apply below_drew1) | exact HB.out)⟩⟩
                    · rw [if_neg c19] at H
                      have c19b0 : (t122 == 1) = false := beq_eq_false_iff_ne.mpr c19
                      have c19b1 : (t122 != 1) = true := bne_iff_ne.mpr c19
                      exact absurd (Option.some.inj H) (by simp)
                  · rw [if_neg c18] at H
                    have c18b0 : (t125 == 0) = false := beq_eq_false_iff_ne.mpr c18
                    have c18b1 : (t125 != 0) = true := bne_iff_ne.mpr c18
                    exact absurd (Option.some.inj H) (by simp)
          · rw [if_neg c8] at H
            have c8b0 : decide (x7_1 < (wrap64 (3 * ji6))) = false := decide_eq_false c8
            clear c8
            clear H
            go_wp2
            go_ret
            exact ⟨by first | rfl | (simp [errW_none, errW_some] <;> rfl) | (simp only [← hji6]; first | rfl | (simp [errW_none, errW_some] <;> rfl)) | (simp [*, errW_none, errW_some] <;> rfl), by repeat (first | (with_reducible first | exact HB.out | apply below_alloc | apply pw_below_drewN | apply below_drew1) | exact HB.out)⟩
    · rw [if_neg c5] at H
      exact absurd H (by simp)
  · replace c4 := Bool.eq_false_iff.mpr c4
    subst c4
    have H1 : (some false) = some true := by first | (rw [if_neg (show ¬ (false = true) by decide)] at H; exact H) | rfl
    clear H
    have H := H1
    clear H1
    exact absurd (Option.some.inj H) (by simp)

/-- THE ONE PURE STATEMENT of choruslaw9_SlotRow: yours. -/
def choruslaw9_SlotRow.Pure : Prop := ∀ (a0 : Int) (a1 : Int), (Lit.int .i64 a0).wf = true → (Lit.int .i64 a1).wf = true → ∃ k, choruslaw9_SlotRow.f k a0 a1 = some true
theorem choruslaw9_SlotRow.walk (P : choruslaw9_SlotRow.Pure) (a0 : Int) (a1 : Int) (w : World) (w0 : (Lit.int .i64 a0).wf = true) (w1 : (Lit.int .i64 a1).wf = true) :
    Calls Try.prog 7 #[.int .i64 a0, .int .i64 a1] w fun e w' => e = .returned (.bool true) ∧ Below w.heap.size w w' := by
  obtain ⟨k, h⟩ := P a0 a1 w0 w1
  refine (choruslaw9_SlotRow.calls k a0 a1 true w h).mono ?_
  rintro e w' ⟨rfl, hd⟩
  exact ⟨rfl, hd⟩

end Go.Proofs.Ytmllmmdfcpameaa.PSlotRow
