-- Told by this session's own turn of the print (wip/tools): not typed by hand
import Derived.Test.YtmllmmdfcpameaaPSlotAlivex0
namespace Go.Proofs.Ytmllmmdfcpameaa.PSlotAlive
open Go.RowKit Go.Proofs.YtmllmmdfcpameaaW.PrintWords Go.Proofs.YtmllmmdfcpameaaW.PrintLast Go.Proofs.YtmllmmdfcpameaaW.PrintMore
attribute [local go_sem] max2_int min2_int max_two min_two max_three min_three max_four min_four   -- for this text's walks alone
set_option linter.unusedVariables false
set_option linter.unusedSimpArgs false

/-! ### slot_Many: function 14 -/
def slot_Many.f (a0 : Int) : Option (Bool) := if a0 ≥ 2 then (if a0 ≤ 16 then (some ((Go.bits .and .i64 a0 (wrap64 (a0 - 1))) == 0)) else (some false)) else (some false)
set_option maxHeartbeats 8000000 in
set_option maxRecDepth 100000 in
theorem slot_Many.calls (a0 : Int) (r : Bool) (w : World) (h : slot_Many.f a0 = some r) :
    Calls Try.prog 14 #[.int .i64 a0] w fun e w' => e = .returned (.bool r) ∧ Drawn0 w w' := by
  have H : (if a0 ≥ 2 then (if a0 ≤ 16 then (some ((Go.bits .and .i64 a0 (wrap64 (a0 - 1))) == 0)) else (some false)) else (some false)) = some r := h
  clear h
  by_cases c2 : a0 ≥ 2
  · rw [if_pos c2] at H
    have c2b0 : decide (2 ≤ a0) = true := decide_eq_true c2
    clear c2
    by_cases c3 : a0 ≤ 16
    · rw [if_pos c3] at H
      have c3b0 : decide (a0 ≤ 16) = true := decide_eq_true c3
      clear c3
      obtain rfl := Option.some.inj H
      go_enter Try.func14, Try.ntmps14
      go_wp2
      go_ret
      exact ⟨by first | rfl | (simp; done) | (simp [*]; done) | (congr 1 <;> (first | rfl | (unfold wrap64; omega))), by repeat (first | exact Drawn0.refl _ | apply Drawn0.step)⟩
    · rw [if_neg c3] at H
      have c3b0 : decide (a0 ≤ 16) = false := decide_eq_false c3
      clear c3
      obtain rfl := Option.some.inj H
      go_enter Try.func14, Try.ntmps14
      go_wp2
      go_ret
      exact ⟨by first | rfl | (simp; done) | (simp [*]; done) | (congr 1 <;> (first | rfl | (unfold wrap64; omega))), by repeat (first | exact Drawn0.refl _ | apply Drawn0.step)⟩
  · rw [if_neg c2] at H
    have c2b0 : decide (2 ≤ a0) = false := decide_eq_false c2
    clear c2
    obtain rfl := Option.some.inj H
    go_enter Try.func14, Try.ntmps14
    go_wp2
    go_ret
    exact ⟨by first | rfl | (simp; done) | (simp [*]; done) | (congr 1 <;> (first | rfl | (unfold wrap64; omega))), by repeat (first | exact Drawn0.refl _ | apply Drawn0.step)⟩

/-! ### cell_Number: function 15 -/
def cell_Number.f (a0 : Int) : Option (Bool) := if a0 ≥ 0 then (some (decide (a0 ≤ 1048576))) else (some false)
set_option maxHeartbeats 8000000 in
set_option maxRecDepth 100000 in
theorem cell_Number.calls (a0 : Int) (r : Bool) (w : World) (h : cell_Number.f a0 = some r) :
    Calls Try.prog 15 #[.int .i64 a0] w fun e w' => e = .returned (.bool r) ∧ Drawn0 w w' := by
  have H : (if a0 ≥ 0 then (some (decide (a0 ≤ 1048576))) else (some false)) = some r := h
  clear h
  by_cases c2 : a0 ≥ 0
  · rw [if_pos c2] at H
    have c2b0 : decide (0 ≤ a0) = true := decide_eq_true c2
    clear c2
    obtain rfl := Option.some.inj H
    go_enter Try.func15, Try.ntmps15
    go_wp2
    go_ret
    exact ⟨by first | rfl | (simp; done) | (simp [*]; done) | (congr 1 <;> (first | rfl | (unfold wrap64; omega))), by repeat (first | exact Drawn0.refl _ | apply Drawn0.step)⟩
  · rw [if_neg c2] at H
    have c2b0 : decide (0 ≤ a0) = false := decide_eq_false c2
    clear c2
    obtain rfl := Option.some.inj H
    go_enter Try.func15, Try.ntmps15
    go_wp2
    go_ret
    exact ⟨by first | rfl | (simp; done) | (simp [*]; done) | (congr 1 <;> (first | rfl | (unfold wrap64; omega))), by repeat (first | exact Drawn0.refl _ | apply Drawn0.step)⟩

/-! ### slot_Bit: function 8 -/
def slot_Bit.f (a0 : Int) (a1 : Int) : Option (Int × Int) := (slot_Many.f a1).bind fun t101 => (if t101 = true then ((cell_Number.f a0).bind fun t102 => (if t102 = true then (if a1 = 0 then (none) else (some (wrap64 (1 - (Int.tmod (wrap64 (Int.tdiv a0 a1)) 2)), 0))) else (some (0, 900)))) else (some (0, 900)))
set_option maxHeartbeats 8000000 in
set_option maxRecDepth 100000 in
theorem slot_Bit.calls (a0 : Int) (a1 : Int) (r1 : Int) (r2 : Int) (w : World) (h : slot_Bit.f a0 a1 = some (r1, r2)) :
    Calls Try.prog 8 #[.int .i64 a0, .int .i64 a1] w fun e w' => e = .returned (.tuple #[.int .i64 r1, .int .i64 r2]) ∧ Drawn0 w w' := by
  have H : ((slot_Many.f a1).bind fun t101 => (if t101 = true then ((cell_Number.f a0).bind fun t102 => (if t102 = true then (if a1 = 0 then (none) else (some (wrap64 (1 - (Int.tmod (wrap64 (Int.tdiv a0 a1)) 2)), 0))) else (some (0, 900)))) else (some (0, 900)))) = some (r1, r2) := h
  clear h
  replace H := Option.bind_eq_some_iff.mp H
  obtain ⟨t101, A30, H⟩ := H
  replace H : (if t101 = true then ((cell_Number.f a0).bind fun t102 => (if t102 = true then (if a1 = 0 then (none) else (some (wrap64 (1 - (Int.tmod (wrap64 (Int.tdiv a0 a1)) 2)), 0))) else (some (0, 900)))) else (some (0, 900))) = some (r1, r2) := H
  have A3 := Aside0.mk A30
  clear A30
  by_cases c4 : t101 = true
  · subst c4
    have H1 : ((cell_Number.f a0).bind fun t102 => (if t102 = true then (if a1 = 0 then (none) else (some (wrap64 (1 - (Int.tmod (wrap64 (Int.tdiv a0 a1)) 2)), 0))) else (some (0, 900)))) = some (r1, r2) := by rw [if_pos rfl] at H; exact H
    clear H
    have H := H1
    clear H1
    replace H := Option.bind_eq_some_iff.mp H
    obtain ⟨t102, A50, H⟩ := H
    replace H : (if t102 = true then (if a1 = 0 then (none) else (some (wrap64 (1 - (Int.tmod (wrap64 (Int.tdiv a0 a1)) 2)), 0))) else (some (0, 900))) = some (r1, r2) := H
    have A5 := Aside0.mk A50
    clear A50
    by_cases c6 : t102 = true
    · subst c6
      have H1 : (if a1 = 0 then (none) else (some (wrap64 (1 - (Int.tmod (wrap64 (Int.tdiv a0 a1)) 2)), 0))) = some (r1, r2) := by rw [if_pos rfl] at H; exact H
      clear H
      have H := H1
      clear H1
      by_cases c7 : a1 = 0
      · rw [if_pos c7] at H
        exact absurd H (by simp)
      · rw [if_neg c7] at H
        have c7b0 : (a1 == 0) = false := beq_eq_false_iff_ne.mpr c7
        have c7b1 : (a1 != 0) = true := bne_iff_ne.mpr c7
        simp only [Option.some.injEq, Prod.mk.injEq] at H
        obtain ⟨rfl, rfl⟩ := H
        go_enter Try.func8, Try.ntmps8
        go_wp2_with (first | ((with_reducible refine gate_callee (f := 14) rfl ?_); refine goesL_ (some 7) rfl rfl Try.func14 (by kernel_rfl) rfl #[.int .i64 a1] rfl (by (try simp only [List.map_toArray, List.map_cons, List.map_nil]); first | done | rfl | (simp only [List.length_drop, List.length_take]; rfl)) ?_; (with_reducible refine (slot_Many.calls a1 true _ A3.out).mono ?_); rintro e w' ⟨rfl, ⟨nd, rfl⟩⟩; refine ⟨_, rfl, ?_⟩) | (go_at_call 15; (with_reducible refine (cell_Number.calls a0 true _ A5.out).mono ?_); rintro e w' ⟨rfl, ⟨nd, rfl⟩⟩))
        go_ret2
        exact ⟨by first | rfl | (simp; done) | (simp [*]; done) | (congr 1 <;> (first | rfl | (unfold wrap64; omega))), by repeat (first | exact Drawn0.refl _ | apply Drawn0.step)⟩
    · replace c6 := Bool.eq_false_iff.mpr c6
      subst c6
      have H1 : (some (0, 900)) = some (r1, r2) := by rw [if_neg (show ¬ (false = true) by decide)] at H; exact H
      clear H
      have H := H1
      clear H1
      simp only [Option.some.injEq, Prod.mk.injEq] at H
      obtain ⟨rfl, rfl⟩ := H
      go_enter Try.func8, Try.ntmps8
      go_wp2_with (first | ((with_reducible refine gate_callee (f := 14) rfl ?_); refine goesL_ (some 7) rfl rfl Try.func14 (by kernel_rfl) rfl #[.int .i64 a1] rfl (by (try simp only [List.map_toArray, List.map_cons, List.map_nil]); first | done | rfl | (simp only [List.length_drop, List.length_take]; rfl)) ?_; (with_reducible refine (slot_Many.calls a1 true _ A3.out).mono ?_); rintro e w' ⟨rfl, ⟨nd, rfl⟩⟩; refine ⟨_, rfl, ?_⟩) | (go_at_call 15; (with_reducible refine (cell_Number.calls a0 false _ A5.out).mono ?_); rintro e w' ⟨rfl, ⟨nd, rfl⟩⟩))
      go_ret2
      exact ⟨by first | rfl | (simp; done) | (simp [*]; done) | (congr 1 <;> (first | rfl | (unfold wrap64; omega))), by repeat (first | exact Drawn0.refl _ | apply Drawn0.step)⟩
  · replace c4 := Bool.eq_false_iff.mpr c4
    subst c4
    have H1 : (some (0, 900)) = some (r1, r2) := by rw [if_neg (show ¬ (false = true) by decide)] at H; exact H
    clear H
    have H := H1
    clear H1
    simp only [Option.some.injEq, Prod.mk.injEq] at H
    obtain ⟨rfl, rfl⟩ := H
    go_enter Try.func8, Try.ntmps8
    go_wp2_with (first | ((with_reducible refine gate_callee (f := 14) rfl ?_); refine goesL_ (some 7) rfl rfl Try.func14 (by kernel_rfl) rfl #[.int .i64 a1] rfl (by (try simp only [List.map_toArray, List.map_cons, List.map_nil]); first | done | rfl | (simp only [List.length_drop, List.length_take]; rfl)) ?_; (with_reducible refine (slot_Many.calls a1 false _ A3.out).mono ?_); rintro e w' ⟨rfl, ⟨nd, rfl⟩⟩; refine ⟨_, rfl, ?_⟩))
    go_ret2
    exact ⟨by first | rfl | (simp; done) | (simp [*]; done) | (congr 1 <;> (first | rfl | (unfold wrap64; omega))), by repeat (first | exact Drawn0.refl _ | apply Drawn0.step)⟩

/-! ### slot_Alive: function 10 -/
def slot_Alive.f (a0_0 : Int) (a0_1 : Int) (a0_2 : Int) (a0_3 : Int) (a0_4 : Int) (a1 : Int) (a2 : Int) : Option (Bool × Int) := (slot_Bit.f a1 a2).bind fun bt104 => (if bt104.2 = 0 then (some ((a0_4 == bt104.1), bt104.2)) else (some (false, bt104.2)))
set_option maxHeartbeats 8000000 in
set_option maxRecDepth 100000 in
theorem slot_Alive.calls (a0_0 : Int) (a0_1 : Int) (a0_2 : Int) (a0_3 : Int) (a0_4 : Int) (a1 : Int) (a2 : Int) (r1 : Bool) (r2 : Int) (w : World) (h : slot_Alive.f a0_0 a0_1 a0_2 a0_3 a0_4 a1 a2 = some (r1, r2)) :
    Calls Try.prog 10 #[.agg #[.int .i64 a0_0, .int .i64 a0_1, .int .i64 a0_2, .int .i64 a0_3, .int .i64 a0_4], .int .i64 a1, .int .i64 a2] w fun e w' => e = .returned (.tuple #[.bool r1, .int .i64 r2]) ∧ Below w.heap.size w w' := by
  have hu25 := Try.underlying25
  have HB := Aside0.mk (Below.refl w.heap.size w)
  have H : ((slot_Bit.f a1 a2).bind fun bt104 => (if bt104.2 = 0 then (some ((a0_4 == bt104.1), bt104.2)) else (some (false, bt104.2)))) = some (r1, r2) := h
  clear h
  replace H := Option.bind_eq_some_iff.mp H
  obtain ⟨⟨t104, t105⟩, A40, H⟩ := H
  replace H : (if t105 = 0 then (some ((a0_4 == t104), t105)) else (some (false, t105))) = some (r1, r2) := H
  have A4 := Aside0.mk A40
  clear A40
  by_cases c5 : t105 = 0
  · rw [if_pos c5] at H
    have c5b0 : (t105 == 0) = true := beq_iff_eq.mpr c5
    have c5b1 : (t105 != 0) = false := bne_eq_false_iff_eq.mpr c5
    clear c5
    simp only [Option.some.injEq, Prod.mk.injEq] at H
    obtain ⟨rfl, rfl⟩ := H
    go_enter Try.func10, Try.ntmps10
    go_wp2_with (first | ((with_reducible refine gate_dst (N := 3) rfl ?_); refine box_event ?hg (N := 3) ?hd (cs := #[.int .i64 a0_0, .int .i64 a0_1, .int .i64 a0_2, .int .i64 a0_3, .int .i64 a0_4]) (t := 25) ?hr ?_; (case hd => rfl); (case hg => rfl); (case hr => first | (go_simp; done) | (go_simp; rfl)); intro gb103 hg w6 hbox hb; have n0_ := Aside0.mk (below_step (by repeat (first | (with_reducible first | exact HB.out | apply below_alloc | apply pw_below_drewN | apply below_drew1) | exact HB.out)) hb); have n1_ := Aside0.mk (hbox); have n2_ := Aside0.mk ((by rw [hg]; exact (below_size (by repeat (first | (with_reducible first | exact HB.out | apply below_alloc | apply pw_below_drewN | apply below_drew1) | exact HB.out))) : w.heap.size ≤ gb103)); have n3_ := Aside0.mk ((by rw [hg]; exact (below_size (by repeat (first | (with_reducible first | exact HB.out | apply below_alloc | apply pw_below_drewN | apply below_drew1) | exact HB.out))) : w.heap.size ≤ gb103)); clear HB; have HB := n0_; have BK103 := n1_; have GW103 := n2_; have GE103 := n3_; clear n0_ n1_ n2_ n3_; clear hb hbox hg) | ((with_reducible refine gate_callee (f := 8) rfl ?_); refine goesL_ (some 13) rfl rfl Try.func8 (by kernel_rfl) rfl #[.int .i64 a1, .int .i64 a2] rfl (by (try simp only [List.map_toArray, List.map_cons, List.map_nil]); first | done | rfl | (simp only [List.length_drop, List.length_take]; rfl)) ?_; (with_reducible refine (slot_Bit.calls a1 a2 t104 t105 _ A4.out).mono ?_); rintro e w' ⟨rfl, ⟨nd, rfl⟩⟩; refine ⟨_, rfl, ?_⟩; have hcz7_0 : w6.cell? ⟨gb103, 0, none⟩ = some (.int .i64 a0_0) := (blk_cell BK103.out 0).trans rfl; have hcz7_1 : w6.cell? ⟨gb103, 1, none⟩ = some (.int .i64 a0_1) := (blk_cell BK103.out 1).trans rfl; have hcz7_2 : w6.cell? ⟨gb103, 2, none⟩ = some (.int .i64 a0_2) := (blk_cell BK103.out 2).trans rfl; have hcz7_3 : w6.cell? ⟨gb103, 3, none⟩ = some (.int .i64 a0_3) := (blk_cell BK103.out 3).trans rfl; have hcz7_4 : w6.cell? ⟨gb103, 4, none⟩ = some (.int .i64 a0_4) := (blk_cell BK103.out 4).trans rfl; have hfz7_0 := blk_frozen BK103.out 0; have hfz7_1 := blk_frozen BK103.out 1; have hfz7_2 := blk_frozen BK103.out 2; have hfz7_3 := blk_frozen BK103.out 3; have hfz7_4 := blk_frozen BK103.out 4))
    go_ret2
    exact ⟨by first | rfl | (simp [errW_none, errW_some] <;> rfl) | (simp [*, errW_none, errW_some] <;> rfl), by repeat (first | (with_reducible first | exact HB.out | apply below_alloc | apply pw_below_drewN | apply below_drew1 | refine below_set ?_ GE103.out) | exact HB.out)⟩
  · rw [if_neg c5] at H
    have c5b0 : (t105 == 0) = false := beq_eq_false_iff_ne.mpr c5
    have c5b1 : (t105 != 0) = true := bne_iff_ne.mpr c5
    simp only [Option.some.injEq, Prod.mk.injEq] at H
    obtain ⟨rfl, rfl⟩ := H
    go_enter Try.func10, Try.ntmps10
    go_wp2_with (first | ((with_reducible refine gate_dst (N := 3) rfl ?_); refine box_event ?hg (N := 3) ?hd (cs := #[.int .i64 a0_0, .int .i64 a0_1, .int .i64 a0_2, .int .i64 a0_3, .int .i64 a0_4]) (t := 25) ?hr ?_; (case hd => rfl); (case hg => rfl); (case hr => first | (go_simp; done) | (go_simp; rfl)); intro gb103 hg w8 hbox hb; have n0_ := Aside0.mk (below_step (by repeat (first | (with_reducible first | exact HB.out | apply below_alloc | apply pw_below_drewN | apply below_drew1) | exact HB.out)) hb); have n1_ := Aside0.mk (hbox); have n2_ := Aside0.mk ((by rw [hg]; exact (below_size (by repeat (first | (with_reducible first | exact HB.out | apply below_alloc | apply pw_below_drewN | apply below_drew1) | exact HB.out))) : w.heap.size ≤ gb103)); have n3_ := Aside0.mk ((by rw [hg]; exact (below_size (by repeat (first | (with_reducible first | exact HB.out | apply below_alloc | apply pw_below_drewN | apply below_drew1) | exact HB.out))) : w.heap.size ≤ gb103)); clear HB; have HB := n0_; have BK103 := n1_; have GW103 := n2_; have GE103 := n3_; clear n0_ n1_ n2_ n3_; clear hb hbox hg) | ((with_reducible refine gate_callee (f := 8) rfl ?_); refine goesL_ (some 13) rfl rfl Try.func8 (by kernel_rfl) rfl #[.int .i64 a1, .int .i64 a2] rfl (by (try simp only [List.map_toArray, List.map_cons, List.map_nil]); first | done | rfl | (simp only [List.length_drop, List.length_take]; rfl)) ?_; (with_reducible refine (slot_Bit.calls a1 a2 t104 t105 _ A4.out).mono ?_); rintro e w' ⟨rfl, ⟨nd, rfl⟩⟩; refine ⟨_, rfl, ?_⟩))
    go_ret2
    exact ⟨by first | rfl | (simp [errW_none, errW_some] <;> rfl) | (simp [*, errW_none, errW_some] <;> rfl), by repeat (first | (with_reducible first | exact HB.out | apply below_alloc | apply pw_below_drewN | apply below_drew1 | refine below_set ?_ GE103.out) | exact HB.out)⟩

/-! ### choruslaw0_Num: function 12 -/
def choruslaw0_Num.f (a0 : Int) : Option (Int) := some a0
set_option maxHeartbeats 8000000 in
set_option maxRecDepth 100000 in
theorem choruslaw0_Num.calls (a0 : Int) (r : Int) (w : World) (h : choruslaw0_Num.f a0 = some r) :
    Calls Try.prog 12 #[.int .i64 a0] w fun e w' => e = .returned (.int .i64 r) ∧ Drawn0 w w' := by
  have H : (some a0) = some r := h
  clear h
  obtain rfl := Option.some.inj H
  go_enter Try.func12, Try.ntmps12
  go_wp2
  go_ret
  exact ⟨by first | rfl | (simp; done) | (simp [*]; done) | (congr 1 <;> (first | rfl | (unfold wrap64; omega))), by repeat (first | exact Drawn0.refl _ | apply Drawn0.step)⟩

/-! ### choruslaw9_awake: function 13 -/
def choruslaw9_awake.f  : Option (Bool) := (slot_Bit.f 3 4).bind fun bt106 => ((slot_Bit.f 4 4).bind fun bt108 => ((slot_Alive.f 0 0 0 0 1 9 4).bind fun bt110 => ((slot_Bit.f 3 3).bind fun bt112 => ((slot_Alive.f 0 0 0 0 0 (-1) 4).bind fun bt114 => (if bt106.1 = 1 then ((choruslaw0_Num.f bt106.2).bind fun t116 => (if t116 = 0 then (if bt108.1 = 0 then ((choruslaw0_Num.f bt108.2).bind fun t117 => (if t117 = 0 then (if bt110.1 = true then ((choruslaw0_Num.f bt110.2).bind fun t118 => (if t118 = 0 then ((choruslaw0_Num.f bt112.2).bind fun t119 => (if t119 = 900 then ((choruslaw0_Num.f bt114.2).bind fun t120 => (if t120 = 900 then (some true) else (some false))) else (some false))) else (some false))) else (some false)) else (some false))) else (some false)) else (some false))) else (some false))))))
set_option maxHeartbeats 8000000 in
set_option maxRecDepth 100000 in
theorem choruslaw9_awake.calls  (r : Bool) (w : World) (h : choruslaw9_awake.f  = some r) (hr_ : r = true := by first | rfl | assumption) :
    Calls Try.prog 13 #[] w fun e w' => e = .returned (.bool r) ∧ Below w.heap.size w w' := by
  subst hr_
  have hu25 := Try.underlying25
  have HB := Aside0.mk (Below.refl w.heap.size w)
  have H : ((slot_Bit.f 3 4).bind fun bt106 => ((slot_Bit.f 4 4).bind fun bt108 => ((slot_Alive.f 0 0 0 0 1 9 4).bind fun bt110 => ((slot_Bit.f 3 3).bind fun bt112 => ((slot_Alive.f 0 0 0 0 0 (-1) 4).bind fun bt114 => (if bt106.1 = 1 then ((choruslaw0_Num.f bt106.2).bind fun t116 => (if t116 = 0 then (if bt108.1 = 0 then ((choruslaw0_Num.f bt108.2).bind fun t117 => (if t117 = 0 then (if bt110.1 = true then ((choruslaw0_Num.f bt110.2).bind fun t118 => (if t118 = 0 then ((choruslaw0_Num.f bt112.2).bind fun t119 => (if t119 = 900 then ((choruslaw0_Num.f bt114.2).bind fun t120 => (if t120 = 900 then (some true) else (some false))) else (some false))) else (some false))) else (some false)) else (some false))) else (some false)) else (some false))) else (some false))))))) = some true := h
  clear h
  replace H := Option.bind_eq_some_iff.mp H
  obtain ⟨⟨t106, t107⟩, A10, H⟩ := H
  replace H : ((slot_Bit.f 4 4).bind fun bt108 => ((slot_Alive.f 0 0 0 0 1 9 4).bind fun bt110 => ((slot_Bit.f 3 3).bind fun bt112 => ((slot_Alive.f 0 0 0 0 0 (-1) 4).bind fun bt114 => (if t106 = 1 then ((choruslaw0_Num.f t107).bind fun t116 => (if t116 = 0 then (if bt108.1 = 0 then ((choruslaw0_Num.f bt108.2).bind fun t117 => (if t117 = 0 then (if bt110.1 = true then ((choruslaw0_Num.f bt110.2).bind fun t118 => (if t118 = 0 then ((choruslaw0_Num.f bt112.2).bind fun t119 => (if t119 = 900 then ((choruslaw0_Num.f bt114.2).bind fun t120 => (if t120 = 900 then (some true) else (some false))) else (some false))) else (some false))) else (some false)) else (some false))) else (some false)) else (some false))) else (some false)))))) = some true := H
  have A1 := Aside0.mk A10
  clear A10
  replace H := Option.bind_eq_some_iff.mp H
  obtain ⟨⟨t108, t109⟩, A20, H⟩ := H
  replace H : ((slot_Alive.f 0 0 0 0 1 9 4).bind fun bt110 => ((slot_Bit.f 3 3).bind fun bt112 => ((slot_Alive.f 0 0 0 0 0 (-1) 4).bind fun bt114 => (if t106 = 1 then ((choruslaw0_Num.f t107).bind fun t116 => (if t116 = 0 then (if t108 = 0 then ((choruslaw0_Num.f t109).bind fun t117 => (if t117 = 0 then (if bt110.1 = true then ((choruslaw0_Num.f bt110.2).bind fun t118 => (if t118 = 0 then ((choruslaw0_Num.f bt112.2).bind fun t119 => (if t119 = 900 then ((choruslaw0_Num.f bt114.2).bind fun t120 => (if t120 = 900 then (some true) else (some false))) else (some false))) else (some false))) else (some false)) else (some false))) else (some false)) else (some false))) else (some false))))) = some true := H
  have A2 := Aside0.mk A20
  clear A20
  replace H := Option.bind_eq_some_iff.mp H
  obtain ⟨⟨t110, t111⟩, A30, H⟩ := H
  replace H : ((slot_Bit.f 3 3).bind fun bt112 => ((slot_Alive.f 0 0 0 0 0 (-1) 4).bind fun bt114 => (if t106 = 1 then ((choruslaw0_Num.f t107).bind fun t116 => (if t116 = 0 then (if t108 = 0 then ((choruslaw0_Num.f t109).bind fun t117 => (if t117 = 0 then (if t110 = true then ((choruslaw0_Num.f t111).bind fun t118 => (if t118 = 0 then ((choruslaw0_Num.f bt112.2).bind fun t119 => (if t119 = 900 then ((choruslaw0_Num.f bt114.2).bind fun t120 => (if t120 = 900 then (some true) else (some false))) else (some false))) else (some false))) else (some false)) else (some false))) else (some false)) else (some false))) else (some false)))) = some true := H
  have A3 := Aside0.mk A30
  clear A30
  replace H := Option.bind_eq_some_iff.mp H
  obtain ⟨⟨t112, t113⟩, A40, H⟩ := H
  replace H : ((slot_Alive.f 0 0 0 0 0 (-1) 4).bind fun bt114 => (if t106 = 1 then ((choruslaw0_Num.f t107).bind fun t116 => (if t116 = 0 then (if t108 = 0 then ((choruslaw0_Num.f t109).bind fun t117 => (if t117 = 0 then (if t110 = true then ((choruslaw0_Num.f t111).bind fun t118 => (if t118 = 0 then ((choruslaw0_Num.f t113).bind fun t119 => (if t119 = 900 then ((choruslaw0_Num.f bt114.2).bind fun t120 => (if t120 = 900 then (some true) else (some false))) else (some false))) else (some false))) else (some false)) else (some false))) else (some false)) else (some false))) else (some false))) = some true := H
  have A4 := Aside0.mk A40
  clear A40
  replace H := Option.bind_eq_some_iff.mp H
  obtain ⟨⟨t114, t115⟩, A50, H⟩ := H
  replace H : (if t106 = 1 then ((choruslaw0_Num.f t107).bind fun t116 => (if t116 = 0 then (if t108 = 0 then ((choruslaw0_Num.f t109).bind fun t117 => (if t117 = 0 then (if t110 = true then ((choruslaw0_Num.f t111).bind fun t118 => (if t118 = 0 then ((choruslaw0_Num.f t113).bind fun t119 => (if t119 = 900 then ((choruslaw0_Num.f t115).bind fun t120 => (if t120 = 900 then (some true) else (some false))) else (some false))) else (some false))) else (some false)) else (some false))) else (some false)) else (some false))) else (some false)) = some true := H
  have A5 := Aside0.mk A50
  clear A50
  by_cases c6 : t106 = 1
  · rw [if_pos c6] at H
    have c6b0 : (t106 == 1) = true := beq_iff_eq.mpr c6
    have c6b1 : (t106 != 1) = false := bne_eq_false_iff_eq.mpr c6
    clear c6
    replace H := Option.bind_eq_some_iff.mp H
    obtain ⟨t116, A70, H⟩ := H
    replace H : (if t116 = 0 then (if t108 = 0 then ((choruslaw0_Num.f t109).bind fun t117 => (if t117 = 0 then (if t110 = true then ((choruslaw0_Num.f t111).bind fun t118 => (if t118 = 0 then ((choruslaw0_Num.f t113).bind fun t119 => (if t119 = 900 then ((choruslaw0_Num.f t115).bind fun t120 => (if t120 = 900 then (some true) else (some false))) else (some false))) else (some false))) else (some false)) else (some false))) else (some false)) else (some false)) = some true := H
    have A7 := Aside0.mk A70
    clear A70
    by_cases c8 : t116 = 0
    · rw [if_pos c8] at H
      have c8b0 : (t116 == 0) = true := beq_iff_eq.mpr c8
      have c8b1 : (t116 != 0) = false := bne_eq_false_iff_eq.mpr c8
      clear c8
      by_cases c9 : t108 = 0
      · rw [if_pos c9] at H
        have c9b0 : (t108 == 0) = true := beq_iff_eq.mpr c9
        have c9b1 : (t108 != 0) = false := bne_eq_false_iff_eq.mpr c9
        clear c9
        replace H := Option.bind_eq_some_iff.mp H
        obtain ⟨t117, A100, H⟩ := H
        replace H : (if t117 = 0 then (if t110 = true then ((choruslaw0_Num.f t111).bind fun t118 => (if t118 = 0 then ((choruslaw0_Num.f t113).bind fun t119 => (if t119 = 900 then ((choruslaw0_Num.f t115).bind fun t120 => (if t120 = 900 then (some true) else (some false))) else (some false))) else (some false))) else (some false)) else (some false)) = some true := H
        have A10 := Aside0.mk A100
        clear A100
        by_cases c11 : t117 = 0
        · rw [if_pos c11] at H
          have c11b0 : (t117 == 0) = true := beq_iff_eq.mpr c11
          have c11b1 : (t117 != 0) = false := bne_eq_false_iff_eq.mpr c11
          clear c11
          by_cases c12 : t110 = true
          · subst c12
            have H1 : ((choruslaw0_Num.f t111).bind fun t118 => (if t118 = 0 then ((choruslaw0_Num.f t113).bind fun t119 => (if t119 = 900 then ((choruslaw0_Num.f t115).bind fun t120 => (if t120 = 900 then (some true) else (some false))) else (some false))) else (some false))) = some true := by first | (rw [if_pos rfl] at H; exact H) | rfl
            clear H
            have H := H1
            clear H1
            replace H := Option.bind_eq_some_iff.mp H
            obtain ⟨t118, A130, H⟩ := H
            replace H : (if t118 = 0 then ((choruslaw0_Num.f t113).bind fun t119 => (if t119 = 900 then ((choruslaw0_Num.f t115).bind fun t120 => (if t120 = 900 then (some true) else (some false))) else (some false))) else (some false)) = some true := H
            have A13 := Aside0.mk A130
            clear A130
            by_cases c14 : t118 = 0
            · rw [if_pos c14] at H
              have c14b0 : (t118 == 0) = true := beq_iff_eq.mpr c14
              have c14b1 : (t118 != 0) = false := bne_eq_false_iff_eq.mpr c14
              clear c14
              replace H := Option.bind_eq_some_iff.mp H
              obtain ⟨t119, A150, H⟩ := H
              replace H : (if t119 = 900 then ((choruslaw0_Num.f t115).bind fun t120 => (if t120 = 900 then (some true) else (some false))) else (some false)) = some true := H
              have A15 := Aside0.mk A150
              clear A150
              by_cases c16 : t119 = 900
              · rw [if_pos c16] at H
                have c16b0 : (t119 == 900) = true := beq_iff_eq.mpr c16
                have c16b1 : (t119 != 900) = false := bne_eq_false_iff_eq.mpr c16
                clear c16
                replace H := Option.bind_eq_some_iff.mp H
                obtain ⟨t120, A170, H⟩ := H
                replace H : (if t120 = 900 then (some true) else (some false)) = some true := H
                have A17 := Aside0.mk A170
                clear A170
                by_cases c18 : t120 = 900
                · rw [if_pos c18] at H
                  have c18b0 : (t120 == 900) = true := beq_iff_eq.mpr c18
                  have c18b1 : (t120 != 900) = false := bne_eq_false_iff_eq.mpr c18
                  clear c18
                  clear H
                  go_enter Try.func13, Try.ntmps13
                  (try simp only [List.append_eq, List.cons_append, List.nil_append])
                  go_wp2_with (first | ((with_reducible refine gate_callee (f := 8) rfl ?_); refine goesL_ (some 12) rfl rfl Try.func8 (by kernel_rfl) rfl #[.int .i64 3, .int .i64 4] rfl (by (try simp only [List.map_toArray, List.map_cons, List.map_nil]); first | done | rfl | (simp only [List.length_drop, List.length_take]; rfl)) ?_; (with_reducible refine (slot_Bit.calls 3 4 t106 t107 _ A1.out).mono ?_); rintro e w' ⟨rfl, ⟨nd, rfl⟩⟩; refine ⟨_, rfl, ?_⟩) | ((with_reducible refine gate_callee (f := 8) rfl ?_); refine goesL_ (some 16) rfl rfl Try.func8 (by kernel_rfl) rfl #[.int .i64 4, .int .i64 4] rfl (by (try simp only [List.map_toArray, List.map_cons, List.map_nil]); first | done | rfl | (simp only [List.length_drop, List.length_take]; rfl)) ?_; (with_reducible refine (slot_Bit.calls 4 4 t108 t109 _ A2.out).mono ?_); rintro e w' ⟨rfl, ⟨nd, rfl⟩⟩; refine ⟨_, rfl, ?_⟩) | ((with_reducible refine gate_callee (f := 10) rfl ?_); refine goesL_ (some 21) rfl rfl Try.func10 (by kernel_rfl) rfl #[.agg #[.int .i64 0, .int .i64 0, .int .i64 0, .int .i64 0, .int .i64 1], .int .i64 9, .int .i64 4] rfl (by (try simp only [List.map_toArray, List.map_cons, List.map_nil]); first | done | rfl | (simp only [List.length_drop, List.length_take]; rfl)) ?_; (with_reducible refine (slot_Alive.calls 0 0 0 0 1 9 4 true t111 _ A3.out).mono ?_); rintro e w19 ⟨rfl, hb⟩; refine ⟨_, rfl, ?_⟩; have n0_ := Aside0.mk (below_step (by repeat (first | (with_reducible first | exact HB.out | apply below_alloc | apply pw_below_drewN | apply below_drew1) | exact HB.out)) hb); clear HB; have HB := n0_; clear n0_; (try clear hb); (try clear hb2); (try clear hk); (try clear hi)) | ((with_reducible refine gate_callee (f := 8) rfl ?_); refine goesL_ (some 25) rfl rfl Try.func8 (by kernel_rfl) rfl #[.int .i64 3, .int .i64 3] rfl (by (try simp only [List.map_toArray, List.map_cons, List.map_nil]); first | done | rfl | (simp only [List.length_drop, List.length_take]; rfl)) ?_; (with_reducible refine (slot_Bit.calls 3 3 t112 t113 _ A4.out).mono ?_); rintro e w' ⟨rfl, ⟨nd, rfl⟩⟩; refine ⟨_, rfl, ?_⟩) | ((with_reducible refine gate_callee (f := 10) rfl ?_); refine goesL_ (some 30) rfl rfl Try.func10 (by kernel_rfl) rfl #[.agg #[.int .i64 0, .int .i64 0, .int .i64 0, .int .i64 0, .int .i64 0], .int .i64 (-1), .int .i64 4] rfl (by (try simp only [List.map_toArray, List.map_cons, List.map_nil]); first | done | rfl | (simp only [List.length_drop, List.length_take]; rfl)) ?_; (with_reducible refine (slot_Alive.calls 0 0 0 0 0 (-1) 4 t114 t115 _ A5.out).mono ?_); rintro e w20 ⟨rfl, hb⟩; refine ⟨_, rfl, ?_⟩; have n0_ := Aside0.mk (below_step (by repeat (first | (with_reducible first | exact HB.out | apply below_alloc | apply pw_below_drewN | apply below_drew1) | exact HB.out)) hb); clear HB; have HB := n0_; clear n0_; (try clear hb); (try clear hb2); (try clear hk); (try clear hi)) | (go_at_call 12; (with_reducible refine (choruslaw0_Num.calls t107 t116 _ A7.out).mono ?_); rintro e w' ⟨rfl, ⟨nd, rfl⟩⟩) | (go_at_call 12; (with_reducible refine (choruslaw0_Num.calls t109 t117 _ A10.out).mono ?_); rintro e w' ⟨rfl, ⟨nd, rfl⟩⟩) | (go_at_call 12; (with_reducible refine (choruslaw0_Num.calls t111 t118 _ A13.out).mono ?_); rintro e w' ⟨rfl, ⟨nd, rfl⟩⟩) | (go_at_call 12; (with_reducible refine (choruslaw0_Num.calls t113 t119 _ A15.out).mono ?_); rintro e w' ⟨rfl, ⟨nd, rfl⟩⟩) | (go_at_call 12; (with_reducible refine (choruslaw0_Num.calls t115 t120 _ A17.out).mono ?_); rintro e w' ⟨rfl, ⟨nd, rfl⟩⟩))
                  go_ret
                  exact ⟨by first | rfl | (simp [errW_none, errW_some] <;> rfl) | (simp [*, errW_none, errW_some] <;> rfl), by repeat (first | (with_reducible first | exact HB.out | apply below_alloc | apply pw_below_drewN | apply below_drew1) | exact HB.out)⟩
                · rw [if_neg c18] at H
                  have c18b0 : (t120 == 900) = false := beq_eq_false_iff_ne.mpr c18
                  have c18b1 : (t120 != 900) = true := bne_iff_ne.mpr c18
                  exact absurd (Option.some.inj H) (by simp)
              · rw [if_neg c16] at H
                have c16b0 : (t119 == 900) = false := beq_eq_false_iff_ne.mpr c16
                have c16b1 : (t119 != 900) = true := bne_iff_ne.mpr c16
                exact absurd (Option.some.inj H) (by simp)
            · rw [if_neg c14] at H
              have c14b0 : (t118 == 0) = false := beq_eq_false_iff_ne.mpr c14
              have c14b1 : (t118 != 0) = true := bne_iff_ne.mpr c14
              exact absurd (Option.some.inj H) (by simp)
          · replace c12 := Bool.eq_false_iff.mpr c12
            subst c12
            have H1 : (some false) = some true := by first | (rw [if_neg (show ¬ (false = true) by decide)] at H; exact H) | rfl
            clear H
            have H := H1
            clear H1
            exact absurd (Option.some.inj H) (by simp)
        · rw [if_neg c11] at H
          have c11b0 : (t117 == 0) = false := beq_eq_false_iff_ne.mpr c11
          have c11b1 : (t117 != 0) = true := bne_iff_ne.mpr c11
          exact absurd (Option.some.inj H) (by simp)
      · rw [if_neg c9] at H
        have c9b0 : (t108 == 0) = false := beq_eq_false_iff_ne.mpr c9
        have c9b1 : (t108 != 0) = true := bne_iff_ne.mpr c9
        exact absurd (Option.some.inj H) (by simp)
    · rw [if_neg c8] at H
      have c8b0 : (t116 == 0) = false := beq_eq_false_iff_ne.mpr c8
      have c8b1 : (t116 != 0) = true := bne_iff_ne.mpr c8
      exact absurd (Option.some.inj H) (by simp)
  · rw [if_neg c6] at H
    have c6b0 : (t106 == 1) = false := beq_eq_false_iff_ne.mpr c6
    have c6b1 : (t106 != 1) = true := bne_iff_ne.mpr c6
    exact absurd (Option.some.inj H) (by simp)

/-! ### choruslaw9_SlotAlive: function 6 -/
def choruslaw9_SlotAlive.f (a0_0 : Int) (a0_1 : Int) (a0_2 : Int) (a0_3 : Int) (a0_4 : Int) (a1 : Int) (a2 : Int) : Option (Bool) := (choruslaw9_awake.f).bind fun t122 => (if t122 = true then (if 0 ≤ (Go.bits .and .i64 a2 3) then ((slot_Bit.f (Go.bits .and .i64 a1 65535) (shl .i64 2 (Go.bits .and .i64 a2 3))).bind fun bt123 => ((slot_Alive.f a0_0 a0_1 a0_2 a0_3 a0_4 (Go.bits .and .i64 a1 65535) (shl .i64 2 (Go.bits .and .i64 a2 3))).bind fun bt125 => ((slot_Alive.f a0_0 a0_1 a0_2 a0_3 a0_4 (wrap64 ((Go.bits .and .i64 a1 65535) + (shl .i64 2 (Go.bits .and .i64 a2 3)))) (shl .i64 2 (Go.bits .and .i64 a2 3))).bind fun bt127 => (if a0_4 = 0 then ((choruslaw0_Num.f bt123.2).bind fun t129 => (if t129 = 0 then ((choruslaw0_Num.f bt125.2).bind fun t130 => (if t130 = 0 then ((choruslaw0_Num.f bt127.2).bind fun t131 => (if t131 = 0 then (if (bt125.1 == (a0_4 == bt123.1)) = true then (if (bt125.1 != bt127.1) = true then (some true) else (some false)) else (some false)) else (some false))) else (some false))) else (some false))) else ((choruslaw0_Num.f bt123.2).bind fun t132 => (if t132 = 0 then ((choruslaw0_Num.f bt125.2).bind fun t133 => (if t133 = 0 then ((choruslaw0_Num.f bt127.2).bind fun t134 => (if t134 = 0 then (if (bt125.1 == (a0_4 == bt123.1)) = true then (if a0_4 = 1 then (if (bt125.1 != bt127.1) = true then (some true) else (some false)) else (if bt125.1 = true then (some false) else (if bt127.1 = true then (some false) else (some true)))) else (some false)) else (some false))) else (some false))) else (some false))))))) else (none)) else (some false))
set_option maxHeartbeats 8000000 in
set_option maxRecDepth 100000 in
theorem choruslaw9_SlotAlive.calls (a0_0 : Int) (a0_1 : Int) (a0_2 : Int) (a0_3 : Int) (a0_4 : Int) (a1 : Int) (a2 : Int) (r : Bool) (w : World) (h : choruslaw9_SlotAlive.f a0_0 a0_1 a0_2 a0_3 a0_4 a1 a2 = some r) (hr_ : r = true := by first | rfl | assumption) :
    Calls Try.prog 6 #[.agg #[.int .i64 a0_0, .int .i64 a0_1, .int .i64 a0_2, .int .i64 a0_3, .int .i64 a0_4], .int .i64 a1, .int .i64 a2] w fun e w' => e = .returned (.bool r) ∧ Below w.heap.size w w' := by
  subst hr_
  have hu25 := Try.underlying25
  have HB := Aside0.mk (Below.refl w.heap.size w)
  have H : ((choruslaw9_awake.f).bind fun t122 => (if t122 = true then (if 0 ≤ (Go.bits .and .i64 a2 3) then ((slot_Bit.f (Go.bits .and .i64 a1 65535) (shl .i64 2 (Go.bits .and .i64 a2 3))).bind fun bt123 => ((slot_Alive.f a0_0 a0_1 a0_2 a0_3 a0_4 (Go.bits .and .i64 a1 65535) (shl .i64 2 (Go.bits .and .i64 a2 3))).bind fun bt125 => ((slot_Alive.f a0_0 a0_1 a0_2 a0_3 a0_4 (wrap64 ((Go.bits .and .i64 a1 65535) + (shl .i64 2 (Go.bits .and .i64 a2 3)))) (shl .i64 2 (Go.bits .and .i64 a2 3))).bind fun bt127 => (if a0_4 = 0 then ((choruslaw0_Num.f bt123.2).bind fun t129 => (if t129 = 0 then ((choruslaw0_Num.f bt125.2).bind fun t130 => (if t130 = 0 then ((choruslaw0_Num.f bt127.2).bind fun t131 => (if t131 = 0 then (if (bt125.1 == (a0_4 == bt123.1)) = true then (if (bt125.1 != bt127.1) = true then (some true) else (some false)) else (some false)) else (some false))) else (some false))) else (some false))) else ((choruslaw0_Num.f bt123.2).bind fun t132 => (if t132 = 0 then ((choruslaw0_Num.f bt125.2).bind fun t133 => (if t133 = 0 then ((choruslaw0_Num.f bt127.2).bind fun t134 => (if t134 = 0 then (if (bt125.1 == (a0_4 == bt123.1)) = true then (if a0_4 = 1 then (if (bt125.1 != bt127.1) = true then (some true) else (some false)) else (if bt125.1 = true then (some false) else (if bt127.1 = true then (some false) else (some true)))) else (some false)) else (some false))) else (some false))) else (some false))))))) else (none)) else (some false))) = some true := h
  clear h
  replace H := Option.bind_eq_some_iff.mp H
  obtain ⟨t122, A40, H⟩ := H
  replace H : (if t122 = true then (if 0 ≤ (Go.bits .and .i64 a2 3) then ((slot_Bit.f (Go.bits .and .i64 a1 65535) (shl .i64 2 (Go.bits .and .i64 a2 3))).bind fun bt123 => ((slot_Alive.f a0_0 a0_1 a0_2 a0_3 a0_4 (Go.bits .and .i64 a1 65535) (shl .i64 2 (Go.bits .and .i64 a2 3))).bind fun bt125 => ((slot_Alive.f a0_0 a0_1 a0_2 a0_3 a0_4 (wrap64 ((Go.bits .and .i64 a1 65535) + (shl .i64 2 (Go.bits .and .i64 a2 3)))) (shl .i64 2 (Go.bits .and .i64 a2 3))).bind fun bt127 => (if a0_4 = 0 then ((choruslaw0_Num.f bt123.2).bind fun t129 => (if t129 = 0 then ((choruslaw0_Num.f bt125.2).bind fun t130 => (if t130 = 0 then ((choruslaw0_Num.f bt127.2).bind fun t131 => (if t131 = 0 then (if (bt125.1 == (a0_4 == bt123.1)) = true then (if (bt125.1 != bt127.1) = true then (some true) else (some false)) else (some false)) else (some false))) else (some false))) else (some false))) else ((choruslaw0_Num.f bt123.2).bind fun t132 => (if t132 = 0 then ((choruslaw0_Num.f bt125.2).bind fun t133 => (if t133 = 0 then ((choruslaw0_Num.f bt127.2).bind fun t134 => (if t134 = 0 then (if (bt125.1 == (a0_4 == bt123.1)) = true then (if a0_4 = 1 then (if (bt125.1 != bt127.1) = true then (some true) else (some false)) else (if bt125.1 = true then (some false) else (if bt127.1 = true then (some false) else (some true)))) else (some false)) else (some false))) else (some false))) else (some false))))))) else (none)) else (some false)) = some true := H
  have A4 := Aside0.mk A40
  clear A40
  by_cases c5 : t122 = true
  · subst c5
    have H1 : (if 0 ≤ (Go.bits .and .i64 a2 3) then ((slot_Bit.f (Go.bits .and .i64 a1 65535) (shl .i64 2 (Go.bits .and .i64 a2 3))).bind fun bt123 => ((slot_Alive.f a0_0 a0_1 a0_2 a0_3 a0_4 (Go.bits .and .i64 a1 65535) (shl .i64 2 (Go.bits .and .i64 a2 3))).bind fun bt125 => ((slot_Alive.f a0_0 a0_1 a0_2 a0_3 a0_4 (wrap64 ((Go.bits .and .i64 a1 65535) + (shl .i64 2 (Go.bits .and .i64 a2 3)))) (shl .i64 2 (Go.bits .and .i64 a2 3))).bind fun bt127 => (if a0_4 = 0 then ((choruslaw0_Num.f bt123.2).bind fun t129 => (if t129 = 0 then ((choruslaw0_Num.f bt125.2).bind fun t130 => (if t130 = 0 then ((choruslaw0_Num.f bt127.2).bind fun t131 => (if t131 = 0 then (if (bt125.1 == (a0_4 == bt123.1)) = true then (if (bt125.1 != bt127.1) = true then (some true) else (some false)) else (some false)) else (some false))) else (some false))) else (some false))) else ((choruslaw0_Num.f bt123.2).bind fun t132 => (if t132 = 0 then ((choruslaw0_Num.f bt125.2).bind fun t133 => (if t133 = 0 then ((choruslaw0_Num.f bt127.2).bind fun t134 => (if t134 = 0 then (if (bt125.1 == (a0_4 == bt123.1)) = true then (if a0_4 = 1 then (if (bt125.1 != bt127.1) = true then (some true) else (some false)) else (if bt125.1 = true then (some false) else (if bt127.1 = true then (some false) else (some true)))) else (some false)) else (some false))) else (some false))) else (some false))))))) else (none)) = some true := by first | (rw [if_pos rfl] at H; exact H) | rfl
    clear H
    have H := H1
    clear H1
    by_cases c6 : 0 ≤ (Go.bits .and .i64 a2 3)
    · rw [if_pos c6] at H
      have c6b0 := eq_true c6
      have c6b1 : decide (0 ≤ (Go.bits .and .i64 a2 3)) = true := decide_eq_true c6
      clear c6
      obtain ⟨ji7, hji7⟩ : ∃ j_ : Int, (shl .i64 2 (Go.bits .and .i64 a2 3)) = j_ := ⟨_, rfl⟩
      replace H : ((slot_Bit.f (Go.bits .and .i64 a1 65535) (ji7)).bind fun bt123 => ((slot_Alive.f a0_0 a0_1 a0_2 a0_3 a0_4 (Go.bits .and .i64 a1 65535) (ji7)).bind fun bt125 => ((slot_Alive.f a0_0 a0_1 a0_2 a0_3 a0_4 (wrap64 ((Go.bits .and .i64 a1 65535) + (ji7))) (ji7)).bind fun bt127 => (if a0_4 = 0 then ((choruslaw0_Num.f bt123.2).bind fun t129 => (if t129 = 0 then ((choruslaw0_Num.f bt125.2).bind fun t130 => (if t130 = 0 then ((choruslaw0_Num.f bt127.2).bind fun t131 => (if t131 = 0 then (if (bt125.1 == (a0_4 == bt123.1)) = true then (if (bt125.1 != bt127.1) = true then (some true) else (some false)) else (some false)) else (some false))) else (some false))) else (some false))) else ((choruslaw0_Num.f bt123.2).bind fun t132 => (if t132 = 0 then ((choruslaw0_Num.f bt125.2).bind fun t133 => (if t133 = 0 then ((choruslaw0_Num.f bt127.2).bind fun t134 => (if t134 = 0 then (if (bt125.1 == (a0_4 == bt123.1)) = true then (if a0_4 = 1 then (if (bt125.1 != bt127.1) = true then (some true) else (some false)) else (if bt125.1 = true then (some false) else (if bt127.1 = true then (some false) else (some true)))) else (some false)) else (some false))) else (some false))) else (some false))))))) = some true := by first | (rw [hji7] at H; exact H) | (simp only [hji7] at H ⊢; exact H)
      (try rw [hji7] at A4)
      have hji7_ : (IntKind.i64.wrap (2 * 2 ^ min (Go.bits .and .i64 a2 3).toNat 64)) = ji7 := hji7
      have hji7z : (Go.bits .and .i64 a2 3) ≤ 64 → (IntKind.i64.wrap (2 * 2 ^ (Go.bits .and .i64 a2 3).toNat)) = ji7 := shl_small hji7
      have hji7y : (wrap64 (2 * 2 ^ min (Go.bits .and .i64 a2 3).toNat 64)) = ji7 := (i64_w _).symm.trans hji7_
      have hji7x : (Go.bits .and .i64 a2 3) ≤ 64 → (wrap64 (2 * 2 ^ (Go.bits .and .i64 a2 3).toNat)) = ji7 := fun h_ => (i64_w _).symm.trans (hji7z h_)
      replace H := Option.bind_eq_some_iff.mp H
      obtain ⟨⟨t123, t124⟩, A80, H⟩ := H
      replace H : ((slot_Alive.f a0_0 a0_1 a0_2 a0_3 a0_4 (Go.bits .and .i64 a1 65535) (ji7)).bind fun bt125 => ((slot_Alive.f a0_0 a0_1 a0_2 a0_3 a0_4 (wrap64 ((Go.bits .and .i64 a1 65535) + (ji7))) (ji7)).bind fun bt127 => (if a0_4 = 0 then ((choruslaw0_Num.f t124).bind fun t129 => (if t129 = 0 then ((choruslaw0_Num.f bt125.2).bind fun t130 => (if t130 = 0 then ((choruslaw0_Num.f bt127.2).bind fun t131 => (if t131 = 0 then (if (bt125.1 == (a0_4 == t123)) = true then (if (bt125.1 != bt127.1) = true then (some true) else (some false)) else (some false)) else (some false))) else (some false))) else (some false))) else ((choruslaw0_Num.f t124).bind fun t132 => (if t132 = 0 then ((choruslaw0_Num.f bt125.2).bind fun t133 => (if t133 = 0 then ((choruslaw0_Num.f bt127.2).bind fun t134 => (if t134 = 0 then (if (bt125.1 == (a0_4 == t123)) = true then (if a0_4 = 1 then (if (bt125.1 != bt127.1) = true then (some true) else (some false)) else (if bt125.1 = true then (some false) else (if bt127.1 = true then (some false) else (some true)))) else (some false)) else (some false))) else (some false))) else (some false)))))) = some true := H
      have A8 := Aside0.mk A80
      clear A80
      replace H := Option.bind_eq_some_iff.mp H
      obtain ⟨⟨t125, t126⟩, A90, H⟩ := H
      replace H : ((slot_Alive.f a0_0 a0_1 a0_2 a0_3 a0_4 (wrap64 ((Go.bits .and .i64 a1 65535) + (ji7))) (ji7)).bind fun bt127 => (if a0_4 = 0 then ((choruslaw0_Num.f t124).bind fun t129 => (if t129 = 0 then ((choruslaw0_Num.f t126).bind fun t130 => (if t130 = 0 then ((choruslaw0_Num.f bt127.2).bind fun t131 => (if t131 = 0 then (if (t125 == (a0_4 == t123)) = true then (if (t125 != bt127.1) = true then (some true) else (some false)) else (some false)) else (some false))) else (some false))) else (some false))) else ((choruslaw0_Num.f t124).bind fun t132 => (if t132 = 0 then ((choruslaw0_Num.f t126).bind fun t133 => (if t133 = 0 then ((choruslaw0_Num.f bt127.2).bind fun t134 => (if t134 = 0 then (if (t125 == (a0_4 == t123)) = true then (if a0_4 = 1 then (if (t125 != bt127.1) = true then (some true) else (some false)) else (if t125 = true then (some false) else (if bt127.1 = true then (some false) else (some true)))) else (some false)) else (some false))) else (some false))) else (some false))))) = some true := H
      have A9 := Aside0.mk A90
      clear A90
      replace H := Option.bind_eq_some_iff.mp H
      obtain ⟨⟨t127, t128⟩, A100, H⟩ := H
      replace H : (if a0_4 = 0 then ((choruslaw0_Num.f t124).bind fun t129 => (if t129 = 0 then ((choruslaw0_Num.f t126).bind fun t130 => (if t130 = 0 then ((choruslaw0_Num.f t128).bind fun t131 => (if t131 = 0 then (if (t125 == (a0_4 == t123)) = true then (if (t125 != t127) = true then (some true) else (some false)) else (some false)) else (some false))) else (some false))) else (some false))) else ((choruslaw0_Num.f t124).bind fun t132 => (if t132 = 0 then ((choruslaw0_Num.f t126).bind fun t133 => (if t133 = 0 then ((choruslaw0_Num.f t128).bind fun t134 => (if t134 = 0 then (if (t125 == (a0_4 == t123)) = true then (if a0_4 = 1 then (if (t125 != t127) = true then (some true) else (some false)) else (if t125 = true then (some false) else (if t127 = true then (some false) else (some true)))) else (some false)) else (some false))) else (some false))) else (some false)))) = some true := H
      have A10 := Aside0.mk A100
      clear A100
      by_cases c11 : a0_4 = 0
      · rw [if_pos c11] at H
        have c11b0 : (a0_4 == 0) = true := beq_iff_eq.mpr c11
        have c11b1 : (a0_4 != 0) = false := bne_eq_false_iff_eq.mpr c11
        clear c11
        replace H := Option.bind_eq_some_iff.mp H
        obtain ⟨t129, A120, H⟩ := H
        replace H : (if t129 = 0 then ((choruslaw0_Num.f t126).bind fun t130 => (if t130 = 0 then ((choruslaw0_Num.f t128).bind fun t131 => (if t131 = 0 then (if (t125 == (a0_4 == t123)) = true then (if (t125 != t127) = true then (some true) else (some false)) else (some false)) else (some false))) else (some false))) else (some false)) = some true := H
        have A12 := Aside0.mk A120
        clear A120
        by_cases c13 : t129 = 0
        · rw [if_pos c13] at H
          have c13b0 : (t129 == 0) = true := beq_iff_eq.mpr c13
          have c13b1 : (t129 != 0) = false := bne_eq_false_iff_eq.mpr c13
          clear c13
          replace H := Option.bind_eq_some_iff.mp H
          obtain ⟨t130, A140, H⟩ := H
          replace H : (if t130 = 0 then ((choruslaw0_Num.f t128).bind fun t131 => (if t131 = 0 then (if (t125 == (a0_4 == t123)) = true then (if (t125 != t127) = true then (some true) else (some false)) else (some false)) else (some false))) else (some false)) = some true := H
          have A14 := Aside0.mk A140
          clear A140
          by_cases c15 : t130 = 0
          · rw [if_pos c15] at H
            have c15b0 : (t130 == 0) = true := beq_iff_eq.mpr c15
            have c15b1 : (t130 != 0) = false := bne_eq_false_iff_eq.mpr c15
            clear c15
            replace H := Option.bind_eq_some_iff.mp H
            obtain ⟨t131, A160, H⟩ := H
            replace H : (if t131 = 0 then (if (t125 == (a0_4 == t123)) = true then (if (t125 != t127) = true then (some true) else (some false)) else (some false)) else (some false)) = some true := H
            have A16 := Aside0.mk A160
            clear A160
            by_cases c17 : t131 = 0
            · rw [if_pos c17] at H
              have c17b0 : (t131 == 0) = true := beq_iff_eq.mpr c17
              have c17b1 : (t131 != 0) = false := bne_eq_false_iff_eq.mpr c17
              clear c17
              by_cases c18 : (t125 == (a0_4 == t123)) = true
              · rw [if_pos c18] at H
                have c18b0 : (t125 == (a0_4 == t123)) = true := c18
                (try (have c18b1 : decide (t125 = (a0_4 == t123)) = true := by simpa using c18))
                (try (have c18b2 : (t125 == (a0_4 == t123)) = true := by simpa using c18))
                clear c18
                by_cases c19 : (t125 != t127) = true
                · rw [if_pos c19] at H
                  have c19b0 : (t125 != t127) = true := c19
                  (try (have c19b1 : decide (t125 = t127) = false := by simpa using c19))
                  (try (have c19b2 : (t125 == t127) = false := by simpa using c19))
                  (try (have c19b3 : ¬ (t125 = t127) := by simpa using c19))
                  clear c19
                  clear H
                  go_enter Try.func6, Try.ntmps6
                  (try simp only [List.append_eq, List.cons_append, List.nil_append])
                  go_wp2_with (first | ((with_reducible refine gate_dst (N := 3) rfl ?_); refine box_event ?hg (N := 3) ?hd (cs := #[.int .i64 a0_0, .int .i64 a0_1, .int .i64 a0_2, .int .i64 a0_3, .int .i64 a0_4]) (t := 25) ?hr ?_; (case hd => rfl); (case hg => rfl); (case hr => first | (go_simp; done) | (go_simp; rfl)); intro gb121 hg w20 hbox hb; have n0_ := Aside0.mk (below_step (by repeat (first | (with_reducible first | exact HB.out | apply below_alloc | apply pw_below_drewN | apply below_drew1) | exact HB.out)) hb); have n1_ := Aside0.mk (hbox); have n2_ := Aside0.mk ((by rw [hg]; exact (below_size (by repeat (first | (with_reducible first | exact HB.out | apply below_alloc | apply pw_below_drewN | apply below_drew1) | exact HB.out))) : w.heap.size ≤ gb121)); have n3_ := Aside0.mk ((by rw [hg]; exact (below_size (by repeat (first | (with_reducible first | exact HB.out | apply below_alloc | apply pw_below_drewN | apply below_drew1) | exact HB.out))) : w.heap.size ≤ gb121)); clear HB; have HB := n0_; have BK121 := n1_; have GW121 := n2_; have GE121 := n3_; clear n0_ n1_ n2_ n3_; clear hb hbox hg) | ((with_reducible refine gate_callee (f := 13) rfl ?_); refine goesL_ (some 16) rfl rfl Try.func13 (by kernel_rfl) rfl #[] rfl (by (try simp only [List.map_toArray, List.map_cons, List.map_nil]); first | done | rfl | (simp only [List.length_drop, List.length_take]; rfl)) ?_; (with_reducible refine (choruslaw9_awake.calls  true _ A4.out).mono ?_); rintro e w21 ⟨rfl, hb⟩; refine ⟨_, rfl, ?_⟩; have n0_ := Aside0.mk (blk_below (g := gb121) (o := .cells #[.int .i64 a0_0, .int .i64 a0_1, .int .i64 a0_2, .int .i64 a0_3, .int .i64 a0_4] 25 (0, 0)) (by (with_reducible repeat (first | refine blk_drewN ?_ _ | refine blk_drew ?_ | refine blk_alloc ?_ _)); exact BK121.out) hb); have n1_ := Aside0.mk (below_step (by repeat (first | (with_reducible first | exact HB.out | apply below_alloc | apply pw_below_drewN | apply below_drew1 | refine below_set ?_ GE121.out) | exact HB.out)) hb); clear BK121; clear HB; have BK121 := n0_; have HB := n1_; clear n0_ n1_; (try clear hb); (try clear hb2); (try clear hk); (try clear hi)) | ((with_reducible refine gate_callee (f := 8) rfl ?_); refine goesL_ (some 26) rfl rfl Try.func8 (by kernel_rfl) rfl #[.int .i64 (Go.bits .and .i64 a1 65535), .int .i64 ji7] rfl (by (try simp only [List.map_toArray, List.map_cons, List.map_nil]); first | done | (simp only [hji7]; rfl) | rfl | (simp only [List.length_drop, List.length_take]; rfl)) ?_; (with_reducible refine (slot_Bit.calls (Go.bits .and .i64 a1 65535) ji7 t123 t124 _ A8.out).mono ?_); rintro e w' ⟨rfl, ⟨nd, rfl⟩⟩; refine ⟨_, rfl, ?_⟩; have hcz22_0 : w21.cell? ⟨gb121, 0, none⟩ = some (.int .i64 a0_0) := (blk_cell BK121.out 0).trans rfl; have hcz22_1 : w21.cell? ⟨gb121, 1, none⟩ = some (.int .i64 a0_1) := (blk_cell BK121.out 1).trans rfl; have hcz22_2 : w21.cell? ⟨gb121, 2, none⟩ = some (.int .i64 a0_2) := (blk_cell BK121.out 2).trans rfl; have hcz22_3 : w21.cell? ⟨gb121, 3, none⟩ = some (.int .i64 a0_3) := (blk_cell BK121.out 3).trans rfl; have hcz22_4 : w21.cell? ⟨gb121, 4, none⟩ = some (.int .i64 a0_4) := (blk_cell BK121.out 4).trans rfl; have hfz22_0 := blk_frozen BK121.out 0; have hfz22_1 := blk_frozen BK121.out 1; have hfz22_2 := blk_frozen BK121.out 2; have hfz22_3 := blk_frozen BK121.out 3; have hfz22_4 := blk_frozen BK121.out 4) | ((with_reducible refine gate_callee (f := 10) rfl ?_); refine goesL_ (some 33) rfl rfl Try.func10 (by kernel_rfl) rfl #[.agg #[.int .i64 a0_0, .int .i64 a0_1, .int .i64 a0_2, .int .i64 a0_3, .int .i64 a0_4], .int .i64 (Go.bits .and .i64 a1 65535), .int .i64 ji7] rfl (by (try simp only [List.map_toArray, List.map_cons, List.map_nil]); first | done | (simp only [hji7]; rfl) | rfl | (simp only [List.length_drop, List.length_take]; rfl)) ?_; (with_reducible refine (slot_Alive.calls a0_0 a0_1 a0_2 a0_3 a0_4 (Go.bits .and .i64 a1 65535) ji7 t125 t126 _ A9.out).mono ?_); rintro e w23 ⟨rfl, hb⟩; refine ⟨_, rfl, ?_⟩; have n0_ := Aside0.mk (blk_below (g := gb121) (o := .cells #[.int .i64 a0_0, .int .i64 a0_1, .int .i64 a0_2, .int .i64 a0_3, .int .i64 a0_4] 25 (0, 0)) (by (with_reducible repeat (first | refine blk_drewN ?_ _ | refine blk_drew ?_ | refine blk_alloc ?_ _)); exact BK121.out) hb); have n1_ := Aside0.mk (below_step (by repeat (first | (with_reducible first | exact HB.out | apply below_alloc | apply pw_below_drewN | apply below_drew1 | refine below_set ?_ GE121.out) | exact HB.out)) hb); clear BK121; clear HB; have BK121 := n0_; have HB := n1_; clear n0_ n1_; (try clear hb); (try clear hb2); (try clear hk); (try clear hi); have hcz24_0 : w23.cell? ⟨gb121, 0, none⟩ = some (.int .i64 a0_0) := (blk_cell BK121.out 0).trans rfl; have hcz24_1 : w23.cell? ⟨gb121, 1, none⟩ = some (.int .i64 a0_1) := (blk_cell BK121.out 1).trans rfl; have hcz24_2 : w23.cell? ⟨gb121, 2, none⟩ = some (.int .i64 a0_2) := (blk_cell BK121.out 2).trans rfl; have hcz24_3 : w23.cell? ⟨gb121, 3, none⟩ = some (.int .i64 a0_3) := (blk_cell BK121.out 3).trans rfl; have hcz24_4 : w23.cell? ⟨gb121, 4, none⟩ = some (.int .i64 a0_4) := (blk_cell BK121.out 4).trans rfl; have hfz24_0 := blk_frozen BK121.out 0; have hfz24_1 := blk_frozen BK121.out 1; have hfz24_2 := blk_frozen BK121.out 2; have hfz24_3 := blk_frozen BK121.out 3; have hfz24_4 := blk_frozen BK121.out 4) | ((with_reducible refine gate_callee (f := 10) rfl ?_); refine goesL_ (some 42) rfl rfl Try.func10 (by kernel_rfl) rfl #[.agg #[.int .i64 a0_0, .int .i64 a0_1, .int .i64 a0_2, .int .i64 a0_3, .int .i64 a0_4], .int .i64 (wrap64 ((Go.bits .and .i64 a1 65535) + (ji7))), .int .i64 ji7] rfl (by (try simp only [List.map_toArray, List.map_cons, List.map_nil]); first | done | (simp only [hji7]; rfl) | rfl | (simp only [List.length_drop, List.length_take]; rfl)) ?_; (with_reducible refine (slot_Alive.calls a0_0 a0_1 a0_2 a0_3 a0_4 (wrap64 ((Go.bits .and .i64 a1 65535) + (ji7))) ji7 t127 t128 _ A10.out).mono ?_); rintro e w25 ⟨rfl, hb⟩; refine ⟨_, rfl, ?_⟩; have n0_ := Aside0.mk (blk_below (g := gb121) (o := .cells #[.int .i64 a0_0, .int .i64 a0_1, .int .i64 a0_2, .int .i64 a0_3, .int .i64 a0_4] 25 (0, 0)) (by (with_reducible repeat (first | refine blk_drewN ?_ _ | refine blk_drew ?_ | refine blk_alloc ?_ _)); exact BK121.out) hb); have n1_ := Aside0.mk (below_step (by repeat (first | (with_reducible first | exact HB.out | apply below_alloc | apply pw_below_drewN | apply below_drew1 | refine below_set ?_ GE121.out) | exact HB.out)) hb); clear BK121; clear HB; have BK121 := n0_; have HB := n1_; clear n0_ n1_; (try clear hb); (try clear hb2); (try clear hk); (try clear hi); have hcz26_0 : w25.cell? ⟨gb121, 0, none⟩ = some (.int .i64 a0_0) := (blk_cell BK121.out 0).trans rfl; have hcz26_1 : w25.cell? ⟨gb121, 1, none⟩ = some (.int .i64 a0_1) := (blk_cell BK121.out 1).trans rfl; have hcz26_2 : w25.cell? ⟨gb121, 2, none⟩ = some (.int .i64 a0_2) := (blk_cell BK121.out 2).trans rfl; have hcz26_3 : w25.cell? ⟨gb121, 3, none⟩ = some (.int .i64 a0_3) := (blk_cell BK121.out 3).trans rfl; have hcz26_4 : w25.cell? ⟨gb121, 4, none⟩ = some (.int .i64 a0_4) := (blk_cell BK121.out 4).trans rfl; have hfz26_0 := blk_frozen BK121.out 0; have hfz26_1 := blk_frozen BK121.out 1; have hfz26_2 := blk_frozen BK121.out 2; have hfz26_3 := blk_frozen BK121.out 3; have hfz26_4 := blk_frozen BK121.out 4) | ((with_reducible refine gate_callee (f := 12) rfl ?_); refine goesL_ (some 54) rfl rfl Try.func12 (by kernel_rfl) rfl #[.int .i64 t124] rfl (by (try simp only [List.map_toArray, List.map_cons, List.map_nil]); first | done | rfl | (simp only [List.length_drop, List.length_take]; rfl)) ?_; (with_reducible refine (choruslaw0_Num.calls t124 t129 _ A12.out).mono ?_); rintro e w' ⟨rfl, ⟨nd, rfl⟩⟩; refine ⟨_, rfl, ?_⟩) | (go_at_call 12; (with_reducible refine (choruslaw0_Num.calls t126 t130 _ A14.out).mono ?_); rintro e w' ⟨rfl, ⟨nd, rfl⟩⟩) | (go_at_call 12; (with_reducible refine (choruslaw0_Num.calls t128 t131 _ A16.out).mono ?_); rintro e w' ⟨rfl, ⟨nd, rfl⟩⟩))
                  go_ret
                  exact ⟨by first | rfl | (simp [errW_none, errW_some] <;> rfl) | (simp only [← hji7]; first | rfl | (simp [errW_none, errW_some] <;> rfl)) | (simp [*, errW_none, errW_some] <;> rfl), by repeat (first | (with_reducible first | exact HB.out | apply below_alloc | apply pw_below_drewN | apply below_drew1 | refine below_set ?_ GE121.out) | exact HB.out)⟩
                · rw [if_neg c19] at H
                  have c19b0 : (t125 != t127) = false := by simpa using c19
                  (try (have c19b1 : decide (t125 = t127) = true := by simpa using c19))
                  (try (have c19b2 : (t125 == t127) = true := by simpa using c19))
                  clear c19
                  exact absurd (Option.some.inj H) (by simp)
              · rw [if_neg c18] at H
                have c18b0 : (t125 == (a0_4 == t123)) = false := by simpa using c18
                (try (have c18b1 : decide (t125 = (a0_4 == t123)) = false := by simpa using c18))
                (try (have c18b2 : (t125 == (a0_4 == t123)) = false := by simpa using c18))
                (try (have c18b3 : ¬ (t125 = (a0_4 == t123)) := by simpa using c18))
                clear c18
                exact absurd (Option.some.inj H) (by simp)
            · rw [if_neg c17] at H
              have c17b0 : (t131 == 0) = false := beq_eq_false_iff_ne.mpr c17
              have c17b1 : (t131 != 0) = true := bne_iff_ne.mpr c17
              exact absurd (Option.some.inj H) (by simp)
          · rw [if_neg c15] at H
            have c15b0 : (t130 == 0) = false := beq_eq_false_iff_ne.mpr c15
            have c15b1 : (t130 != 0) = true := bne_iff_ne.mpr c15
            exact absurd (Option.some.inj H) (by simp)
        · rw [if_neg c13] at H
          have c13b0 : (t129 == 0) = false := beq_eq_false_iff_ne.mpr c13
          have c13b1 : (t129 != 0) = true := bne_iff_ne.mpr c13
          exact absurd (Option.some.inj H) (by simp)
      · rw [if_neg c11] at H
        have c11b0 : (a0_4 == 0) = false := beq_eq_false_iff_ne.mpr c11
        have c11b1 : (a0_4 != 0) = true := bne_iff_ne.mpr c11
        replace H := Option.bind_eq_some_iff.mp H
        obtain ⟨t132, A270, H⟩ := H
        replace H : (if t132 = 0 then ((choruslaw0_Num.f t126).bind fun t133 => (if t133 = 0 then ((choruslaw0_Num.f t128).bind fun t134 => (if t134 = 0 then (if (t125 == (a0_4 == t123)) = true then (if a0_4 = 1 then (if (t125 != t127) = true then (some true) else (some false)) else (if t125 = true then (some false) else (if t127 = true then (some false) else (some true)))) else (some false)) else (some false))) else (some false))) else (some false)) = some true := H
        have A27 := Aside0.mk A270
        clear A270
        by_cases c28 : t132 = 0
        · rw [if_pos c28] at H
          have c28b0 : (t132 == 0) = true := beq_iff_eq.mpr c28
          have c28b1 : (t132 != 0) = false := bne_eq_false_iff_eq.mpr c28
          clear c28
          replace H := Option.bind_eq_some_iff.mp H
          obtain ⟨t133, A290, H⟩ := H
          replace H : (if t133 = 0 then ((choruslaw0_Num.f t128).bind fun t134 => (if t134 = 0 then (if (t125 == (a0_4 == t123)) = true then (if a0_4 = 1 then (if (t125 != t127) = true then (some true) else (some false)) else (if t125 = true then (some false) else (if t127 = true then (some false) else (some true)))) else (some false)) else (some false))) else (some false)) = some true := H
          have A29 := Aside0.mk A290
          clear A290
          by_cases c30 : t133 = 0
          · rw [if_pos c30] at H
            have c30b0 : (t133 == 0) = true := beq_iff_eq.mpr c30
            have c30b1 : (t133 != 0) = false := bne_eq_false_iff_eq.mpr c30
            clear c30
            replace H := Option.bind_eq_some_iff.mp H
            obtain ⟨t134, A310, H⟩ := H
            replace H : (if t134 = 0 then (if (t125 == (a0_4 == t123)) = true then (if a0_4 = 1 then (if (t125 != t127) = true then (some true) else (some false)) else (if t125 = true then (some false) else (if t127 = true then (some false) else (some true)))) else (some false)) else (some false)) = some true := H
            have A31 := Aside0.mk A310
            clear A310
            by_cases c32 : t134 = 0
            · rw [if_pos c32] at H
              have c32b0 : (t134 == 0) = true := beq_iff_eq.mpr c32
              have c32b1 : (t134 != 0) = false := bne_eq_false_iff_eq.mpr c32
              clear c32
              by_cases c33 : (t125 == (a0_4 == t123)) = true
              · rw [if_pos c33] at H
                have c33b0 : (t125 == (a0_4 == t123)) = true := c33
                (try (have c33b1 : decide (t125 = (a0_4 == t123)) = true := by simpa using c33))
                (try (have c33b2 : (t125 == (a0_4 == t123)) = true := by simpa using c33))
                clear c33
                by_cases c34 : a0_4 = 1
                · rw [if_pos c34] at H
                  have c34b0 : (a0_4 == 1) = true := beq_iff_eq.mpr c34
                  have c34b1 : (a0_4 != 1) = false := bne_eq_false_iff_eq.mpr c34
                  clear c34
                  by_cases c35 : (t125 != t127) = true
                  · rw [if_pos c35] at H
                    have c35b0 : (t125 != t127) = true := c35
                    (try (have c35b1 : decide (t125 = t127) = false := by simpa using c35))
                    (try (have c35b2 : (t125 == t127) = false := by simpa using c35))
                    (try (have c35b3 : ¬ (t125 = t127) := by simpa using c35))
                    clear c35
                    clear H
                    go_enter Try.func6, Try.ntmps6
                    (try simp only [List.append_eq, List.cons_append, List.nil_append])
                    go_wp2_with (first | ((with_reducible refine gate_dst (N := 3) rfl ?_); refine box_event ?hg (N := 3) ?hd (cs := #[.int .i64 a0_0, .int .i64 a0_1, .int .i64 a0_2, .int .i64 a0_3, .int .i64 a0_4]) (t := 25) ?hr ?_; (case hd => rfl); (case hg => rfl); (case hr => first | (go_simp; done) | (go_simp; rfl)); intro gb121 hg w36 hbox hb; have n0_ := Aside0.mk (below_step (by repeat (first | (with_reducible first | exact HB.out | apply below_alloc | apply pw_below_drewN | apply below_drew1) | exact HB.out)) hb); have n1_ := Aside0.mk (hbox); have n2_ := Aside0.mk ((by rw [hg]; exact (below_size (by repeat (first | (with_reducible first | exact HB.out | apply below_alloc | apply pw_below_drewN | apply below_drew1) | exact HB.out))) : w.heap.size ≤ gb121)); have n3_ := Aside0.mk ((by rw [hg]; exact (below_size (by repeat (first | (with_reducible first | exact HB.out | apply below_alloc | apply pw_below_drewN | apply below_drew1) | exact HB.out))) : w.heap.size ≤ gb121)); clear HB; have HB := n0_; have BK121 := n1_; have GW121 := n2_; have GE121 := n3_; clear n0_ n1_ n2_ n3_; clear hb hbox hg) | ((with_reducible refine gate_callee (f := 13) rfl ?_); refine goesL_ (some 16) rfl rfl Try.func13 (by kernel_rfl) rfl #[] rfl (by (try simp only [List.map_toArray, List.map_cons, List.map_nil]); first | done | rfl | (simp only [List.length_drop, List.length_take]; rfl)) ?_; (with_reducible refine (choruslaw9_awake.calls  true _ A4.out).mono ?_); rintro e w37 ⟨rfl, hb⟩; refine ⟨_, rfl, ?_⟩; have n0_ := Aside0.mk (blk_below (g := gb121) (o := .cells #[.int .i64 a0_0, .int .i64 a0_1, .int .i64 a0_2, .int .i64 a0_3, .int .i64 a0_4] 25 (0, 0)) (by (with_reducible repeat (first | refine blk_drewN ?_ _ | refine blk_drew ?_ | refine blk_alloc ?_ _)); exact BK121.out) hb); have n1_ := Aside0.mk (below_step (by repeat (first | (with_reducible first | exact HB.out | apply below_alloc | apply pw_below_drewN | apply below_drew1 | refine below_set ?_ GE121.out) | exact HB.out)) hb); clear BK121; clear HB; have BK121 := n0_; have HB := n1_; clear n0_ n1_; (try clear hb); (try clear hb2); (try clear hk); (try clear hi)) | ((with_reducible refine gate_callee (f := 8) rfl ?_); refine goesL_ (some 26) rfl rfl Try.func8 (by kernel_rfl) rfl #[.int .i64 (Go.bits .and .i64 a1 65535), .int .i64 ji7] rfl (by (try simp only [List.map_toArray, List.map_cons, List.map_nil]); first | done | (simp only [hji7]; rfl) | rfl | (simp only [List.length_drop, List.length_take]; rfl)) ?_; (with_reducible refine (slot_Bit.calls (Go.bits .and .i64 a1 65535) ji7 t123 t124 _ A8.out).mono ?_); rintro e w' ⟨rfl, ⟨nd, rfl⟩⟩; refine ⟨_, rfl, ?_⟩; have hcz38_0 : w37.cell? ⟨gb121, 0, none⟩ = some (.int .i64 a0_0) := (blk_cell BK121.out 0).trans rfl; have hcz38_1 : w37.cell? ⟨gb121, 1, none⟩ = some (.int .i64 a0_1) := (blk_cell BK121.out 1).trans rfl; have hcz38_2 : w37.cell? ⟨gb121, 2, none⟩ = some (.int .i64 a0_2) := (blk_cell BK121.out 2).trans rfl; have hcz38_3 : w37.cell? ⟨gb121, 3, none⟩ = some (.int .i64 a0_3) := (blk_cell BK121.out 3).trans rfl; have hcz38_4 : w37.cell? ⟨gb121, 4, none⟩ = some (.int .i64 a0_4) := (blk_cell BK121.out 4).trans rfl; have hfz38_0 := blk_frozen BK121.out 0; have hfz38_1 := blk_frozen BK121.out 1; have hfz38_2 := blk_frozen BK121.out 2; have hfz38_3 := blk_frozen BK121.out 3; have hfz38_4 := blk_frozen BK121.out 4) | ((with_reducible refine gate_callee (f := 10) rfl ?_); refine goesL_ (some 33) rfl rfl Try.func10 (by kernel_rfl) rfl #[.agg #[.int .i64 a0_0, .int .i64 a0_1, .int .i64 a0_2, .int .i64 a0_3, .int .i64 a0_4], .int .i64 (Go.bits .and .i64 a1 65535), .int .i64 ji7] rfl (by (try simp only [List.map_toArray, List.map_cons, List.map_nil]); first | done | (simp only [hji7]; rfl) | rfl | (simp only [List.length_drop, List.length_take]; rfl)) ?_; (with_reducible refine (slot_Alive.calls a0_0 a0_1 a0_2 a0_3 a0_4 (Go.bits .and .i64 a1 65535) ji7 t125 t126 _ A9.out).mono ?_); rintro e w39 ⟨rfl, hb⟩; refine ⟨_, rfl, ?_⟩; have n0_ := Aside0.mk (blk_below (g := gb121) (o := .cells #[.int .i64 a0_0, .int .i64 a0_1, .int .i64 a0_2, .int .i64 a0_3, .int .i64 a0_4] 25 (0, 0)) (by (with_reducible repeat (first | refine blk_drewN ?_ _ | refine blk_drew ?_ | refine blk_alloc ?_ _)); exact BK121.out) hb); have n1_ := Aside0.mk (below_step (by repeat (first | (with_reducible first | exact HB.out | apply below_alloc | apply pw_below_drewN | apply below_drew1 | refine below_set ?_ GE121.out) | exact HB.out)) hb); clear BK121; clear HB; have BK121 := n0_; have HB := n1_; clear n0_ n1_; (try clear hb); (try clear hb2); (try clear hk); (try clear hi); have hcz40_0 : w39.cell? ⟨gb121, 0, none⟩ = some (.int .i64 a0_0) := (blk_cell BK121.out 0).trans rfl; have hcz40_1 : w39.cell? ⟨gb121, 1, none⟩ = some (.int .i64 a0_1) := (blk_cell BK121.out 1).trans rfl; have hcz40_2 : w39.cell? ⟨gb121, 2, none⟩ = some (.int .i64 a0_2) := (blk_cell BK121.out 2).trans rfl; have hcz40_3 : w39.cell? ⟨gb121, 3, none⟩ = some (.int .i64 a0_3) := (blk_cell BK121.out 3).trans rfl; have hcz40_4 : w39.cell? ⟨gb121, 4, none⟩ = some (.int .i64 a0_4) := (blk_cell BK121.out 4).trans rfl; have hfz40_0 := blk_frozen BK121.out 0; have hfz40_1 := blk_frozen BK121.out 1; have hfz40_2 := blk_frozen BK121.out 2; have hfz40_3 := blk_frozen BK121.out 3; have hfz40_4 := blk_frozen BK121.out 4) | ((with_reducible refine gate_callee (f := 10) rfl ?_); refine goesL_ (some 42) rfl rfl Try.func10 (by kernel_rfl) rfl #[.agg #[.int .i64 a0_0, .int .i64 a0_1, .int .i64 a0_2, .int .i64 a0_3, .int .i64 a0_4], .int .i64 (wrap64 ((Go.bits .and .i64 a1 65535) + (ji7))), .int .i64 ji7] rfl (by (try simp only [List.map_toArray, List.map_cons, List.map_nil]); first | done | (simp only [hji7]; rfl) | rfl | (simp only [List.length_drop, List.length_take]; rfl)) ?_; (with_reducible refine (slot_Alive.calls a0_0 a0_1 a0_2 a0_3 a0_4 (wrap64 ((Go.bits .and .i64 a1 65535) + (ji7))) ji7 t127 t128 _ A10.out).mono ?_); rintro e w41 ⟨rfl, hb⟩; refine ⟨_, rfl, ?_⟩; have n0_ := Aside0.mk (blk_below (g := gb121) (o := .cells #[.int .i64 a0_0, .int .i64 a0_1, .int .i64 a0_2, .int .i64 a0_3, .int .i64 a0_4] 25 (0, 0)) (by (with_reducible repeat (first | refine blk_drewN ?_ _ | refine blk_drew ?_ | refine blk_alloc ?_ _)); exact BK121.out) hb); have n1_ := Aside0.mk (below_step (by repeat (first | (with_reducible first | exact HB.out | apply below_alloc | apply pw_below_drewN | apply below_drew1 | refine below_set ?_ GE121.out) | exact HB.out)) hb); clear BK121; clear HB; have BK121 := n0_; have HB := n1_; clear n0_ n1_; (try clear hb); (try clear hb2); (try clear hk); (try clear hi); have hcz42_0 : w41.cell? ⟨gb121, 0, none⟩ = some (.int .i64 a0_0) := (blk_cell BK121.out 0).trans rfl; have hcz42_1 : w41.cell? ⟨gb121, 1, none⟩ = some (.int .i64 a0_1) := (blk_cell BK121.out 1).trans rfl; have hcz42_2 : w41.cell? ⟨gb121, 2, none⟩ = some (.int .i64 a0_2) := (blk_cell BK121.out 2).trans rfl; have hcz42_3 : w41.cell? ⟨gb121, 3, none⟩ = some (.int .i64 a0_3) := (blk_cell BK121.out 3).trans rfl; have hcz42_4 : w41.cell? ⟨gb121, 4, none⟩ = some (.int .i64 a0_4) := (blk_cell BK121.out 4).trans rfl; have hfz42_0 := blk_frozen BK121.out 0; have hfz42_1 := blk_frozen BK121.out 1; have hfz42_2 := blk_frozen BK121.out 2; have hfz42_3 := blk_frozen BK121.out 3; have hfz42_4 := blk_frozen BK121.out 4) | ((with_reducible refine gate_callee (f := 12) rfl ?_); refine goesL_ (some 54) rfl rfl Try.func12 (by kernel_rfl) rfl #[.int .i64 t124] rfl (by (try simp only [List.map_toArray, List.map_cons, List.map_nil]); first | done | rfl | (simp only [List.length_drop, List.length_take]; rfl)) ?_; (with_reducible refine (choruslaw0_Num.calls t124 t132 _ A27.out).mono ?_); rintro e w' ⟨rfl, ⟨nd, rfl⟩⟩; refine ⟨_, rfl, ?_⟩) | (go_at_call 12; (with_reducible refine (choruslaw0_Num.calls t126 t133 _ A29.out).mono ?_); rintro e w' ⟨rfl, ⟨nd, rfl⟩⟩) | (go_at_call 12; (with_reducible refine (choruslaw0_Num.calls t128 t134 _ A31.out).mono ?_); rintro e w' ⟨rfl, ⟨nd, rfl⟩⟩))
                    go_ret
                    exact ⟨by first | rfl | (simp [errW_none, errW_some] <;> rfl) | (simp only [← hji7]; first | rfl | (simp [errW_none, errW_some] <;> rfl)) | (simp [*, errW_none, errW_some] <;> rfl), by repeat (first | (with_reducible first | exact HB.out | apply below_alloc | apply pw_below_drewN | apply below_drew1 | refine below_set ?_ GE121.out) | exact HB.out)⟩
                  · rw [if_neg c35] at H
                    have c35b0 : (t125 != t127) = false := by simpa using c35
                    (try (have c35b1 : decide (t125 = t127) = true := by simpa using c35))
                    (try (have c35b2 : (t125 == t127) = true := by simpa using c35))
                    clear c35
                    exact absurd (Option.some.inj H) (by simp)
                · rw [if_neg c34] at H
                  have c34b0 : (a0_4 == 1) = false := beq_eq_false_iff_ne.mpr c34
                  have c34b1 : (a0_4 != 1) = true := bne_iff_ne.mpr c34
                  by_cases c43 : t125 = true
                  · subst c43
                    have H1 : (some false) = some true := by first | (rw [if_pos rfl] at H; exact H) | rfl
                    clear H
                    have H := H1
                    clear H1
                    exact absurd (Option.some.inj H) (by simp)
                  · replace c43 := Bool.eq_false_iff.mpr c43
                    subst c43
                    have H1 : (if t127 = true then (some false) else (some true)) = some true := by first | (rw [if_neg (show ¬ (false = true) by decide)] at H; exact H) | rfl
                    clear H
                    have H := H1
                    clear H1
                    by_cases c44 : t127 = true
                    · subst c44
                      have H1 : (some false) = some true := by first | (rw [if_pos rfl] at H; exact H) | rfl
                      clear H
                      have H := H1
                      clear H1
                      exact absurd (Option.some.inj H) (by simp)
                    · replace c44 := Bool.eq_false_iff.mpr c44
                      subst c44
                      have H1 : (some true) = some true := by first | (rw [if_neg (show ¬ (false = true) by decide)] at H; exact H) | rfl
                      clear H
                      have H := H1
                      clear H1
                      clear H
                      go_enter Try.func6, Try.ntmps6
                      (try simp only [List.append_eq, List.cons_append, List.nil_append])
                      go_wp2_with (first | ((with_reducible refine gate_dst (N := 3) rfl ?_); refine box_event ?hg (N := 3) ?hd (cs := #[.int .i64 a0_0, .int .i64 a0_1, .int .i64 a0_2, .int .i64 a0_3, .int .i64 a0_4]) (t := 25) ?hr ?_; (case hd => rfl); (case hg => rfl); (case hr => first | (go_simp; done) | (go_simp; rfl)); intro gb121 hg w45 hbox hb; have n0_ := Aside0.mk (below_step (by repeat (first | (with_reducible first | exact HB.out | apply below_alloc | apply pw_below_drewN | apply below_drew1) | exact HB.out)) hb); have n1_ := Aside0.mk (hbox); have n2_ := Aside0.mk ((by rw [hg]; exact (below_size (by repeat (first | (with_reducible first | exact HB.out | apply below_alloc | apply pw_below_drewN | apply below_drew1) | exact HB.out))) : w.heap.size ≤ gb121)); have n3_ := Aside0.mk ((by rw [hg]; exact (below_size (by repeat (first | (with_reducible first | exact HB.out | apply below_alloc | apply pw_below_drewN | apply below_drew1) | exact HB.out))) : w.heap.size ≤ gb121)); clear HB; have HB := n0_; have BK121 := n1_; have GW121 := n2_; have GE121 := n3_; clear n0_ n1_ n2_ n3_; clear hb hbox hg) | ((with_reducible refine gate_callee (f := 13) rfl ?_); refine goesL_ (some 16) rfl rfl Try.func13 (by kernel_rfl) rfl #[] rfl (by (try simp only [List.map_toArray, List.map_cons, List.map_nil]); first | done | rfl | (simp only [List.length_drop, List.length_take]; rfl)) ?_; (with_reducible refine (choruslaw9_awake.calls  true _ A4.out).mono ?_); rintro e w46 ⟨rfl, hb⟩; refine ⟨_, rfl, ?_⟩; have n0_ := Aside0.mk (blk_below (g := gb121) (o := .cells #[.int .i64 a0_0, .int .i64 a0_1, .int .i64 a0_2, .int .i64 a0_3, .int .i64 a0_4] 25 (0, 0)) (by (with_reducible repeat (first | refine blk_drewN ?_ _ | refine blk_drew ?_ | refine blk_alloc ?_ _)); exact BK121.out) hb); have n1_ := Aside0.mk (below_step (by repeat (first | (with_reducible first | exact HB.out | apply below_alloc | apply pw_below_drewN | apply below_drew1 | refine below_set ?_ GE121.out) | exact HB.out)) hb); clear BK121; clear HB; have BK121 := n0_; have HB := n1_; clear n0_ n1_; (try clear hb); (try clear hb2); (try clear hk); (try clear hi)) | ((with_reducible refine gate_callee (f := 8) rfl ?_); refine goesL_ (some 26) rfl rfl Try.func8 (by kernel_rfl) rfl #[.int .i64 (Go.bits .and .i64 a1 65535), .int .i64 ji7] rfl (by (try simp only [List.map_toArray, List.map_cons, List.map_nil]); first | done | (simp only [hji7]; rfl) | rfl | (simp only [List.length_drop, List.length_take]; rfl)) ?_; (with_reducible refine (slot_Bit.calls (Go.bits .and .i64 a1 65535) ji7 t123 t124 _ A8.out).mono ?_); rintro e w' ⟨rfl, ⟨nd, rfl⟩⟩; refine ⟨_, rfl, ?_⟩; have hcz47_0 : w46.cell? ⟨gb121, 0, none⟩ = some (.int .i64 a0_0) := (blk_cell BK121.out 0).trans rfl; have hcz47_1 : w46.cell? ⟨gb121, 1, none⟩ = some (.int .i64 a0_1) := (blk_cell BK121.out 1).trans rfl; have hcz47_2 : w46.cell? ⟨gb121, 2, none⟩ = some (.int .i64 a0_2) := (blk_cell BK121.out 2).trans rfl; have hcz47_3 : w46.cell? ⟨gb121, 3, none⟩ = some (.int .i64 a0_3) := (blk_cell BK121.out 3).trans rfl; have hcz47_4 : w46.cell? ⟨gb121, 4, none⟩ = some (.int .i64 a0_4) := (blk_cell BK121.out 4).trans rfl; have hfz47_0 := blk_frozen BK121.out 0; have hfz47_1 := blk_frozen BK121.out 1; have hfz47_2 := blk_frozen BK121.out 2; have hfz47_3 := blk_frozen BK121.out 3; have hfz47_4 := blk_frozen BK121.out 4) | ((with_reducible refine gate_callee (f := 10) rfl ?_); refine goesL_ (some 33) rfl rfl Try.func10 (by kernel_rfl) rfl #[.agg #[.int .i64 a0_0, .int .i64 a0_1, .int .i64 a0_2, .int .i64 a0_3, .int .i64 a0_4], .int .i64 (Go.bits .and .i64 a1 65535), .int .i64 ji7] rfl (by (try simp only [List.map_toArray, List.map_cons, List.map_nil]); first | done | (simp only [hji7]; rfl) | rfl | (simp only [List.length_drop, List.length_take]; rfl)) ?_; (with_reducible refine (slot_Alive.calls a0_0 a0_1 a0_2 a0_3 a0_4 (Go.bits .and .i64 a1 65535) ji7 false t126 _ A9.out).mono ?_); rintro e w48 ⟨rfl, hb⟩; refine ⟨_, rfl, ?_⟩; have n0_ := Aside0.mk (blk_below (g := gb121) (o := .cells #[.int .i64 a0_0, .int .i64 a0_1, .int .i64 a0_2, .int .i64 a0_3, .int .i64 a0_4] 25 (0, 0)) (by (with_reducible repeat (first | refine blk_drewN ?_ _ | refine blk_drew ?_ | refine blk_alloc ?_ _)); exact BK121.out) hb); have n1_ := Aside0.mk (below_step (by repeat (first | (with_reducible first | exact HB.out | apply below_alloc | apply pw_below_drewN | apply below_drew1 | refine below_set ?_ GE121.out) | exact HB.out)) hb); clear BK121; clear HB; have BK121 := n0_; have HB := n1_; clear n0_ n1_; (try clear hb); (try clear hb2); (try clear hk); (try clear hi); have hcz49_0 : w48.cell? ⟨gb121, 0, none⟩ = some (.int .i64 a0_0) := (blk_cell BK121.out 0).trans rfl; have hcz49_1 : w48.cell? ⟨gb121, 1, none⟩ = some (.int .i64 a0_1) := (blk_cell BK121.out 1).trans rfl; have hcz49_2 : w48.cell? ⟨gb121, 2, none⟩ = some (.int .i64 a0_2) := (blk_cell BK121.out 2).trans rfl; have hcz49_3 : w48.cell? ⟨gb121, 3, none⟩ = some (.int .i64 a0_3) := (blk_cell BK121.out 3).trans rfl; have hcz49_4 : w48.cell? ⟨gb121, 4, none⟩ = some (.int .i64 a0_4) := (blk_cell BK121.out 4).trans rfl; have hfz49_0 := blk_frozen BK121.out 0; have hfz49_1 := blk_frozen BK121.out 1; have hfz49_2 := blk_frozen BK121.out 2; have hfz49_3 := blk_frozen BK121.out 3; have hfz49_4 := blk_frozen BK121.out 4) | ((with_reducible refine gate_callee (f := 10) rfl ?_); refine goesL_ (some 42) rfl rfl Try.func10 (by kernel_rfl) rfl #[.agg #[.int .i64 a0_0, .int .i64 a0_1, .int .i64 a0_2, .int .i64 a0_3, .int .i64 a0_4], .int .i64 (wrap64 ((Go.bits .and .i64 a1 65535) + (ji7))), .int .i64 ji7] rfl (by (try simp only [List.map_toArray, List.map_cons, List.map_nil]); first | done | (simp only [hji7]; rfl) | rfl | (simp only [List.length_drop, List.length_take]; rfl)) ?_; (with_reducible refine (slot_Alive.calls a0_0 a0_1 a0_2 a0_3 a0_4 (wrap64 ((Go.bits .and .i64 a1 65535) + (ji7))) ji7 false t128 _ A10.out).mono ?_); rintro e w50 ⟨rfl, hb⟩; refine ⟨_, rfl, ?_⟩; have n0_ := Aside0.mk (blk_below (g := gb121) (o := .cells #[.int .i64 a0_0, .int .i64 a0_1, .int .i64 a0_2, .int .i64 a0_3, .int .i64 a0_4] 25 (0, 0)) (by (with_reducible repeat (first | refine blk_drewN ?_ _ | refine blk_drew ?_ | refine blk_alloc ?_ _)); exact BK121.out) hb); have n1_ := Aside0.mk (below_step (by repeat (first | (with_reducible first | exact HB.out | apply below_alloc | apply pw_below_drewN | apply below_drew1 | refine below_set ?_ GE121.out) | exact HB.out)) hb); clear BK121; clear HB; have BK121 := n0_; have HB := n1_; clear n0_ n1_; (try clear hb); (try clear hb2); (try clear hk); (try clear hi); have hcz51_0 : w50.cell? ⟨gb121, 0, none⟩ = some (.int .i64 a0_0) := (blk_cell BK121.out 0).trans rfl; have hcz51_1 : w50.cell? ⟨gb121, 1, none⟩ = some (.int .i64 a0_1) := (blk_cell BK121.out 1).trans rfl; have hcz51_2 : w50.cell? ⟨gb121, 2, none⟩ = some (.int .i64 a0_2) := (blk_cell BK121.out 2).trans rfl; have hcz51_3 : w50.cell? ⟨gb121, 3, none⟩ = some (.int .i64 a0_3) := (blk_cell BK121.out 3).trans rfl; have hcz51_4 : w50.cell? ⟨gb121, 4, none⟩ = some (.int .i64 a0_4) := (blk_cell BK121.out 4).trans rfl; have hfz51_0 := blk_frozen BK121.out 0; have hfz51_1 := blk_frozen BK121.out 1; have hfz51_2 := blk_frozen BK121.out 2; have hfz51_3 := blk_frozen BK121.out 3; have hfz51_4 := blk_frozen BK121.out 4) | ((with_reducible refine gate_callee (f := 12) rfl ?_); refine goesL_ (some 54) rfl rfl Try.func12 (by kernel_rfl) rfl #[.int .i64 t124] rfl (by (try simp only [List.map_toArray, List.map_cons, List.map_nil]); first | done | rfl | (simp only [List.length_drop, List.length_take]; rfl)) ?_; (with_reducible refine (choruslaw0_Num.calls t124 t132 _ A27.out).mono ?_); rintro e w' ⟨rfl, ⟨nd, rfl⟩⟩; refine ⟨_, rfl, ?_⟩) | (go_at_call 12; (with_reducible refine (choruslaw0_Num.calls t126 t133 _ A29.out).mono ?_); rintro e w' ⟨rfl, ⟨nd, rfl⟩⟩) | (go_at_call 12; (with_reducible refine (choruslaw0_Num.calls t128 t134 _ A31.out).mono ?_); rintro e w' ⟨rfl, ⟨nd, rfl⟩⟩))
                      go_ret
                      exact ⟨by first | rfl | (simp [errW_none, errW_some] <;> rfl) | (simp only [← hji7]; first | rfl | (simp [errW_none, errW_some] <;> rfl)) | (simp [*, errW_none, errW_some] <;> rfl), by repeat (first | (with_reducible first | exact HB.out | apply below_alloc | apply pw_below_drewN | apply below_drew1 | refine below_set ?_ GE121.out) | exact HB.out)⟩
              · rw [if_neg c33] at H
                have c33b0 : (t125 == (a0_4 == t123)) = false := by simpa using c33
                (try (have c33b1 : decide (t125 = (a0_4 == t123)) = false := by simpa using c33))
                (try (have c33b2 : (t125 == (a0_4 == t123)) = false := by simpa using c33))
                (try (have c33b3 : ¬ (t125 = (a0_4 == t123)) := by simpa using c33))
                clear c33
                exact absurd (Option.some.inj H) (by simp)
            · rw [if_neg c32] at H
              have c32b0 : (t134 == 0) = false := beq_eq_false_iff_ne.mpr c32
              have c32b1 : (t134 != 0) = true := bne_iff_ne.mpr c32
              exact absurd (Option.some.inj H) (by simp)
          · rw [if_neg c30] at H
            have c30b0 : (t133 == 0) = false := beq_eq_false_iff_ne.mpr c30
            have c30b1 : (t133 != 0) = true := bne_iff_ne.mpr c30
            exact absurd (Option.some.inj H) (by simp)
        · rw [if_neg c28] at H
          have c28b0 : (t132 == 0) = false := beq_eq_false_iff_ne.mpr c28
          have c28b1 : (t132 != 0) = true := bne_iff_ne.mpr c28
          exact absurd (Option.some.inj H) (by simp)
    · rw [if_neg c6] at H
      exact absurd H (by simp)
  · replace c5 := Bool.eq_false_iff.mpr c5
    subst c5
    have H1 : (some false) = some true := by first | (rw [if_neg (show ¬ (false = true) by decide)] at H; exact H) | rfl
    clear H
    have H := H1
    clear H1
    exact absurd (Option.some.inj H) (by simp)

def choruslaw9_SlotAlive.Pure : Prop := ∀ (a0_0 : Int) (a0_1 : Int) (a0_2 : Int) (a0_3 : Int) (a0_4 : Int) (a1 : Int) (a2 : Int), ((Lit.int .i64 a0_0).wf = true) → ((Lit.int .i64 a0_1).wf = true) → ((Lit.int .i64 a0_2).wf = true) → ((Lit.int .i64 a0_3).wf = true) → ((Lit.int .i64 a0_4).wf = true) → ((Lit.int .i64 a1).wf = true) → ((Lit.int .i64 a2).wf = true) → choruslaw9_SlotAlive.f a0_0 a0_1 a0_2 a0_3 a0_4 a1 a2 = some true
theorem choruslaw9_SlotAlive.walk2 : True := trivial

end Go.Proofs.Ytmllmmdfcpameaa.PSlotAlive
