-- Told by this session's own turn of the print (wip/tools): not typed by hand
import Derived.Test.YtmllmmdfcpameaaPSlotsx0
namespace Go.Proofs.Ytmllmmdfcpameaa.PSlots
open Go.RowKit Go.Proofs.YtmllmmdfcpameaaW.PrintWords Go.Proofs.YtmllmmdfcpameaaW.PrintLast Go.Proofs.YtmllmmdfcpameaaW.PrintMore
attribute [local go_sem] max2_int min2_int max_two min_two max_three min_three max_four min_four   -- for this text's walks alone
set_option linter.unusedVariables false
set_option linter.unusedSimpArgs false

/-! ### slot_Many: function 14 -/
def slot_Many.f (a0 : Int) : Option (Bool) := if a0 ≥ 2 then (if a0 ≤ 16 then (some ((Go.bits .and .i64 a0 (wrap64 (a0 - 1))) == 0)) else (some false)) else (some false)
set_option maxHeartbeats 8000000 in
set_option maxRecDepth 100000 in
theorem slot_Many.calls (a0 : Int) (r : Bool) (w : World) (h : slot_Many.f a0 = some r) :
    Calls Try.prog 14 #[.int .i64 a0] w fun e w' => e = .returned (.bool r) ∧ Drawn0 w w' := by
  have H : (if a0 ≥ 2 then (if a0 ≤ 16 then (some ((Go.bits .and .i64 a0 (wrap64 (a0 - 1))) == 0)) else (some false)) else (some false)) = some r := h
  clear h
  by_cases c2 : a0 ≥ 2
  · rw [if_pos c2] at H
    have c2b0 : decide (2 ≤ a0) = true := decide_eq_true c2
    clear c2
    by_cases c3 : a0 ≤ 16
    · rw [if_pos c3] at H
      have c3b0 : decide (a0 ≤ 16) = true := decide_eq_true c3
      clear c3
      obtain rfl := Option.some.inj H
      go_enter Try.func14, Try.ntmps14
      go_wp2
      go_ret
      exact ⟨by first | rfl | (simp; done) | (simp [*]; done) | (congr 1 <;> (first | rfl | (unfold wrap64; omega))), by repeat (first | exact Drawn0.refl _ | apply Drawn0.step)⟩
    · rw [if_neg c3] at H
      have c3b0 : decide (a0 ≤ 16) = false := decide_eq_false c3
      clear c3
      obtain rfl := Option.some.inj H
      go_enter Try.func14, Try.ntmps14
      go_wp2
      go_ret
      exact ⟨by first | rfl | (simp; done) | (simp [*]; done) | (congr 1 <;> (first | rfl | (unfold wrap64; omega))), by repeat (first | exact Drawn0.refl _ | apply Drawn0.step)⟩
  · rw [if_neg c2] at H
    have c2b0 : decide (2 ≤ a0) = false := decide_eq_false c2
    clear c2
    obtain rfl := Option.some.inj H
    go_enter Try.func14, Try.ntmps14
    go_wp2
    go_ret
    exact ⟨by first | rfl | (simp; done) | (simp [*]; done) | (congr 1 <;> (first | rfl | (unfold wrap64; omega))), by repeat (first | exact Drawn0.refl _ | apply Drawn0.step)⟩

/-! ### cell_Number: function 15 -/
def cell_Number.f (a0 : Int) : Option (Bool) := if a0 ≥ 0 then (some (decide (a0 ≤ 1048576))) else (some false)
set_option maxHeartbeats 8000000 in
set_option maxRecDepth 100000 in
theorem cell_Number.calls (a0 : Int) (r : Bool) (w : World) (h : cell_Number.f a0 = some r) :
    Calls Try.prog 15 #[.int .i64 a0] w fun e w' => e = .returned (.bool r) ∧ Drawn0 w w' := by
  have H : (if a0 ≥ 0 then (some (decide (a0 ≤ 1048576))) else (some false)) = some r := h
  clear h
  by_cases c2 : a0 ≥ 0
  · rw [if_pos c2] at H
    have c2b0 : decide (0 ≤ a0) = true := decide_eq_true c2
    clear c2
    obtain rfl := Option.some.inj H
    go_enter Try.func15, Try.ntmps15
    go_wp2
    go_ret
    exact ⟨by first | rfl | (simp; done) | (simp [*]; done) | (congr 1 <;> (first | rfl | (unfold wrap64; omega))), by repeat (first | exact Drawn0.refl _ | apply Drawn0.step)⟩
  · rw [if_neg c2] at H
    have c2b0 : decide (0 ≤ a0) = false := decide_eq_false c2
    clear c2
    obtain rfl := Option.some.inj H
    go_enter Try.func15, Try.ntmps15
    go_wp2
    go_ret
    exact ⟨by first | rfl | (simp; done) | (simp [*]; done) | (congr 1 <;> (first | rfl | (unfold wrap64; omega))), by repeat (first | exact Drawn0.refl _ | apply Drawn0.step)⟩

/-! ### slot_Bit: function 8 -/
def slot_Bit.f (a0 : Int) (a1 : Int) : Option (Int × Int) := (slot_Many.f a1).bind fun t101 => (if t101 = true then ((cell_Number.f a0).bind fun t102 => (if t102 = true then (if a1 = 0 then (none) else (some (wrap64 (1 - (Int.tmod (wrap64 (Int.tdiv a0 a1)) 2)), 0))) else (some (0, 900)))) else (some (0, 900)))
set_option maxHeartbeats 8000000 in
set_option maxRecDepth 100000 in
theorem slot_Bit.calls (a0 : Int) (a1 : Int) (r1 : Int) (r2 : Int) (w : World) (h : slot_Bit.f a0 a1 = some (r1, r2)) :
    Calls Try.prog 8 #[.int .i64 a0, .int .i64 a1] w fun e w' => e = .returned (.tuple #[.int .i64 r1, .int .i64 r2]) ∧ Drawn0 w w' := by
  have H : ((slot_Many.f a1).bind fun t101 => (if t101 = true then ((cell_Number.f a0).bind fun t102 => (if t102 = true then (if a1 = 0 then (none) else (some (wrap64 (1 - (Int.tmod (wrap64 (Int.tdiv a0 a1)) 2)), 0))) else (some (0, 900)))) else (some (0, 900)))) = some (r1, r2) := h
  clear h
  replace H := Option.bind_eq_some_iff.mp H
  obtain ⟨t101, A30, H⟩ := H
  replace H : (if t101 = true then ((cell_Number.f a0).bind fun t102 => (if t102 = true then (if a1 = 0 then (none) else (some (wrap64 (1 - (Int.tmod (wrap64 (Int.tdiv a0 a1)) 2)), 0))) else (some (0, 900)))) else (some (0, 900))) = some (r1, r2) := H
  have A3 := Aside0.mk A30
  clear A30
  by_cases c4 : t101 = true
  · subst c4
    have H1 : ((cell_Number.f a0).bind fun t102 => (if t102 = true then (if a1 = 0 then (none) else (some (wrap64 (1 - (Int.tmod (wrap64 (Int.tdiv a0 a1)) 2)), 0))) else (some (0, 900)))) = some (r1, r2) := by rw [if_pos rfl] at H; exact H
    clear H
    have H := H1
    clear H1
    replace H := Option.bind_eq_some_iff.mp H
    obtain ⟨t102, A50, H⟩ := H
    replace H : (if t102 = true then (if a1 = 0 then (none) else (some (wrap64 (1 - (Int.tmod (wrap64 (Int.tdiv a0 a1)) 2)), 0))) else (some (0, 900))) = some (r1, r2) := H
    have A5 := Aside0.mk A50
    clear A50
    by_cases c6 : t102 = true
    · subst c6
      have H1 : (if a1 = 0 then (none) else (some (wrap64 (1 - (Int.tmod (wrap64 (Int.tdiv a0 a1)) 2)), 0))) = some (r1, r2) := by rw [if_pos rfl] at H; exact H
      clear H
      have H := H1
      clear H1
      by_cases c7 : a1 = 0
      · rw [if_pos c7] at H
        exact absurd H (by simp)
      · rw [if_neg c7] at H
        have c7b0 : (a1 == 0) = false := beq_eq_false_iff_ne.mpr c7
        have c7b1 : (a1 != 0) = true := bne_iff_ne.mpr c7
        simp only [Option.some.injEq, Prod.mk.injEq] at H
        obtain ⟨rfl, rfl⟩ := H
        go_enter Try.func8, Try.ntmps8
        go_wp2_with (first | ((with_reducible refine gate_callee (f := 14) rfl ?_); refine goesL_ (some 7) rfl rfl Try.func14 (by kernel_rfl) rfl #[.int .i64 a1] rfl (by (try simp only [List.map_toArray, List.map_cons, List.map_nil]); first | done | rfl | (simp only [List.length_drop, List.length_take]; rfl)) ?_; (with_reducible refine (slot_Many.calls a1 true _ A3.out).mono ?_); rintro e w' ⟨rfl, ⟨nd, rfl⟩⟩; refine ⟨_, rfl, ?_⟩) | (go_at_call 15; (with_reducible refine (cell_Number.calls a0 true _ A5.out).mono ?_); rintro e w' ⟨rfl, ⟨nd, rfl⟩⟩))
        go_ret2
        exact ⟨by first | rfl | (simp; done) | (simp [*]; done) | (congr 1 <;> (first | rfl | (unfold wrap64; omega))), by repeat (first | exact Drawn0.refl _ | apply Drawn0.step)⟩
    · replace c6 := Bool.eq_false_iff.mpr c6
      subst c6
      have H1 : (some (0, 900)) = some (r1, r2) := by rw [if_neg (show ¬ (false = true) by decide)] at H; exact H
      clear H
      have H := H1
      clear H1
      simp only [Option.some.injEq, Prod.mk.injEq] at H
      obtain ⟨rfl, rfl⟩ := H
      go_enter Try.func8, Try.ntmps8
      go_wp2_with (first | ((with_reducible refine gate_callee (f := 14) rfl ?_); refine goesL_ (some 7) rfl rfl Try.func14 (by kernel_rfl) rfl #[.int .i64 a1] rfl (by (try simp only [List.map_toArray, List.map_cons, List.map_nil]); first | done | rfl | (simp only [List.length_drop, List.length_take]; rfl)) ?_; (with_reducible refine (slot_Many.calls a1 true _ A3.out).mono ?_); rintro e w' ⟨rfl, ⟨nd, rfl⟩⟩; refine ⟨_, rfl, ?_⟩) | (go_at_call 15; (with_reducible refine (cell_Number.calls a0 false _ A5.out).mono ?_); rintro e w' ⟨rfl, ⟨nd, rfl⟩⟩))
      go_ret2
      exact ⟨by first | rfl | (simp; done) | (simp [*]; done) | (congr 1 <;> (first | rfl | (unfold wrap64; omega))), by repeat (first | exact Drawn0.refl _ | apply Drawn0.step)⟩
  · replace c4 := Bool.eq_false_iff.mpr c4
    subst c4
    have H1 : (some (0, 900)) = some (r1, r2) := by rw [if_neg (show ¬ (false = true) by decide)] at H; exact H
    clear H
    have H := H1
    clear H1
    simp only [Option.some.injEq, Prod.mk.injEq] at H
    obtain ⟨rfl, rfl⟩ := H
    go_enter Try.func8, Try.ntmps8
    go_wp2_with (first | ((with_reducible refine gate_callee (f := 14) rfl ?_); refine goesL_ (some 7) rfl rfl Try.func14 (by kernel_rfl) rfl #[.int .i64 a1] rfl (by (try simp only [List.map_toArray, List.map_cons, List.map_nil]); first | done | rfl | (simp only [List.length_drop, List.length_take]; rfl)) ?_; (with_reducible refine (slot_Many.calls a1 false _ A3.out).mono ?_); rintro e w' ⟨rfl, ⟨nd, rfl⟩⟩; refine ⟨_, rfl, ?_⟩))
    go_ret2
    exact ⟨by first | rfl | (simp; done) | (simp [*]; done) | (congr 1 <;> (first | rfl | (unfold wrap64; omega))), by repeat (first | exact Drawn0.refl _ | apply Drawn0.step)⟩

/-! ### chorusref1_SlotsMay: function 16 -/
def chorusref1_SlotsMay.f (a0 : Int) : Option (Bool) := if a0 = 2 then (some true) else (if a0 = 4 then (some true) else (if a0 = 8 then (some true) else (some (a0 == 16))))
set_option maxHeartbeats 8000000 in
set_option maxRecDepth 100000 in
theorem chorusref1_SlotsMay.calls (a0 : Int) (r : Bool) (w : World) (h : chorusref1_SlotsMay.f a0 = some r) :
    Calls Try.prog 16 #[.int .i64 a0] w fun e w' => e = .returned (.bool r) ∧ Drawn0 w w' := by
  have H : (if a0 = 2 then (some true) else (if a0 = 4 then (some true) else (if a0 = 8 then (some true) else (some (a0 == 16))))) = some r := h
  clear h
  by_cases c2 : a0 = 2
  · rw [if_pos c2] at H
    have c2b0 : (a0 == 2) = true := beq_iff_eq.mpr c2
    have c2b1 : (a0 != 2) = false := bne_eq_false_iff_eq.mpr c2
    clear c2
    obtain rfl := Option.some.inj H
    go_enter Try.func16, Try.ntmps16
    go_wp2
    go_ret
    exact ⟨by first | rfl | (simp; done) | (simp [*]; done) | (congr 1 <;> (first | rfl | (unfold wrap64; omega))), by repeat (first | exact Drawn0.refl _ | apply Drawn0.step)⟩
  · rw [if_neg c2] at H
    have c2b0 : (a0 == 2) = false := beq_eq_false_iff_ne.mpr c2
    have c2b1 : (a0 != 2) = true := bne_iff_ne.mpr c2
    by_cases c3 : a0 = 4
    · rw [if_pos c3] at H
      have c3b0 : (a0 == 4) = true := beq_iff_eq.mpr c3
      have c3b1 : (a0 != 4) = false := bne_eq_false_iff_eq.mpr c3
      clear c3
      obtain rfl := Option.some.inj H
      go_enter Try.func16, Try.ntmps16
      go_wp2
      go_ret
      exact ⟨by first | rfl | (simp; done) | (simp [*]; done) | (congr 1 <;> (first | rfl | (unfold wrap64; omega))), by repeat (first | exact Drawn0.refl _ | apply Drawn0.step)⟩
    · rw [if_neg c3] at H
      have c3b0 : (a0 == 4) = false := beq_eq_false_iff_ne.mpr c3
      have c3b1 : (a0 != 4) = true := bne_iff_ne.mpr c3
      by_cases c4 : a0 = 8
      · rw [if_pos c4] at H
        have c4b0 : (a0 == 8) = true := beq_iff_eq.mpr c4
        have c4b1 : (a0 != 8) = false := bne_eq_false_iff_eq.mpr c4
        clear c4
        obtain rfl := Option.some.inj H
        go_enter Try.func16, Try.ntmps16
        go_wp2
        go_ret
        exact ⟨by first | rfl | (simp; done) | (simp [*]; done) | (congr 1 <;> (first | rfl | (unfold wrap64; omega))), by repeat (first | exact Drawn0.refl _ | apply Drawn0.step)⟩
      · rw [if_neg c4] at H
        have c4b0 : (a0 == 8) = false := beq_eq_false_iff_ne.mpr c4
        have c4b1 : (a0 != 8) = true := bne_iff_ne.mpr c4
        obtain rfl := Option.some.inj H
        go_enter Try.func16, Try.ntmps16
        go_wp2
        go_ret
        exact ⟨by first | rfl | (simp; done) | (simp [*]; done) | (congr 1 <;> (first | rfl | (unfold wrap64; omega))), by repeat (first | exact Drawn0.refl _ | apply Drawn0.step)⟩

/-! ### chorusref1_upTo: function 18 -/
def chorusref1_upTo.f (a0 : Int) (a1 : Int) (a2 : Int) : Option (Bool) := if a0 ≥ a1 then (some (decide (a0 ≤ a2))) else (some false)
set_option maxHeartbeats 8000000 in
set_option maxRecDepth 100000 in
theorem chorusref1_upTo.calls (a0 : Int) (a1 : Int) (a2 : Int) (r : Bool) (w : World) (h : chorusref1_upTo.f a0 a1 a2 = some r) :
    Calls Try.prog 18 #[.int .i64 a0, .int .i64 a1, .int .i64 a2] w fun e w' => e = .returned (.bool r) ∧ Drawn0 w w' := by
  have H : (if a0 ≥ a1 then (some (decide (a0 ≤ a2))) else (some false)) = some r := h
  clear h
  by_cases c4 : a0 ≥ a1
  · rw [if_pos c4] at H
    have c4b0 : decide (a1 ≤ a0) = true := decide_eq_true c4
    clear c4
    obtain rfl := Option.some.inj H
    go_enter Try.func18, Try.ntmps18
    go_wp2
    go_ret
    exact ⟨by first | rfl | (simp; done) | (simp [*]; done) | (congr 1 <;> (first | rfl | (unfold wrap64; omega))), by repeat (first | exact Drawn0.refl _ | apply Drawn0.step)⟩
  · rw [if_neg c4] at H
    have c4b0 : decide (a1 ≤ a0) = false := decide_eq_false c4
    clear c4
    obtain rfl := Option.some.inj H
    go_enter Try.func18, Try.ntmps18
    go_wp2
    go_ret
    exact ⟨by first | rfl | (simp; done) | (simp [*]; done) | (congr 1 <;> (first | rfl | (unfold wrap64; omega))), by repeat (first | exact Drawn0.refl _ | apply Drawn0.step)⟩

/-! ### chorusref1_cellMay: function 17 -/
def chorusref1_cellMay.f (a0 : Int) : Option (Bool) := (chorusref1_upTo.f a0 0 1048576).bind fun t103 => (some t103)
set_option maxHeartbeats 8000000 in
set_option maxRecDepth 100000 in
theorem chorusref1_cellMay.calls (a0 : Int) (r : Bool) (w : World) (h : chorusref1_cellMay.f a0 = some r) :
    Calls Try.prog 17 #[.int .i64 a0] w fun e w' => e = .returned (.bool r) ∧ Drawn0 w w' := by
  have H : ((chorusref1_upTo.f a0 0 1048576).bind fun t103 => (some t103)) = some r := h
  clear h
  replace H := Option.bind_eq_some_iff.mp H
  obtain ⟨t103, A20, H⟩ := H
  replace H : (some t103) = some r := H
  have A2 := Aside0.mk A20
  clear A20
  obtain rfl := Option.some.inj H
  go_enter Try.func17, Try.ntmps17
  go_wp2_with (first | ((with_reducible refine gate_callee (f := 18) rfl ?_); refine goesL_ (some 4) rfl rfl Try.func18 (by kernel_rfl) rfl #[.int .i64 a0, .int .i64 0, .int .i64 1048576] rfl (by (try simp only [List.map_toArray, List.map_cons, List.map_nil]); first | done | rfl | (simp only [List.length_drop, List.length_take]; rfl)) ?_; (with_reducible refine (chorusref1_upTo.calls a0 0 1048576 t103 _ A2.out).mono ?_); rintro e w' ⟨rfl, ⟨nd, rfl⟩⟩; refine ⟨_, rfl, ?_⟩))
  go_ret
  exact ⟨by first | rfl | (simp; done) | (simp [*]; done) | (congr 1 <;> (first | rfl | (unfold wrap64; omega))), by repeat (first | exact Drawn0.refl _ | apply Drawn0.step)⟩

/-! ### chorusref1_Bit: function 9 -/
def chorusref1_Bit.f (a0 : Int) (a1 : Int) : Option (Int × Int) := (chorusref1_SlotsMay.f a1).bind fun t104 => (if t104 = true then ((chorusref1_cellMay.f a0).bind fun t105 => (if t105 = true then (if a1 = 0 then (none) else (some (wrap64 (1 - (Int.tmod (wrap64 (Int.tdiv a0 a1)) 2)), 0))) else (some (0, 900)))) else (some (0, 900)))
set_option maxHeartbeats 8000000 in
set_option maxRecDepth 100000 in
theorem chorusref1_Bit.calls (a0 : Int) (a1 : Int) (r1 : Int) (r2 : Int) (w : World) (h : chorusref1_Bit.f a0 a1 = some (r1, r2)) :
    Calls Try.prog 9 #[.int .i64 a0, .int .i64 a1] w fun e w' => e = .returned (.tuple #[.int .i64 r1, .int .i64 r2]) ∧ Drawn0 w w' := by
  have H : ((chorusref1_SlotsMay.f a1).bind fun t104 => (if t104 = true then ((chorusref1_cellMay.f a0).bind fun t105 => (if t105 = true then (if a1 = 0 then (none) else (some (wrap64 (1 - (Int.tmod (wrap64 (Int.tdiv a0 a1)) 2)), 0))) else (some (0, 900)))) else (some (0, 900)))) = some (r1, r2) := h
  clear h
  replace H := Option.bind_eq_some_iff.mp H
  obtain ⟨t104, A30, H⟩ := H
  replace H : (if t104 = true then ((chorusref1_cellMay.f a0).bind fun t105 => (if t105 = true then (if a1 = 0 then (none) else (some (wrap64 (1 - (Int.tmod (wrap64 (Int.tdiv a0 a1)) 2)), 0))) else (some (0, 900)))) else (some (0, 900))) = some (r1, r2) := H
  have A3 := Aside0.mk A30
  clear A30
  by_cases c4 : t104 = true
  · subst c4
    have H1 : ((chorusref1_cellMay.f a0).bind fun t105 => (if t105 = true then (if a1 = 0 then (none) else (some (wrap64 (1 - (Int.tmod (wrap64 (Int.tdiv a0 a1)) 2)), 0))) else (some (0, 900)))) = some (r1, r2) := by rw [if_pos rfl] at H; exact H
    clear H
    have H := H1
    clear H1
    replace H := Option.bind_eq_some_iff.mp H
    obtain ⟨t105, A50, H⟩ := H
    replace H : (if t105 = true then (if a1 = 0 then (none) else (some (wrap64 (1 - (Int.tmod (wrap64 (Int.tdiv a0 a1)) 2)), 0))) else (some (0, 900))) = some (r1, r2) := H
    have A5 := Aside0.mk A50
    clear A50
    by_cases c6 : t105 = true
    · subst c6
      have H1 : (if a1 = 0 then (none) else (some (wrap64 (1 - (Int.tmod (wrap64 (Int.tdiv a0 a1)) 2)), 0))) = some (r1, r2) := by rw [if_pos rfl] at H; exact H
      clear H
      have H := H1
      clear H1
      by_cases c7 : a1 = 0
      · rw [if_pos c7] at H
        exact absurd H (by simp)
      · rw [if_neg c7] at H
        have c7b0 : (a1 == 0) = false := beq_eq_false_iff_ne.mpr c7
        have c7b1 : (a1 != 0) = true := bne_iff_ne.mpr c7
        simp only [Option.some.injEq, Prod.mk.injEq] at H
        obtain ⟨rfl, rfl⟩ := H
        go_enter Try.func9, Try.ntmps9
        go_wp2_with (first | ((with_reducible refine gate_callee (f := 16) rfl ?_); refine goesL_ (some 7) rfl rfl Try.func16 (by kernel_rfl) rfl #[.int .i64 a1] rfl (by (try simp only [List.map_toArray, List.map_cons, List.map_nil]); first | done | rfl | (simp only [List.length_drop, List.length_take]; rfl)) ?_; (with_reducible refine (chorusref1_SlotsMay.calls a1 true _ A3.out).mono ?_); rintro e w' ⟨rfl, ⟨nd, rfl⟩⟩; refine ⟨_, rfl, ?_⟩) | (go_at_call 17; (with_reducible refine (chorusref1_cellMay.calls a0 true _ A5.out).mono ?_); rintro e w' ⟨rfl, ⟨nd, rfl⟩⟩))
        go_ret2
        exact ⟨by first | rfl | (simp; done) | (simp [*]; done) | (congr 1 <;> (first | rfl | (unfold wrap64; omega))), by repeat (first | exact Drawn0.refl _ | apply Drawn0.step)⟩
    · replace c6 := Bool.eq_false_iff.mpr c6
      subst c6
      have H1 : (some (0, 900)) = some (r1, r2) := by rw [if_neg (show ¬ (false = true) by decide)] at H; exact H
      clear H
      have H := H1
      clear H1
      simp only [Option.some.injEq, Prod.mk.injEq] at H
      obtain ⟨rfl, rfl⟩ := H
      go_enter Try.func9, Try.ntmps9
      go_wp2_with (first | ((with_reducible refine gate_callee (f := 16) rfl ?_); refine goesL_ (some 7) rfl rfl Try.func16 (by kernel_rfl) rfl #[.int .i64 a1] rfl (by (try simp only [List.map_toArray, List.map_cons, List.map_nil]); first | done | rfl | (simp only [List.length_drop, List.length_take]; rfl)) ?_; (with_reducible refine (chorusref1_SlotsMay.calls a1 true _ A3.out).mono ?_); rintro e w' ⟨rfl, ⟨nd, rfl⟩⟩; refine ⟨_, rfl, ?_⟩) | (go_at_call 17; (with_reducible refine (chorusref1_cellMay.calls a0 false _ A5.out).mono ?_); rintro e w' ⟨rfl, ⟨nd, rfl⟩⟩))
      go_ret2
      exact ⟨by first | rfl | (simp; done) | (simp [*]; done) | (congr 1 <;> (first | rfl | (unfold wrap64; omega))), by repeat (first | exact Drawn0.refl _ | apply Drawn0.step)⟩
  · replace c4 := Bool.eq_false_iff.mpr c4
    subst c4
    have H1 : (some (0, 900)) = some (r1, r2) := by rw [if_neg (show ¬ (false = true) by decide)] at H; exact H
    clear H
    have H := H1
    clear H1
    simp only [Option.some.injEq, Prod.mk.injEq] at H
    obtain ⟨rfl, rfl⟩ := H
    go_enter Try.func9, Try.ntmps9
    go_wp2_with (first | ((with_reducible refine gate_callee (f := 16) rfl ?_); refine goesL_ (some 7) rfl rfl Try.func16 (by kernel_rfl) rfl #[.int .i64 a1] rfl (by (try simp only [List.map_toArray, List.map_cons, List.map_nil]); first | done | rfl | (simp only [List.length_drop, List.length_take]; rfl)) ?_; (with_reducible refine (chorusref1_SlotsMay.calls a1 false _ A3.out).mono ?_); rintro e w' ⟨rfl, ⟨nd, rfl⟩⟩; refine ⟨_, rfl, ?_⟩))
    go_ret2
    exact ⟨by first | rfl | (simp; done) | (simp [*]; done) | (congr 1 <;> (first | rfl | (unfold wrap64; omega))), by repeat (first | exact Drawn0.refl _ | apply Drawn0.step)⟩

/-! ### slot_Alive: function 10 -/
def slot_Alive.f (a0_0 : Int) (a0_1 : Int) (a0_2 : Int) (a0_3 : Int) (a0_4 : Int) (a1 : Int) (a2 : Int) : Option (Bool × Int) := (slot_Bit.f a1 a2).bind fun bt107 => (if bt107.2 = 0 then (some ((a0_4 == bt107.1), bt107.2)) else (some (false, bt107.2)))
set_option maxHeartbeats 8000000 in
set_option maxRecDepth 100000 in
theorem slot_Alive.calls (a0_0 : Int) (a0_1 : Int) (a0_2 : Int) (a0_3 : Int) (a0_4 : Int) (a1 : Int) (a2 : Int) (r1 : Bool) (r2 : Int) (w : World) (h : slot_Alive.f a0_0 a0_1 a0_2 a0_3 a0_4 a1 a2 = some (r1, r2)) :
    Calls Try.prog 10 #[.agg #[.int .i64 a0_0, .int .i64 a0_1, .int .i64 a0_2, .int .i64 a0_3, .int .i64 a0_4], .int .i64 a1, .int .i64 a2] w fun e w' => e = .returned (.tuple #[.bool r1, .int .i64 r2]) ∧ Below w.heap.size w w' := by
  have hu25 := Try.underlying25
  have HB := Aside0.mk (Below.refl w.heap.size w)
  have H : ((slot_Bit.f a1 a2).bind fun bt107 => (if bt107.2 = 0 then (some ((a0_4 == bt107.1), bt107.2)) else (some (false, bt107.2)))) = some (r1, r2) := h
  clear h
  replace H := Option.bind_eq_some_iff.mp H
  obtain ⟨⟨t107, t108⟩, A40, H⟩ := H
  replace H : (if t108 = 0 then (some ((a0_4 == t107), t108)) else (some (false, t108))) = some (r1, r2) := H
  have A4 := Aside0.mk A40
  clear A40
  by_cases c5 : t108 = 0
  · rw [if_pos c5] at H
    have c5b0 : (t108 == 0) = true := beq_iff_eq.mpr c5
    have c5b1 : (t108 != 0) = false := bne_eq_false_iff_eq.mpr c5
    clear c5
    simp only [Option.some.injEq, Prod.mk.injEq] at H
    obtain ⟨rfl, rfl⟩ := H
    go_enter Try.func10, Try.ntmps10
    go_wp2_with (first | ((with_reducible refine gate_dst (N := 3) rfl ?_); refine box_event ?hg (N := 3) ?hd (cs := #[.int .i64 a0_0, .int .i64 a0_1, .int .i64 a0_2, .int .i64 a0_3, .int .i64 a0_4]) (t := 25) ?hr ?_; (case hd => rfl); (case hg => rfl); (case hr => first | (go_simp; done) | (go_simp; rfl)); intro gb106 hg w6 hbox hb; have n0_ := Aside0.mk (below_step (by repeat (first | (with_reducible first | exact HB.out | apply below_alloc | apply pw_below_drewN | apply below_drew1) | exact HB.out)) hb); have n1_ := Aside0.mk (hbox); have n2_ := Aside0.mk ((by rw [hg]; exact (below_size (by repeat (first | (with_reducible first | exact HB.out | apply below_alloc | apply pw_below_drewN | apply below_drew1) | exact HB.out))) : w.heap.size ≤ gb106)); have n3_ := Aside0.mk ((by rw [hg]; exact (below_size (by repeat (first | (with_reducible first | exact HB.out | apply below_alloc | apply pw_below_drewN | apply below_drew1) | exact HB.out))) : w.heap.size ≤ gb106)); clear HB; have HB := n0_; have BK106 := n1_; have GW106 := n2_; have GE106 := n3_; clear n0_ n1_ n2_ n3_; clear hb hbox hg) | ((with_reducible refine gate_callee (f := 8) rfl ?_); refine goesL_ (some 13) rfl rfl Try.func8 (by kernel_rfl) rfl #[.int .i64 a1, .int .i64 a2] rfl (by (try simp only [List.map_toArray, List.map_cons, List.map_nil]); first | done | rfl | (simp only [List.length_drop, List.length_take]; rfl)) ?_; (with_reducible refine (slot_Bit.calls a1 a2 t107 t108 _ A4.out).mono ?_); rintro e w' ⟨rfl, ⟨nd, rfl⟩⟩; refine ⟨_, rfl, ?_⟩; have hcz7_0 : w6.cell? ⟨gb106, 0, none⟩ = some (.int .i64 a0_0) := (blk_cell BK106.out 0).trans rfl; have hcz7_1 : w6.cell? ⟨gb106, 1, none⟩ = some (.int .i64 a0_1) := (blk_cell BK106.out 1).trans rfl; have hcz7_2 : w6.cell? ⟨gb106, 2, none⟩ = some (.int .i64 a0_2) := (blk_cell BK106.out 2).trans rfl; have hcz7_3 : w6.cell? ⟨gb106, 3, none⟩ = some (.int .i64 a0_3) := (blk_cell BK106.out 3).trans rfl; have hcz7_4 : w6.cell? ⟨gb106, 4, none⟩ = some (.int .i64 a0_4) := (blk_cell BK106.out 4).trans rfl; have hfz7_0 := blk_frozen BK106.out 0; have hfz7_1 := blk_frozen BK106.out 1; have hfz7_2 := blk_frozen BK106.out 2; have hfz7_3 := blk_frozen BK106.out 3; have hfz7_4 := blk_frozen BK106.out 4))
    go_ret2
    exact ⟨by first | rfl | (simp [errW_none, errW_some] <;> rfl) | (simp [*, errW_none, errW_some] <;> rfl), by repeat (first | (with_reducible first | exact HB.out | apply below_alloc | apply pw_below_drewN | apply below_drew1 | refine below_set ?_ GE106.out) | exact HB.out)⟩
  · rw [if_neg c5] at H
    have c5b0 : (t108 == 0) = false := beq_eq_false_iff_ne.mpr c5
    have c5b1 : (t108 != 0) = true := bne_iff_ne.mpr c5
    simp only [Option.some.injEq, Prod.mk.injEq] at H
    obtain ⟨rfl, rfl⟩ := H
    go_enter Try.func10, Try.ntmps10
    go_wp2_with (first | ((with_reducible refine gate_dst (N := 3) rfl ?_); refine box_event ?hg (N := 3) ?hd (cs := #[.int .i64 a0_0, .int .i64 a0_1, .int .i64 a0_2, .int .i64 a0_3, .int .i64 a0_4]) (t := 25) ?hr ?_; (case hd => rfl); (case hg => rfl); (case hr => first | (go_simp; done) | (go_simp; rfl)); intro gb106 hg w8 hbox hb; have n0_ := Aside0.mk (below_step (by repeat (first | (with_reducible first | exact HB.out | apply below_alloc | apply pw_below_drewN | apply below_drew1) | exact HB.out)) hb); have n1_ := Aside0.mk (hbox); have n2_ := Aside0.mk ((by rw [hg]; exact (below_size (by repeat (first | (with_reducible first | exact HB.out | apply below_alloc | apply pw_below_drewN | apply below_drew1) | exact HB.out))) : w.heap.size ≤ gb106)); have n3_ := Aside0.mk ((by rw [hg]; exact (below_size (by repeat (first | (with_reducible first | exact HB.out | apply below_alloc | apply pw_below_drewN | apply below_drew1) | exact HB.out))) : w.heap.size ≤ gb106)); clear HB; have HB := n0_; have BK106 := n1_; have GW106 := n2_; have GE106 := n3_; clear n0_ n1_ n2_ n3_; clear hb hbox hg) | ((with_reducible refine gate_callee (f := 8) rfl ?_); refine goesL_ (some 13) rfl rfl Try.func8 (by kernel_rfl) rfl #[.int .i64 a1, .int .i64 a2] rfl (by (try simp only [List.map_toArray, List.map_cons, List.map_nil]); first | done | rfl | (simp only [List.length_drop, List.length_take]; rfl)) ?_; (with_reducible refine (slot_Bit.calls a1 a2 t107 t108 _ A4.out).mono ?_); rintro e w' ⟨rfl, ⟨nd, rfl⟩⟩; refine ⟨_, rfl, ?_⟩))
    go_ret2
    exact ⟨by first | rfl | (simp [errW_none, errW_some] <;> rfl) | (simp [*, errW_none, errW_some] <;> rfl), by repeat (first | (with_reducible first | exact HB.out | apply below_alloc | apply pw_below_drewN | apply below_drew1 | refine below_set ?_ GE106.out) | exact HB.out)⟩

/-! ### chorusref1_Alive: function 11 -/
def chorusref1_Alive.f (a0_0 : Int) (a0_1 : Int) (a0_2 : Int) (a0_3 : Int) (a0_4 : Int) (a1 : Int) (a2 : Int) : Option (Bool × Int) := (chorusref1_Bit.f a1 a2).bind fun bt110 => (if bt110.2 = 0 then (some ((a0_4 == bt110.1), bt110.2)) else (some (false, bt110.2)))
set_option maxHeartbeats 8000000 in
set_option maxRecDepth 100000 in
theorem chorusref1_Alive.calls (a0_0 : Int) (a0_1 : Int) (a0_2 : Int) (a0_3 : Int) (a0_4 : Int) (a1 : Int) (a2 : Int) (r1 : Bool) (r2 : Int) (w : World) (h : chorusref1_Alive.f a0_0 a0_1 a0_2 a0_3 a0_4 a1 a2 = some (r1, r2)) :
    Calls Try.prog 11 #[.agg #[.int .i64 a0_0, .int .i64 a0_1, .int .i64 a0_2, .int .i64 a0_3, .int .i64 a0_4], .int .i64 a1, .int .i64 a2] w fun e w' => e = .returned (.tuple #[.bool r1, .int .i64 r2]) ∧ Below w.heap.size w w' := by
  have hu25 := Try.underlying25
  have HB := Aside0.mk (Below.refl w.heap.size w)
  have H : ((chorusref1_Bit.f a1 a2).bind fun bt110 => (if bt110.2 = 0 then (some ((a0_4 == bt110.1), bt110.2)) else (some (false, bt110.2)))) = some (r1, r2) := h
  clear h
  replace H := Option.bind_eq_some_iff.mp H
  obtain ⟨⟨t110, t111⟩, A40, H⟩ := H
  replace H : (if t111 = 0 then (some ((a0_4 == t110), t111)) else (some (false, t111))) = some (r1, r2) := H
  have A4 := Aside0.mk A40
  clear A40
  by_cases c5 : t111 = 0
  · rw [if_pos c5] at H
    have c5b0 : (t111 == 0) = true := beq_iff_eq.mpr c5
    have c5b1 : (t111 != 0) = false := bne_eq_false_iff_eq.mpr c5
    clear c5
    simp only [Option.some.injEq, Prod.mk.injEq] at H
    obtain ⟨rfl, rfl⟩ := H
    go_enter Try.func11, Try.ntmps11
    go_wp2_with (first | ((with_reducible refine gate_dst (N := 3) rfl ?_); refine box_event ?hg (N := 3) ?hd (cs := #[.int .i64 a0_0, .int .i64 a0_1, .int .i64 a0_2, .int .i64 a0_3, .int .i64 a0_4]) (t := 25) ?hr ?_; (case hd => rfl); (case hg => rfl); (case hr => first | (go_simp; done) | (go_simp; rfl)); intro gb109 hg w6 hbox hb; have n0_ := Aside0.mk (below_step (by repeat (first | (with_reducible first | exact HB.out | apply below_alloc | apply pw_below_drewN | apply below_drew1) | exact HB.out)) hb); have n1_ := Aside0.mk (hbox); have n2_ := Aside0.mk ((by rw [hg]; exact (below_size (by repeat (first | (with_reducible first | exact HB.out | apply below_alloc | apply pw_below_drewN | apply below_drew1) | exact HB.out))) : w.heap.size ≤ gb109)); have n3_ := Aside0.mk ((by rw [hg]; exact (below_size (by repeat (first | (with_reducible first | exact HB.out | apply below_alloc | apply pw_below_drewN | apply below_drew1) | exact HB.out))) : w.heap.size ≤ gb109)); clear HB; have HB := n0_; have BK109 := n1_; have GW109 := n2_; have GE109 := n3_; clear n0_ n1_ n2_ n3_; clear hb hbox hg) | ((with_reducible refine gate_callee (f := 9) rfl ?_); refine goesL_ (some 13) rfl rfl Try.func9 (by kernel_rfl) rfl #[.int .i64 a1, .int .i64 a2] rfl (by (try simp only [List.map_toArray, List.map_cons, List.map_nil]); first | done | rfl | (simp only [List.length_drop, List.length_take]; rfl)) ?_; (with_reducible refine (chorusref1_Bit.calls a1 a2 t110 t111 _ A4.out).mono ?_); rintro e w' ⟨rfl, ⟨nd, rfl⟩⟩; refine ⟨_, rfl, ?_⟩; have hcz7_0 : w6.cell? ⟨gb109, 0, none⟩ = some (.int .i64 a0_0) := (blk_cell BK109.out 0).trans rfl; have hcz7_1 : w6.cell? ⟨gb109, 1, none⟩ = some (.int .i64 a0_1) := (blk_cell BK109.out 1).trans rfl; have hcz7_2 : w6.cell? ⟨gb109, 2, none⟩ = some (.int .i64 a0_2) := (blk_cell BK109.out 2).trans rfl; have hcz7_3 : w6.cell? ⟨gb109, 3, none⟩ = some (.int .i64 a0_3) := (blk_cell BK109.out 3).trans rfl; have hcz7_4 : w6.cell? ⟨gb109, 4, none⟩ = some (.int .i64 a0_4) := (blk_cell BK109.out 4).trans rfl; have hfz7_0 := blk_frozen BK109.out 0; have hfz7_1 := blk_frozen BK109.out 1; have hfz7_2 := blk_frozen BK109.out 2; have hfz7_3 := blk_frozen BK109.out 3; have hfz7_4 := blk_frozen BK109.out 4))
    go_ret2
    exact ⟨by first | rfl | (simp [errW_none, errW_some] <;> rfl) | (simp [*, errW_none, errW_some] <;> rfl), by repeat (first | (with_reducible first | exact HB.out | apply below_alloc | apply pw_below_drewN | apply below_drew1 | refine below_set ?_ GE109.out) | exact HB.out)⟩
  · rw [if_neg c5] at H
    have c5b0 : (t111 == 0) = false := beq_eq_false_iff_ne.mpr c5
    have c5b1 : (t111 != 0) = true := bne_iff_ne.mpr c5
    simp only [Option.some.injEq, Prod.mk.injEq] at H
    obtain ⟨rfl, rfl⟩ := H
    go_enter Try.func11, Try.ntmps11
    go_wp2_with (first | ((with_reducible refine gate_dst (N := 3) rfl ?_); refine box_event ?hg (N := 3) ?hd (cs := #[.int .i64 a0_0, .int .i64 a0_1, .int .i64 a0_2, .int .i64 a0_3, .int .i64 a0_4]) (t := 25) ?hr ?_; (case hd => rfl); (case hg => rfl); (case hr => first | (go_simp; done) | (go_simp; rfl)); intro gb109 hg w8 hbox hb; have n0_ := Aside0.mk (below_step (by repeat (first | (with_reducible first | exact HB.out | apply below_alloc | apply pw_below_drewN | apply below_drew1) | exact HB.out)) hb); have n1_ := Aside0.mk (hbox); have n2_ := Aside0.mk ((by rw [hg]; exact (below_size (by repeat (first | (with_reducible first | exact HB.out | apply below_alloc | apply pw_below_drewN | apply below_drew1) | exact HB.out))) : w.heap.size ≤ gb109)); have n3_ := Aside0.mk ((by rw [hg]; exact (below_size (by repeat (first | (with_reducible first | exact HB.out | apply below_alloc | apply pw_below_drewN | apply below_drew1) | exact HB.out))) : w.heap.size ≤ gb109)); clear HB; have HB := n0_; have BK109 := n1_; have GW109 := n2_; have GE109 := n3_; clear n0_ n1_ n2_ n3_; clear hb hbox hg) | ((with_reducible refine gate_callee (f := 9) rfl ?_); refine goesL_ (some 13) rfl rfl Try.func9 (by kernel_rfl) rfl #[.int .i64 a1, .int .i64 a2] rfl (by (try simp only [List.map_toArray, List.map_cons, List.map_nil]); first | done | rfl | (simp only [List.length_drop, List.length_take]; rfl)) ?_; (with_reducible refine (chorusref1_Bit.calls a1 a2 t110 t111 _ A4.out).mono ?_); rintro e w' ⟨rfl, ⟨nd, rfl⟩⟩; refine ⟨_, rfl, ?_⟩))
    go_ret2
    exact ⟨by first | rfl | (simp [errW_none, errW_some] <;> rfl) | (simp [*, errW_none, errW_some] <;> rfl), by repeat (first | (with_reducible first | exact HB.out | apply below_alloc | apply pw_below_drewN | apply below_drew1 | refine below_set ?_ GE109.out) | exact HB.out)⟩

/-! ### choruslaw0_Num: function 12 -/
def choruslaw0_Num.f (a0 : Int) : Option (Int) := some a0
set_option maxHeartbeats 8000000 in
set_option maxRecDepth 100000 in
theorem choruslaw0_Num.calls (a0 : Int) (r : Int) (w : World) (h : choruslaw0_Num.f a0 = some r) :
    Calls Try.prog 12 #[.int .i64 a0] w fun e w' => e = .returned (.int .i64 r) ∧ Drawn0 w w' := by
  have H : (some a0) = some r := h
  clear h
  obtain rfl := Option.some.inj H
  go_enter Try.func12, Try.ntmps12
  go_wp2
  go_ret
  exact ⟨by first | rfl | (simp; done) | (simp [*]; done) | (congr 1 <;> (first | rfl | (unfold wrap64; omega))), by repeat (first | exact Drawn0.refl _ | apply Drawn0.step)⟩

/-! ### choruslaw9_awake: function 13 -/
def choruslaw9_awake.f  : Option (Bool) := (slot_Bit.f 3 4).bind fun bt112 => ((slot_Bit.f 4 4).bind fun bt114 => ((slot_Alive.f 0 0 0 0 1 9 4).bind fun bt116 => ((slot_Bit.f 3 3).bind fun bt118 => ((slot_Alive.f 0 0 0 0 0 (-1) 4).bind fun bt120 => (if bt112.1 = 1 then ((choruslaw0_Num.f bt112.2).bind fun t122 => (if t122 = 0 then (if bt114.1 = 0 then ((choruslaw0_Num.f bt114.2).bind fun t123 => (if t123 = 0 then (if bt116.1 = true then ((choruslaw0_Num.f bt116.2).bind fun t124 => (if t124 = 0 then ((choruslaw0_Num.f bt118.2).bind fun t125 => (if t125 = 900 then ((choruslaw0_Num.f bt120.2).bind fun t126 => (if t126 = 900 then (some true) else (some false))) else (some false))) else (some false))) else (some false)) else (some false))) else (some false)) else (some false))) else (some false))))))
set_option maxHeartbeats 8000000 in
set_option maxRecDepth 100000 in
theorem choruslaw9_awake.calls  (r : Bool) (w : World) (h : choruslaw9_awake.f  = some r) (hr_ : r = true := by first | rfl | assumption) :
    Calls Try.prog 13 #[] w fun e w' => e = .returned (.bool r) ∧ Below w.heap.size w w' := by
  subst hr_
  have hu25 := Try.underlying25
  have HB := Aside0.mk (Below.refl w.heap.size w)
  have H : ((slot_Bit.f 3 4).bind fun bt112 => ((slot_Bit.f 4 4).bind fun bt114 => ((slot_Alive.f 0 0 0 0 1 9 4).bind fun bt116 => ((slot_Bit.f 3 3).bind fun bt118 => ((slot_Alive.f 0 0 0 0 0 (-1) 4).bind fun bt120 => (if bt112.1 = 1 then ((choruslaw0_Num.f bt112.2).bind fun t122 => (if t122 = 0 then (if bt114.1 = 0 then ((choruslaw0_Num.f bt114.2).bind fun t123 => (if t123 = 0 then (if bt116.1 = true then ((choruslaw0_Num.f bt116.2).bind fun t124 => (if t124 = 0 then ((choruslaw0_Num.f bt118.2).bind fun t125 => (if t125 = 900 then ((choruslaw0_Num.f bt120.2).bind fun t126 => (if t126 = 900 then (some true) else (some false))) else (some false))) else (some false))) else (some false)) else (some false))) else (some false)) else (some false))) else (some false))))))) = some true := h
  clear h
  replace H := Option.bind_eq_some_iff.mp H
  obtain ⟨⟨t112, t113⟩, A10, H⟩ := H
  replace H : ((slot_Bit.f 4 4).bind fun bt114 => ((slot_Alive.f 0 0 0 0 1 9 4).bind fun bt116 => ((slot_Bit.f 3 3).bind fun bt118 => ((slot_Alive.f 0 0 0 0 0 (-1) 4).bind fun bt120 => (if t112 = 1 then ((choruslaw0_Num.f t113).bind fun t122 => (if t122 = 0 then (if bt114.1 = 0 then ((choruslaw0_Num.f bt114.2).bind fun t123 => (if t123 = 0 then (if bt116.1 = true then ((choruslaw0_Num.f bt116.2).bind fun t124 => (if t124 = 0 then ((choruslaw0_Num.f bt118.2).bind fun t125 => (if t125 = 900 then ((choruslaw0_Num.f bt120.2).bind fun t126 => (if t126 = 900 then (some true) else (some false))) else (some false))) else (some false))) else (some false)) else (some false))) else (some false)) else (some false))) else (some false)))))) = some true := H
  have A1 := Aside0.mk A10
  clear A10
  replace H := Option.bind_eq_some_iff.mp H
  obtain ⟨⟨t114, t115⟩, A20, H⟩ := H
  replace H : ((slot_Alive.f 0 0 0 0 1 9 4).bind fun bt116 => ((slot_Bit.f 3 3).bind fun bt118 => ((slot_Alive.f 0 0 0 0 0 (-1) 4).bind fun bt120 => (if t112 = 1 then ((choruslaw0_Num.f t113).bind fun t122 => (if t122 = 0 then (if t114 = 0 then ((choruslaw0_Num.f t115).bind fun t123 => (if t123 = 0 then (if bt116.1 = true then ((choruslaw0_Num.f bt116.2).bind fun t124 => (if t124 = 0 then ((choruslaw0_Num.f bt118.2).bind fun t125 => (if t125 = 900 then ((choruslaw0_Num.f bt120.2).bind fun t126 => (if t126 = 900 then (some true) else (some false))) else (some false))) else (some false))) else (some false)) else (some false))) else (some false)) else (some false))) else (some false))))) = some true := H
  have A2 := Aside0.mk A20
  clear A20
  replace H := Option.bind_eq_some_iff.mp H
  obtain ⟨⟨t116, t117⟩, A30, H⟩ := H
  replace H : ((slot_Bit.f 3 3).bind fun bt118 => ((slot_Alive.f 0 0 0 0 0 (-1) 4).bind fun bt120 => (if t112 = 1 then ((choruslaw0_Num.f t113).bind fun t122 => (if t122 = 0 then (if t114 = 0 then ((choruslaw0_Num.f t115).bind fun t123 => (if t123 = 0 then (if t116 = true then ((choruslaw0_Num.f t117).bind fun t124 => (if t124 = 0 then ((choruslaw0_Num.f bt118.2).bind fun t125 => (if t125 = 900 then ((choruslaw0_Num.f bt120.2).bind fun t126 => (if t126 = 900 then (some true) else (some false))) else (some false))) else (some false))) else (some false)) else (some false))) else (some false)) else (some false))) else (some false)))) = some true := H
  have A3 := Aside0.mk A30
  clear A30
  replace H := Option.bind_eq_some_iff.mp H
  obtain ⟨⟨t118, t119⟩, A40, H⟩ := H
  replace H : ((slot_Alive.f 0 0 0 0 0 (-1) 4).bind fun bt120 => (if t112 = 1 then ((choruslaw0_Num.f t113).bind fun t122 => (if t122 = 0 then (if t114 = 0 then ((choruslaw0_Num.f t115).bind fun t123 => (if t123 = 0 then (if t116 = true then ((choruslaw0_Num.f t117).bind fun t124 => (if t124 = 0 then ((choruslaw0_Num.f t119).bind fun t125 => (if t125 = 900 then ((choruslaw0_Num.f bt120.2).bind fun t126 => (if t126 = 900 then (some true) else (some false))) else (some false))) else (some false))) else (some false)) else (some false))) else (some false)) else (some false))) else (some false))) = some true := H
  have A4 := Aside0.mk A40
  clear A40
  replace H := Option.bind_eq_some_iff.mp H
  obtain ⟨⟨t120, t121⟩, A50, H⟩ := H
  replace H : (if t112 = 1 then ((choruslaw0_Num.f t113).bind fun t122 => (if t122 = 0 then (if t114 = 0 then ((choruslaw0_Num.f t115).bind fun t123 => (if t123 = 0 then (if t116 = true then ((choruslaw0_Num.f t117).bind fun t124 => (if t124 = 0 then ((choruslaw0_Num.f t119).bind fun t125 => (if t125 = 900 then ((choruslaw0_Num.f t121).bind fun t126 => (if t126 = 900 then (some true) else (some false))) else (some false))) else (some false))) else (some false)) else (some false))) else (some false)) else (some false))) else (some false)) = some true := H
  have A5 := Aside0.mk A50
  clear A50
  by_cases c6 : t112 = 1
  · rw [if_pos c6] at H
    have c6b0 : (t112 == 1) = true := beq_iff_eq.mpr c6
    have c6b1 : (t112 != 1) = false := bne_eq_false_iff_eq.mpr c6
    clear c6
    replace H := Option.bind_eq_some_iff.mp H
    obtain ⟨t122, A70, H⟩ := H
    replace H : (if t122 = 0 then (if t114 = 0 then ((choruslaw0_Num.f t115).bind fun t123 => (if t123 = 0 then (if t116 = true then ((choruslaw0_Num.f t117).bind fun t124 => (if t124 = 0 then ((choruslaw0_Num.f t119).bind fun t125 => (if t125 = 900 then ((choruslaw0_Num.f t121).bind fun t126 => (if t126 = 900 then (some true) else (some false))) else (some false))) else (some false))) else (some false)) else (some false))) else (some false)) else (some false)) = some true := H
    have A7 := Aside0.mk A70
    clear A70
    by_cases c8 : t122 = 0
    · rw [if_pos c8] at H
      have c8b0 : (t122 == 0) = true := beq_iff_eq.mpr c8
      have c8b1 : (t122 != 0) = false := bne_eq_false_iff_eq.mpr c8
      clear c8
      by_cases c9 : t114 = 0
      · rw [if_pos c9] at H
        have c9b0 : (t114 == 0) = true := beq_iff_eq.mpr c9
        have c9b1 : (t114 != 0) = false := bne_eq_false_iff_eq.mpr c9
        clear c9
        replace H := Option.bind_eq_some_iff.mp H
        obtain ⟨t123, A100, H⟩ := H
        replace H : (if t123 = 0 then (if t116 = true then ((choruslaw0_Num.f t117).bind fun t124 => (if t124 = 0 then ((choruslaw0_Num.f t119).bind fun t125 => (if t125 = 900 then ((choruslaw0_Num.f t121).bind fun t126 => (if t126 = 900 then (some true) else (some false))) else (some false))) else (some false))) else (some false)) else (some false)) = some true := H
        have A10 := Aside0.mk A100
        clear A100
        by_cases c11 : t123 = 0
        · rw [if_pos c11] at H
          have c11b0 : (t123 == 0) = true := beq_iff_eq.mpr c11
          have c11b1 : (t123 != 0) = false := bne_eq_false_iff_eq.mpr c11
          clear c11
          by_cases c12 : t116 = true
          · subst c12
            have H1 : ((choruslaw0_Num.f t117).bind fun t124 => (if t124 = 0 then ((choruslaw0_Num.f t119).bind fun t125 => (if t125 = 900 then ((choruslaw0_Num.f t121).bind fun t126 => (if t126 = 900 then (some true) else (some false))) else (some false))) else (some false))) = some true := by first | (rw [if_pos rfl] at H; exact H) | rfl
            clear H
            have H := H1
            clear H1
            replace H := Option.bind_eq_some_iff.mp H
            obtain ⟨t124, A130, H⟩ := H
            replace H : (if t124 = 0 then ((choruslaw0_Num.f t119).bind fun t125 => (if t125 = 900 then ((choruslaw0_Num.f t121).bind fun t126 => (if t126 = 900 then (some true) else (some false))) else (some false))) else (some false)) = some true := H
            have A13 := Aside0.mk A130
            clear A130
            by_cases c14 : t124 = 0
            · rw [if_pos c14] at H
              have c14b0 : (t124 == 0) = true := beq_iff_eq.mpr c14
              have c14b1 : (t124 != 0) = false := bne_eq_false_iff_eq.mpr c14
              clear c14
              replace H := Option.bind_eq_some_iff.mp H
              obtain ⟨t125, A150, H⟩ := H
              replace H : (if t125 = 900 then ((choruslaw0_Num.f t121).bind fun t126 => (if t126 = 900 then (some true) else (some false))) else (some false)) = some true := H
              have A15 := Aside0.mk A150
              clear A150
              by_cases c16 : t125 = 900
              · rw [if_pos c16] at H
                have c16b0 : (t125 == 900) = true := beq_iff_eq.mpr c16
                have c16b1 : (t125 != 900) = false := bne_eq_false_iff_eq.mpr c16
                clear c16
                replace H := Option.bind_eq_some_iff.mp H
                obtain ⟨t126, A170, H⟩ := H
                replace H : (if t126 = 900 then (some true) else (some false)) = some true := H
                have A17 := Aside0.mk A170
                clear A170
                by_cases c18 : t126 = 900
                · rw [if_pos c18] at H
                  have c18b0 : (t126 == 900) = true := beq_iff_eq.mpr c18
                  have c18b1 : (t126 != 900) = false := bne_eq_false_iff_eq.mpr c18
                  clear c18
                  clear H
                  go_enter Try.func13, Try.ntmps13
                  (try simp only [List.append_eq, List.cons_append, List.nil_append])
                  go_wp2_with (first | ((with_reducible refine gate_callee (f := 8) rfl ?_); refine goesL_ (some 12) rfl rfl Try.func8 (by kernel_rfl) rfl #[.int .i64 3, .int .i64 4] rfl (by (try simp only [List.map_toArray, List.map_cons, List.map_nil]); first | done | rfl | (simp only [List.length_drop, List.length_take]; rfl)) ?_; (with_reducible refine (slot_Bit.calls 3 4 t112 t113 _ A1.out).mono ?_); rintro e w' ⟨rfl, ⟨nd, rfl⟩⟩; refine ⟨_, rfl, ?_⟩) | ((with_reducible refine gate_callee (f := 8) rfl ?_); refine goesL_ (some 16) rfl rfl Try.func8 (by kernel_rfl) rfl #[.int .i64 4, .int .i64 4] rfl (by (try simp only [List.map_toArray, List.map_cons, List.map_nil]); first | done | rfl | (simp only [List.length_drop, List.length_take]; rfl)) ?_; (with_reducible refine (slot_Bit.calls 4 4 t114 t115 _ A2.out).mono ?_); rintro e w' ⟨rfl, ⟨nd, rfl⟩⟩; refine ⟨_, rfl, ?_⟩) | ((with_reducible refine gate_callee (f := 10) rfl ?_); refine goesL_ (some 21) rfl rfl Try.func10 (by kernel_rfl) rfl #[.agg #[.int .i64 0, .int .i64 0, .int .i64 0, .int .i64 0, .int .i64 1], .int .i64 9, .int .i64 4] rfl (by (try simp only [List.map_toArray, List.map_cons, List.map_nil]); first | done | rfl | (simp only [List.length_drop, List.length_take]; rfl)) ?_; (with_reducible refine (slot_Alive.calls 0 0 0 0 1 9 4 true t117 _ A3.out).mono ?_); rintro e w19 ⟨rfl, hb⟩; refine ⟨_, rfl, ?_⟩; have n0_ := Aside0.mk (below_step (by repeat (first | (with_reducible first | exact HB.out | apply below_alloc | apply pw_below_drewN | apply below_drew1) | exact HB.out)) hb); clear HB; have HB := n0_; clear n0_; (try clear hb); (try clear hb2); (try clear hk); (try clear hi)) | ((with_reducible refine gate_callee (f := 8) rfl ?_); refine goesL_ (some 25) rfl rfl Try.func8 (by kernel_rfl) rfl #[.int .i64 3, .int .i64 3] rfl (by (try simp only [List.map_toArray, List.map_cons, List.map_nil]); first | done | rfl | (simp only [List.length_drop, List.length_take]; rfl)) ?_; (with_reducible refine (slot_Bit.calls 3 3 t118 t119 _ A4.out).mono ?_); rintro e w' ⟨rfl, ⟨nd, rfl⟩⟩; refine ⟨_, rfl, ?_⟩) | ((with_reducible refine gate_callee (f := 10) rfl ?_); refine goesL_ (some 30) rfl rfl Try.func10 (by kernel_rfl) rfl #[.agg #[.int .i64 0, .int .i64 0, .int .i64 0, .int .i64 0, .int .i64 0], .int .i64 (-1), .int .i64 4] rfl (by (try simp only [List.map_toArray, List.map_cons, List.map_nil]); first | done | rfl | (simp only [List.length_drop, List.length_take]; rfl)) ?_; (with_reducible refine (slot_Alive.calls 0 0 0 0 0 (-1) 4 t120 t121 _ A5.out).mono ?_); rintro e w20 ⟨rfl, hb⟩; refine ⟨_, rfl, ?_⟩; have n0_ := Aside0.mk (below_step (by repeat (first | (with_reducible first | exact HB.out | apply below_alloc | apply pw_below_drewN | apply below_drew1) | exact HB.out)) hb); clear HB; have HB := n0_; clear n0_; (try clear hb); (try clear hb2); (try clear hk); (try clear hi)) | (go_at_call 12; (with_reducible refine (choruslaw0_Num.calls t113 t122 _ A7.out).mono ?_); rintro e w' ⟨rfl, ⟨nd, rfl⟩⟩) | (go_at_call 12; (with_reducible refine (choruslaw0_Num.calls t115 t123 _ A10.out).mono ?_); rintro e w' ⟨rfl, ⟨nd, rfl⟩⟩) | (go_at_call 12; (with_reducible refine (choruslaw0_Num.calls t117 t124 _ A13.out).mono ?_); rintro e w' ⟨rfl, ⟨nd, rfl⟩⟩) | (go_at_call 12; (with_reducible refine (choruslaw0_Num.calls t119 t125 _ A15.out).mono ?_); rintro e w' ⟨rfl, ⟨nd, rfl⟩⟩) | (go_at_call 12; (with_reducible refine (choruslaw0_Num.calls t121 t126 _ A17.out).mono ?_); rintro e w' ⟨rfl, ⟨nd, rfl⟩⟩))
                  go_ret
                  exact ⟨by first | rfl | (simp [errW_none, errW_some] <;> rfl) | (simp [*, errW_none, errW_some] <;> rfl), by repeat (first | (with_reducible first | exact HB.out | apply below_alloc | apply pw_below_drewN | apply below_drew1) | exact HB.out)⟩
                · rw [if_neg c18] at H
                  have c18b0 : (t126 == 900) = false := beq_eq_false_iff_ne.mpr c18
                  have c18b1 : (t126 != 900) = true := bne_iff_ne.mpr c18
                  exact absurd (Option.some.inj H) (by simp)
              · rw [if_neg c16] at H
                have c16b0 : (t125 == 900) = false := beq_eq_false_iff_ne.mpr c16
                have c16b1 : (t125 != 900) = true := bne_iff_ne.mpr c16
                exact absurd (Option.some.inj H) (by simp)
            · rw [if_neg c14] at H
              have c14b0 : (t124 == 0) = false := beq_eq_false_iff_ne.mpr c14
              have c14b1 : (t124 != 0) = true := bne_iff_ne.mpr c14
              exact absurd (Option.some.inj H) (by simp)
          · replace c12 := Bool.eq_false_iff.mpr c12
            subst c12
            have H1 : (some false) = some true := by first | (rw [if_neg (show ¬ (false = true) by decide)] at H; exact H) | rfl
            clear H
            have H := H1
            clear H1
            exact absurd (Option.some.inj H) (by simp)
        · rw [if_neg c11] at H
          have c11b0 : (t123 == 0) = false := beq_eq_false_iff_ne.mpr c11
          have c11b1 : (t123 != 0) = true := bne_iff_ne.mpr c11
          exact absurd (Option.some.inj H) (by simp)
      · rw [if_neg c9] at H
        have c9b0 : (t114 == 0) = false := beq_eq_false_iff_ne.mpr c9
        have c9b1 : (t114 != 0) = true := bne_iff_ne.mpr c9
        exact absurd (Option.some.inj H) (by simp)
    · rw [if_neg c8] at H
      have c8b0 : (t122 == 0) = false := beq_eq_false_iff_ne.mpr c8
      have c8b1 : (t122 != 0) = true := bne_iff_ne.mpr c8
      exact absurd (Option.some.inj H) (by simp)
  · rw [if_neg c6] at H
    have c6b0 : (t112 == 1) = false := beq_eq_false_iff_ne.mpr c6
    have c6b1 : (t112 != 1) = true := bne_iff_ne.mpr c6
    exact absurd (Option.some.inj H) (by simp)

/-! ### choruslaw9_Slots: function 3 -/
def choruslaw9_Slots.f (a0_0 : Int) (a0_1 : Int) (a0_2 : Int) (a0_3 : Int) (a0_4 : Int) (a1 : Int) (a2 : Int) : Option (Bool) := (slot_Bit.f a1 a2).bind fun bt128 => ((chorusref1_Bit.f a1 a2).bind fun bt130 => ((slot_Alive.f a0_0 a0_1 a0_2 a0_3 a0_4 a1 a2).bind fun bt132 => ((chorusref1_Alive.f a0_0 a0_1 a0_2 a0_3 a0_4 a1 a2).bind fun bt134 => (if bt128.1 = bt130.1 then ((choruslaw0_Num.f bt128.2).bind fun t136 => (if t136 = bt130.2 then (if (bt132.1 == bt134.1) = true then ((choruslaw0_Num.f bt132.2).bind fun t137 => (if t137 = bt134.2 then ((choruslaw9_awake.f).bind fun t138 => (if t138 = true then (some true) else (some false))) else (some false))) else (some false)) else (some false))) else (some false)))))
set_option maxHeartbeats 8000000 in
set_option maxRecDepth 100000 in
theorem choruslaw9_Slots.calls (a0_0 : Int) (a0_1 : Int) (a0_2 : Int) (a0_3 : Int) (a0_4 : Int) (a1 : Int) (a2 : Int) (r : Bool) (w : World) (h : choruslaw9_Slots.f a0_0 a0_1 a0_2 a0_3 a0_4 a1 a2 = some r) (hr_ : r = true := by first | rfl | assumption) :
    Calls Try.prog 3 #[.agg #[.int .i64 a0_0, .int .i64 a0_1, .int .i64 a0_2, .int .i64 a0_3, .int .i64 a0_4], .int .i64 a1, .int .i64 a2] w fun e w' => e = .returned (.bool r) ∧ Below w.heap.size w w' := by
  subst hr_
  have hu25 := Try.underlying25
  have HB := Aside0.mk (Below.refl w.heap.size w)
  have H : ((slot_Bit.f a1 a2).bind fun bt128 => ((chorusref1_Bit.f a1 a2).bind fun bt130 => ((slot_Alive.f a0_0 a0_1 a0_2 a0_3 a0_4 a1 a2).bind fun bt132 => ((chorusref1_Alive.f a0_0 a0_1 a0_2 a0_3 a0_4 a1 a2).bind fun bt134 => (if bt128.1 = bt130.1 then ((choruslaw0_Num.f bt128.2).bind fun t136 => (if t136 = bt130.2 then (if (bt132.1 == bt134.1) = true then ((choruslaw0_Num.f bt132.2).bind fun t137 => (if t137 = bt134.2 then ((choruslaw9_awake.f).bind fun t138 => (if t138 = true then (some true) else (some false))) else (some false))) else (some false)) else (some false))) else (some false)))))) = some true := h
  clear h
  replace H := Option.bind_eq_some_iff.mp H
  obtain ⟨⟨t128, t129⟩, A40, H⟩ := H
  replace H : ((chorusref1_Bit.f a1 a2).bind fun bt130 => ((slot_Alive.f a0_0 a0_1 a0_2 a0_3 a0_4 a1 a2).bind fun bt132 => ((chorusref1_Alive.f a0_0 a0_1 a0_2 a0_3 a0_4 a1 a2).bind fun bt134 => (if t128 = bt130.1 then ((choruslaw0_Num.f t129).bind fun t136 => (if t136 = bt130.2 then (if (bt132.1 == bt134.1) = true then ((choruslaw0_Num.f bt132.2).bind fun t137 => (if t137 = bt134.2 then ((choruslaw9_awake.f).bind fun t138 => (if t138 = true then (some true) else (some false))) else (some false))) else (some false)) else (some false))) else (some false))))) = some true := H
  have A4 := Aside0.mk A40
  clear A40
  replace H := Option.bind_eq_some_iff.mp H
  obtain ⟨⟨t130, t131⟩, A50, H⟩ := H
  replace H : ((slot_Alive.f a0_0 a0_1 a0_2 a0_3 a0_4 a1 a2).bind fun bt132 => ((chorusref1_Alive.f a0_0 a0_1 a0_2 a0_3 a0_4 a1 a2).bind fun bt134 => (if t128 = t130 then ((choruslaw0_Num.f t129).bind fun t136 => (if t136 = t131 then (if (bt132.1 == bt134.1) = true then ((choruslaw0_Num.f bt132.2).bind fun t137 => (if t137 = bt134.2 then ((choruslaw9_awake.f).bind fun t138 => (if t138 = true then (some true) else (some false))) else (some false))) else (some false)) else (some false))) else (some false)))) = some true := H
  have A5 := Aside0.mk A50
  clear A50
  replace H := Option.bind_eq_some_iff.mp H
  obtain ⟨⟨t132, t133⟩, A60, H⟩ := H
  replace H : ((chorusref1_Alive.f a0_0 a0_1 a0_2 a0_3 a0_4 a1 a2).bind fun bt134 => (if t128 = t130 then ((choruslaw0_Num.f t129).bind fun t136 => (if t136 = t131 then (if (t132 == bt134.1) = true then ((choruslaw0_Num.f t133).bind fun t137 => (if t137 = bt134.2 then ((choruslaw9_awake.f).bind fun t138 => (if t138 = true then (some true) else (some false))) else (some false))) else (some false)) else (some false))) else (some false))) = some true := H
  have A6 := Aside0.mk A60
  clear A60
  replace H := Option.bind_eq_some_iff.mp H
  obtain ⟨⟨t134, t135⟩, A70, H⟩ := H
  replace H : (if t128 = t130 then ((choruslaw0_Num.f t129).bind fun t136 => (if t136 = t131 then (if (t132 == t134) = true then ((choruslaw0_Num.f t133).bind fun t137 => (if t137 = t135 then ((choruslaw9_awake.f).bind fun t138 => (if t138 = true then (some true) else (some false))) else (some false))) else (some false)) else (some false))) else (some false)) = some true := H
  have A7 := Aside0.mk A70
  clear A70
  by_cases c8 : t128 = t130
  · rw [if_pos c8] at H
    have c8b0 : (t128 == t130) = true := beq_iff_eq.mpr c8
    have c8b1 : (t128 != t130) = false := bne_eq_false_iff_eq.mpr c8
    clear c8
    replace H := Option.bind_eq_some_iff.mp H
    obtain ⟨t136, A90, H⟩ := H
    replace H : (if t136 = t131 then (if (t132 == t134) = true then ((choruslaw0_Num.f t133).bind fun t137 => (if t137 = t135 then ((choruslaw9_awake.f).bind fun t138 => (if t138 = true then (some true) else (some false))) else (some false))) else (some false)) else (some false)) = some true := H
    have A9 := Aside0.mk A90
    clear A90
    by_cases c10 : t136 = t131
    · rw [if_pos c10] at H
      have c10b0 : (t136 == t131) = true := beq_iff_eq.mpr c10
      have c10b1 : (t136 != t131) = false := bne_eq_false_iff_eq.mpr c10
      clear c10
      by_cases c11 : (t132 == t134) = true
      · rw [if_pos c11] at H
        have c11b0 : (t132 == t134) = true := c11
        (try (have c11b1 : decide (t132 = t134) = true := by simpa using c11))
        (try (have c11b2 : (t132 == t134) = true := by simpa using c11))
        clear c11
        replace H := Option.bind_eq_some_iff.mp H
        obtain ⟨t137, A120, H⟩ := H
        replace H : (if t137 = t135 then ((choruslaw9_awake.f).bind fun t138 => (if t138 = true then (some true) else (some false))) else (some false)) = some true := H
        have A12 := Aside0.mk A120
        clear A120
        by_cases c13 : t137 = t135
        · rw [if_pos c13] at H
          have c13b0 : (t137 == t135) = true := beq_iff_eq.mpr c13
          have c13b1 : (t137 != t135) = false := bne_eq_false_iff_eq.mpr c13
          clear c13
          replace H := Option.bind_eq_some_iff.mp H
          obtain ⟨t138, A140, H⟩ := H
          replace H : (if t138 = true then (some true) else (some false)) = some true := H
          have A14 := Aside0.mk A140
          clear A140
          by_cases c15 : t138 = true
          · subst c15
            have H1 : (some true) = some true := by first | (rw [if_pos rfl] at H; exact H) | rfl
            clear H
            have H := H1
            clear H1
            clear H
            go_enter Try.func3, Try.ntmps3
            go_wp2_with (first | ((with_reducible refine gate_dst (N := 3) rfl ?_); refine box_event ?hg (N := 3) ?hd (cs := #[.int .i64 a0_0, .int .i64 a0_1, .int .i64 a0_2, .int .i64 a0_3, .int .i64 a0_4]) (t := 25) ?hr ?_; (case hd => rfl); (case hg => rfl); (case hr => first | (go_simp; done) | (go_simp; rfl)); intro gb127 hg w16 hbox hb; have n0_ := Aside0.mk (below_step (by repeat (first | (with_reducible first | exact HB.out | apply below_alloc | apply pw_below_drewN | apply below_drew1) | exact HB.out)) hb); have n1_ := Aside0.mk (hbox); have n2_ := Aside0.mk ((by rw [hg]; exact (below_size (by repeat (first | (with_reducible first | exact HB.out | apply below_alloc | apply pw_below_drewN | apply below_drew1) | exact HB.out))) : w.heap.size ≤ gb127)); have n3_ := Aside0.mk ((by rw [hg]; exact (below_size (by repeat (first | (with_reducible first | exact HB.out | apply below_alloc | apply pw_below_drewN | apply below_drew1) | exact HB.out))) : w.heap.size ≤ gb127)); clear HB; have HB := n0_; have BK127 := n1_; have GW127 := n2_; have GE127 := n3_; clear n0_ n1_ n2_ n3_; clear hb hbox hg) | ((with_reducible refine gate_callee (f := 8) rfl ?_); refine goesL_ (some 18) rfl rfl Try.func8 (by kernel_rfl) rfl #[.int .i64 a1, .int .i64 a2] rfl (by (try simp only [List.map_toArray, List.map_cons, List.map_nil]); first | done | rfl | (simp only [List.length_drop, List.length_take]; rfl)) ?_; (with_reducible refine (slot_Bit.calls a1 a2 t128 t129 _ A4.out).mono ?_); rintro e w' ⟨rfl, ⟨nd, rfl⟩⟩; refine ⟨_, rfl, ?_⟩) | ((with_reducible refine gate_callee (f := 9) rfl ?_); refine goesL_ (some 24) rfl rfl Try.func9 (by kernel_rfl) rfl #[.int .i64 a1, .int .i64 a2] rfl (by (try simp only [List.map_toArray, List.map_cons, List.map_nil]); first | done | rfl | (simp only [List.length_drop, List.length_take]; rfl)) ?_; (with_reducible refine (chorusref1_Bit.calls a1 a2 t130 t131 _ A5.out).mono ?_); rintro e w' ⟨rfl, ⟨nd, rfl⟩⟩; refine ⟨_, rfl, ?_⟩; have hcz17_0 : w16.cell? ⟨gb127, 0, none⟩ = some (.int .i64 a0_0) := (blk_cell BK127.out 0).trans rfl; have hcz17_1 : w16.cell? ⟨gb127, 1, none⟩ = some (.int .i64 a0_1) := (blk_cell BK127.out 1).trans rfl; have hcz17_2 : w16.cell? ⟨gb127, 2, none⟩ = some (.int .i64 a0_2) := (blk_cell BK127.out 2).trans rfl; have hcz17_3 : w16.cell? ⟨gb127, 3, none⟩ = some (.int .i64 a0_3) := (blk_cell BK127.out 3).trans rfl; have hcz17_4 : w16.cell? ⟨gb127, 4, none⟩ = some (.int .i64 a0_4) := (blk_cell BK127.out 4).trans rfl; have hfz17_0 := blk_frozen BK127.out 0; have hfz17_1 := blk_frozen BK127.out 1; have hfz17_2 := blk_frozen BK127.out 2; have hfz17_3 := blk_frozen BK127.out 3; have hfz17_4 := blk_frozen BK127.out 4) | ((with_reducible refine gate_callee (f := 10) rfl ?_); refine goesL_ (some 31) rfl rfl Try.func10 (by kernel_rfl) rfl #[.agg #[.int .i64 a0_0, .int .i64 a0_1, .int .i64 a0_2, .int .i64 a0_3, .int .i64 a0_4], .int .i64 a1, .int .i64 a2] rfl (by (try simp only [List.map_toArray, List.map_cons, List.map_nil]); first | done | rfl | (simp only [List.length_drop, List.length_take]; rfl)) ?_; (with_reducible refine (slot_Alive.calls a0_0 a0_1 a0_2 a0_3 a0_4 a1 a2 t132 t133 _ A6.out).mono ?_); rintro e w18 ⟨rfl, hb⟩; refine ⟨_, rfl, ?_⟩; have n0_ := Aside0.mk (blk_below (g := gb127) (o := .cells #[.int .i64 a0_0, .int .i64 a0_1, .int .i64 a0_2, .int .i64 a0_3, .int .i64 a0_4] 25 (0, 0)) (by (with_reducible repeat (first | refine blk_drewN ?_ _ | refine blk_drew ?_ | refine blk_alloc ?_ _)); exact BK127.out) hb); have n1_ := Aside0.mk (below_step (by repeat (first | (with_reducible first | exact HB.out | apply below_alloc | apply pw_below_drewN | apply below_drew1 | refine below_set ?_ GE127.out) | exact HB.out)) hb); clear BK127; clear HB; have BK127 := n0_; have HB := n1_; clear n0_ n1_; (try clear hb); (try clear hb2); (try clear hk); (try clear hi); have hcz19_0 : w18.cell? ⟨gb127, 0, none⟩ = some (.int .i64 a0_0) := (blk_cell BK127.out 0).trans rfl; have hcz19_1 : w18.cell? ⟨gb127, 1, none⟩ = some (.int .i64 a0_1) := (blk_cell BK127.out 1).trans rfl; have hcz19_2 : w18.cell? ⟨gb127, 2, none⟩ = some (.int .i64 a0_2) := (blk_cell BK127.out 2).trans rfl; have hcz19_3 : w18.cell? ⟨gb127, 3, none⟩ = some (.int .i64 a0_3) := (blk_cell BK127.out 3).trans rfl; have hcz19_4 : w18.cell? ⟨gb127, 4, none⟩ = some (.int .i64 a0_4) := (blk_cell BK127.out 4).trans rfl; have hfz19_0 := blk_frozen BK127.out 0; have hfz19_1 := blk_frozen BK127.out 1; have hfz19_2 := blk_frozen BK127.out 2; have hfz19_3 := blk_frozen BK127.out 3; have hfz19_4 := blk_frozen BK127.out 4) | ((with_reducible refine gate_callee (f := 11) rfl ?_); refine goesL_ (some 38) rfl rfl Try.func11 (by kernel_rfl) rfl #[.agg #[.int .i64 a0_0, .int .i64 a0_1, .int .i64 a0_2, .int .i64 a0_3, .int .i64 a0_4], .int .i64 a1, .int .i64 a2] rfl (by (try simp only [List.map_toArray, List.map_cons, List.map_nil]); first | done | rfl | (simp only [List.length_drop, List.length_take]; rfl)) ?_; (with_reducible refine (chorusref1_Alive.calls a0_0 a0_1 a0_2 a0_3 a0_4 a1 a2 t134 t135 _ A7.out).mono ?_); rintro e w20 ⟨rfl, hb⟩; refine ⟨_, rfl, ?_⟩; have n0_ := Aside0.mk (blk_below (g := gb127) (o := .cells #[.int .i64 a0_0, .int .i64 a0_1, .int .i64 a0_2, .int .i64 a0_3, .int .i64 a0_4] 25 (0, 0)) (by (with_reducible repeat (first | refine blk_drewN ?_ _ | refine blk_drew ?_ | refine blk_alloc ?_ _)); exact BK127.out) hb); have n1_ := Aside0.mk (below_step (by repeat (first | (with_reducible first | exact HB.out | apply below_alloc | apply pw_below_drewN | apply below_drew1 | refine below_set ?_ GE127.out) | exact HB.out)) hb); clear BK127; clear HB; have BK127 := n0_; have HB := n1_; clear n0_ n1_; (try clear hb); (try clear hb2); (try clear hk); (try clear hi)) | (go_at_call 12; (with_reducible refine (choruslaw0_Num.calls t129 t136 _ A9.out).mono ?_); rintro e w' ⟨rfl, ⟨nd, rfl⟩⟩) | (go_at_call 12; (with_reducible refine (choruslaw0_Num.calls t133 t137 _ A12.out).mono ?_); rintro e w' ⟨rfl, ⟨nd, rfl⟩⟩) | (go_at_call 13; (with_reducible refine (choruslaw9_awake.calls  true _ A14.out).mono ?_); rintro e w21 ⟨rfl, hb⟩; have n0_ := Aside0.mk (blk_below (g := gb127) (o := .cells #[.int .i64 a0_0, .int .i64 a0_1, .int .i64 a0_2, .int .i64 a0_3, .int .i64 a0_4] 25 (0, 0)) (by (with_reducible repeat (first | refine blk_drewN ?_ _ | refine blk_drew ?_ | refine blk_alloc ?_ _)); exact BK127.out) hb); have n1_ := Aside0.mk (below_step (by repeat (first | (with_reducible first | exact HB.out | apply below_alloc | apply pw_below_drewN | apply below_drew1 | refine below_set ?_ GE127.out) | exact HB.out)) hb); clear BK127; clear HB; have BK127 := n0_; have HB := n1_; clear n0_ n1_; (try clear hb); (try clear hb2); (try clear hk); (try clear hi)))
            go_ret
            exact ⟨by first | rfl | (simp [errW_none, errW_some] <;> rfl) | (simp [*, errW_none, errW_some] <;> rfl), by repeat (first | (with_reducible first | exact HB.out | apply below_alloc | apply pw_below_drewN | apply below_drew1 | refine below_set ?_ GE127.out) | exact HB.out)⟩
          · replace c15 := Bool.eq_false_iff.mpr c15
            subst c15
            have H1 : (some false) = some true := by first | (rw [if_neg (show ¬ (false = true) by decide)] at H; exact H) | rfl
            clear H
            have H := H1
            clear H1
            exact absurd (Option.some.inj H) (by simp)
        · rw [if_neg c13] at H
          have c13b0 : (t137 == t135) = false := beq_eq_false_iff_ne.mpr c13
          have c13b1 : (t137 != t135) = true := bne_iff_ne.mpr c13
          exact absurd (Option.some.inj H) (by simp)
      · rw [if_neg c11] at H
        have c11b0 : (t132 == t134) = false := by simpa using c11
        (try (have c11b1 : decide (t132 = t134) = false := by simpa using c11))
        (try (have c11b2 : (t132 == t134) = false := by simpa using c11))
        (try (have c11b3 : ¬ (t132 = t134) := by simpa using c11))
        clear c11
        exact absurd (Option.some.inj H) (by simp)
    · rw [if_neg c10] at H
      have c10b0 : (t136 == t131) = false := beq_eq_false_iff_ne.mpr c10
      have c10b1 : (t136 != t131) = true := bne_iff_ne.mpr c10
      exact absurd (Option.some.inj H) (by simp)
  · rw [if_neg c8] at H
    have c8b0 : (t128 == t130) = false := beq_eq_false_iff_ne.mpr c8
    have c8b1 : (t128 != t130) = true := bne_iff_ne.mpr c8
    exact absurd (Option.some.inj H) (by simp)

def choruslaw9_Slots.Pure : Prop := ∀ (a0_0 : Int) (a0_1 : Int) (a0_2 : Int) (a0_3 : Int) (a0_4 : Int) (a1 : Int) (a2 : Int), ((Lit.int .i64 a0_0).wf = true) → ((Lit.int .i64 a0_1).wf = true) → ((Lit.int .i64 a0_2).wf = true) → ((Lit.int .i64 a0_3).wf = true) → ((Lit.int .i64 a0_4).wf = true) → ((Lit.int .i64 a1).wf = true) → ((Lit.int .i64 a2).wf = true) → choruslaw9_Slots.f a0_0 a0_1 a0_2 a0_3 a0_4 a1 a2 = some true
theorem choruslaw9_Slots.walk2 : True := trivial

end Go.Proofs.Ytmllmmdfcpameaa.PSlots
