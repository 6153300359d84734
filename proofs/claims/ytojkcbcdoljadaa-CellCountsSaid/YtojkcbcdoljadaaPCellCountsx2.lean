-- PRINTED BY print.sh 35421559b90ae4d0a3588c463048766b98c2df88dd9212a6774a882060cdf62d: not written by this session
import Derived.Test.YtojkcbcdoljadaaPCellCountsx0
import Derived.Test.YtojkcbcdoljadaaPCellCountsx1
namespace Go.Proofs.Ytojkcbcdoljadaa.PCellCounts
open Go.RowKit Go.Proofs.YtojkcbcdoljadaaW.PrintWords Go.Proofs.YtojkcbcdoljadaaW.PrintLast Go.Proofs.YtojkcbcdoljadaaW.PrintMore
attribute [local go_sem] max2_int min2_int max_two min_two max_three min_three max_four min_four   -- for this text's walks alone
set_option linter.unusedVariables false
set_option linter.unusedSimpArgs false

/-! ### choruslaw1_awake: function 19 -/
def choruslaw1_awake.f (k : Nat)  : Option (Bool) := (some (([3, 5] : List Int) : List Int)).bind fun y132 => ((cell_Load.f k y132 1).bind fun bt135 => ((cell_Store.f k y132 0 9).bind fun bt137 => ((cell_Swap.f k y132 0 3 4).bind fun bt141 => ((cell_Swap.f k y132 0 4 4).bind fun bt146 => ((cell_Add.f k y132 1 (-5)).bind fun bt151 => ((cell_Load.f k y132 2).bind fun bt156 => ((cell_Add.f k y132 0 (-4)).bind fun bt158 => (if bt135.1 = 5 then ((choruslaw0_Num.f bt135.2).bind fun t163 => (if t163 = 0 then ((choruslaw0_SameInts.f k bt137.1 (([9, 5] : List Int))).bind fun t167 => (if t167 = true then ((choruslaw0_Num.f bt137.2).bind fun t168 => (if t168 = 0 then ((choruslaw0_SameInts.f k bt141.1 (([4, 5] : List Int))).bind fun t172 => (if t172 = true then (if bt141.2.1 = true then ((choruslaw0_Num.f bt141.2.2).bind fun t173 => (if t173 = 0 then ((choruslaw0_SameInts.f k bt146.1 y132).bind fun t174 => (if t174 = true then (if bt146.2.1 = true then (some false) else ((choruslaw0_Num.f bt146.2.2).bind fun t175 => (if t175 = 0 then ((choruslaw0_SameInts.f k bt151.1 (([3, 0] : List Int))).bind fun t179 => (if t179 = true then (if bt151.2.1 = 5 then ((choruslaw0_Num.f bt151.2.2).bind fun t180 => (if t180 = 0 then ((choruslaw0_Num.f bt156.2).bind fun t181 => (if t181 = 100 then ((choruslaw0_Num.f bt158.2.2).bind fun t182 => (if t182 = 100 then (some true) else (some false))) else (some false))) else (some false))) else (some false)) else (some false))) else (some false)))) else (some false))) else (some false))) else (some false)) else (some false))) else (some false))) else (some false))) else (some false))) else (some false)))))))))
theorem choruslaw1_awake.mono : ∀ k, LeO (choruslaw1_awake.f k ) (choruslaw1_awake.f (k + 1) ) := by
  intro  k
  unfold choruslaw1_awake.f
  repeat' first
      | (with_reducible exact cell_Add.mono _ _ _ _)
      | (with_reducible exact cell_Load.mono _ _ _)
      | (with_reducible exact cell_Store.mono _ _ _ _)
      | (with_reducible exact cell_Swap.mono _ _ _ _ _)
      | (with_reducible exact choruslaw0_SameInts.mono _ _ _)
      | (with_reducible exact LeO.refl _)
      | (with_reducible exact LeO.none _)
      | (with_reducible refine LeO.ite ?_ ?_)
      | (with_reducible refine LeO.bind ?_ (fun _ => ?_))
      | exact cell_Add.mono _ _ _ _
      | exact cell_Load.mono _ _ _
      | exact cell_Store.mono _ _ _ _
      | exact cell_Swap.mono _ _ _ _ _
      | exact choruslaw0_SameInts.mono _ _ _
      | exact LeO.none _
      | refine LeO.ite ?_ ?_
      | refine LeO.bind ?_ (fun _ => ?_)
set_option maxHeartbeats 8000000 in
set_option maxRecDepth 100000 in
theorem choruslaw1_awake.calls (k : Nat)  (r : Bool) (w : World) (h : choruslaw1_awake.f k  = some r) (hr_ : r = true := by first | rfl | assumption) :
    Calls Try.prog 19 #[] w fun e w' => e = .returned (.bool r) ∧ Below w.heap.size w w' := by
  subst hr_
  have HB := Aside0.mk (Below.refl w.heap.size w)
  have H : ((some (([3, 5] : List Int) : List Int)).bind fun y132 => ((cell_Load.f k y132 1).bind fun bt135 => ((cell_Store.f k y132 0 9).bind fun bt137 => ((cell_Swap.f k y132 0 3 4).bind fun bt141 => ((cell_Swap.f k y132 0 4 4).bind fun bt146 => ((cell_Add.f k y132 1 (-5)).bind fun bt151 => ((cell_Load.f k y132 2).bind fun bt156 => ((cell_Add.f k y132 0 (-4)).bind fun bt158 => (if bt135.1 = 5 then ((choruslaw0_Num.f bt135.2).bind fun t163 => (if t163 = 0 then ((choruslaw0_SameInts.f k bt137.1 (([9, 5] : List Int))).bind fun t167 => (if t167 = true then ((choruslaw0_Num.f bt137.2).bind fun t168 => (if t168 = 0 then ((choruslaw0_SameInts.f k bt141.1 (([4, 5] : List Int))).bind fun t172 => (if t172 = true then (if bt141.2.1 = true then ((choruslaw0_Num.f bt141.2.2).bind fun t173 => (if t173 = 0 then ((choruslaw0_SameInts.f k bt146.1 y132).bind fun t174 => (if t174 = true then (if bt146.2.1 = true then (some false) else ((choruslaw0_Num.f bt146.2.2).bind fun t175 => (if t175 = 0 then ((choruslaw0_SameInts.f k bt151.1 (([3, 0] : List Int))).bind fun t179 => (if t179 = true then (if bt151.2.1 = 5 then ((choruslaw0_Num.f bt151.2.2).bind fun t180 => (if t180 = 0 then ((choruslaw0_Num.f bt156.2).bind fun t181 => (if t181 = 100 then ((choruslaw0_Num.f bt158.2.2).bind fun t182 => (if t182 = 100 then (some true) else (some false))) else (some false))) else (some false))) else (some false)) else (some false))) else (some false)))) else (some false))) else (some false))) else (some false)) else (some false))) else (some false))) else (some false))) else (some false))) else (some false)))))))))) = some true := h
  clear h
  obtain ⟨y132, hy132⟩ : ∃ y_ : List Int, y_ = (([3, 5] : List Int)) := ⟨_, rfl⟩
  replace H : ((cell_Load.f k y132 1).bind fun bt135 => ((cell_Store.f k y132 0 9).bind fun bt137 => ((cell_Swap.f k y132 0 3 4).bind fun bt141 => ((cell_Swap.f k y132 0 4 4).bind fun bt146 => ((cell_Add.f k y132 1 (-5)).bind fun bt151 => ((cell_Load.f k y132 2).bind fun bt156 => ((cell_Add.f k y132 0 (-4)).bind fun bt158 => (if bt135.1 = 5 then ((choruslaw0_Num.f bt135.2).bind fun t163 => (if t163 = 0 then ((choruslaw0_SameInts.f k bt137.1 (([9, 5] : List Int))).bind fun t167 => (if t167 = true then ((choruslaw0_Num.f bt137.2).bind fun t168 => (if t168 = 0 then ((choruslaw0_SameInts.f k bt141.1 (([4, 5] : List Int))).bind fun t172 => (if t172 = true then (if bt141.2.1 = true then ((choruslaw0_Num.f bt141.2.2).bind fun t173 => (if t173 = 0 then ((choruslaw0_SameInts.f k bt146.1 y132).bind fun t174 => (if t174 = true then (if bt146.2.1 = true then (some false) else ((choruslaw0_Num.f bt146.2.2).bind fun t175 => (if t175 = 0 then ((choruslaw0_SameInts.f k bt151.1 (([3, 0] : List Int))).bind fun t179 => (if t179 = true then (if bt151.2.1 = 5 then ((choruslaw0_Num.f bt151.2.2).bind fun t180 => (if t180 = 0 then ((choruslaw0_Num.f bt156.2).bind fun t181 => (if t181 = 100 then ((choruslaw0_Num.f bt158.2.2).bind fun t182 => (if t182 = 100 then (some true) else (some false))) else (some false))) else (some false))) else (some false)) else (some false))) else (some false)))) else (some false))) else (some false))) else (some false)) else (some false))) else (some false))) else (some false))) else (some false))) else (some false))))))))) = some true := by first | (rw [hy132]; with_reducible exact H) | (have H2_ := (Option.bind_some _ _).symm.trans H; rw [hy132]; with_reducible exact H2_) | (have H2_ := (Option.bind_some _ _).symm.trans H; with_reducible exact H2_) | with_reducible exact H | (rw [hy132]; exact H) | exact H
  have Ny132 := Aside0.mk hy132
  clear hy132
  replace H := Option.bind_eq_some_iff.mp H
  obtain ⟨⟨t135, t136⟩, A10, H⟩ := H
  replace H : ((cell_Store.f k y132 0 9).bind fun bt137 => ((cell_Swap.f k y132 0 3 4).bind fun bt141 => ((cell_Swap.f k y132 0 4 4).bind fun bt146 => ((cell_Add.f k y132 1 (-5)).bind fun bt151 => ((cell_Load.f k y132 2).bind fun bt156 => ((cell_Add.f k y132 0 (-4)).bind fun bt158 => (if t135 = 5 then ((choruslaw0_Num.f t136).bind fun t163 => (if t163 = 0 then ((choruslaw0_SameInts.f k bt137.1 (([9, 5] : List Int))).bind fun t167 => (if t167 = true then ((choruslaw0_Num.f bt137.2).bind fun t168 => (if t168 = 0 then ((choruslaw0_SameInts.f k bt141.1 (([4, 5] : List Int))).bind fun t172 => (if t172 = true then (if bt141.2.1 = true then ((choruslaw0_Num.f bt141.2.2).bind fun t173 => (if t173 = 0 then ((choruslaw0_SameInts.f k bt146.1 y132).bind fun t174 => (if t174 = true then (if bt146.2.1 = true then (some false) else ((choruslaw0_Num.f bt146.2.2).bind fun t175 => (if t175 = 0 then ((choruslaw0_SameInts.f k bt151.1 (([3, 0] : List Int))).bind fun t179 => (if t179 = true then (if bt151.2.1 = 5 then ((choruslaw0_Num.f bt151.2.2).bind fun t180 => (if t180 = 0 then ((choruslaw0_Num.f bt156.2).bind fun t181 => (if t181 = 100 then ((choruslaw0_Num.f bt158.2.2).bind fun t182 => (if t182 = 100 then (some true) else (some false))) else (some false))) else (some false))) else (some false)) else (some false))) else (some false)))) else (some false))) else (some false))) else (some false)) else (some false))) else (some false))) else (some false))) else (some false))) else (some false)))))))) = some true := H
  have A1 := Aside0.mk A10
  clear A10
  replace H := Option.bind_eq_some_iff.mp H
  obtain ⟨⟨t137, t138⟩, A20, H⟩ := H
  replace H : ((cell_Swap.f k y132 0 3 4).bind fun bt141 => ((cell_Swap.f k y132 0 4 4).bind fun bt146 => ((cell_Add.f k y132 1 (-5)).bind fun bt151 => ((cell_Load.f k y132 2).bind fun bt156 => ((cell_Add.f k y132 0 (-4)).bind fun bt158 => (if t135 = 5 then ((choruslaw0_Num.f t136).bind fun t163 => (if t163 = 0 then ((choruslaw0_SameInts.f k t137 (([9, 5] : List Int))).bind fun t167 => (if t167 = true then ((choruslaw0_Num.f t138).bind fun t168 => (if t168 = 0 then ((choruslaw0_SameInts.f k bt141.1 (([4, 5] : List Int))).bind fun t172 => (if t172 = true then (if bt141.2.1 = true then ((choruslaw0_Num.f bt141.2.2).bind fun t173 => (if t173 = 0 then ((choruslaw0_SameInts.f k bt146.1 y132).bind fun t174 => (if t174 = true then (if bt146.2.1 = true then (some false) else ((choruslaw0_Num.f bt146.2.2).bind fun t175 => (if t175 = 0 then ((choruslaw0_SameInts.f k bt151.1 (([3, 0] : List Int))).bind fun t179 => (if t179 = true then (if bt151.2.1 = 5 then ((choruslaw0_Num.f bt151.2.2).bind fun t180 => (if t180 = 0 then ((choruslaw0_Num.f bt156.2).bind fun t181 => (if t181 = 100 then ((choruslaw0_Num.f bt158.2.2).bind fun t182 => (if t182 = 100 then (some true) else (some false))) else (some false))) else (some false))) else (some false)) else (some false))) else (some false)))) else (some false))) else (some false))) else (some false)) else (some false))) else (some false))) else (some false))) else (some false))) else (some false))))))) = some true := H
  have A2 := Aside0.mk A20
  clear A20
  replace H := Option.bind_eq_some_iff.mp H
  obtain ⟨⟨t141, t142, t143⟩, A30, H⟩ := H
  replace H : ((cell_Swap.f k y132 0 4 4).bind fun bt146 => ((cell_Add.f k y132 1 (-5)).bind fun bt151 => ((cell_Load.f k y132 2).bind fun bt156 => ((cell_Add.f k y132 0 (-4)).bind fun bt158 => (if t135 = 5 then ((choruslaw0_Num.f t136).bind fun t163 => (if t163 = 0 then ((choruslaw0_SameInts.f k t137 (([9, 5] : List Int))).bind fun t167 => (if t167 = true then ((choruslaw0_Num.f t138).bind fun t168 => (if t168 = 0 then ((choruslaw0_SameInts.f k t141 (([4, 5] : List Int))).bind fun t172 => (if t172 = true then (if t142 = true then ((choruslaw0_Num.f t143).bind fun t173 => (if t173 = 0 then ((choruslaw0_SameInts.f k bt146.1 y132).bind fun t174 => (if t174 = true then (if bt146.2.1 = true then (some false) else ((choruslaw0_Num.f bt146.2.2).bind fun t175 => (if t175 = 0 then ((choruslaw0_SameInts.f k bt151.1 (([3, 0] : List Int))).bind fun t179 => (if t179 = true then (if bt151.2.1 = 5 then ((choruslaw0_Num.f bt151.2.2).bind fun t180 => (if t180 = 0 then ((choruslaw0_Num.f bt156.2).bind fun t181 => (if t181 = 100 then ((choruslaw0_Num.f bt158.2.2).bind fun t182 => (if t182 = 100 then (some true) else (some false))) else (some false))) else (some false))) else (some false)) else (some false))) else (some false)))) else (some false))) else (some false))) else (some false)) else (some false))) else (some false))) else (some false))) else (some false))) else (some false)))))) = some true := H
  have A3 := Aside0.mk A30
  clear A30
  replace H := Option.bind_eq_some_iff.mp H
  obtain ⟨⟨t146, t147, t148⟩, A40, H⟩ := H
  replace H : ((cell_Add.f k y132 1 (-5)).bind fun bt151 => ((cell_Load.f k y132 2).bind fun bt156 => ((cell_Add.f k y132 0 (-4)).bind fun bt158 => (if t135 = 5 then ((choruslaw0_Num.f t136).bind fun t163 => (if t163 = 0 then ((choruslaw0_SameInts.f k t137 (([9, 5] : List Int))).bind fun t167 => (if t167 = true then ((choruslaw0_Num.f t138).bind fun t168 => (if t168 = 0 then ((choruslaw0_SameInts.f k t141 (([4, 5] : List Int))).bind fun t172 => (if t172 = true then (if t142 = true then ((choruslaw0_Num.f t143).bind fun t173 => (if t173 = 0 then ((choruslaw0_SameInts.f k t146 y132).bind fun t174 => (if t174 = true then (if t147 = true then (some false) else ((choruslaw0_Num.f t148).bind fun t175 => (if t175 = 0 then ((choruslaw0_SameInts.f k bt151.1 (([3, 0] : List Int))).bind fun t179 => (if t179 = true then (if bt151.2.1 = 5 then ((choruslaw0_Num.f bt151.2.2).bind fun t180 => (if t180 = 0 then ((choruslaw0_Num.f bt156.2).bind fun t181 => (if t181 = 100 then ((choruslaw0_Num.f bt158.2.2).bind fun t182 => (if t182 = 100 then (some true) else (some false))) else (some false))) else (some false))) else (some false)) else (some false))) else (some false)))) else (some false))) else (some false))) else (some false)) else (some false))) else (some false))) else (some false))) else (some false))) else (some false))))) = some true := H
  have A4 := Aside0.mk A40
  clear A40
  replace H := Option.bind_eq_some_iff.mp H
  obtain ⟨⟨t151, t152, t153⟩, A50, H⟩ := H
  replace H : ((cell_Load.f k y132 2).bind fun bt156 => ((cell_Add.f k y132 0 (-4)).bind fun bt158 => (if t135 = 5 then ((choruslaw0_Num.f t136).bind fun t163 => (if t163 = 0 then ((choruslaw0_SameInts.f k t137 (([9, 5] : List Int))).bind fun t167 => (if t167 = true then ((choruslaw0_Num.f t138).bind fun t168 => (if t168 = 0 then ((choruslaw0_SameInts.f k t141 (([4, 5] : List Int))).bind fun t172 => (if t172 = true then (if t142 = true then ((choruslaw0_Num.f t143).bind fun t173 => (if t173 = 0 then ((choruslaw0_SameInts.f k t146 y132).bind fun t174 => (if t174 = true then (if t147 = true then (some false) else ((choruslaw0_Num.f t148).bind fun t175 => (if t175 = 0 then ((choruslaw0_SameInts.f k t151 (([3, 0] : List Int))).bind fun t179 => (if t179 = true then (if t152 = 5 then ((choruslaw0_Num.f t153).bind fun t180 => (if t180 = 0 then ((choruslaw0_Num.f bt156.2).bind fun t181 => (if t181 = 100 then ((choruslaw0_Num.f bt158.2.2).bind fun t182 => (if t182 = 100 then (some true) else (some false))) else (some false))) else (some false))) else (some false)) else (some false))) else (some false)))) else (some false))) else (some false))) else (some false)) else (some false))) else (some false))) else (some false))) else (some false))) else (some false)))) = some true := H
  have A5 := Aside0.mk A50
  clear A50
  replace H := Option.bind_eq_some_iff.mp H
  obtain ⟨⟨t156, t157⟩, A60, H⟩ := H
  replace H : ((cell_Add.f k y132 0 (-4)).bind fun bt158 => (if t135 = 5 then ((choruslaw0_Num.f t136).bind fun t163 => (if t163 = 0 then ((choruslaw0_SameInts.f k t137 (([9, 5] : List Int))).bind fun t167 => (if t167 = true then ((choruslaw0_Num.f t138).bind fun t168 => (if t168 = 0 then ((choruslaw0_SameInts.f k t141 (([4, 5] : List Int))).bind fun t172 => (if t172 = true then (if t142 = true then ((choruslaw0_Num.f t143).bind fun t173 => (if t173 = 0 then ((choruslaw0_SameInts.f k t146 y132).bind fun t174 => (if t174 = true then (if t147 = true then (some false) else ((choruslaw0_Num.f t148).bind fun t175 => (if t175 = 0 then ((choruslaw0_SameInts.f k t151 (([3, 0] : List Int))).bind fun t179 => (if t179 = true then (if t152 = 5 then ((choruslaw0_Num.f t153).bind fun t180 => (if t180 = 0 then ((choruslaw0_Num.f t157).bind fun t181 => (if t181 = 100 then ((choruslaw0_Num.f bt158.2.2).bind fun t182 => (if t182 = 100 then (some true) else (some false))) else (some false))) else (some false))) else (some false)) else (some false))) else (some false)))) else (some false))) else (some false))) else (some false)) else (some false))) else (some false))) else (some false))) else (some false))) else (some false))) = some true := H
  have A6 := Aside0.mk A60
  clear A60
  replace H := Option.bind_eq_some_iff.mp H
  obtain ⟨⟨t158, t159, t160⟩, A70, H⟩ := H
  replace H : (if t135 = 5 then ((choruslaw0_Num.f t136).bind fun t163 => (if t163 = 0 then ((choruslaw0_SameInts.f k t137 (([9, 5] : List Int))).bind fun t167 => (if t167 = true then ((choruslaw0_Num.f t138).bind fun t168 => (if t168 = 0 then ((choruslaw0_SameInts.f k t141 (([4, 5] : List Int))).bind fun t172 => (if t172 = true then (if t142 = true then ((choruslaw0_Num.f t143).bind fun t173 => (if t173 = 0 then ((choruslaw0_SameInts.f k t146 y132).bind fun t174 => (if t174 = true then (if t147 = true then (some false) else ((choruslaw0_Num.f t148).bind fun t175 => (if t175 = 0 then ((choruslaw0_SameInts.f k t151 (([3, 0] : List Int))).bind fun t179 => (if t179 = true then (if t152 = 5 then ((choruslaw0_Num.f t153).bind fun t180 => (if t180 = 0 then ((choruslaw0_Num.f t157).bind fun t181 => (if t181 = 100 then ((choruslaw0_Num.f t160).bind fun t182 => (if t182 = 100 then (some true) else (some false))) else (some false))) else (some false))) else (some false)) else (some false))) else (some false)))) else (some false))) else (some false))) else (some false)) else (some false))) else (some false))) else (some false))) else (some false))) else (some false)) = some true := H
  have A7 := Aside0.mk A70
  clear A70
  by_cases c8 : t135 = 5
  · rw [if_pos c8] at H
    have c8b0 : (t135 == 5) = true := beq_iff_eq.mpr c8
    have c8b1 : (t135 != 5) = false := bne_eq_false_iff_eq.mpr c8
    clear c8
    replace H := Option.bind_eq_some_iff.mp H
    obtain ⟨t163, A90, H⟩ := H
    replace H : (if t163 = 0 then ((choruslaw0_SameInts.f k t137 (([9, 5] : List Int))).bind fun t167 => (if t167 = true then ((choruslaw0_Num.f t138).bind fun t168 => (if t168 = 0 then ((choruslaw0_SameInts.f k t141 (([4, 5] : List Int))).bind fun t172 => (if t172 = true then (if t142 = true then ((choruslaw0_Num.f t143).bind fun t173 => (if t173 = 0 then ((choruslaw0_SameInts.f k t146 y132).bind fun t174 => (if t174 = true then (if t147 = true then (some false) else ((choruslaw0_Num.f t148).bind fun t175 => (if t175 = 0 then ((choruslaw0_SameInts.f k t151 (([3, 0] : List Int))).bind fun t179 => (if t179 = true then (if t152 = 5 then ((choruslaw0_Num.f t153).bind fun t180 => (if t180 = 0 then ((choruslaw0_Num.f t157).bind fun t181 => (if t181 = 100 then ((choruslaw0_Num.f t160).bind fun t182 => (if t182 = 100 then (some true) else (some false))) else (some false))) else (some false))) else (some false)) else (some false))) else (some false)))) else (some false))) else (some false))) else (some false)) else (some false))) else (some false))) else (some false))) else (some false)) = some true := H
    have A9 := Aside0.mk A90
    clear A90
    by_cases c10 : t163 = 0
    · rw [if_pos c10] at H
      have c10b0 : (t163 == 0) = true := beq_iff_eq.mpr c10
      have c10b1 : (t163 != 0) = false := bne_eq_false_iff_eq.mpr c10
      clear c10
      obtain ⟨y164, hy164⟩ : ∃ y_ : List Int, y_ = (([9, 5] : List Int)) := ⟨_, rfl⟩
      replace H : ((choruslaw0_SameInts.f k t137 y164).bind fun t167 => (if t167 = true then ((choruslaw0_Num.f t138).bind fun t168 => (if t168 = 0 then ((choruslaw0_SameInts.f k t141 (([4, 5] : List Int))).bind fun t172 => (if t172 = true then (if t142 = true then ((choruslaw0_Num.f t143).bind fun t173 => (if t173 = 0 then ((choruslaw0_SameInts.f k t146 y132).bind fun t174 => (if t174 = true then (if t147 = true then (some false) else ((choruslaw0_Num.f t148).bind fun t175 => (if t175 = 0 then ((choruslaw0_SameInts.f k t151 (([3, 0] : List Int))).bind fun t179 => (if t179 = true then (if t152 = 5 then ((choruslaw0_Num.f t153).bind fun t180 => (if t180 = 0 then ((choruslaw0_Num.f t157).bind fun t181 => (if t181 = 100 then ((choruslaw0_Num.f t160).bind fun t182 => (if t182 = 100 then (some true) else (some false))) else (some false))) else (some false))) else (some false)) else (some false))) else (some false)))) else (some false))) else (some false))) else (some false)) else (some false))) else (some false))) else (some false))) = some true := by first | (rw [hy164]; with_reducible exact H) | (have H2_ := (Option.bind_some _ _).symm.trans H; rw [hy164]; with_reducible exact H2_) | (have H2_ := (Option.bind_some _ _).symm.trans H; with_reducible exact H2_) | with_reducible exact H | (rw [hy164]; exact H) | exact H
      have Ny164 := Aside0.mk hy164
      clear hy164
      replace H := Option.bind_eq_some_iff.mp H
      obtain ⟨t167, A110, H⟩ := H
      replace H : (if t167 = true then ((choruslaw0_Num.f t138).bind fun t168 => (if t168 = 0 then ((choruslaw0_SameInts.f k t141 (([4, 5] : List Int))).bind fun t172 => (if t172 = true then (if t142 = true then ((choruslaw0_Num.f t143).bind fun t173 => (if t173 = 0 then ((choruslaw0_SameInts.f k t146 y132).bind fun t174 => (if t174 = true then (if t147 = true then (some false) else ((choruslaw0_Num.f t148).bind fun t175 => (if t175 = 0 then ((choruslaw0_SameInts.f k t151 (([3, 0] : List Int))).bind fun t179 => (if t179 = true then (if t152 = 5 then ((choruslaw0_Num.f t153).bind fun t180 => (if t180 = 0 then ((choruslaw0_Num.f t157).bind fun t181 => (if t181 = 100 then ((choruslaw0_Num.f t160).bind fun t182 => (if t182 = 100 then (some true) else (some false))) else (some false))) else (some false))) else (some false)) else (some false))) else (some false)))) else (some false))) else (some false))) else (some false)) else (some false))) else (some false))) else (some false)) = some true := H
      have A11 := Aside0.mk A110
      clear A110
      by_cases c12 : t167 = true
      · subst c12
        have H1 : ((choruslaw0_Num.f t138).bind fun t168 => (if t168 = 0 then ((choruslaw0_SameInts.f k t141 (([4, 5] : List Int))).bind fun t172 => (if t172 = true then (if t142 = true then ((choruslaw0_Num.f t143).bind fun t173 => (if t173 = 0 then ((choruslaw0_SameInts.f k t146 y132).bind fun t174 => (if t174 = true then (if t147 = true then (some false) else ((choruslaw0_Num.f t148).bind fun t175 => (if t175 = 0 then ((choruslaw0_SameInts.f k t151 (([3, 0] : List Int))).bind fun t179 => (if t179 = true then (if t152 = 5 then ((choruslaw0_Num.f t153).bind fun t180 => (if t180 = 0 then ((choruslaw0_Num.f t157).bind fun t181 => (if t181 = 100 then ((choruslaw0_Num.f t160).bind fun t182 => (if t182 = 100 then (some true) else (some false))) else (some false))) else (some false))) else (some false)) else (some false))) else (some false)))) else (some false))) else (some false))) else (some false)) else (some false))) else (some false))) = some true := by rw [if_pos rfl] at H; exact H
        clear H
        have H := H1
        clear H1
        replace H := Option.bind_eq_some_iff.mp H
        obtain ⟨t168, A130, H⟩ := H
        replace H : (if t168 = 0 then ((choruslaw0_SameInts.f k t141 (([4, 5] : List Int))).bind fun t172 => (if t172 = true then (if t142 = true then ((choruslaw0_Num.f t143).bind fun t173 => (if t173 = 0 then ((choruslaw0_SameInts.f k t146 y132).bind fun t174 => (if t174 = true then (if t147 = true then (some false) else ((choruslaw0_Num.f t148).bind fun t175 => (if t175 = 0 then ((choruslaw0_SameInts.f k t151 (([3, 0] : List Int))).bind fun t179 => (if t179 = true then (if t152 = 5 then ((choruslaw0_Num.f t153).bind fun t180 => (if t180 = 0 then ((choruslaw0_Num.f t157).bind fun t181 => (if t181 = 100 then ((choruslaw0_Num.f t160).bind fun t182 => (if t182 = 100 then (some true) else (some false))) else (some false))) else (some false))) else (some false)) else (some false))) else (some false)))) else (some false))) else (some false))) else (some false)) else (some false))) else (some false)) = some true := H
        have A13 := Aside0.mk A130
        clear A130
        by_cases c14 : t168 = 0
        · rw [if_pos c14] at H
          have c14b0 : (t168 == 0) = true := beq_iff_eq.mpr c14
          have c14b1 : (t168 != 0) = false := bne_eq_false_iff_eq.mpr c14
          clear c14
          obtain ⟨y169, hy169⟩ : ∃ y_ : List Int, y_ = (([4, 5] : List Int)) := ⟨_, rfl⟩
          replace H : ((choruslaw0_SameInts.f k t141 y169).bind fun t172 => (if t172 = true then (if t142 = true then ((choruslaw0_Num.f t143).bind fun t173 => (if t173 = 0 then ((choruslaw0_SameInts.f k t146 y132).bind fun t174 => (if t174 = true then (if t147 = true then (some false) else ((choruslaw0_Num.f t148).bind fun t175 => (if t175 = 0 then ((choruslaw0_SameInts.f k t151 (([3, 0] : List Int))).bind fun t179 => (if t179 = true then (if t152 = 5 then ((choruslaw0_Num.f t153).bind fun t180 => (if t180 = 0 then ((choruslaw0_Num.f t157).bind fun t181 => (if t181 = 100 then ((choruslaw0_Num.f t160).bind fun t182 => (if t182 = 100 then (some true) else (some false))) else (some false))) else (some false))) else (some false)) else (some false))) else (some false)))) else (some false))) else (some false))) else (some false)) else (some false))) = some true := by first | (rw [hy169]; with_reducible exact H) | (have H2_ := (Option.bind_some _ _).symm.trans H; rw [hy169]; with_reducible exact H2_) | (have H2_ := (Option.bind_some _ _).symm.trans H; with_reducible exact H2_) | with_reducible exact H | (rw [hy169]; exact H) | exact H
          have Ny169 := Aside0.mk hy169
          clear hy169
          replace H := Option.bind_eq_some_iff.mp H
          obtain ⟨t172, A150, H⟩ := H
          replace H : (if t172 = true then (if t142 = true then ((choruslaw0_Num.f t143).bind fun t173 => (if t173 = 0 then ((choruslaw0_SameInts.f k t146 y132).bind fun t174 => (if t174 = true then (if t147 = true then (some false) else ((choruslaw0_Num.f t148).bind fun t175 => (if t175 = 0 then ((choruslaw0_SameInts.f k t151 (([3, 0] : List Int))).bind fun t179 => (if t179 = true then (if t152 = 5 then ((choruslaw0_Num.f t153).bind fun t180 => (if t180 = 0 then ((choruslaw0_Num.f t157).bind fun t181 => (if t181 = 100 then ((choruslaw0_Num.f t160).bind fun t182 => (if t182 = 100 then (some true) else (some false))) else (some false))) else (some false))) else (some false)) else (some false))) else (some false)))) else (some false))) else (some false))) else (some false)) else (some false)) = some true := H
          have A15 := Aside0.mk A150
          clear A150
          by_cases c16 : t172 = true
          · subst c16
            have H1 : (if t142 = true then ((choruslaw0_Num.f t143).bind fun t173 => (if t173 = 0 then ((choruslaw0_SameInts.f k t146 y132).bind fun t174 => (if t174 = true then (if t147 = true then (some false) else ((choruslaw0_Num.f t148).bind fun t175 => (if t175 = 0 then ((choruslaw0_SameInts.f k t151 (([3, 0] : List Int))).bind fun t179 => (if t179 = true then (if t152 = 5 then ((choruslaw0_Num.f t153).bind fun t180 => (if t180 = 0 then ((choruslaw0_Num.f t157).bind fun t181 => (if t181 = 100 then ((choruslaw0_Num.f t160).bind fun t182 => (if t182 = 100 then (some true) else (some false))) else (some false))) else (some false))) else (some false)) else (some false))) else (some false)))) else (some false))) else (some false))) else (some false)) = some true := by rw [if_pos rfl] at H; exact H
            clear H
            have H := H1
            clear H1
            by_cases c17 : t142 = true
            · subst c17
              have H1 : ((choruslaw0_Num.f t143).bind fun t173 => (if t173 = 0 then ((choruslaw0_SameInts.f k t146 y132).bind fun t174 => (if t174 = true then (if t147 = true then (some false) else ((choruslaw0_Num.f t148).bind fun t175 => (if t175 = 0 then ((choruslaw0_SameInts.f k t151 (([3, 0] : List Int))).bind fun t179 => (if t179 = true then (if t152 = 5 then ((choruslaw0_Num.f t153).bind fun t180 => (if t180 = 0 then ((choruslaw0_Num.f t157).bind fun t181 => (if t181 = 100 then ((choruslaw0_Num.f t160).bind fun t182 => (if t182 = 100 then (some true) else (some false))) else (some false))) else (some false))) else (some false)) else (some false))) else (some false)))) else (some false))) else (some false))) = some true := by rw [if_pos rfl] at H; exact H
              clear H
              have H := H1
              clear H1
              replace H := Option.bind_eq_some_iff.mp H
              obtain ⟨t173, A180, H⟩ := H
              replace H : (if t173 = 0 then ((choruslaw0_SameInts.f k t146 y132).bind fun t174 => (if t174 = true then (if t147 = true then (some false) else ((choruslaw0_Num.f t148).bind fun t175 => (if t175 = 0 then ((choruslaw0_SameInts.f k t151 (([3, 0] : List Int))).bind fun t179 => (if t179 = true then (if t152 = 5 then ((choruslaw0_Num.f t153).bind fun t180 => (if t180 = 0 then ((choruslaw0_Num.f t157).bind fun t181 => (if t181 = 100 then ((choruslaw0_Num.f t160).bind fun t182 => (if t182 = 100 then (some true) else (some false))) else (some false))) else (some false))) else (some false)) else (some false))) else (some false)))) else (some false))) else (some false)) = some true := H
              have A18 := Aside0.mk A180
              clear A180
              by_cases c19 : t173 = 0
              · rw [if_pos c19] at H
                have c19b0 : (t173 == 0) = true := beq_iff_eq.mpr c19
                have c19b1 : (t173 != 0) = false := bne_eq_false_iff_eq.mpr c19
                clear c19
                replace H := Option.bind_eq_some_iff.mp H
                obtain ⟨t174, A200, H⟩ := H
                replace H : (if t174 = true then (if t147 = true then (some false) else ((choruslaw0_Num.f t148).bind fun t175 => (if t175 = 0 then ((choruslaw0_SameInts.f k t151 (([3, 0] : List Int))).bind fun t179 => (if t179 = true then (if t152 = 5 then ((choruslaw0_Num.f t153).bind fun t180 => (if t180 = 0 then ((choruslaw0_Num.f t157).bind fun t181 => (if t181 = 100 then ((choruslaw0_Num.f t160).bind fun t182 => (if t182 = 100 then (some true) else (some false))) else (some false))) else (some false))) else (some false)) else (some false))) else (some false)))) else (some false)) = some true := H
                have A20 := Aside0.mk A200
                clear A200
                by_cases c21 : t174 = true
                · subst c21
                  have H1 : (if t147 = true then (some false) else ((choruslaw0_Num.f t148).bind fun t175 => (if t175 = 0 then ((choruslaw0_SameInts.f k t151 (([3, 0] : List Int))).bind fun t179 => (if t179 = true then (if t152 = 5 then ((choruslaw0_Num.f t153).bind fun t180 => (if t180 = 0 then ((choruslaw0_Num.f t157).bind fun t181 => (if t181 = 100 then ((choruslaw0_Num.f t160).bind fun t182 => (if t182 = 100 then (some true) else (some false))) else (some false))) else (some false))) else (some false)) else (some false))) else (some false)))) = some true := by rw [if_pos rfl] at H; exact H
                  clear H
                  have H := H1
                  clear H1
                  by_cases c22 : t147 = true
                  · subst c22
                    have H1 : (some false) = some true := by rw [if_pos rfl] at H; exact H
                    clear H
                    have H := H1
                    clear H1
                    exact absurd (Option.some.inj H) (by simp)
                  · replace c22 := Bool.eq_false_iff.mpr c22
                    subst c22
                    have H1 : ((choruslaw0_Num.f t148).bind fun t175 => (if t175 = 0 then ((choruslaw0_SameInts.f k t151 (([3, 0] : List Int))).bind fun t179 => (if t179 = true then (if t152 = 5 then ((choruslaw0_Num.f t153).bind fun t180 => (if t180 = 0 then ((choruslaw0_Num.f t157).bind fun t181 => (if t181 = 100 then ((choruslaw0_Num.f t160).bind fun t182 => (if t182 = 100 then (some true) else (some false))) else (some false))) else (some false))) else (some false)) else (some false))) else (some false))) = some true := by rw [if_neg (show ¬ (false = true) by decide)] at H; exact H
                    clear H
                    have H := H1
                    clear H1
                    replace H := Option.bind_eq_some_iff.mp H
                    obtain ⟨t175, A230, H⟩ := H
                    replace H : (if t175 = 0 then ((choruslaw0_SameInts.f k t151 (([3, 0] : List Int))).bind fun t179 => (if t179 = true then (if t152 = 5 then ((choruslaw0_Num.f t153).bind fun t180 => (if t180 = 0 then ((choruslaw0_Num.f t157).bind fun t181 => (if t181 = 100 then ((choruslaw0_Num.f t160).bind fun t182 => (if t182 = 100 then (some true) else (some false))) else (some false))) else (some false))) else (some false)) else (some false))) else (some false)) = some true := H
                    have A23 := Aside0.mk A230
                    clear A230
                    by_cases c24 : t175 = 0
                    · rw [if_pos c24] at H
                      have c24b0 : (t175 == 0) = true := beq_iff_eq.mpr c24
                      have c24b1 : (t175 != 0) = false := bne_eq_false_iff_eq.mpr c24
                      clear c24
                      obtain ⟨y176, hy176⟩ : ∃ y_ : List Int, y_ = (([3, 0] : List Int)) := ⟨_, rfl⟩
                      replace H : ((choruslaw0_SameInts.f k t151 y176).bind fun t179 => (if t179 = true then (if t152 = 5 then ((choruslaw0_Num.f t153).bind fun t180 => (if t180 = 0 then ((choruslaw0_Num.f t157).bind fun t181 => (if t181 = 100 then ((choruslaw0_Num.f t160).bind fun t182 => (if t182 = 100 then (some true) else (some false))) else (some false))) else (some false))) else (some false)) else (some false))) = some true := by first | (rw [hy176]; with_reducible exact H) | (have H2_ := (Option.bind_some _ _).symm.trans H; rw [hy176]; with_reducible exact H2_) | (have H2_ := (Option.bind_some _ _).symm.trans H; with_reducible exact H2_) | with_reducible exact H | (rw [hy176]; exact H) | exact H
                      have Ny176 := Aside0.mk hy176
                      clear hy176
                      replace H := Option.bind_eq_some_iff.mp H
                      obtain ⟨t179, A250, H⟩ := H
                      replace H : (if t179 = true then (if t152 = 5 then ((choruslaw0_Num.f t153).bind fun t180 => (if t180 = 0 then ((choruslaw0_Num.f t157).bind fun t181 => (if t181 = 100 then ((choruslaw0_Num.f t160).bind fun t182 => (if t182 = 100 then (some true) else (some false))) else (some false))) else (some false))) else (some false)) else (some false)) = some true := H
                      have A25 := Aside0.mk A250
                      clear A250
                      by_cases c26 : t179 = true
                      · subst c26
                        have H1 : (if t152 = 5 then ((choruslaw0_Num.f t153).bind fun t180 => (if t180 = 0 then ((choruslaw0_Num.f t157).bind fun t181 => (if t181 = 100 then ((choruslaw0_Num.f t160).bind fun t182 => (if t182 = 100 then (some true) else (some false))) else (some false))) else (some false))) else (some false)) = some true := by rw [if_pos rfl] at H; exact H
                        clear H
                        have H := H1
                        clear H1
                        by_cases c27 : t152 = 5
                        · rw [if_pos c27] at H
                          have c27b0 : (t152 == 5) = true := beq_iff_eq.mpr c27
                          have c27b1 : (t152 != 5) = false := bne_eq_false_iff_eq.mpr c27
                          clear c27
                          replace H := Option.bind_eq_some_iff.mp H
                          obtain ⟨t180, A280, H⟩ := H
                          replace H : (if t180 = 0 then ((choruslaw0_Num.f t157).bind fun t181 => (if t181 = 100 then ((choruslaw0_Num.f t160).bind fun t182 => (if t182 = 100 then (some true) else (some false))) else (some false))) else (some false)) = some true := H
                          have A28 := Aside0.mk A280
                          clear A280
                          by_cases c29 : t180 = 0
                          · rw [if_pos c29] at H
                            have c29b0 : (t180 == 0) = true := beq_iff_eq.mpr c29
                            have c29b1 : (t180 != 0) = false := bne_eq_false_iff_eq.mpr c29
                            clear c29
                            replace H := Option.bind_eq_some_iff.mp H
                            obtain ⟨t181, A300, H⟩ := H
                            replace H : (if t181 = 100 then ((choruslaw0_Num.f t160).bind fun t182 => (if t182 = 100 then (some true) else (some false))) else (some false)) = some true := H
                            have A30 := Aside0.mk A300
                            clear A300
                            by_cases c31 : t181 = 100
                            · rw [if_pos c31] at H
                              have c31b0 : (t181 == 100) = true := beq_iff_eq.mpr c31
                              have c31b1 : (t181 != 100) = false := bne_eq_false_iff_eq.mpr c31
                              clear c31
                              replace H := Option.bind_eq_some_iff.mp H
                              obtain ⟨t182, A320, H⟩ := H
                              replace H : (if t182 = 100 then (some true) else (some false)) = some true := H
                              have A32 := Aside0.mk A320
                              clear A320
                              by_cases c33 : t182 = 100
                              · rw [if_pos c33] at H
                                have c33b0 : (t182 == 100) = true := beq_iff_eq.mpr c33
                                have c33b1 : (t182 != 100) = false := bne_eq_false_iff_eq.mpr c33
                                clear c33
                                clear H
                                go_enter Try.func19, Try.ntmps19
                                (try simp only [List.append_eq, List.cons_append, List.nil_append])
                                go_wp2_with (first | ((with_reducible refine gate_dst (N := 20) rfl ?_); (try (refine gate_guard (by rfl) ?_; dsimp only)); refine Kd.R_lit (Kd.int .i64) _ 3 ?hg (N := 20) ?hd (xs := ([3, 5] : List Int)) (inner := [.int .i64 3, .int .i64 5]) (ok := fun _ => True) (okp := fun _ => True) ?hr ?hp (fun _ hk => hk) trivial (Below.refl _ _) (Nat.le_refl _) (by simp) ?_; (case hd => rfl); (case hg => rfl); (case hr => first | (go_simp; done) | (go_simp; rfl)); (case hp => exact (Reps.one (show Kd.M (Kd.int .i64) _ _ _ 3 [.int .i64 3] from rfl) (Reps.one (show Kd.M (Kd.int .i64) _ _ _ 5 [.int .i64 5] from rfl) (Reps.none _ _)))); intro v133 w34 ho35 hb hg_ hnew_; clear hg_ hnew_; (first | rw [← Ny132.out] at ho35 | (simp only [Int.reduceToNat] at ho35; rw [← Ny132.out] at ho35)); have n0_ := Aside0.mk (Kd.R_lower ho35 (below_size (by repeat (first | (with_reducible first | exact HB.out | apply below_alloc | apply pw_below_drewN | apply below_drew1) | exact HB.out)))); have n1_ := Aside0.mk (below_step (by repeat (first | (with_reducible first | exact HB.out | apply below_alloc | apply pw_below_drewN | apply below_drew1) | exact HB.out)) hb); clear HB; have HO134 := n0_; have HB := n1_; clear n0_ n1_; clear hb ho35; obtain ⟨Ao36, co36, eo36⟩ := Kd.R_slice HO134.out; subst eo36) | ((with_reducible refine gate_callee (f := 7) rfl ?_); refine goesL_ (some 23) rfl rfl Try.func7 (by kernel_rfl) rfl #[.slice Ao36 y132.length co36, .int .i64 1] rfl (by (try simp only [List.map_toArray, List.map_cons, List.map_nil]); first | done | rfl | (simp only [List.length_drop, List.length_take]; rfl)) ?_; (with_reducible refine (cell_Load.calls k _ _ y132 1 t135 t136 _ ?side1 ?side2 A1.out).mono ?_); (case side1 => repeat (first | exact (Kd.R_reads' HO134.out).2.2 | (with_reducible refine Kd.C_alloc ?_ _) | (with_reducible refine Kd.C_drewN ?_ _) | (with_reducible refine Kd.C_drew ?_))); (case side2 => exact (Kd.R_reads' HO134.out).2.1); rintro e w' ⟨rfl, ⟨nd, rfl⟩⟩; refine ⟨_, rfl, ?_⟩) | ((with_reducible refine gate_callee (f := 9) rfl ?_); refine goesL_ (some 28) rfl rfl Try.func9 (by kernel_rfl) rfl #[.slice Ao36 y132.length co36, .int .i64 0, .int .i64 9] rfl (by (try simp only [List.map_toArray, List.map_cons, List.map_nil]); first | done | rfl | (simp only [List.length_drop, List.length_take]; rfl)) ?_; (with_reducible refine (cell_Store.calls k _ _ y132 0 9 t137 t138 _ ?side1 ?side2 A2.out).mono ?_); (case side1 => repeat (first | exact (Kd.R_reads' HO134.out).2.2 | (with_reducible refine Kd.C_alloc ?_ _) | (with_reducible refine Kd.C_drewN ?_ _) | (with_reducible refine Kd.C_drew ?_))); (case side2 => exact (Kd.R_reads' HO134.out).2.1); rintro e w37 ⟨v139, rfl, ho0, hb⟩; refine ⟨_, rfl, ?_⟩; have n0_ := Aside0.mk (Kd.R_elder' (by (with_reducible repeat (first | apply Kd.R_alloc | apply Kd.R_drewN | apply Kd.R_drew)); exact HO134.out) (Kd.R_base ho0) hb); have n1_ := Aside0.mk (Kd.R_lower (Kd.R_new' ho0 (Kd.R_lt (by (with_reducible repeat (first | apply Kd.R_alloc | apply Kd.R_drewN | apply Kd.R_drew)); exact HO134.out))) (below_size (by repeat (first | (with_reducible first | exact HB.out | apply below_alloc | apply pw_below_drewN | apply below_drew1) | exact HB.out)))); have n2_ := Aside0.mk (below_step (by repeat (first | (with_reducible first | exact HB.out | apply below_alloc | apply pw_below_drewN | apply below_drew1) | exact HB.out)) hb); clear HO134; clear HB; have HO134 := n0_; have HO140 := n1_; have HB := n2_; clear n0_ n1_ n2_; (try clear hb); (try clear hb2); (try clear hk); (try clear hi); (try clear ho0)) | ((with_reducible refine gate_callee (f := 11) rfl ?_); refine goesL_ (some 33) rfl rfl Try.func11 (by kernel_rfl) rfl #[.slice Ao36 y132.length co36, .int .i64 0, .int .i64 3, .int .i64 4] rfl (by (try simp only [List.map_toArray, List.map_cons, List.map_nil]); first | done | rfl | (simp only [List.length_drop, List.length_take]; rfl)) ?_; (with_reducible refine (cell_Swap.calls k _ _ y132 0 3 4 t141 true t143 _ ?side1 ?side2 A3.out).mono ?_); (case side1 => repeat (first | exact (Kd.R_reads' HO134.out).2.2 | (with_reducible refine Kd.C_alloc ?_ _) | (with_reducible refine Kd.C_drewN ?_ _) | (with_reducible refine Kd.C_drew ?_))); (case side2 => exact (Kd.R_reads' HO134.out).2.1); rintro e w38 ⟨v144, rfl, ho0, hb⟩; refine ⟨_, rfl, ?_⟩; have n0_ := Aside0.mk (Kd.R_elder' (by (with_reducible repeat (first | apply Kd.R_alloc | apply Kd.R_drewN | apply Kd.R_drew)); exact HO134.out) (Kd.R_base ho0) hb); have n1_ := Aside0.mk (Kd.R_elder' (by (with_reducible repeat (first | apply Kd.R_alloc | apply Kd.R_drewN | apply Kd.R_drew)); exact HO140.out) (Kd.R_base ho0) hb); have n2_ := Aside0.mk (Kd.R_lower (Kd.R_new' (Kd.R_new' ho0 (Kd.R_lt (by (with_reducible repeat (first | apply Kd.R_alloc | apply Kd.R_drewN | apply Kd.R_drew)); exact HO134.out))) (Kd.R_lt (by (with_reducible repeat (first | apply Kd.R_alloc | apply Kd.R_drewN | apply Kd.R_drew)); exact HO140.out))) (below_size (by repeat (first | (with_reducible first | exact HB.out | apply below_alloc | apply pw_below_drewN | apply below_drew1) | exact HB.out)))); have n3_ := Aside0.mk (below_step (by repeat (first | (with_reducible first | exact HB.out | apply below_alloc | apply pw_below_drewN | apply below_drew1) | exact HB.out)) hb); clear HO134; clear HO140; clear HB; have HO134 := n0_; have HO140 := n1_; have HO145 := n2_; have HB := n3_; clear n0_ n1_ n2_ n3_; (try clear hb); (try clear hb2); (try clear hk); (try clear hi); (try clear ho0)) | ((with_reducible refine gate_callee (f := 11) rfl ?_); refine goesL_ (some 39) rfl rfl Try.func11 (by kernel_rfl) rfl #[.slice Ao36 y132.length co36, .int .i64 0, .int .i64 4, .int .i64 4] rfl (by (try simp only [List.map_toArray, List.map_cons, List.map_nil]); first | done | rfl | (simp only [List.length_drop, List.length_take]; rfl)) ?_; (with_reducible refine (cell_Swap.calls k _ _ y132 0 4 4 t146 false t148 _ ?side1 ?side2 A4.out).mono ?_); (case side1 => repeat (first | exact (Kd.R_reads' HO134.out).2.2 | (with_reducible refine Kd.C_alloc ?_ _) | (with_reducible refine Kd.C_drewN ?_ _) | (with_reducible refine Kd.C_drew ?_))); (case side2 => exact (Kd.R_reads' HO134.out).2.1); rintro e w39 ⟨v149, rfl, ho0, hb⟩; refine ⟨_, rfl, ?_⟩; have n0_ := Aside0.mk (Kd.R_elder' (by (with_reducible repeat (first | apply Kd.R_alloc | apply Kd.R_drewN | apply Kd.R_drew)); exact HO134.out) (Kd.R_base ho0) hb); have n1_ := Aside0.mk (Kd.R_elder' (by (with_reducible repeat (first | apply Kd.R_alloc | apply Kd.R_drewN | apply Kd.R_drew)); exact HO140.out) (Kd.R_base ho0) hb); have n2_ := Aside0.mk (Kd.R_elder' (by (with_reducible repeat (first | apply Kd.R_alloc | apply Kd.R_drewN | apply Kd.R_drew)); exact HO145.out) (Kd.R_base ho0) hb); have n3_ := Aside0.mk (Kd.R_lower (Kd.R_new' (Kd.R_new' (Kd.R_new' ho0 (Kd.R_lt (by (with_reducible repeat (first | apply Kd.R_alloc | apply Kd.R_drewN | apply Kd.R_drew)); exact HO134.out))) (Kd.R_lt (by (with_reducible repeat (first | apply Kd.R_alloc | apply Kd.R_drewN | apply Kd.R_drew)); exact HO140.out))) (Kd.R_lt (by (with_reducible repeat (first | apply Kd.R_alloc | apply Kd.R_drewN | apply Kd.R_drew)); exact HO145.out))) (below_size (by repeat (first | (with_reducible first | exact HB.out | apply below_alloc | apply pw_below_drewN | apply below_drew1) | exact HB.out)))); have n4_ := Aside0.mk (below_step (by repeat (first | (with_reducible first | exact HB.out | apply below_alloc | apply pw_below_drewN | apply below_drew1) | exact HB.out)) hb); clear HO134; clear HO140; clear HO145; clear HB; have HO134 := n0_; have HO140 := n1_; have HO145 := n2_; have HO150 := n3_; have HB := n4_; clear n0_ n1_ n2_ n3_ n4_; (try clear hb); (try clear hb2); (try clear hk); (try clear hi); (try clear ho0)) | ((with_reducible refine gate_callee (f := 13) rfl ?_); refine goesL_ (some 45) rfl rfl Try.func13 (by kernel_rfl) rfl #[.slice Ao36 y132.length co36, .int .i64 1, .int .i64 (-5)] rfl (by (try simp only [List.map_toArray, List.map_cons, List.map_nil]); first | done | rfl | (simp only [List.length_drop, List.length_take]; rfl)) ?_; (with_reducible refine (cell_Add.calls k _ _ y132 1 (-5) t151 t152 t153 _ ?side1 ?side2 A5.out).mono ?_); (case side1 => repeat (first | exact (Kd.R_reads' HO134.out).2.2 | (with_reducible refine Kd.C_alloc ?_ _) | (with_reducible refine Kd.C_drewN ?_ _) | (with_reducible refine Kd.C_drew ?_))); (case side2 => exact (Kd.R_reads' HO134.out).2.1); rintro e w40 ⟨v154, rfl, ho0, hb⟩; refine ⟨_, rfl, ?_⟩; have n0_ := Aside0.mk (Kd.R_elder' (by (with_reducible repeat (first | apply Kd.R_alloc | apply Kd.R_drewN | apply Kd.R_drew)); exact HO134.out) (Kd.R_base ho0) hb); have n1_ := Aside0.mk (Kd.R_elder' (by (with_reducible repeat (first | apply Kd.R_alloc | apply Kd.R_drewN | apply Kd.R_drew)); exact HO140.out) (Kd.R_base ho0) hb); have n2_ := Aside0.mk (Kd.R_elder' (by (with_reducible repeat (first | apply Kd.R_alloc | apply Kd.R_drewN | apply Kd.R_drew)); exact HO145.out) (Kd.R_base ho0) hb); have n3_ := Aside0.mk (Kd.R_elder' (by (with_reducible repeat (first | apply Kd.R_alloc | apply Kd.R_drewN | apply Kd.R_drew)); exact HO150.out) (Kd.R_base ho0) hb); have n4_ := Aside0.mk (Kd.R_lower (Kd.R_new' (Kd.R_new' (Kd.R_new' (Kd.R_new' ho0 (Kd.R_lt (by (with_reducible repeat (first | apply Kd.R_alloc | apply Kd.R_drewN | apply Kd.R_drew)); exact HO134.out))) (Kd.R_lt (by (with_reducible repeat (first | apply Kd.R_alloc | apply Kd.R_drewN | apply Kd.R_drew)); exact HO140.out))) (Kd.R_lt (by (with_reducible repeat (first | apply Kd.R_alloc | apply Kd.R_drewN | apply Kd.R_drew)); exact HO145.out))) (Kd.R_lt (by (with_reducible repeat (first | apply Kd.R_alloc | apply Kd.R_drewN | apply Kd.R_drew)); exact HO150.out))) (below_size (by repeat (first | (with_reducible first | exact HB.out | apply below_alloc | apply pw_below_drewN | apply below_drew1) | exact HB.out)))); have n5_ := Aside0.mk (below_step (by repeat (first | (with_reducible first | exact HB.out | apply below_alloc | apply pw_below_drewN | apply below_drew1) | exact HB.out)) hb); clear HO134; clear HO140; clear HO145; clear HO150; clear HB; have HO134 := n0_; have HO140 := n1_; have HO145 := n2_; have HO150 := n3_; have HO155 := n4_; have HB := n5_; clear n0_ n1_ n2_ n3_ n4_ n5_; (try clear hb); (try clear hb2); (try clear hk); (try clear hi); (try clear ho0)) | ((with_reducible refine gate_callee (f := 7) rfl ?_); refine goesL_ (some 51) rfl rfl Try.func7 (by kernel_rfl) rfl #[.slice Ao36 y132.length co36, .int .i64 2] rfl (by (try simp only [List.map_toArray, List.map_cons, List.map_nil]); first | done | rfl | (simp only [List.length_drop, List.length_take]; rfl)) ?_; (with_reducible refine (cell_Load.calls k _ _ y132 2 t156 t157 _ ?side1 ?side2 A6.out).mono ?_); (case side1 => repeat (first | exact (Kd.R_reads' HO134.out).2.2 | (with_reducible refine Kd.C_alloc ?_ _) | (with_reducible refine Kd.C_drewN ?_ _) | (with_reducible refine Kd.C_drew ?_))); (case side2 => exact (Kd.R_reads' HO134.out).2.1); rintro e w' ⟨rfl, ⟨nd, rfl⟩⟩; refine ⟨_, rfl, ?_⟩) | ((with_reducible refine gate_callee (f := 13) rfl ?_); refine goesL_ (some 56) rfl rfl Try.func13 (by kernel_rfl) rfl #[.slice Ao36 y132.length co36, .int .i64 0, .int .i64 (-4)] rfl (by (try simp only [List.map_toArray, List.map_cons, List.map_nil]); first | done | rfl | (simp only [List.length_drop, List.length_take]; rfl)) ?_; (with_reducible refine (cell_Add.calls k _ _ y132 0 (-4) t158 t159 t160 _ ?side1 ?side2 A7.out).mono ?_); (case side1 => repeat (first | exact (Kd.R_reads' HO134.out).2.2 | (with_reducible refine Kd.C_alloc ?_ _) | (with_reducible refine Kd.C_drewN ?_ _) | (with_reducible refine Kd.C_drew ?_))); (case side2 => exact (Kd.R_reads' HO134.out).2.1); rintro e w41 ⟨v161, rfl, ho0, hb⟩; refine ⟨_, rfl, ?_⟩; have n0_ := Aside0.mk (Kd.R_elder' (by (with_reducible repeat (first | apply Kd.R_alloc | apply Kd.R_drewN | apply Kd.R_drew)); exact HO134.out) (Kd.R_base ho0) hb); have n1_ := Aside0.mk (Kd.R_elder' (by (with_reducible repeat (first | apply Kd.R_alloc | apply Kd.R_drewN | apply Kd.R_drew)); exact HO140.out) (Kd.R_base ho0) hb); have n2_ := Aside0.mk (Kd.R_elder' (by (with_reducible repeat (first | apply Kd.R_alloc | apply Kd.R_drewN | apply Kd.R_drew)); exact HO145.out) (Kd.R_base ho0) hb); have n3_ := Aside0.mk (Kd.R_elder' (by (with_reducible repeat (first | apply Kd.R_alloc | apply Kd.R_drewN | apply Kd.R_drew)); exact HO150.out) (Kd.R_base ho0) hb); have n4_ := Aside0.mk (Kd.R_elder' (by (with_reducible repeat (first | apply Kd.R_alloc | apply Kd.R_drewN | apply Kd.R_drew)); exact HO155.out) (Kd.R_base ho0) hb); have n5_ := Aside0.mk (Kd.R_lower (Kd.R_new' (Kd.R_new' (Kd.R_new' (Kd.R_new' (Kd.R_new' ho0 (Kd.R_lt (by (with_reducible repeat (first | apply Kd.R_alloc | apply Kd.R_drewN | apply Kd.R_drew)); exact HO134.out))) (Kd.R_lt (by (with_reducible repeat (first | apply Kd.R_alloc | apply Kd.R_drewN | apply Kd.R_drew)); exact HO140.out))) (Kd.R_lt (by (with_reducible repeat (first | apply Kd.R_alloc | apply Kd.R_drewN | apply Kd.R_drew)); exact HO145.out))) (Kd.R_lt (by (with_reducible repeat (first | apply Kd.R_alloc | apply Kd.R_drewN | apply Kd.R_drew)); exact HO150.out))) (Kd.R_lt (by (with_reducible repeat (first | apply Kd.R_alloc | apply Kd.R_drewN | apply Kd.R_drew)); exact HO155.out))) (below_size (by repeat (first | (with_reducible first | exact HB.out | apply below_alloc | apply pw_below_drewN | apply below_drew1) | exact HB.out)))); have n6_ := Aside0.mk (below_step (by repeat (first | (with_reducible first | exact HB.out | apply below_alloc | apply pw_below_drewN | apply below_drew1) | exact HB.out)) hb); clear HO134; clear HO140; clear HO145; clear HO150; clear HO155; clear HB; have HO134 := n0_; have HO140 := n1_; have HO145 := n2_; have HO150 := n3_; have HO155 := n4_; have HO162 := n5_; have HB := n6_; clear n0_ n1_ n2_ n3_ n4_ n5_ n6_; (try clear hb); (try clear hb2); (try clear hk); (try clear hi); (try clear ho0)) | (go_at_call 15; (with_reducible refine (choruslaw0_Num.calls t136 t163 _ A9.out).mono ?_); rintro e w' ⟨rfl, ⟨nd, rfl⟩⟩) | ((with_reducible refine gate_dst (N := 69) rfl ?_); (try (refine gate_guard (by rfl) ?_; dsimp only)); refine Kd.R_lit (Kd.int .i64) _ 3 ?hg (N := 69) ?hd (xs := ([9, 5] : List Int)) (inner := [.int .i64 9, .int .i64 5]) (ok := fun _ => True) (okp := fun _ => True) ?hr ?hp (fun _ hk => hk) trivial (Below.refl _ _) (Nat.le_refl _) (by simp) ?_; (case hd => rfl); (case hg => rfl); (case hr => first | (go_simp; done) | (go_simp; rfl)); (case hp => exact (Reps.one (show Kd.M (Kd.int .i64) _ _ _ 9 [.int .i64 9] from rfl) (Reps.one (show Kd.M (Kd.int .i64) _ _ _ 5 [.int .i64 5] from rfl) (Reps.none _ _)))); intro v165 w42 ho43 hb hg_ hnew_; clear hg_ hnew_; (first | rw [← Ny164.out] at ho43 | (simp only [Int.reduceToNat] at ho43; rw [← Ny164.out] at ho43)); have n0_ := Aside0.mk (Kd.R_elder' (by (with_reducible repeat (first | apply Kd.R_alloc | apply Kd.R_drewN | apply Kd.R_drew)); exact HO134.out) (Kd.R_base ho43) hb); have n1_ := Aside0.mk (Kd.R_elder' (by (with_reducible repeat (first | apply Kd.R_alloc | apply Kd.R_drewN | apply Kd.R_drew)); exact HO140.out) (Kd.R_base ho43) hb); have n2_ := Aside0.mk (Kd.R_elder' (by (with_reducible repeat (first | apply Kd.R_alloc | apply Kd.R_drewN | apply Kd.R_drew)); exact HO145.out) (Kd.R_base ho43) hb); have n3_ := Aside0.mk (Kd.R_elder' (by (with_reducible repeat (first | apply Kd.R_alloc | apply Kd.R_drewN | apply Kd.R_drew)); exact HO150.out) (Kd.R_base ho43) hb); have n4_ := Aside0.mk (Kd.R_elder' (by (with_reducible repeat (first | apply Kd.R_alloc | apply Kd.R_drewN | apply Kd.R_drew)); exact HO155.out) (Kd.R_base ho43) hb); have n5_ := Aside0.mk (Kd.R_elder' (by (with_reducible repeat (first | apply Kd.R_alloc | apply Kd.R_drewN | apply Kd.R_drew)); exact HO162.out) (Kd.R_base ho43) hb); have n6_ := Aside0.mk (Kd.R_lower (Kd.R_new' (Kd.R_new' (Kd.R_new' (Kd.R_new' (Kd.R_new' (Kd.R_new' ho43 (Kd.R_lt (by (with_reducible repeat (first | apply Kd.R_alloc | apply Kd.R_drewN | apply Kd.R_drew)); exact HO134.out))) (Kd.R_lt (by (with_reducible repeat (first | apply Kd.R_alloc | apply Kd.R_drewN | apply Kd.R_drew)); exact HO140.out))) (Kd.R_lt (by (with_reducible repeat (first | apply Kd.R_alloc | apply Kd.R_drewN | apply Kd.R_drew)); exact HO145.out))) (Kd.R_lt (by (with_reducible repeat (first | apply Kd.R_alloc | apply Kd.R_drewN | apply Kd.R_drew)); exact HO150.out))) (Kd.R_lt (by (with_reducible repeat (first | apply Kd.R_alloc | apply Kd.R_drewN | apply Kd.R_drew)); exact HO155.out))) (Kd.R_lt (by (with_reducible repeat (first | apply Kd.R_alloc | apply Kd.R_drewN | apply Kd.R_drew)); exact HO162.out))) (below_size (by repeat (first | (with_reducible first | exact HB.out | apply below_alloc | apply pw_below_drewN | apply below_drew1) | exact HB.out)))); have n7_ := Aside0.mk (below_step (by repeat (first | (with_reducible first | exact HB.out | apply below_alloc | apply pw_below_drewN | apply below_drew1) | exact HB.out)) hb); clear HO134; clear HO140; clear HO145; clear HO150; clear HO155; clear HO162; clear HB; have HO134 := n0_; have HO140 := n1_; have HO145 := n2_; have HO150 := n3_; have HO155 := n4_; have HO162 := n5_; have HO166 := n6_; have HB := n7_; clear n0_ n1_ n2_ n3_ n4_ n5_ n6_ n7_; clear hb ho43; obtain ⟨Ao44, co44, eo44⟩ := Kd.R_slice HO140.out; subst eo44; obtain ⟨Ao45, co45, eo45⟩ := Kd.R_slice HO166.out; subst eo45) | (go_at_call 16; (with_reducible refine (choruslaw0_SameInts.calls k _ _ t137 _ _ y164 true _ ?side1 ?side2 ?side3 ?side4 A11.out).mono ?_); (case side1 => repeat (first | exact (Kd.R_reads' HO140.out).2.2 | (with_reducible refine Kd.C_alloc ?_ _) | (with_reducible refine Kd.C_drewN ?_ _) | (with_reducible refine Kd.C_drew ?_))); (case side2 => exact (Kd.R_reads' HO140.out).2.1); (case side3 => repeat (first | exact (Kd.R_reads' HO166.out).2.2 | (with_reducible refine Kd.C_alloc ?_ _) | (with_reducible refine Kd.C_drewN ?_ _) | (with_reducible refine Kd.C_drew ?_))); (case side4 => exact (Kd.R_reads' HO166.out).2.1); rintro e w' ⟨rfl, ⟨nd, rfl⟩⟩) | (go_at_call 15; (with_reducible refine (choruslaw0_Num.calls t138 t168 _ A13.out).mono ?_); rintro e w' ⟨rfl, ⟨nd, rfl⟩⟩) | ((with_reducible refine gate_dst (N := 79) rfl ?_); (try (refine gate_guard (by rfl) ?_; dsimp only)); refine Kd.R_lit (Kd.int .i64) _ 3 ?hg (N := 79) ?hd (xs := ([4, 5] : List Int)) (inner := [.int .i64 4, .int .i64 5]) (ok := fun _ => True) (okp := fun _ => True) ?hr ?hp (fun _ hk => hk) trivial (Below.refl _ _) (Nat.le_refl _) (by simp) ?_; (case hd => rfl); (case hg => rfl); (case hr => first | (go_simp; done) | (go_simp; rfl)); (case hp => exact (Reps.one (show Kd.M (Kd.int .i64) _ _ _ 4 [.int .i64 4] from rfl) (Reps.one (show Kd.M (Kd.int .i64) _ _ _ 5 [.int .i64 5] from rfl) (Reps.none _ _)))); intro v170 w46 ho47 hb hg_ hnew_; clear hg_ hnew_; (first | rw [← Ny169.out] at ho47 | (simp only [Int.reduceToNat] at ho47; rw [← Ny169.out] at ho47)); have n0_ := Aside0.mk (Kd.R_elder' (by (with_reducible repeat (first | apply Kd.R_alloc | apply Kd.R_drewN | apply Kd.R_drew)); exact HO134.out) (Kd.R_base ho47) hb); have n1_ := Aside0.mk (Kd.R_elder' (by (with_reducible repeat (first | apply Kd.R_alloc | apply Kd.R_drewN | apply Kd.R_drew)); exact HO140.out) (Kd.R_base ho47) hb); have n2_ := Aside0.mk (Kd.R_elder' (by (with_reducible repeat (first | apply Kd.R_alloc | apply Kd.R_drewN | apply Kd.R_drew)); exact HO145.out) (Kd.R_base ho47) hb); have n3_ := Aside0.mk (Kd.R_elder' (by (with_reducible repeat (first | apply Kd.R_alloc | apply Kd.R_drewN | apply Kd.R_drew)); exact HO150.out) (Kd.R_base ho47) hb); have n4_ := Aside0.mk (Kd.R_elder' (by (with_reducible repeat (first | apply Kd.R_alloc | apply Kd.R_drewN | apply Kd.R_drew)); exact HO155.out) (Kd.R_base ho47) hb); have n5_ := Aside0.mk (Kd.R_elder' (by (with_reducible repeat (first | apply Kd.R_alloc | apply Kd.R_drewN | apply Kd.R_drew)); exact HO162.out) (Kd.R_base ho47) hb); have n6_ := Aside0.mk (Kd.R_elder' (by (with_reducible repeat (first | apply Kd.R_alloc | apply Kd.R_drewN | apply Kd.R_drew)); exact HO166.out) (Kd.R_base ho47) hb); have n7_ := Aside0.mk (Kd.R_lower (Kd.R_new' (Kd.R_new' (Kd.R_new' (Kd.R_new' (Kd.R_new' (Kd.R_new' (Kd.R_new' ho47 (Kd.R_lt (by (with_reducible repeat (first | apply Kd.R_alloc | apply Kd.R_drewN | apply Kd.R_drew)); exact HO134.out))) (Kd.R_lt (by (with_reducible repeat (first | apply Kd.R_alloc | apply Kd.R_drewN | apply Kd.R_drew)); exact HO140.out))) (Kd.R_lt (by (with_reducible repeat (first | apply Kd.R_alloc | apply Kd.R_drewN | apply Kd.R_drew)); exact HO145.out))) (Kd.R_lt (by (with_reducible repeat (first | apply Kd.R_alloc | apply Kd.R_drewN | apply Kd.R_drew)); exact HO150.out))) (Kd.R_lt (by (with_reducible repeat (first | apply Kd.R_alloc | apply Kd.R_drewN | apply Kd.R_drew)); exact HO155.out))) (Kd.R_lt (by (with_reducible repeat (first | apply Kd.R_alloc | apply Kd.R_drewN | apply Kd.R_drew)); exact HO162.out))) (Kd.R_lt (by (with_reducible repeat (first | apply Kd.R_alloc | apply Kd.R_drewN | apply Kd.R_drew)); exact HO166.out))) (below_size (by repeat (first | (with_reducible first | exact HB.out | apply below_alloc | apply pw_below_drewN | apply below_drew1) | exact HB.out)))); have n8_ := Aside0.mk (below_step (by repeat (first | (with_reducible first | exact HB.out | apply below_alloc | apply pw_below_drewN | apply below_drew1) | exact HB.out)) hb); clear HO134; clear HO140; clear HO145; clear HO150; clear HO155; clear HO162; clear HO166; clear HB; have HO134 := n0_; have HO140 := n1_; have HO145 := n2_; have HO150 := n3_; have HO155 := n4_; have HO162 := n5_; have HO166 := n6_; have HO171 := n7_; have HB := n8_; clear n0_ n1_ n2_ n3_ n4_ n5_ n6_ n7_ n8_; clear hb ho47; obtain ⟨Ao48, co48, eo48⟩ := Kd.R_slice HO145.out; subst eo48; obtain ⟨Ao49, co49, eo49⟩ := Kd.R_slice HO171.out; subst eo49) | (go_at_call 16; (with_reducible refine (choruslaw0_SameInts.calls k _ _ t141 _ _ y169 true _ ?side1 ?side2 ?side3 ?side4 A15.out).mono ?_); (case side1 => repeat (first | exact (Kd.R_reads' HO145.out).2.2 | (with_reducible refine Kd.C_alloc ?_ _) | (with_reducible refine Kd.C_drewN ?_ _) | (with_reducible refine Kd.C_drew ?_))); (case side2 => exact (Kd.R_reads' HO145.out).2.1); (case side3 => repeat (first | exact (Kd.R_reads' HO171.out).2.2 | (with_reducible refine Kd.C_alloc ?_ _) | (with_reducible refine Kd.C_drewN ?_ _) | (with_reducible refine Kd.C_drew ?_))); (case side4 => exact (Kd.R_reads' HO171.out).2.1); rintro e w' ⟨rfl, ⟨nd, rfl⟩⟩) | (go_at_call 15; (with_reducible refine (choruslaw0_Num.calls t143 t173 _ A18.out).mono ?_); rintro e w' ⟨rfl, ⟨nd, rfl⟩⟩; obtain ⟨Ao50, co50, eo50⟩ := Kd.R_slice HO150.out; subst eo50) | (go_at_call 16; (with_reducible refine (choruslaw0_SameInts.calls k _ _ t146 _ _ y132 true _ ?side1 ?side2 ?side3 ?side4 A20.out).mono ?_); (case side1 => repeat (first | exact (Kd.R_reads' HO150.out).2.2 | (with_reducible refine Kd.C_alloc ?_ _) | (with_reducible refine Kd.C_drewN ?_ _) | (with_reducible refine Kd.C_drew ?_))); (case side2 => exact (Kd.R_reads' HO150.out).2.1); (case side3 => repeat (first | exact (Kd.R_reads' HO134.out).2.2 | (with_reducible refine Kd.C_alloc ?_ _) | (with_reducible refine Kd.C_drewN ?_ _) | (with_reducible refine Kd.C_drew ?_))); (case side4 => exact (Kd.R_reads' HO134.out).2.1); rintro e w' ⟨rfl, ⟨nd, rfl⟩⟩) | (go_at_call 15; (with_reducible refine (choruslaw0_Num.calls t148 t175 _ A23.out).mono ?_); rintro e w' ⟨rfl, ⟨nd, rfl⟩⟩) | ((with_reducible refine gate_dst (N := 106) rfl ?_); (try (refine gate_guard (by rfl) ?_; dsimp only)); refine Kd.R_lit (Kd.int .i64) _ 3 ?hg (N := 106) ?hd (xs := ([3, 0] : List Int)) (inner := [.int .i64 3, .int .i64 0]) (ok := fun _ => True) (okp := fun _ => True) ?hr ?hp (fun _ hk => hk) trivial (Below.refl _ _) (Nat.le_refl _) (by simp) ?_; (case hd => rfl); (case hg => rfl); (case hr => first | (go_simp; done) | (go_simp; rfl)); (case hp => exact (Reps.one (show Kd.M (Kd.int .i64) _ _ _ 3 [.int .i64 3] from rfl) (Reps.one (show Kd.M (Kd.int .i64) _ _ _ 0 [.int .i64 0] from rfl) (Reps.none _ _)))); intro v177 w51 ho52 hb hg_ hnew_; clear hg_ hnew_; (first | rw [← Ny176.out] at ho52 | (simp only [Int.reduceToNat] at ho52; rw [← Ny176.out] at ho52)); have n0_ := Aside0.mk (Kd.R_elder' (by (with_reducible repeat (first | apply Kd.R_alloc | apply Kd.R_drewN | apply Kd.R_drew)); exact HO134.out) (Kd.R_base ho52) hb); have n1_ := Aside0.mk (Kd.R_elder' (by (with_reducible repeat (first | apply Kd.R_alloc | apply Kd.R_drewN | apply Kd.R_drew)); exact HO140.out) (Kd.R_base ho52) hb); have n2_ := Aside0.mk (Kd.R_elder' (by (with_reducible repeat (first | apply Kd.R_alloc | apply Kd.R_drewN | apply Kd.R_drew)); exact HO145.out) (Kd.R_base ho52) hb); have n3_ := Aside0.mk (Kd.R_elder' (by (with_reducible repeat (first | apply Kd.R_alloc | apply Kd.R_drewN | apply Kd.R_drew)); exact HO150.out) (Kd.R_base ho52) hb); have n4_ := Aside0.mk (Kd.R_elder' (by (with_reducible repeat (first | apply Kd.R_alloc | apply Kd.R_drewN | apply Kd.R_drew)); exact HO155.out) (Kd.R_base ho52) hb); have n5_ := Aside0.mk (Kd.R_elder' (by (with_reducible repeat (first | apply Kd.R_alloc | apply Kd.R_drewN | apply Kd.R_drew)); exact HO162.out) (Kd.R_base ho52) hb); have n6_ := Aside0.mk (Kd.R_elder' (by (with_reducible repeat (first | apply Kd.R_alloc | apply Kd.R_drewN | apply Kd.R_drew)); exact HO166.out) (Kd.R_base ho52) hb); have n7_ := Aside0.mk (Kd.R_elder' (by (with_reducible repeat (first | apply Kd.R_alloc | apply Kd.R_drewN | apply Kd.R_drew)); exact HO171.out) (Kd.R_base ho52) hb); have n8_ := Aside0.mk (Kd.R_lower (Kd.R_new' (Kd.R_new' (Kd.R_new' (Kd.R_new' (Kd.R_new' (Kd.R_new' (Kd.R_new' (Kd.R_new' ho52 (Kd.R_lt (by (with_reducible repeat (first | apply Kd.R_alloc | apply Kd.R_drewN | apply Kd.R_drew)); exact HO134.out))) (Kd.R_lt (by (with_reducible repeat (first | apply Kd.R_alloc | apply Kd.R_drewN | apply Kd.R_drew)); exact HO140.out))) (Kd.R_lt (by (with_reducible repeat (first | apply Kd.R_alloc | apply Kd.R_drewN | apply Kd.R_drew)); exact HO145.out))) (Kd.R_lt (by (with_reducible repeat (first | apply Kd.R_alloc | apply Kd.R_drewN | apply Kd.R_drew)); exact HO150.out))) (Kd.R_lt (by (with_reducible repeat (first | apply Kd.R_alloc | apply Kd.R_drewN | apply Kd.R_drew)); exact HO155.out))) (Kd.R_lt (by (with_reducible repeat (first | apply Kd.R_alloc | apply Kd.R_drewN | apply Kd.R_drew)); exact HO162.out))) (Kd.R_lt (by (with_reducible repeat (first | apply Kd.R_alloc | apply Kd.R_drewN | apply Kd.R_drew)); exact HO166.out))) (Kd.R_lt (by (with_reducible repeat (first | apply Kd.R_alloc | apply Kd.R_drewN | apply Kd.R_drew)); exact HO171.out))) (below_size (by repeat (first | (with_reducible first | exact HB.out | apply below_alloc | apply pw_below_drewN | apply below_drew1) | exact HB.out)))); have n9_ := Aside0.mk (below_step (by repeat (first | (with_reducible first | exact HB.out | apply below_alloc | apply pw_below_drewN | apply below_drew1) | exact HB.out)) hb); clear HO134; clear HO140; clear HO145; clear HO150; clear HO155; clear HO162; clear HO166; clear HO171; clear HB; have HO134 := n0_; have HO140 := n1_; have HO145 := n2_; have HO150 := n3_; have HO155 := n4_; have HO162 := n5_; have HO166 := n6_; have HO171 := n7_; have HO178 := n8_; have HB := n9_; clear n0_ n1_ n2_ n3_ n4_ n5_ n6_ n7_ n8_ n9_; clear hb ho52; obtain ⟨Ao53, co53, eo53⟩ := Kd.R_slice HO155.out; subst eo53; obtain ⟨Ao54, co54, eo54⟩ := Kd.R_slice HO178.out; subst eo54) | (go_at_call 16; (with_reducible refine (choruslaw0_SameInts.calls k _ _ t151 _ _ y176 true _ ?side1 ?side2 ?side3 ?side4 A25.out).mono ?_); (case side1 => repeat (first | exact (Kd.R_reads' HO155.out).2.2 | (with_reducible refine Kd.C_alloc ?_ _) | (with_reducible refine Kd.C_drewN ?_ _) | (with_reducible refine Kd.C_drew ?_))); (case side2 => exact (Kd.R_reads' HO155.out).2.1); (case side3 => repeat (first | exact (Kd.R_reads' HO178.out).2.2 | (with_reducible refine Kd.C_alloc ?_ _) | (with_reducible refine Kd.C_drewN ?_ _) | (with_reducible refine Kd.C_drew ?_))); (case side4 => exact (Kd.R_reads' HO178.out).2.1); rintro e w' ⟨rfl, ⟨nd, rfl⟩⟩) | (go_at_call 15; (with_reducible refine (choruslaw0_Num.calls t153 t180 _ A28.out).mono ?_); rintro e w' ⟨rfl, ⟨nd, rfl⟩⟩) | (go_at_call 15; (with_reducible refine (choruslaw0_Num.calls t157 t181 _ A30.out).mono ?_); rintro e w' ⟨rfl, ⟨nd, rfl⟩⟩) | (go_at_call 15; (with_reducible refine (choruslaw0_Num.calls t160 t182 _ A32.out).mono ?_); rintro e w' ⟨rfl, ⟨nd, rfl⟩⟩))
                                go_ret
                                exact ⟨by first | rfl | (simp [errW_none, errW_some] <;> rfl) | (simp [*, errW_none, errW_some] <;> rfl), by repeat (first | (with_reducible first | exact HB.out | apply below_alloc | apply pw_below_drewN | apply below_drew1) | exact HB.out)⟩
                              · rw [if_neg c33] at H
                                have c33b0 : (t182 == 100) = false := beq_eq_false_iff_ne.mpr c33
                                have c33b1 : (t182 != 100) = true := bne_iff_ne.mpr c33
                                exact absurd (Option.some.inj H) (by simp)
                            · rw [if_neg c31] at H
                              have c31b0 : (t181 == 100) = false := beq_eq_false_iff_ne.mpr c31
                              have c31b1 : (t181 != 100) = true := bne_iff_ne.mpr c31
                              exact absurd (Option.some.inj H) (by simp)
                          · rw [if_neg c29] at H
                            have c29b0 : (t180 == 0) = false := beq_eq_false_iff_ne.mpr c29
                            have c29b1 : (t180 != 0) = true := bne_iff_ne.mpr c29
                            exact absurd (Option.some.inj H) (by simp)
                        · rw [if_neg c27] at H
                          have c27b0 : (t152 == 5) = false := beq_eq_false_iff_ne.mpr c27
                          have c27b1 : (t152 != 5) = true := bne_iff_ne.mpr c27
                          exact absurd (Option.some.inj H) (by simp)
                      · replace c26 := Bool.eq_false_iff.mpr c26
                        subst c26
                        have H1 : (some false) = some true := by rw [if_neg (show ¬ (false = true) by decide)] at H; exact H
                        clear H
                        have H := H1
                        clear H1
                        exact absurd (Option.some.inj H) (by simp)
                    · rw [if_neg c24] at H
                      have c24b0 : (t175 == 0) = false := beq_eq_false_iff_ne.mpr c24
                      have c24b1 : (t175 != 0) = true := bne_iff_ne.mpr c24
                      exact absurd (Option.some.inj H) (by simp)
                · replace c21 := Bool.eq_false_iff.mpr c21
                  subst c21
                  have H1 : (some false) = some true := by rw [if_neg (show ¬ (false = true) by decide)] at H; exact H
                  clear H
                  have H := H1
                  clear H1
                  exact absurd (Option.some.inj H) (by simp)
              · rw [if_neg c19] at H
                have c19b0 : (t173 == 0) = false := beq_eq_false_iff_ne.mpr c19
                have c19b1 : (t173 != 0) = true := bne_iff_ne.mpr c19
                exact absurd (Option.some.inj H) (by simp)
            · replace c17 := Bool.eq_false_iff.mpr c17
              subst c17
              have H1 : (some false) = some true := by rw [if_neg (show ¬ (false = true) by decide)] at H; exact H
              clear H
              have H := H1
              clear H1
              exact absurd (Option.some.inj H) (by simp)
          · replace c16 := Bool.eq_false_iff.mpr c16
            subst c16
            have H1 : (some false) = some true := by rw [if_neg (show ¬ (false = true) by decide)] at H; exact H
            clear H
            have H := H1
            clear H1
            exact absurd (Option.some.inj H) (by simp)
        · rw [if_neg c14] at H
          have c14b0 : (t168 == 0) = false := beq_eq_false_iff_ne.mpr c14
          have c14b1 : (t168 != 0) = true := bne_iff_ne.mpr c14
          exact absurd (Option.some.inj H) (by simp)
      · replace c12 := Bool.eq_false_iff.mpr c12
        subst c12
        have H1 : (some false) = some true := by rw [if_neg (show ¬ (false = true) by decide)] at H; exact H
        clear H
        have H := H1
        clear H1
        exact absurd (Option.some.inj H) (by simp)
    · rw [if_neg c10] at H
      have c10b0 : (t163 == 0) = false := beq_eq_false_iff_ne.mpr c10
      have c10b1 : (t163 != 0) = true := bne_iff_ne.mpr c10
      exact absurd (Option.some.inj H) (by simp)
  · rw [if_neg c8] at H
    have c8b0 : (t135 == 5) = false := beq_eq_false_iff_ne.mpr c8
    have c8b1 : (t135 != 5) = true := bne_iff_ne.mpr c8
    exact absurd (Option.some.inj H) (by simp)

/-! ### choruslaw1_CellCounts: function 5 -/
mutual
def choruslaw1_CellCounts.l0 : Nat → List Int → List Int → Int → Int → Int → Option (Bool)
  | 0, _, _, _, _, _ => none
  | k + 1, x0, x5, x6, x7, x8 => if x8 < (x0.length : Int) then (choruslaw1_CellCounts.j1 k x0 x5 x6 x7 x8 (decide (x8 < 30))) else (choruslaw1_CellCounts.j1 k x0 x5 x6 x7 x8 false)
def choruslaw1_CellCounts.j1 : Nat → List Int → List Int → Int → Int → Int → Bool → Option (Bool)
  | 0, _, _, _, _, _, _ => none
  | k + 1, x0, x5, x6, x7, x8, x28 => if x28 = true then (if 0 ≤ x8 then (if x8 < (x0.length : Int) then ((cell_Add.f k x5 x6 (Go.bits .and .i64 (rd x0 x8) 1023)).bind fun bt191 => ((choruslaw0_Num.f bt191.2.2).bind fun t196 => (if t196 = 0 then (if bt191.2.1 = x7 then (if (bt191.1.length : Int) = (x5.length : Int) then (choruslaw1_CellCounts.l0 k x0 bt191.1 x6 (wrap64 (x7 + (Go.bits .and .i64 (rd x0 x8) 1023))) (wrap64 (x8 + 1))) else (some false)) else (some false)) else (some false)))) else (none)) else (none)) else ((cell_Load.f k x5 x6).bind fun bt187 => ((choruslaw0_Num.f bt187.2).bind fun t189 => (if t189 = 0 then (if bt187.1 = x7 then (some true) else (some false)) else (some false))))
end
def choruslaw1_CellCounts.f (k : Nat) (l0 : List Int) (a1 : Int) : Option (Bool) := (choruslaw1_awake.f k).bind fun t183 => (if t183 = true then (if 16 ≤ 35184372088832 then (choruslaw1_CellCounts.l0 k l0 (List.replicate 16 0) (wrap64 (Int.tmod (IntKind.u64.wrap (a1)) 16)) 0 0) else (none)) else (some false))
theorem choruslaw1_CellCounts.mono_l : ∀ k, (∀ y0 y1 y2 y3 y4, LeO (choruslaw1_CellCounts.l0 k y0 y1 y2 y3 y4) (choruslaw1_CellCounts.l0 (k + 1) y0 y1 y2 y3 y4)) ∧ (∀ y0 y1 y2 y3 y4 y5, LeO (choruslaw1_CellCounts.j1 k y0 y1 y2 y3 y4 y5) (choruslaw1_CellCounts.j1 (k + 1) y0 y1 y2 y3 y4 y5))
  | 0 => ⟨fun _ _ _ _ _ r h => by simp [choruslaw1_CellCounts.l0] at h, fun _ _ _ _ _ _ r h => by simp [choruslaw1_CellCounts.j1] at h⟩
  | k + 1 => by
    obtain ⟨ih0, ih1⟩ := choruslaw1_CellCounts.mono_l k
    refine ⟨?_, ?_⟩
    · intro y0 y1 y2 y3 y4
      unfold choruslaw1_CellCounts.l0
      repeat' first
      | (with_reducible exact ih0 _ _ _ _ _)
      | (with_reducible exact ih1 _ _ _ _ _ _)
      | (with_reducible exact cell_Add.mono _ _ _ _)
      | (with_reducible exact cell_Load.mono _ _ _)
      | (with_reducible exact choruslaw1_awake.mono _)
      | (with_reducible exact LeO.refl _)
      | (with_reducible exact LeO.none _)
      | (with_reducible refine LeO.ite ?_ ?_)
      | (with_reducible refine LeO.bind ?_ (fun _ => ?_))
      | exact ih0 _ _ _ _ _
      | exact ih1 _ _ _ _ _ _
      | exact cell_Add.mono _ _ _ _
      | exact cell_Load.mono _ _ _
      | exact choruslaw1_awake.mono _
      | exact LeO.none _
      | refine LeO.ite ?_ ?_
      | refine LeO.bind ?_ (fun _ => ?_)
    · intro y0 y1 y2 y3 y4 y5
      unfold choruslaw1_CellCounts.j1
      repeat' first
      | (with_reducible exact ih0 _ _ _ _ _)
      | (with_reducible exact ih1 _ _ _ _ _ _)
      | (with_reducible exact cell_Add.mono _ _ _ _)
      | (with_reducible exact cell_Load.mono _ _ _)
      | (with_reducible exact choruslaw1_awake.mono _)
      | (with_reducible exact LeO.refl _)
      | (with_reducible exact LeO.none _)
      | (with_reducible refine LeO.ite ?_ ?_)
      | (with_reducible refine LeO.bind ?_ (fun _ => ?_))
      | exact ih0 _ _ _ _ _
      | exact ih1 _ _ _ _ _ _
      | exact cell_Add.mono _ _ _ _
      | exact cell_Load.mono _ _ _
      | exact choruslaw1_awake.mono _
      | exact LeO.none _
      | refine LeO.ite ?_ ?_
      | refine LeO.bind ?_ (fun _ => ?_)
theorem choruslaw1_CellCounts.mono : ∀ a0 a1 k, LeO (choruslaw1_CellCounts.f k a0 a1) (choruslaw1_CellCounts.f (k + 1) a0 a1) := by
  intro a0 a1 k
  obtain ⟨ih0, ih1⟩ := choruslaw1_CellCounts.mono_l k
  unfold choruslaw1_CellCounts.f
  repeat' first
      | (with_reducible exact ih0 _ _ _ _ _)
      | (with_reducible exact ih1 _ _ _ _ _ _)
      | (with_reducible exact cell_Add.mono _ _ _ _)
      | (with_reducible exact cell_Load.mono _ _ _)
      | (with_reducible exact choruslaw1_awake.mono _)
      | (with_reducible exact LeO.refl _)
      | (with_reducible exact LeO.none _)
      | (with_reducible refine LeO.ite ?_ ?_)
      | (with_reducible refine LeO.bind ?_ (fun _ => ?_))
      | exact ih0 _ _ _ _ _
      | exact ih1 _ _ _ _ _ _
      | exact cell_Add.mono _ _ _ _
      | exact cell_Load.mono _ _ _
      | exact choruslaw1_awake.mono _
      | exact LeO.none _
      | refine LeO.ite ?_ ?_
      | refine LeO.bind ?_ (fun _ => ?_)
set_option maxHeartbeats 8000000 in
set_option maxRecDepth 100000 in
theorem choruslaw1_CellCounts.calls (k : Nat) (A0 : Option Addr) (c0 : Nat) (l0 : List Int) (a1 : Int) (r : Bool) (w : World) (hr0 : Kd.C (Kd.int .i64) w A0 l0.length l0) (hc0 : l0.length ≤ c0) (h : choruslaw1_CellCounts.f k l0 a1 = some r) (hr_ : r = true := by first | rfl | assumption) :
    Calls Try.prog 5 #[.slice A0 l0.length c0, .int .i64 a1] w fun e w' => e = .returned (.bool r) ∧ Below w.heap.size w w' := by
  subst hr_
  have HR0 := Aside0.mk hr0
  have HC0 := Aside0.mk hc0
  clear hr0 hc0
  have HB := Aside0.mk (Below.refl w.heap.size w)
  have H : ((choruslaw1_awake.f k).bind fun t183 => (if t183 = true then (if 16 ≤ 35184372088832 then (choruslaw1_CellCounts.l0 k l0 (List.replicate 16 0) (wrap64 (Int.tmod (IntKind.u64.wrap (a1)) 16)) 0 0) else (none)) else (some false))) = some true := h
  clear h
  replace H := Option.bind_eq_some_iff.mp H
  obtain ⟨t183, A30, H⟩ := H
  replace H : (if t183 = true then (if 16 ≤ 35184372088832 then (choruslaw1_CellCounts.l0 k l0 (List.replicate 16 0) (wrap64 (Int.tmod (IntKind.u64.wrap (a1)) 16)) 0 0) else (none)) else (some false)) = some true := H
  have A3 := Aside0.mk A30
  clear A30
  by_cases c4 : t183 = true
  · subst c4
    have H1 : (if 16 ≤ 35184372088832 then (choruslaw1_CellCounts.l0 k l0 (List.replicate 16 0) (wrap64 (Int.tmod (IntKind.u64.wrap (a1)) 16)) 0 0) else (none)) = some true := by rw [if_pos rfl] at H; exact H
    clear H
    have H := H1
    clear H1
    by_cases c5 : 16 ≤ 35184372088832
    · rw [if_pos c5] at H
      have c5b0 := eq_true c5
      have c5b1 : decide (16 ≤ 35184372088832) = true := decide_eq_true c5
      clear c5
      obtain ⟨y184, hy184⟩ : ∃ y_ : List Int, y_ = (List.replicate 16 0) := ⟨_, rfl⟩
      replace H : (choruslaw1_CellCounts.l0 k l0 y184 (wrap64 (Int.tmod (IntKind.u64.wrap (a1)) 16)) 0 0) = some true := by first | (rw [hy184]; with_reducible exact H) | (have H2_ := (Option.bind_some _ _).symm.trans H; rw [hy184]; with_reducible exact H2_) | (have H2_ := (Option.bind_some _ _).symm.trans H; with_reducible exact H2_) | with_reducible exact H | (rw [hy184]; exact H) | exact H
      have Ny184 := Aside0.mk hy184
      clear hy184
      have H' := Aside0.mk H
      clear H
      go_enter Try.func5, Try.ntmps5
      go_wp2_with (first | ((with_reducible refine gate_callee (f := 19) rfl ?_); refine goesL_ (some 14) rfl rfl Try.func19 (by kernel_rfl) rfl #[] rfl (by (try simp only [List.map_toArray, List.map_cons, List.map_nil]); first | done | rfl | (simp only [List.length_drop, List.length_take]; rfl)) ?_; (with_reducible refine (choruslaw1_awake.calls k  true _ A3.out).mono ?_); rintro e w6 ⟨rfl, hb⟩; refine ⟨_, rfl, ?_⟩; have n0_ := Aside0.mk (below_step (by repeat (first | (with_reducible first | exact HB.out | apply below_alloc | apply pw_below_drewN | apply below_drew1) | exact HB.out)) hb); clear HB; have HB := n0_; clear n0_; (try clear hb); (try clear hb2); (try clear hk); (try clear hi)) | ((with_reducible refine gate_dst (N := 16) rfl ?_); (try (refine gate_guard (by rfl) ?_; dsimp only)); refine Kd.R_make (Kd.int .i64) _ 3 rfl (N := 16) rfl 22 _ _ rfl 16 rfl rfl Try.underlying22 (.int .i64 0) 8 info3 rfl (by decide) (by omega) 0 (ok := fun _ => True) (okp := fun _ => True) rfl (fun _ hk => hk) trivial (by omega) (by omega) (Below.refl _ _) (Nat.le_refl _) ?_; intro v185 w7 ho8 hb hg_ hnew_; clear hg_ hnew_; (first | rw [← Ny184.out] at ho8 | (simp only [Int.reduceToNat] at ho8; rw [← Ny184.out] at ho8)); have n0_ := Aside0.mk (Kd.R_lower ho8 (below_size (by repeat (first | (with_reducible first | exact HB.out | apply below_alloc | apply pw_below_drewN | apply below_drew1) | exact HB.out)))); have n1_ := Aside0.mk (below_step (by repeat (first | (with_reducible first | exact HB.out | apply below_alloc | apply pw_below_drewN | apply below_drew1) | exact HB.out)) hb); clear HB; have HO186 := n0_; have HB := n1_; clear n0_ n1_; clear hb ho8))
      go_loopg [5, 7, 8] k (fun kq v5 v7 v8 w' => ∃ (x5_1 : List Int) (x7_1 : Int) (x8_1 : Int), v7 = .int .i64 x7_1 ∧ v8 = .int .i64 x8_1 ∧ Aside0 (choruslaw1_CellCounts.l0 kq l0 x5_1 (wrap64 (Int.tmod (IntKind.u64.wrap (a1)) 16)) x7_1 x8_1 = some true) ∧ Aside0 (kq ≤ k) ∧ Aside0 (Kd.R (Kd.int .i64) 3 w' w.heap.size (fun _ => True) v5 x5_1) ∧ Aside0 (Below w.heap.size w w'))
      case atStart => exact ⟨(y184), (0), (0), (by first | rfl | (simp; done) | (simp [*]; done) | (congr 1 <;> (first | rfl | (unfold wrap64; omega)))), (by first | rfl | (simp; done) | (simp [*]; done) | (congr 1 <;> (first | rfl | (unfold wrap64; omega)))), H', ⟨Nat.le_refl _⟩, ⟨by (with_reducible repeat (first | apply Kd.R_alloc | apply Kd.R_drewN | apply Kd.R_drew)); exact HO186.out⟩, ⟨by repeat (first | (with_reducible first | exact HB.out | apply below_alloc | apply pw_below_drewN | apply below_drew1) | exact HB.out)⟩⟩
      case round =>
        clear H'
        try clear c1
        try clear p2
        try clear c4
        try clear c5
        try clear c5b0
        try clear c5b1
        try clear p6
        obtain ⟨x5_1, x7_1, x8_1, rfl, rfl, HA, HK1, HO_5, HB⟩ := hrel
        cases gk with
        | zero => exact absurd HA.out (by simp [choruslaw1_CellCounts.l0])
        | succ k1 =>
          have H := HA.out
          clear HA
          simp only [choruslaw1_CellCounts.l0] at H
          have HC9 := Aside0.mk H
          clear H
          go_upto_region 7 with (fail)
          go_cut [28] (fun v28 wc => ∃ (kq : Nat) (x28_8 : Bool), v28 = .bool x28_8 ∧ Aside0 (choruslaw1_CellCounts.j1 kq l0 x5_1 (wrap64 (Int.tmod (IntKind.u64.wrap (a1)) 16)) x7_1 x8_1 x28_8 = some true) ∧ Aside0 (kq ≤ k1) ∧ Aside0 (Kd.R (Kd.int .i64) 3 wc w.heap.size (fun _ => True) u5 x5_1) ∧ Aside0 (Below w.heap.size w wc))
          case first =>
            have H := HC9.out
            clear HC9
            by_cases c10 : x8_1 < (l0.length : Int)
            · rw [if_pos c10] at H
              have c10b0 : decide (x8_1 < (l0.length : Int)) = true := decide_eq_true c10
              clear c10
              (first | rw [c10b0] | (simp only [i64_w, i32_w]; rw [c10b0]) | skip)
              have H' := Aside0.mk H
              clear H
              go_wp2
              go_meet
              case rel => exact ⟨_, (decide (x8_1 < 30)), (by first | rfl | (simp; done) | (simp [*]; done) | (congr 1 <;> (first | rfl | (unfold wrap64; omega)))), H', ⟨by have := HK1.out; first | omega | exact Nat.le_refl _⟩, ⟨by (with_reducible repeat (first | apply Kd.R_alloc | apply Kd.R_drewN | apply Kd.R_drew)); exact HO_5.out⟩, ⟨by repeat (first | (with_reducible first | exact HB.out | apply below_alloc | apply pw_below_drewN | apply below_drew1) | exact HB.out)⟩⟩
            · rw [if_neg c10] at H
              have c10b0 : decide (x8_1 < (l0.length : Int)) = false := decide_eq_false c10
              clear c10
              (first | rw [c10b0] | (simp only [i64_w, i32_w]; rw [c10b0]) | skip)
              have H' := Aside0.mk H
              clear H
              go_wp2
              go_meet
              case rel => exact ⟨_, (false), (by first | rfl | (simp; done) | (simp [*]; done) | (congr 1 <;> (first | rfl | (unfold wrap64; omega)))), H', ⟨by have := HK1.out; first | omega | exact Nat.le_refl _⟩, ⟨by (with_reducible repeat (first | apply Kd.R_alloc | apply Kd.R_drewN | apply Kd.R_drew)); exact HO_5.out⟩, ⟨by repeat (first | (with_reducible first | exact HB.out | apply below_alloc | apply pw_below_drewN | apply below_drew1) | exact HB.out)⟩⟩
          case rest =>
            clear HC9
            try clear c1
            try clear p2
            try clear c4
            try clear c5
            try clear c5b0
            try clear c5b1
            try clear p6
            try clear c10
            try clear c10b0
            try clear p2
            try clear p6
            obtain ⟨kq, x28_8, rfl, HA, HJ8, HO_5, HB⟩ := hcut
            cases kq with
            | zero => exact absurd HA.out (by simp [choruslaw1_CellCounts.j1])
            | succ kj8 =>
              have H := HA.out
              clear HA
              simp only [choruslaw1_CellCounts.j1] at H
              by_cases c11 : x28_8 = true
              · subst c11
                have H1 : (if 0 ≤ x8_1 then (if x8_1 < (l0.length : Int) then ((cell_Add.f kj8 x5_1 (wrap64 (Int.tmod (IntKind.u64.wrap (a1)) 16)) (Go.bits .and .i64 (rd l0 x8_1) 1023)).bind fun bt191 => ((choruslaw0_Num.f bt191.2.2).bind fun t196 => (if t196 = 0 then (if bt191.2.1 = x7_1 then (if (bt191.1.length : Int) = (x5_1.length : Int) then (choruslaw1_CellCounts.l0 kj8 l0 bt191.1 (wrap64 (Int.tmod (IntKind.u64.wrap (a1)) 16)) (wrap64 (x7_1 + (Go.bits .and .i64 (rd l0 x8_1) 1023))) (wrap64 (x8_1 + 1))) else (some false)) else (some false)) else (some false)))) else (none)) else (none)) = some true := by rw [if_pos rfl] at H; exact H
                clear H
                have H := H1
                clear H1
                by_cases c12 : 0 ≤ x8_1
                · rw [if_pos c12] at H
                  have c12b0 : decide (0 ≤ x8_1) = true := decide_eq_true c12
                  clear c12
                  by_cases c13 : x8_1 < (l0.length : Int)
                  · rw [if_pos c13] at H
                    have c13b0 : decide (x8_1 < (l0.length : Int)) = true := decide_eq_true c13
                    clear c13
                    replace H := Option.bind_eq_some_iff.mp H
                    obtain ⟨⟨t191, t192, t193⟩, A140, H⟩ := H
                    replace H : ((choruslaw0_Num.f t193).bind fun t196 => (if t196 = 0 then (if t192 = x7_1 then (if (t191.length : Int) = (x5_1.length : Int) then (choruslaw1_CellCounts.l0 kj8 l0 t191 (wrap64 (Int.tmod (IntKind.u64.wrap (a1)) 16)) (wrap64 (x7_1 + (Go.bits .and .i64 (rd l0 x8_1) 1023))) (wrap64 (x8_1 + 1))) else (some false)) else (some false)) else (some false))) = some true := H
                    have A14 := Aside0.mk A140
                    clear A140
                    replace H := Option.bind_eq_some_iff.mp H
                    obtain ⟨t196, A150, H⟩ := H
                    replace H : (if t196 = 0 then (if t192 = x7_1 then (if (t191.length : Int) = (x5_1.length : Int) then (choruslaw1_CellCounts.l0 kj8 l0 t191 (wrap64 (Int.tmod (IntKind.u64.wrap (a1)) 16)) (wrap64 (x7_1 + (Go.bits .and .i64 (rd l0 x8_1) 1023))) (wrap64 (x8_1 + 1))) else (some false)) else (some false)) else (some false)) = some true := H
                    have A15 := Aside0.mk A150
                    clear A150
                    by_cases c16 : t196 = 0
                    · rw [if_pos c16] at H
                      have c16b0 : (t196 == 0) = true := beq_iff_eq.mpr c16
                      have c16b1 : (t196 != 0) = false := bne_eq_false_iff_eq.mpr c16
                      clear c16
                      by_cases c17 : t192 = x7_1
                      · rw [if_pos c17] at H
                        have c17b0 : (t192 == x7_1) = true := beq_iff_eq.mpr c17
                        have c17b1 : (t192 != x7_1) = false := bne_eq_false_iff_eq.mpr c17
                        clear c17
                        by_cases c18 : (t191.length : Int) = (x5_1.length : Int)
                        · rw [if_pos c18] at H
                          have c18b0 : ((t191.length : Int) == (x5_1.length : Int)) = true := beq_iff_eq.mpr c18
                          have c18b1 : ((t191.length : Int) != (x5_1.length : Int)) = false := bne_eq_false_iff_eq.mpr c18
                          have c18b2 : (t191.length == x5_1.length) = true := by first | simpa using c18 | (simp at c18 ⊢; omega)
                          clear c18
                          have H' := Aside0.mk H
                          clear H
                          have p190 : 0 ≤ (x8_1 : Int) := of_decide_eq_true (by first | (with_reducible assumption) | assumption)
                          have q190 : x8_1 < (l0.length : Int) := of_decide_eq_true (by first | (with_reducible assumption) | assumption)
                          obtain ⟨ad190, e190, hx190_0⟩ := Kd.at_int HR0.out x8_1 p190 q190
                          cases e190
                          replace hx190_0 := (HB.out.cell (World.block_lt_of_cell? w _ hx190_0)).trans hx190_0
                          replace p190 := eq_true p190
                          replace q190 := eq_true q190
                          obtain ⟨Ao19, co19, eo19⟩ := Kd.R_slice HO_5.out
                          subst eo19
                          go_wp2_with (first | ((with_reducible refine gate_callee (f := 13) rfl ?_); refine goesL_ (some 39) rfl rfl Try.func13 (by kernel_rfl) rfl #[.slice Ao19 x5_1.length co19, .int .i64 (wrap64 (Int.tmod (IntKind.u64.wrap (a1)) 16)), .int .i64 (Go.bits .and .i64 (rd l0 x8_1) 1023)] rfl (by (try simp only [List.map_toArray, List.map_cons, List.map_nil]); first | done | rfl | (simp only [List.length_drop, List.length_take]; rfl)) ?_; (with_reducible refine (cell_Add.calls kj8 _ _ x5_1 (wrap64 (Int.tmod (IntKind.u64.wrap (a1)) 16)) (Go.bits .and .i64 (rd l0 x8_1) 1023) t191 t192 t193 _ ?side1 ?side2 A14.out).mono ?_); (case side1 => repeat (first | exact (Kd.R_reads' HO_5.out).2.2 | (with_reducible refine Kd.C_alloc ?_ _) | (with_reducible refine Kd.C_drewN ?_ _) | (with_reducible refine Kd.C_drew ?_))); (case side2 => exact (Kd.R_reads' HO_5.out).2.1); rintro e w20 ⟨v194, rfl, ho0, hb⟩; refine ⟨_, rfl, ?_⟩; have n0_ := Aside0.mk (Kd.R_elder' (by (with_reducible repeat (first | apply Kd.R_alloc | apply Kd.R_drewN | apply Kd.R_drew)); exact HO_5.out) (Kd.R_base ho0) hb); have n1_ := Aside0.mk (Kd.R_lower (Kd.R_new' ho0 (Kd.R_lt (by (with_reducible repeat (first | apply Kd.R_alloc | apply Kd.R_drewN | apply Kd.R_drew)); exact HO_5.out))) (below_size (by repeat (first | (with_reducible first | exact HB.out | apply below_alloc | apply pw_below_drewN | apply below_drew1) | exact HB.out)))); have n2_ := Aside0.mk (below_step (by repeat (first | (with_reducible first | exact HB.out | apply below_alloc | apply pw_below_drewN | apply below_drew1) | exact HB.out)) hb); clear HO_5; clear HB; have HO_5 := n0_; have HO195 := n1_; have HB := n2_; clear n0_ n1_ n2_; (try clear hb); (try clear hb2); (try clear hk); (try clear hi); (try clear ho0)) | ((with_reducible refine gate_callee (f := 15) rfl ?_); refine goesL_ (some 44) rfl rfl Try.func15 (by kernel_rfl) rfl #[.int .i64 t193] rfl (by (try simp only [List.map_toArray, List.map_cons, List.map_nil]); first | done | rfl | (simp only [List.length_drop, List.length_take]; rfl)) ?_; (with_reducible refine (choruslaw0_Num.calls t193 t196 _ A15.out).mono ?_); rintro e w' ⟨rfl, ⟨nd, rfl⟩⟩; refine ⟨_, rfl, ?_⟩; obtain ⟨Ao21, co21, eo21⟩ := Kd.R_slice HO195.out; subst eo21; have p197 : 0 ≤ (x8_1 : Int) := of_decide_eq_true (by first | (with_reducible assumption) | assumption); have q197 : x8_1 < (l0.length : Int) := of_decide_eq_true (by first | (with_reducible assumption) | assumption); obtain ⟨ad197, e197, hx197_0⟩ := Kd.at_int HR0.out x8_1 p197 q197; obtain rfl : ad190 = ad197 := (by injection e197); replace hx197_0 := (HB.out.cell (World.block_lt_of_cell? w _ hx197_0)).trans hx197_0; replace p197 := eq_true p197; replace q197 := eq_true q197))
                          go_roundg kj8
                          case measure => have := HK1.out; have := HJ8.out; omega
                          case rel => exact ⟨(t191), (wrap64 (x7_1 + (Go.bits .and .i64 (rd l0 x8_1) 1023))), (wrap64 (x8_1 + 1)), (by first | rfl | (simp; done) | (simp [*]; done) | (congr 1 <;> (first | rfl | (unfold wrap64; omega)))), (by first | rfl | (simp; done) | (simp [*]; done) | (congr 1 <;> (first | rfl | (unfold wrap64; omega)))), H', ⟨by have := HK1.out; have := HJ8.out; omega⟩, ⟨by (with_reducible repeat (first | apply Kd.R_alloc | apply Kd.R_drewN | apply Kd.R_drew)); exact Kd.R_mono HO195.out (fun _ hk => trivial)⟩, ⟨by repeat (first | (with_reducible first | exact HB.out | apply below_alloc | apply pw_below_drewN | apply below_drew1) | exact HB.out)⟩⟩
                        · rw [if_neg c18] at H
                          have c18b0 : ((t191.length : Int) == (x5_1.length : Int)) = false := beq_eq_false_iff_ne.mpr c18
                          have c18b1 : ((t191.length : Int) != (x5_1.length : Int)) = true := bne_iff_ne.mpr c18
                          have c18b2 : (t191.length == x5_1.length) = false := by first | simpa using c18 | (simp at c18 ⊢; omega)
                          exact absurd (Option.some.inj H) (by simp)
                      · rw [if_neg c17] at H
                        have c17b0 : (t192 == x7_1) = false := beq_eq_false_iff_ne.mpr c17
                        have c17b1 : (t192 != x7_1) = true := bne_iff_ne.mpr c17
                        exact absurd (Option.some.inj H) (by simp)
                    · rw [if_neg c16] at H
                      have c16b0 : (t196 == 0) = false := beq_eq_false_iff_ne.mpr c16
                      have c16b1 : (t196 != 0) = true := bne_iff_ne.mpr c16
                      exact absurd (Option.some.inj H) (by simp)
                  · rw [if_neg c13] at H
                    exact absurd H (by simp)
                · rw [if_neg c12] at H
                  exact absurd H (by simp)
              · replace c11 := Bool.eq_false_iff.mpr c11
                subst c11
                have H1 : ((cell_Load.f kj8 x5_1 (wrap64 (Int.tmod (IntKind.u64.wrap (a1)) 16))).bind fun bt187 => ((choruslaw0_Num.f bt187.2).bind fun t189 => (if t189 = 0 then (if bt187.1 = x7_1 then (some true) else (some false)) else (some false)))) = some true := by rw [if_neg (show ¬ (false = true) by decide)] at H; exact H
                clear H
                have H := H1
                clear H1
                replace H := Option.bind_eq_some_iff.mp H
                obtain ⟨⟨t187, t188⟩, A220, H⟩ := H
                replace H : ((choruslaw0_Num.f t188).bind fun t189 => (if t189 = 0 then (if t187 = x7_1 then (some true) else (some false)) else (some false))) = some true := H
                have A22 := Aside0.mk A220
                clear A220
                replace H := Option.bind_eq_some_iff.mp H
                obtain ⟨t189, A230, H⟩ := H
                replace H : (if t189 = 0 then (if t187 = x7_1 then (some true) else (some false)) else (some false)) = some true := H
                have A23 := Aside0.mk A230
                clear A230
                by_cases c24 : t189 = 0
                · rw [if_pos c24] at H
                  have c24b0 : (t189 == 0) = true := beq_iff_eq.mpr c24
                  have c24b1 : (t189 != 0) = false := bne_eq_false_iff_eq.mpr c24
                  clear c24
                  by_cases c25 : t187 = x7_1
                  · rw [if_pos c25] at H
                    have c25b0 : (t187 == x7_1) = true := beq_iff_eq.mpr c25
                    have c25b1 : (t187 != x7_1) = false := bne_eq_false_iff_eq.mpr c25
                    clear c25
                    clear H
                    obtain ⟨Ao26, co26, eo26⟩ := Kd.R_slice HO_5.out
                    subst eo26
                    go_wp2_with (first | ((with_reducible refine gate_callee (f := 7) rfl ?_); refine goesL_ (some 69) rfl rfl Try.func7 (by kernel_rfl) rfl #[.slice Ao26 x5_1.length co26, .int .i64 (wrap64 (Int.tmod (IntKind.u64.wrap (a1)) 16))] rfl (by (try simp only [List.map_toArray, List.map_cons, List.map_nil]); first | done | rfl | (simp only [List.length_drop, List.length_take]; rfl)) ?_; (with_reducible refine (cell_Load.calls kj8 _ _ x5_1 (wrap64 (Int.tmod (IntKind.u64.wrap (a1)) 16)) t187 t188 _ ?side1 ?side2 A22.out).mono ?_); (case side1 => repeat (first | exact (Kd.R_reads' HO_5.out).2.2 | (with_reducible refine Kd.C_alloc ?_ _) | (with_reducible refine Kd.C_drewN ?_ _) | (with_reducible refine Kd.C_drew ?_))); (case side2 => exact (Kd.R_reads' HO_5.out).2.1); rintro e w' ⟨rfl, ⟨nd, rfl⟩⟩; refine ⟨_, rfl, ?_⟩) | ((with_reducible refine gate_callee (f := 15) rfl ?_); refine goesL_ (some 73) rfl rfl Try.func15 (by kernel_rfl) rfl #[.int .i64 t188] rfl (by (try simp only [List.map_toArray, List.map_cons, List.map_nil]); first | done | rfl | (simp only [List.length_drop, List.length_take]; rfl)) ?_; (with_reducible refine (choruslaw0_Num.calls t188 t189 _ A23.out).mono ?_); rintro e w' ⟨rfl, ⟨nd, rfl⟩⟩; refine ⟨_, rfl, ?_⟩))
                    go_ret
                    exact ⟨by first | rfl | (simp [errW_none, errW_some] <;> rfl) | (simp [*, errW_none, errW_some] <;> rfl), by repeat (first | (with_reducible first | exact HB.out | apply below_alloc | apply pw_below_drewN | apply below_drew1) | exact HB.out)⟩
                  · rw [if_neg c25] at H
                    have c25b0 : (t187 == x7_1) = false := beq_eq_false_iff_ne.mpr c25
                    have c25b1 : (t187 != x7_1) = true := bne_iff_ne.mpr c25
                    exact absurd (Option.some.inj H) (by simp)
                · rw [if_neg c24] at H
                  have c24b0 : (t189 == 0) = false := beq_eq_false_iff_ne.mpr c24
                  have c24b1 : (t189 != 0) = true := bne_iff_ne.mpr c24
                  exact absurd (Option.some.inj H) (by simp)
    · rw [if_neg c5] at H
      exact absurd H (by simp)
  · replace c4 := Bool.eq_false_iff.mpr c4
    subst c4
    have H1 : (some false) = some true := by rw [if_neg (show ¬ (false = true) by decide)] at H; exact H
    clear H
    have H := H1
    clear H1
    exact absurd (Option.some.inj H) (by simp)

/-- THE ONE PURE STATEMENT of choruslaw1_CellCounts: yours. -/
def choruslaw1_CellCounts.Pure : Prop := ∀ (l0 : List Int) (a1 : Int), l0.length ≤ maxLen → l0.length * 8 ≤ 140737488351232 → (∀ x ∈ l0, (Lit.int .i64 x).wf = true) → (Lit.int .i64 a1).wf = true → ∃ k, choruslaw1_CellCounts.f k l0 a1 = some true
theorem choruslaw1_CellCounts.walk (P : choruslaw1_CellCounts.Pure) (a0 : Option Addr) (len0 cap0 : Nat) (z0 : List Int) (a1 : Int) (w : World) (w0 : (a0 = none ∧ len0 = 0 ∧ cap0 = 0 ∧ z0 = []) ∨ ∃ x, a0 = some x ∧ len0 ≤ cap0 ∧ cap0 ≤ maxLen ∧ z0.length = cap0 ∧ (∀ i, i < z0.length → w.cell? (x.add i) = some (.int .i64 (z0.getD i 0))) ∧ ∀ n ∈ z0, (Lit.int .i64 n).wf = true) (y0 : len0 * 8 ≤ 140737488351232) (w1 : (Lit.int .i64 a1).wf = true) :
    Calls Try.prog 5 #[.slice a0 len0 cap0, .int .i64 a1] w fun e w' => e = .returned (.bool true) ∧ Below w.heap.size w w' := by
  obtain ⟨l0, rfl, hr0, hm0, hw0, hc0⟩ := ReadsInt.ofRowC w0
  obtain ⟨k, h⟩ := P l0 a1 hm0 y0 hw0 w1
  refine (choruslaw1_CellCounts.calls k _ _ l0 a1 true w (Kd.C_of_reads (d := (0 : Int)) (h1 := fun _ => rfl) hr0) hc0 h).mono ?_
  rintro e w' ⟨rfl, hd⟩
  exact ⟨rfl, hd⟩

end Go.Proofs.Ytojkcbcdoljadaa.PCellCounts
