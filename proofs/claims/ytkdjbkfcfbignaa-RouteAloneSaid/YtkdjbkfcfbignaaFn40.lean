/-
  Tables (chapter 4), as the small machine runs them: where a number stands, what may be.
-/
import Derived.Test.YtkdjbkfcfbignaaFn33
import Derived.Test.YtkdjbkfcfbignaaAi37
set_option linter.unusedVariables false
set_option linter.unusedSimpArgs false
set_option maxHeartbeats 4000000
set_option maxRecDepth 100000
namespace Go.Proofs.YtkdjbkfcfbignaaW.Ai
-- chorus/chorusref1.has
def rf_has : RFunc :=
  ⟨18, [(.tmp 4)], (.seq (.ops [rO 4 (.mv (.const (.bool false)))]) (.seq (.seq (.ops [rO 5 (.mv (.const (.int .i64 0)))]) (.block 0 (.loop (.seq (.seq (.ops [rO 6 (.mv (.tmp 5)), rO 7 (.mv (.tmp 0)), rO 8 (.len 1 (.tmp 7)), rO 9 (.bin .lss (.tmp 6) (.tmp 8))]) (.cond (.tmp 9) .skip (.exit 0))) (.seq (.block 1 (.seq (.ops [rO 12 (.mv (.tmp 0)), rO 13 (.mv (.tmp 5)), rO 14 (.idxAddr 1 (.tmp 12) (.tmp 13)), rO 15 (.load .none (.tmp 14)), rO 16 (.mv (.tmp 1)), rO 17 (.bin .eql (.tmp 15) (.tmp 16))]) (.cond (.tmp 17) (.seq (.ops [rO 4 (.mv (.const (.bool true)))]) .ret) .skip))) (.ops [rO 10 (.mv (.tmp 5)), rO 11 (.bin .add (.tmp 10) (.const (.int .i64 1))), rO 5 (.mv (.tmp 11))])))))) (.seq (.ops [rO 4 (.mv (.const (.bool false)))]) .ret)))⟩
/-- A table's row: numbers from 0 to 3, each above the one ahead of it. -/
def TabRow (xs : List Int) : Prop := ∀ (i : Nat) (h : i < xs.length), (0 ≤ xs[i] ∧ xs[i] < 4) ∧ (0 < i → xs[i - 1] < xs[i])
instance (xs : List Int) : Decidable (TabRow xs) := inferInstanceAs (Decidable (∀ (i : Nat) (h : i < xs.length), (0 ≤ xs[i] ∧ xs[i] < 4) ∧ (0 < i → xs[i - 1] < xs[i])))
def TabOk (s : S4) : Prop := TabRow s.x0 ∧ TabRow s.x1 ∧ TabRow s.x2 ∧ TabRow s.x3
instance (s : S4) : Decidable (TabOk s) := inferInstanceAs (Decidable (_ ∧ _ ∧ _ ∧ _))
section
variable (X : Ext) (F : FuncId → Option RFunc) (g : FuncId)
abbrev S_has : Prop := ∀ (lim : Nat) (h : AH) {a : Option Addr} {n c : Nat} {xs : List Int} {x : Int}, Sl 1 h a n c (ints xs) → n ≤ 2 ^ 60 → Ret X F lim g [.slice a n c, .int .i64 x] h fun v h' => Pfx h h' ∧ v = .bool (decide (x ∈ xs))
end
section
variable {X : Ext} {F : FuncId → Option RFunc} {f : FuncId}
theorem s_has (hX : X f = none) (hF : F f = some rf_has) : S_has X F f := by
  intro lim h a n c xs x ha hn
  have hL := Loc.start h
  have hxn := ha.ilen
  refine Ret.body hX hF rfl ?_
  simp only [argL, rf_has]
  (refine Cs (Co (Wm rfl (Wt ?_))); refine Cs (Cs (Co (Wm rfl (Wt ?_)))); refine WC.block ?_)
  refine WC.loop (fun i : Nat => i ≤ n ∧ ∀ y ∈ xs.take i, y ≠ x) (fun i => [(5, .int .i64 (i : Int)), (1, .int .i64 x), (0, .slice a n c)]) (fun _ => h) (fun i => n - i) ?_ 0 ⟨Nat.zero_le _, by simp⟩ (by (refine Sub.cons rfl (Sub.cons rfl (Sub.cons rfl ?_)); exact Sub.nil _)) rfl
  intro i ⟨hi, hall⟩
  by_cases hlt : (i : Int) < n
  · have hil : i < xs.length := by omega
    have hmem := List.getElem_mem hil
    (refine Cs (Cs (Co (Wm rfl (Wm rfl (Wc (OP.lenS rfl (Wc (OP.lssT rfl rfl (by omega) ?_)))))))); refine Wn ?_; dsimp only [zn, zr, zx, yn, yr]; refine WC.condT rfl (WC.skip ?_); dsimp only [zn, zr, zx, yn, yr]; refine Cs (WC.block (Cs (Co (Wm rfl (Wm rfl (Wc (OP.idxS (by assumption) rfl rfl (by omega) ?_))))))); refine Wc (OP.ldI (by assumption) rfl (by omega) ?_); refine Wm rfl (Wc ?_); refine OP.eqlC rfl rfl (fun hc => ?_) (fun hc => ?_); refine Wn ?_; dsimp only [zn, zr, zx, yn, yr]; refine WC.condT rfl (Cs (Co (Wm rfl (Wn ?_)))); dsimp only [zn, zr, zx, yn, yr]; refine WC.ret ?_; dsimp only [zn, zr, zx, yn, yr]; exact Fin.ret rfl ⟨hL.pfx, boolT (by grind)⟩; refine Wn ?_; dsimp only [zn, zr, zx, yn, yr]; refine WC.condF rfl (WC.skip ?_); dsimp only [zn, zr, zx, yn, yr]; refine Co (Wm rfl (Wc (OP.add rfl rfl (by omega) ?_))); refine Wm rfl (Wn ?_); dsimp only [zn, zr, zx, yn, yr])
    refine ⟨i + 1, ⟨by omega, fun y hy => ?_⟩, by (refine Sub.cons rfl (Sub.cons rfl (Sub.cons rfl ?_)); exact Sub.nil _), rfl, by omega⟩
    rw [List.take_succ_eq_append_getElem hil] at hy
    rcases List.mem_append.1 hy with hy | hy
    · exact hall y hy
    · simp at hy; rw [hy]; exact hc
  · rw [List.take_of_length_le (by omega)] at hall
    have hno : ¬ x ∈ xs := fun hh => hall x hh rfl
    (refine Cs (Cs (Co (Wm rfl (Wm rfl (Wc (OP.lenS rfl (Wc (OP.lssF rfl rfl (by omega) ?_)))))))); refine Wt ?_; refine WC.condF rfl (WC.exit ?_); dsimp only [zn, zr, zx, yn, yr]; rw [yx, if_pos rfl]; dsimp only [zn, zr, zx, yn, yr]; refine Cs (Co (Wm rfl (Wt ?_))); refine WC.ret ?_; exact Fin.ret rfl ⟨hL.pfx, boolF (by omega)⟩)
theorem TabRow.snoc {xs : List Int} {i : Nat} (hi : i < xs.length) (h : TabRow (xs.take i)) (h1 : 0 ≤ xs[i] ∧ xs[i] < 4) (h2 : 0 < i → xs[i - 1] < xs[i]) : TabRow (xs.take (i + 1)) := by
  intro j hj
  simp only [List.length_take] at hj
  simp only [List.getElem_take]
  by_cases hji : j = i
  · subst hji; exact ⟨h1, h2⟩
  · have := h j (by simp only [List.length_take]; omega)
    simpa only [List.getElem_take] using this
end
end Go.Proofs.YtkdjbkfcfbignaaW.Ai
