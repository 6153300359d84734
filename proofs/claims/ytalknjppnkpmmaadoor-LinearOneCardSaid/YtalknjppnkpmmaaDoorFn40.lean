/-
  Tables (chapter 4), as the small machine runs them: where a number stands, what may be.
-/
import Derived.Test.YtalknjppnkpmmaaDoorFn33
import Derived.Test.YtalknjppnkpmmaaDoorMh
set_option linter.unusedVariables false
set_option linter.unusedSimpArgs false
set_option maxHeartbeats 4000000
set_option maxRecDepth 100000
namespace Go.Proofs.YtalknjppnkpmmaaDoorW.Ai
section
def rf_NaN1 : RFunc :=
  ⟨6, [(.tmp 2)], (.seq (.ops [rO 2 (.mv (.const (.bool false)))]) (.seq (.ops [rO 3 (.mv (.tmp 0)), rO 4 (.mv (.tmp 0)), rO 5 (.bin .neq (.tmp 3) (.tmp 4)), rO 2 (.mv (.tmp 5))]) .ret))⟩
def rf_NaN2 : RFunc :=
  ⟨6, [(.tmp 2)], (.seq (.ops [rO 2 (.mv (.const (.bool false)))]) (.seq (.ops [rO 3 (.mv (.tmp 0)), rO 4 (.mv (.tmp 0)), rO 5 (.bin .neq (.tmp 3) (.tmp 4)), rO 2 (.mv (.tmp 5))]) .ret))⟩
def rf_Less (g0 : Nat) : RFunc :=
  ⟨17, [(.tmp 4)], (.seq (.ops [rO 4 (.mv (.const (.bool false)))]) (.seq (.ops [rO 5 (.mv (.tmp 0)), rO 6 (.call (.func g0) [(.tmp 5)]), rO 7 (.mv (.tmp 6)), ⟨(.some 8), (.mv (.tmp 1)), (.some (7, true)), false, []⟩, ⟨(.some 9), (.call (.func g0) [(.tmp 8)]), (.some (7, true)), false, []⟩, ⟨(.some 10), (.un .not (.tmp 9)), (.some (7, true)), false, []⟩, rO 11 (.pick (.tmp 7) (.tmp 10) (.const (.bool false))), rO 12 (.mv (.tmp 11)), ⟨(.some 13), (.mv (.tmp 0)), (.some (12, false)), false, []⟩, ⟨(.some 14), (.mv (.tmp 1)), (.some (12, false)), false, []⟩, ⟨(.some 15), (.bin .lss (.tmp 13) (.tmp 14)), (.some (12, false)), false, []⟩, rO 16 (.pick (.tmp 12) (.const (.bool true)) (.tmp 15)), rO 4 (.mv (.tmp 16))]) .ret))⟩
def rf_BS (g0 g1 : Nat) : RFunc :=
  ⟨54, [(.tmp 4), (.tmp 5)], (.seq (.ops [rO 4 (.mv (.const (.int .i64 0))), rO 5 (.mv (.const (.bool false)))]) (.seq (.ops [rO 10 (.mv (.tmp 0)), rO 11 (.len 1 (.tmp 10)), rO 6 (.mv (.tmp 11))]) (.seq (.ops [rO 12 (.mv (.tmp 6)), rO 7 (.mv (.const (.int .i64 0))), rO 8 (.mv (.tmp 12))]) (.seq (.block 0 (.loop (.seq (.seq (.ops [rO 13 (.mv (.tmp 7)), rO 14 (.mv (.tmp 8)), rO 15 (.bin .lss (.tmp 13) (.tmp 14))]) (.cond (.tmp 15) .skip (.exit 0))) (.block 1 (.seq (.ops [rO 16 (.mv (.tmp 7)), rO 17 (.mv (.tmp 8)), rO 18 (.bin .add (.tmp 16) (.tmp 17)), rO 19 (.conv .u64 (.tmp 18)), rO 20 (.bin .shr (.tmp 19) (.const (.int .u64 1))), rO 21 (.conv .i64 (.tmp 20)), rO 9 (.mv (.tmp 21))]) (.seq (.ops [rO 22 (.mv (.tmp 0)), rO 23 (.mv (.tmp 9)), rO 24 (.idxAddr 1 (.tmp 22) (.tmp 23)), rO 25 (.load .none (.tmp 24)), rO 26 (.mv (.tmp 1)), rO 27 (.call (.func g0) [(.tmp 25), (.tmp 26)])]) (.cond (.tmp 27) (.ops [rO 28 (.mv (.tmp 9)), rO 29 (.bin .add (.tmp 28) (.const (.int .i64 1))), rO 7 (.mv (.tmp 29))]) (.ops [rO 30 (.mv (.tmp 9)), rO 8 (.mv (.tmp 30))])))))))) (.seq (.ops [rO 31 (.mv (.tmp 7)), rO 32 (.mv (.tmp 7)), rO 33 (.mv (.tmp 6)), rO 34 (.bin .lss (.tmp 32) (.tmp 33)), rO 35 (.mv (.tmp 34)), ⟨(.some 36), (.mv (.tmp 0)), (.some (35, true)), false, []⟩, ⟨(.some 37), (.mv (.tmp 7)), (.some (35, true)), false, []⟩, ⟨(.some 38), (.idxAddr 1 (.tmp 36) (.tmp 37)), (.some (35, true)), false, []⟩, ⟨(.some 39), (.load .none (.tmp 38)), (.some (35, true)), false, []⟩, ⟨(.some 40), (.mv (.tmp 1)), (.some (35, true)), false, []⟩, ⟨(.some 41), (.bin .eql (.tmp 39) (.tmp 40)), (.some (35, true)), false, []⟩, ⟨(.some 42), (.mv (.tmp 41)), (.some (35, true)), false, []⟩, ⟨(.some 43), (.mv (.tmp 0)), (.some (42, false)), false, []⟩, ⟨(.some 44), (.mv (.tmp 7)), (.some (42, false)), false, []⟩, ⟨(.some 45), (.idxAddr 1 (.tmp 43) (.tmp 44)), (.some (42, false)), false, []⟩, ⟨(.some 46), (.load .none (.tmp 45)), (.some (42, false)), false, []⟩, ⟨(.some 47), (.call (.func g1) [(.tmp 46)]), (.some (42, false)), false, []⟩, ⟨(.some 48), (.mv (.tmp 47)), (.some (42, false)), false, []⟩, ⟨(.some 49), (.mv (.tmp 1)), (.some (48, true)), false, []⟩, ⟨(.some 50), (.call (.func g1) [(.tmp 49)]), (.some (48, true)), false, []⟩, ⟨(.some 51), (.pick (.tmp 48) (.tmp 50) (.const (.bool false))), (.some (42, false)), false, []⟩, ⟨(.some 52), (.pick (.tmp 42) (.const (.bool true)) (.tmp 51)), (.some (35, true)), false, []⟩, rO 53 (.pick (.tmp 35) (.tmp 52) (.const (.bool false))), rO 4 (.mv (.tmp 31)), rO 5 (.mv (.tmp 53))]) .ret)))))⟩
def rf_has : RFunc :=
  ⟨18, [(.tmp 4)], (.seq (.ops [rO 4 (.mv (.const (.bool false)))]) (.seq (.seq (.ops [rO 5 (.mv (.const (.int .i64 0)))]) (.block 0 (.loop (.seq (.seq (.ops [rO 6 (.mv (.tmp 5)), rO 7 (.mv (.tmp 0)), rO 8 (.len 1 (.tmp 7)), rO 9 (.bin .lss (.tmp 6) (.tmp 8))]) (.cond (.tmp 9) .skip (.exit 0))) (.seq (.block 1 (.seq (.ops [rO 12 (.mv (.tmp 0)), rO 13 (.mv (.tmp 5)), rO 14 (.idxAddr 1 (.tmp 12) (.tmp 13)), rO 15 (.load .none (.tmp 14)), rO 16 (.mv (.tmp 1)), rO 17 (.bin .eql (.tmp 15) (.tmp 16))]) (.cond (.tmp 17) (.seq (.ops [rO 4 (.mv (.const (.bool true)))]) .ret) .skip))) (.ops [rO 10 (.mv (.tmp 5)), rO 11 (.bin .add (.tmp 10) (.const (.int .i64 1))), rO 5 (.mv (.tmp 11))])))))) (.seq (.ops [rO 4 (.mv (.const (.bool false)))]) .ret)))⟩
def rf_fMay : RFunc :=
  ⟨40, [(.tmp 2)], (.seq (.ops [rO 1 (.box (.tmp 0)), rO 2 (.mv (.const (.bool false)))]) (.seq (.seq (.ops [rO 7 (.fieldAddr 0 (.tmp 1)), rO 8 (.load (.some 4) (.tmp 7)), rO 9 (.mv (.const (.int .i64 0)))]) (.block 0 (.loop (.seq (.ops [rO 10 (.bin .lss (.tmp 9) (.const (.int .i64 4)))]) (.seq (.cond (.tmp 10) .skip (.exit 0)) (.seq (.block 1 (.seq (.ops [rO 11 (.idxArr 4 1 .none (.tmp 8) (.tmp 9)), rO 4 (.mv (.tmp 11))]) (.seq (.ops [rO 12 (.mv (.tmp 4)), rO 13 (.len 1 (.tmp 12)), rO 14 (.mv (.const (.int .i64 0)))]) (.block 2 (.loop (.seq (.ops [rO 15 (.bin .lss (.tmp 14) (.tmp 13))]) (.seq (.cond (.tmp 15) .skip (.exit 2)) (.seq (.block 3 (.seq (.ops [rO 16 (.mv (.tmp 14)), rO 17 (.idxAddr 1 (.tmp 12) (.tmp 14)), rO 18 (.load .none (.tmp 17)), rO 5 (.mv (.tmp 16)), rO 6 (.mv (.tmp 18))]) (.seq (.ops [rO 19 (.mv (.tmp 6)), rO 20 (.bin .lss (.tmp 19) (.const (.int .i64 0))), rO 21 (.mv (.tmp 20)), ⟨(.some 22), (.mv (.tmp 6)), (.some (21, false)), false, []⟩, ⟨(.some 23), (.bin .geq (.tmp 22) (.const (.int .i64 4))), (.some (21, false)), false, []⟩, rO 24 (.pick (.tmp 21) (.const (.bool true)) (.tmp 23)), rO 25 (.mv (.tmp 24)), ⟨(.some 26), (.mv (.tmp 5)), (.some (25, false)), false, []⟩, ⟨(.some 27), (.bin .gtr (.tmp 26) (.const (.int .i64 0))), (.some (25, false)), false, []⟩, ⟨(.some 28), (.mv (.tmp 27)), (.some (25, false)), false, []⟩, ⟨(.some 29), (.mv (.tmp 4)), (.some (28, true)), false, []⟩, ⟨(.some 30), (.mv (.tmp 5)), (.some (28, true)), false, []⟩, ⟨(.some 31), (.bin .sub (.tmp 30) (.const (.int .i64 1))), (.some (28, true)), false, []⟩, ⟨(.some 32), (.idxAddr 1 (.tmp 29) (.tmp 31)), (.some (28, true)), false, []⟩, ⟨(.some 33), (.load .none (.tmp 32)), (.some (28, true)), false, []⟩, ⟨(.some 34), (.mv (.tmp 6)), (.some (28, true)), false, []⟩, ⟨(.some 35), (.bin .geq (.tmp 33) (.tmp 34)), (.some (28, true)), false, []⟩, ⟨(.some 36), (.pick (.tmp 28) (.tmp 35) (.const (.bool false))), (.some (25, false)), false, []⟩, rO 37 (.pick (.tmp 25) (.const (.bool true)) (.tmp 36))]) (.cond (.tmp 37) (.seq (.ops [rO 2 (.mv (.const (.bool false)))]) .ret) .skip)))) (.ops [rO 38 (.bin .add (.tmp 14) (.const (.int .i64 1))), rO 14 (.mv (.tmp 38))]))))))))) (.ops [rO 39 (.bin .add (.tmp 9) (.const (.int .i64 1))), rO 9 (.mv (.tmp 39))]))))))) (.seq (.ops [rO 2 (.mv (.const (.bool true)))]) .ret)))⟩
def TabRow (xs : List Int) : Prop := ∀ (i : Nat) (h : i < xs.length), (0 ≤ xs[i] ∧ xs[i] < 4) ∧ (0 < i → xs[i - 1] < xs[i])
instance (xs : List Int) : Decidable (TabRow xs) := inferInstanceAs (Decidable (∀ (i : Nat) (h : i < xs.length), (0 ≤ xs[i] ∧ xs[i] < 4) ∧ (0 < i → xs[i - 1] < xs[i])))
def TabOk (s : S4) : Prop := TabRow s.x0 ∧ TabRow s.x1 ∧ TabRow s.x2 ∧ TabRow s.x3
instance (s : S4) : Decidable (TabOk s) := inferInstanceAs (Decidable (_ ∧ _ ∧ _ ∧ _))
section
variable (X : Ext) (F : FuncId → Option RFunc) (g : FuncId)
abbrev S_NaN : Prop := ∀ (lim : Nat) (h : AH) {x : Int}, Ret X F lim g [.int .i64 x] h fun v h' => Pfx h h' ∧ v = .bool false
abbrev S_Less : Prop := ∀ (lim : Nat) (h : AH) {x y : Int}, Ret X F lim g [.int .i64 x, .int .i64 y] h fun v h' => Pfx h h' ∧ v = .bool (decide (x < y))
abbrev S_BS : Prop := ∀ (lim : Nat) (h : AH) {a : Option Addr} {n c : Nat} {xs : List Int} {x : Int}, Sl 1 h a n c (ints xs) → n ≤ 1000 → TabRow xs → Ret X F lim g [.slice a n c, .int .i64 x] h fun v h' => Pfx h h' ∧ ∃ i : Nat, v = .tuple #[.int .i64 (i : Int), .bool (decide (x ∈ xs))] ∧ i ≤ n ∧ (∀ (k : Nat) (hk : k < xs.length), k < i → xs[k] < x) ∧ (∀ (k : Nat) (hk : k < xs.length), i ≤ k → x ≤ xs[k])
abbrev S_has : Prop := ∀ (lim : Nat) (h : AH) {a : Option Addr} {n c : Nat} {xs : List Int} {x : Int}, Sl 1 h a n c (ints xs) → n ≤ 2 ^ 60 → Ret X F lim g [.slice a n c, .int .i64 x] h fun v h' => Pfx h h' ∧ v = .bool (decide (x ∈ xs))
abbrev S_fMay : Prop := ∀ (lim : Nat) (h : AH) {r0 r1 r2 r3 : Row}, St h r0 r1 r2 r3 → Ret X F lim g [stV r0 r1 r2 r3] h fun v h' => Pfx h h' ∧ v = .bool (decide (TabOk ⟨r0.xs, r1.xs, r2.xs, r3.xs⟩))
end
theorem TabRow.le {xs : List Int} (hT : TabRow xs) {k m : Nat} (hk : k < xs.length) (hm : m < xs.length) (h : k ≤ m) : xs[k] ≤ xs[m] := by
  induction m with
  | zero => have : k = 0 := by omega
            subst this; exact Int.le_refl _
  | succ m ih =>
    by_cases hkm : k = m + 1
    · subst hkm; exact Int.le_refl _
    · have h1 := ih (by omega) (by omega)
      have h2 := (hT (m + 1) hm).2 (by omega)
      simp only [Nat.add_sub_cancel] at h2
      omega
section
variable {X : Ext} {F : FuncId → Option RFunc} {f : FuncId}
theorem s_NaN1 (hX : X f = none) (hF : F f = some rf_NaN1) : S_NaN X F f := by
  intro lim h x
  have hL := Loc.start h
  refine Ret.body hX hF rfl ?_
  simp only [argL, rf_NaN1]
  (refine Cs (Co (Wm rfl (Wn ?_))); dsimp only [zn, zr, zx, yn, yr]; refine Cs (Co (Wm rfl (Wm rfl (Wc (OP.neqF rfl rfl (by omega) ?_))))); refine Wm rfl (Wn ?_); dsimp only [zn, zr, zx, yn, yr]; refine WC.ret ?_; exact Fin.ret rfl ⟨hL.pfx, rfl⟩)
theorem s_NaN2 (hX : X f = none) (hF : F f = some rf_NaN2) : S_NaN X F f := by
  intro lim h x
  have hL := Loc.start h
  refine Ret.body hX hF rfl ?_
  simp only [argL, rf_NaN2]
  (refine Cs (Co (Wm rfl (Wn ?_))); dsimp only [zn, zr, zx, yn, yr]; refine Cs (Co (Wm rfl (Wm rfl (Wc (OP.neqF rfl rfl (by omega) ?_))))); refine Wm rfl (Wn ?_); dsimp only [zn, zr, zx, yn, yr]; refine WC.ret ?_; exact Fin.ret rfl ⟨hL.pfx, rfl⟩)
theorem s_Less {g0 : Nat} (hX : X f = none) (hF : F f = some (rf_Less g0)) (c0 : S_NaN X F g0) : S_Less X F f := by
  intro lim h x y
  have hL := Loc.start h
  refine Ret.body hX hF rfl ?_
  simp only [argL, rf_Less]
  (refine Cs (Co (Wm rfl (Wn ?_))); dsimp only [zn, zr, zx, yn, yr]; refine Cs (Co (Wm rfl (Wc ?_))); refine OL.callV hL rfl rfl (c0 _ _) (fun h' hp hL => (Wm rfl (WO.no rfl (WO.no rfl (WO.no rfl (Wc (OP.pickF rfl rfl (Wm rfl (WO.yes rfl (Wm rfl (WO.yes rfl (Wm rfl (WO.yes rfl (Wc ?_)))))))))))))); refine OP.lssC rfl rfl (fun hc => ?_) (fun hc => ?_); refine Wc (OP.pickF rfl rfl (Wm rfl (Wn ?_))); dsimp only [zn, zr, zx, yn, yr]; refine WC.ret ?_; exact Fin.ret rfl ⟨hL.pfx, boolT (by omega)⟩; refine Wc (OP.pickF rfl rfl (Wm rfl (Wn ?_))); dsimp only [zn, zr, zx, yn, yr]; refine WC.ret ?_; exact Fin.ret rfl ⟨hL.pfx, boolF (by omega)⟩)
theorem s_BS {g0 g1 : Nat} (hX : X f = none) (hF : F f = some (rf_BS g0 g1)) (c0 : S_Less X F g0) (c1 : S_NaN X F g1) : S_BS X F f := by
  intro lim h a n c xs x ha hn hT
  have hL := Loc.start h
  have hxn := ha.ilen
  refine Ret.body hX hF rfl ?_
  simp only [argL, rf_BS]
  (refine Cs (Co (Wm rfl (Wm rfl (Wn ?_)))); dsimp only [zn, zr, zx, yn, yr]; refine Cs (Co (Wm rfl (Wc (OP.lenS rfl (Wm rfl (Wn ?_)))))); dsimp only [zn, zr, zx, yn, yr]; refine Cs (Co (Wm rfl (Wm rfl (Wm rfl (Wn ?_))))); dsimp only [zn, zr, zx, yn, yr]; refine Cs (WC.block ?_))
  refine WC.loop (fun q : Nat × Nat × AH => (q.1 ≤ q.2.1 ∧ q.2.1 ≤ n ∧ Loc h q.2.2 []) ∧ (∀ (k : Nat) (hk : k < xs.length), k < q.1 → xs[k] < x) ∧ (∀ (k : Nat) (hk : k < xs.length), q.2.1 ≤ k → x ≤ xs[k])) (fun q => [(8, .int .i64 (q.2.1 : Int)), (7, .int .i64 (q.1 : Int)), (6, .int .i64 (n : Int)), (1, .int .i64 x), (0, .slice a n c)]) (fun q => q.2.2) (fun q => q.2.1 - q.1) ?_ (0, n, h) ⟨⟨Nat.zero_le _, Nat.le_refl _, hL⟩, fun k hk h0 => absurd h0 (Nat.not_lt_zero _), fun k hk h0 => absurd hk (by simp only at h0; omega)⟩ (by (refine Sub.cons rfl (Sub.cons rfl (Sub.cons rfl (Sub.cons rfl (Sub.cons rfl ?_)))); exact Sub.nil _)) rfl
  intro ⟨i, j, h1⟩ ⟨⟨hij, hj, hL⟩, hlo, hup⟩
  simp only at hij hj hL hlo hup ⊢
  by_cases hlt : (i : Int) < j
  · (refine Cs (Cs (Co (Wm rfl (Wm rfl (Wc (OP.lssT rfl rfl (by omega) ?_)))))); refine Wn ?_; dsimp only [zn, zr, zx, yn, yr]; refine WC.condT rfl (WC.skip ?_); dsimp only [zn, zr, zx, yn, yr]; refine WC.block (Cs (Co (Wm rfl (Wm rfl (Wc (OP.add rfl rfl (by omega) ?_)))))); refine Wc ?_; refine OP.convU rfl (fun u hu => (Wc ?_)); refine OP.half rfl rfl (by omega) (fun m hm hm2 => ?_); refine Wc (OP.convI rfl (by omega) ?_); refine Wm rfl (Wn ?_); dsimp only [zn, zr, zx, yn, yr]; refine Cs (Co (Wm rfl (Wm rfl (Wc (OP.idxS (Sl.pfx (by assumption) (Loc.pfx hL)) rfl rfl (by omega) ?_))))); refine Wc (OP.ldI (Sl.pfx (by assumption) (Loc.pfx hL)) rfl (by omega) ?_); refine Wm rfl (Wc ?_); refine OL.callB hL rfl rfl (c0 _ _) (fun h' hp hL hc => ?_) (fun h' hp hL hc => ?_); refine Wn ?_; dsimp only [zn, zr, zx, yn, yr]; refine WC.condT rfl (Co (Wm rfl (Wc (OP.add rfl rfl (by omega) ?_)))); refine Wm rfl (Wn ?_); dsimp only [zn, zr, zx, yn, yr])
    · refine ⟨(m + 1, j, h'), ⟨⟨by simp only; omega, hj, hL⟩, fun k hk h0 => ?_, hup⟩, by (refine Sub.cons rfl (Sub.cons rfl (Sub.cons rfl (Sub.cons rfl (Sub.cons rfl ?_)))); exact Sub.nil _), rfl, by simp only; omega⟩
      have := hT.le hk (by omega : m < xs.length) (by simp only at h0; omega)
      omega
    · (refine Wn ?_; dsimp only [zn, zr, zx, yn, yr]; refine WC.condF rfl (Co (Wm rfl (Wm rfl (Wn ?_)))); dsimp only [zn, zr, zx, yn, yr])
      refine ⟨(i, m, h'), ⟨⟨by simp only; omega, by simp only; omega, hL⟩, hlo, fun k hk h0 => ?_⟩, by (refine Sub.cons rfl (Sub.cons rfl (Sub.cons rfl (Sub.cons rfl (Sub.cons rfl ?_)))); exact Sub.nil _), rfl, by simp only; omega⟩
      have := hT.le (by omega : m < xs.length) hk (by simp only at h0; omega)
      omega
  · (refine Cs (Cs (Co (Wm rfl (Wm rfl (Wc (OP.lssF rfl rfl (by omega) ?_)))))); refine Wn ?_; dsimp only [zn, zr, zx, yn, yr]; refine WC.condF rfl (WC.exit ?_); dsimp only [zn, zr, zx, yn, yr]; rw [yx, if_pos rfl]; dsimp only [zn, zr, zx, yn, yr]; refine Cs (Co (Wm rfl (Wm rfl (Wm rfl (Wc ?_))))); refine OP.lssC rfl rfl (fun hc => ?_) (fun hc => ?_); refine Wm rfl (WO.yes rfl (Wm rfl (WO.yes rfl (Wm rfl (WO.yes rfl (Wc (OP.idxS (Sl.pfx (by assumption) (Loc.pfx hL)) rfl rfl (by omega) ?_))))))); refine WO.yes rfl (Wc (OP.ldI (Sl.pfx (by assumption) (Loc.pfx hL)) rfl (by omega) ?_)); refine WO.yes rfl (Wm rfl (WO.yes rfl (Wc ?_))); refine OP.eqlC rfl rfl (fun hc => ?_) (fun hc => ?_); refine WO.yes rfl (Wm rfl (WO.no rfl (WO.no rfl (WO.no rfl (WO.no rfl (WO.no rfl (WO.no rfl (WO.noU rfl (WO.noU rfl (WO.no rfl (WO.yes rfl (Wc (OP.pickT rfl rfl (Wc (OP.pickT rfl rfl (Wm rfl (Wm rfl (Wn ?_)))))))))))))))))); dsimp only [zn, zr, zx, yn, yr]; refine WC.ret ?_)
    · have hmem : x ∈ xs := hc ▸ List.getElem_mem (by omega)
      rw [show decide (x ∈ xs) = true from decide_eq_true hmem]
      exact Fin.ret rfl ⟨hL.pfx, i, rfl, by omega, hlo, fun k hk h0 => hup k hk (by omega)⟩
    · have hno : ¬ x ∈ xs := fun hh => by
        obtain ⟨k, hk, e⟩ := List.mem_iff_getElem.1 hh
        by_cases h3 : k < i
        · have := hlo k hk h3; omega
        · have h4 := hT.le (by omega : i < xs.length) hk (by omega)
          have h5 := hup i (by omega) (by omega)
          omega
      (refine WO.yes rfl (Wm rfl (WO.yes rfl (Wm rfl (WO.yes rfl (Wm rfl (WO.yes rfl (Wc (OP.idxS (Sl.pfx (by assumption) (Loc.pfx hL)) rfl rfl (by omega) ?_)))))))); refine WO.yes rfl (Wc (OP.ldI (Sl.pfx (by assumption) (Loc.pfx hL)) rfl (by omega) ?_)); refine WO.yes rfl (Wc ?_); refine OL.callV hL rfl rfl (c1 _ _) (fun h' hp hL => (WO.yes rfl (Wm rfl (WO.no rfl (WO.no rfl (WO.yes rfl (Wc (OP.pickF rfl rfl (WO.yes rfl (Wc (OP.pickF rfl rfl (Wc (OP.pickT rfl rfl (Wm rfl (Wm rfl (Wn ?_)))))))))))))))); dsimp only [zn, zr, zx, yn, yr]; refine WC.ret ?_)
      rw [show decide (x ∈ xs) = false from decide_eq_false hno]
      exact Fin.ret rfl ⟨hL.pfx, i, rfl, by omega, hlo, fun k hk h0 => hup k hk (by omega)⟩
    · have hno : ¬ x ∈ xs := fun hh => by
        obtain ⟨k, hk, e⟩ := List.mem_iff_getElem.1 hh
        have := hlo k hk (by omega); omega
      (refine Wm rfl (WO.no rfl (WO.no rfl (WO.no rfl (WO.no rfl (WO.no rfl (WO.no rfl (WO.no rfl (WO.noU rfl (WO.noU rfl (WO.noU rfl (WO.noU rfl (WO.noU rfl (WO.noU rfl (WO.noU rfl (WO.noU rfl (WO.noU rfl (WO.no rfl (Wc (OP.pickF rfl rfl (Wm rfl (Wm rfl (Wn ?_)))))))))))))))))))))); dsimp only [zn, zr, zx, yn, yr]; refine WC.ret ?_)
      rw [show decide (x ∈ xs) = false from decide_eq_false hno]
      exact Fin.ret rfl ⟨hL.pfx, i, rfl, by omega, hlo, fun k hk h0 => hup k hk (by omega)⟩
theorem s_has (hX : X f = none) (hF : F f = some rf_has) : S_has X F f := by
  intro lim h a n c xs x ha hn
  have hL := Loc.start h
  have hxn := ha.ilen
  refine Ret.body hX hF rfl ?_
  simp only [argL, rf_has]
  (refine Cs (Co (Wm rfl (Wn ?_))); dsimp only [zn, zr, zx, yn, yr]; refine Cs (Cs (Co (Wm rfl (Wn ?_)))); dsimp only [zn, zr, zx, yn, yr]; refine WC.block ?_)
  refine WC.loop (fun i : Nat => i ≤ n ∧ ∀ y ∈ xs.take i, y ≠ x) (fun i => [(5, .int .i64 (i : Int)), (1, .int .i64 x), (0, .slice a n c)]) (fun _ => h) (fun i => n - i) ?_ 0 ⟨Nat.zero_le _, by simp⟩ (by (refine Sub.cons rfl (Sub.cons rfl (Sub.cons rfl ?_)); exact Sub.nil _)) rfl
  intro i ⟨hi, hall⟩
  by_cases hlt : (i : Int) < n
  · have hil : i < xs.length := by omega
    have hmem := List.getElem_mem hil
    (refine Cs (Cs (Co (Wm rfl (Wm rfl (Wc (OP.lenS rfl (Wc (OP.lssT rfl rfl (by omega) ?_)))))))); refine Wn ?_; dsimp only [zn, zr, zx, yn, yr]; refine WC.condT rfl (WC.skip ?_); dsimp only [zn, zr, zx, yn, yr]; refine Cs (WC.block (Cs (Co (Wm rfl (Wm rfl (Wc (OP.idxS (by assumption) rfl rfl (by omega) ?_))))))); refine Wc (OP.ldI (by assumption) rfl (by omega) ?_); refine Wm rfl (Wc ?_); refine OP.eqlC rfl rfl (fun hc => ?_) (fun hc => ?_); refine Wn ?_; dsimp only [zn, zr, zx, yn, yr]; refine WC.condT rfl (Cs (Co (Wm rfl (Wn ?_)))); dsimp only [zn, zr, zx, yn, yr]; refine WC.ret ?_; dsimp only [zn, zr, zx, yn, yr]; exact Fin.ret rfl ⟨hL.pfx, boolT (by grind)⟩; refine Wn ?_; dsimp only [zn, zr, zx, yn, yr]; refine WC.condF rfl (WC.skip ?_); dsimp only [zn, zr, zx, yn, yr]; refine Co (Wm rfl (Wc (OP.add rfl rfl (by omega) ?_))); refine Wm rfl (Wn ?_); dsimp only [zn, zr, zx, yn, yr])
    refine ⟨i + 1, ⟨by omega, fun y hy => ?_⟩, by (refine Sub.cons rfl (Sub.cons rfl (Sub.cons rfl ?_)); exact Sub.nil _), rfl, by omega⟩
    rw [List.take_succ_eq_append_getElem hil] at hy
    rcases List.mem_append.1 hy with hy | hy
    · exact hall y hy
    · simp at hy; rw [hy]; exact hc
  · rw [List.take_of_length_le (by omega)] at hall
    have hno : ¬ x ∈ xs := fun hh => hall x hh rfl
    (refine Cs (Cs (Co (Wm rfl (Wm rfl (Wc (OP.lenS rfl (Wc (OP.lssF rfl rfl (by omega) ?_)))))))); refine Wn ?_; dsimp only [zn, zr, zx, yn, yr]; refine WC.condF rfl (WC.exit ?_); dsimp only [zn, zr, zx, yn, yr]; rw [yx, if_pos rfl]; dsimp only [zn, zr, zx, yn, yr]; refine Cs (Co (Wm rfl (Wn ?_))); dsimp only [zn, zr, zx, yn, yr]; refine WC.ret ?_; exact Fin.ret rfl ⟨hL.pfx, boolF (by omega)⟩)
theorem TabRow.snoc {xs : List Int} {i : Nat} (hi : i < xs.length) (h : TabRow (xs.take i)) (h1 : 0 ≤ xs[i] ∧ xs[i] < 4) (h2 : 0 < i → xs[i - 1] < xs[i]) : TabRow (xs.take (i + 1)) := by
  intro j hj
  simp only [List.length_take] at hj
  simp only [List.getElem_take]
  by_cases hji : j = i
  · subst hji; exact ⟨h1, h2⟩
  · have := h j (by simp only [List.length_take]; omega)
    simpa only [List.getElem_take] using this
theorem s_fMay (hX : X f = none) (hF : F f = some rf_fMay) : S_fMay X F f := by
  intro lim h r0 r1 r2 r3 hst
  have hL := Loc.start h
  obtain ⟨s0, s1, s2, s3⟩ := id hst
  have t0 := s0.1.ilen
  have t1 := s1.1.ilen
  have t2 := s2.1.ilen
  have t3 := s3.1.ilen
  have q0 := s0.1
  have q1 := s1.1
  have q2 := s2.1
  have q3 := s3.1
  have u0 := s0.2
  have u1 := s1.2
  have u2 := s2.2
  have u3 := s3.2
  refine Ret.body hX hF rfl ?_
  simp only [argL, rf_fMay]
  (refine Cs (Co (Wc ?_)); refine OL.boxA hL rfl rfl (fun b h' hL => (Wm rfl (Wn ?_))); dsimp only [zn, zr, zx, yn, yr]; refine Cs (Cs (Co (Wc (OP.fieldAddr0 rfl (Wc (OL.loadAll (k := 0) hL rfl rfl rfl (Wm rfl (Wn ?_)))))))); dsimp only [zn, zr, zx, yn, yr]; refine WC.block ?_)
  refine WC.unroll ?_
  (refine Cs (Co (Wc (OP.lssT rfl rfl (by omega) ?_))); refine Wn ?_; dsimp only [zn, zr, zx, yn, yr]; refine Cs (WC.condT rfl (WC.skip ?_)); dsimp only [zn, zr, zx, yn, yr]; refine Cs (WC.block (Cs (Co (Wc (OP.idxArr1 rfl rfl (by decide) rfl ?_))))); refine Wm rfl (Wn ?_); dsimp only [zn, zr, zx, yn, yr]; refine Cs (Co (Wm rfl (Wc (OP.lenS rfl (Wm rfl (Wn ?_)))))); dsimp only [zn, zr, zx, yn, yr]; refine WC.block ?_)
  refine WC.loop (fun i : Nat => i ≤ r0.n ∧ TabRow (r0.xs.take i)) (fun i => [(14, .int .i64 (i : Int)), (13, .int .i64 (r0.n : Int)), (12, r0.v), (4, r0.v), (9, .int .i64 0), (8, stV r0 r1 r2 r3)]) (fun _ => h') (fun i => r0.n - i) ?_ 0 ⟨Nat.zero_le _, by simp [TabRow]⟩ (by (refine Sub.cons rfl (Sub.cons rfl (Sub.cons rfl (Sub.cons rfl (Sub.cons rfl (Sub.cons rfl ?_))))); exact Sub.nil _)) rfl
  intro i ⟨hi, hall⟩
  by_cases hlt : (i : Int) < r0.n
  · have hil : i < r0.xs.length := by omega
    have hno : ¬ ((0 ≤ r0.xs[i] ∧ r0.xs[i] < 4) ∧ (0 < i → r0.xs[i - 1] < r0.xs[i])) → ¬ TabOk ⟨r0.xs, r1.xs, r2.xs, r3.xs⟩ := fun hn hh => hn (hh.1 i hil)
    (refine Cs (Co (Wc (OP.lssT rfl rfl (by omega) ?_))); refine Wn ?_; dsimp only [zn, zr, zx, yn, yr]; refine Cs (WC.condT rfl (WC.skip ?_)); dsimp only [zn, zr, zx, yn, yr]; refine Cs (WC.block (Cs (Co (Wm rfl (Wc (OP.idxS (Sl.pfx (by assumption) (Loc.pfx hL)) rfl rfl (by omega) ?_)))))); refine Wc (OP.ldI (Sl.pfx (by assumption) (Loc.pfx hL)) rfl (by omega) ?_); refine Wm rfl (Wm rfl (Wn ?_)); dsimp only [zn, zr, zx, yn, yr]; refine Cs (Co (Wm rfl (Wc ?_))); refine OP.lssC rfl rfl (fun hc => ?_) (fun hc => ?_); refine Wm rfl (WO.no rfl (WO.no rfl (Wc (OP.pickT rfl rfl (Wm rfl (WO.no rfl (WO.no rfl (WO.no rfl (WO.noU rfl (WO.noU rfl (WO.noU rfl (WO.noU rfl (WO.noU rfl (WO.noU rfl (WO.noU rfl (WO.no rfl (Wc (OP.pickT rfl rfl (Wn ?_))))))))))))))))))); dsimp only [zn, zr, zx, yn, yr]; refine WC.condT rfl (Cs (Co (Wm rfl (Wn ?_)))); dsimp only [zn, zr, zx, yn, yr]; refine WC.ret ?_; dsimp only [zn, zr, zx, yn, yr]; exact Fin.ret rfl ⟨hL.pfx, boolF (by grind)⟩; refine Wm rfl (WO.yes rfl (Wm rfl (WO.yes rfl (Wc ?_)))); refine OP.geqC rfl rfl (fun hc => ?_) (fun hc => ?_); refine Wc (OP.pickF rfl rfl (Wm rfl (WO.no rfl (WO.no rfl (WO.no rfl (WO.noU rfl (WO.noU rfl (WO.noU rfl (WO.noU rfl (WO.noU rfl (WO.noU rfl (WO.noU rfl (WO.no rfl (Wc (OP.pickT rfl rfl (Wn ?_)))))))))))))))); dsimp only [zn, zr, zx, yn, yr]; refine WC.condT rfl (Cs (Co (Wm rfl (Wn ?_)))); dsimp only [zn, zr, zx, yn, yr]; refine WC.ret ?_; dsimp only [zn, zr, zx, yn, yr]; exact Fin.ret rfl ⟨hL.pfx, boolF (by grind)⟩; refine Wc (OP.pickF rfl rfl (Wm rfl (WO.yes rfl (Wm rfl (WO.yes rfl (Wc ?_)))))); refine OP.gtrC rfl rfl (fun hc => ?_) (fun hc => ?_); refine WO.yes rfl (Wm rfl (WO.yes rfl (Wm rfl (WO.yes rfl (Wm rfl (WO.yes rfl (Wc (OP.sub rfl rfl (by omega) ?_)))))))); refine WO.yes rfl (Wc (OP.idxZ (Sl.pfx (by assumption) (Loc.pfx hL)) rfl rfl (by omega) ?_)); refine WO.yes rfl (Wc (OP.ldI (Sl.pfx (by assumption) (Loc.pfx hL)) rfl (by omega) ?_)); refine WO.yes rfl (Wm rfl (WO.yes rfl (Wc ?_))); refine OP.geqC rfl rfl (fun hc => ?_) (fun hc => ?_); refine WO.yes rfl (Wc (OP.pickT rfl rfl (Wc (OP.pickF rfl rfl (Wn ?_))))); dsimp only [zn, zr, zx, yn, yr]; refine WC.condT rfl (Cs (Co (Wm rfl (Wn ?_)))); dsimp only [zn, zr, zx, yn, yr]; refine WC.ret ?_; dsimp only [zn, zr, zx, yn, yr]; exact Fin.ret rfl ⟨hL.pfx, boolF (by grind)⟩; refine WO.yes rfl (Wc (OP.pickT rfl rfl (Wc (OP.pickF rfl rfl (Wn ?_))))); dsimp only [zn, zr, zx, yn, yr]; refine WC.condF rfl (WC.skip ?_); dsimp only [zn, zr, zx, yn, yr]; refine Co (Wc (OP.add rfl rfl (by omega) ?_)); refine Wm rfl (Wn ?_); dsimp only [zn, zr, zx, yn, yr])
    · have e : ((i : Int) - 1).toNat = i - 1 := by omega
      simp only [e] at hc
      exact ⟨i + 1, ⟨by omega, hall.snoc hil ⟨by omega, by omega⟩ (fun _ => by omega)⟩, by (refine Sub.cons rfl (Sub.cons rfl (Sub.cons rfl (Sub.cons rfl (Sub.cons rfl (Sub.cons rfl ?_))))); exact Sub.nil _), rfl, by omega⟩
    · (refine WO.yes rfl (Wm rfl (WO.no rfl (WO.no rfl (WO.no rfl (WO.no rfl (WO.no rfl (WO.no rfl (WO.no rfl (WO.yes rfl (Wc (OP.pickF rfl rfl (Wc (OP.pickF rfl rfl (Wn ?_)))))))))))))); dsimp only [zn, zr, zx, yn, yr]; refine WC.condF rfl (WC.skip ?_); dsimp only [zn, zr, zx, yn, yr]; refine Co (Wc (OP.add rfl rfl (by omega) ?_)); refine Wm rfl (Wn ?_); dsimp only [zn, zr, zx, yn, yr])
      exact ⟨i + 1, ⟨by omega, hall.snoc hil ⟨by omega, by omega⟩ (fun _ => by omega)⟩, by (refine Sub.cons rfl (Sub.cons rfl (Sub.cons rfl (Sub.cons rfl (Sub.cons rfl (Sub.cons rfl ?_))))); exact Sub.nil _), rfl, by omega⟩
  rw [List.take_of_length_le (by omega)] at hall
  have T0 : TabRow r0.xs := hall
  clear hall
  (refine Cs (Co (Wc (OP.lssF rfl rfl (by omega) ?_))); refine Wn ?_; dsimp only [zn, zr, zx, yn, yr]; refine Cs (WC.condF rfl (WC.exit ?_)); dsimp only [zn, zr, zx, yn, yr]; rw [yx, if_pos rfl]; dsimp only [zn, zr, zx, yn, yr]; refine Co (Wc (OP.addL rfl rfl (by simp only [Int.reduceAdd]; rfl) (by decide) ?_)); refine Wm rfl (Wn ?_); dsimp only [zn, zr, zx, yn, yr])
  refine WC.unroll ?_
  (refine Cs (Co (Wc (OP.lssT rfl rfl (by omega) ?_))); refine Wn ?_; dsimp only [zn, zr, zx, yn, yr]; refine Cs (WC.condT rfl (WC.skip ?_)); dsimp only [zn, zr, zx, yn, yr]; refine Cs (WC.block (Cs (Co (Wc (OP.idxArr1 rfl rfl (by decide) rfl ?_))))); refine Wm rfl (Wn ?_); dsimp only [zn, zr, zx, yn, yr]; refine Cs (Co (Wm rfl (Wc (OP.lenS rfl (Wm rfl (Wn ?_)))))); dsimp only [zn, zr, zx, yn, yr]; refine WC.block ?_)
  refine WC.loop (fun i : Nat => i ≤ r1.n ∧ TabRow (r1.xs.take i)) (fun i => [(14, .int .i64 (i : Int)), (13, .int .i64 (r1.n : Int)), (12, r1.v), (4, r1.v), (9, .int .i64 1), (8, stV r0 r1 r2 r3)]) (fun _ => h') (fun i => r1.n - i) ?_ 0 ⟨Nat.zero_le _, by simp [TabRow]⟩ (by (refine Sub.cons rfl (Sub.cons rfl (Sub.cons rfl (Sub.cons rfl (Sub.cons rfl (Sub.cons rfl ?_))))); exact Sub.nil _)) rfl
  intro i ⟨hi, hall⟩
  by_cases hlt : (i : Int) < r1.n
  · have hil : i < r1.xs.length := by omega
    have hno : ¬ ((0 ≤ r1.xs[i] ∧ r1.xs[i] < 4) ∧ (0 < i → r1.xs[i - 1] < r1.xs[i])) → ¬ TabOk ⟨r0.xs, r1.xs, r2.xs, r3.xs⟩ := fun hn hh => hn (hh.2.1 i hil)
    (refine Cs (Co (Wc (OP.lssT rfl rfl (by omega) ?_))); refine Wn ?_; dsimp only [zn, zr, zx, yn, yr]; refine Cs (WC.condT rfl (WC.skip ?_)); dsimp only [zn, zr, zx, yn, yr]; refine Cs (WC.block (Cs (Co (Wm rfl (Wc (OP.idxS (Sl.pfx (by assumption) (Loc.pfx hL)) rfl rfl (by omega) ?_)))))); refine Wc (OP.ldI (Sl.pfx (by assumption) (Loc.pfx hL)) rfl (by omega) ?_); refine Wm rfl (Wm rfl (Wn ?_)); dsimp only [zn, zr, zx, yn, yr]; refine Cs (Co (Wm rfl (Wc ?_))); refine OP.lssC rfl rfl (fun hc => ?_) (fun hc => ?_); refine Wm rfl (WO.no rfl (WO.no rfl (Wc (OP.pickT rfl rfl (Wm rfl (WO.no rfl (WO.no rfl (WO.no rfl (WO.noU rfl (WO.noU rfl (WO.noU rfl (WO.noU rfl (WO.noU rfl (WO.noU rfl (WO.noU rfl (WO.no rfl (Wc (OP.pickT rfl rfl (Wn ?_))))))))))))))))))); dsimp only [zn, zr, zx, yn, yr]; refine WC.condT rfl (Cs (Co (Wm rfl (Wn ?_)))); dsimp only [zn, zr, zx, yn, yr]; refine WC.ret ?_; dsimp only [zn, zr, zx, yn, yr]; exact Fin.ret rfl ⟨hL.pfx, boolF (by grind)⟩; refine Wm rfl (WO.yes rfl (Wm rfl (WO.yes rfl (Wc ?_)))); refine OP.geqC rfl rfl (fun hc => ?_) (fun hc => ?_); refine Wc (OP.pickF rfl rfl (Wm rfl (WO.no rfl (WO.no rfl (WO.no rfl (WO.noU rfl (WO.noU rfl (WO.noU rfl (WO.noU rfl (WO.noU rfl (WO.noU rfl (WO.noU rfl (WO.no rfl (Wc (OP.pickT rfl rfl (Wn ?_)))))))))))))))); dsimp only [zn, zr, zx, yn, yr]; refine WC.condT rfl (Cs (Co (Wm rfl (Wn ?_)))); dsimp only [zn, zr, zx, yn, yr]; refine WC.ret ?_; dsimp only [zn, zr, zx, yn, yr]; exact Fin.ret rfl ⟨hL.pfx, boolF (by grind)⟩; refine Wc (OP.pickF rfl rfl (Wm rfl (WO.yes rfl (Wm rfl (WO.yes rfl (Wc ?_)))))); refine OP.gtrC rfl rfl (fun hc => ?_) (fun hc => ?_); refine WO.yes rfl (Wm rfl (WO.yes rfl (Wm rfl (WO.yes rfl (Wm rfl (WO.yes rfl (Wc (OP.sub rfl rfl (by omega) ?_)))))))); refine WO.yes rfl (Wc (OP.idxZ (Sl.pfx (by assumption) (Loc.pfx hL)) rfl rfl (by omega) ?_)); refine WO.yes rfl (Wc (OP.ldI (Sl.pfx (by assumption) (Loc.pfx hL)) rfl (by omega) ?_)); refine WO.yes rfl (Wm rfl (WO.yes rfl (Wc ?_))); refine OP.geqC rfl rfl (fun hc => ?_) (fun hc => ?_); refine WO.yes rfl (Wc (OP.pickT rfl rfl (Wc (OP.pickF rfl rfl (Wn ?_))))); dsimp only [zn, zr, zx, yn, yr]; refine WC.condT rfl (Cs (Co (Wm rfl (Wn ?_)))); dsimp only [zn, zr, zx, yn, yr]; refine WC.ret ?_; dsimp only [zn, zr, zx, yn, yr]; exact Fin.ret rfl ⟨hL.pfx, boolF (by grind)⟩; refine WO.yes rfl (Wc (OP.pickT rfl rfl (Wc (OP.pickF rfl rfl (Wn ?_))))); dsimp only [zn, zr, zx, yn, yr]; refine WC.condF rfl (WC.skip ?_); dsimp only [zn, zr, zx, yn, yr]; refine Co (Wc (OP.add rfl rfl (by omega) ?_)); refine Wm rfl (Wn ?_); dsimp only [zn, zr, zx, yn, yr])
    · have e : ((i : Int) - 1).toNat = i - 1 := by omega
      simp only [e] at hc
      exact ⟨i + 1, ⟨by omega, hall.snoc hil ⟨by omega, by omega⟩ (fun _ => by omega)⟩, by (refine Sub.cons rfl (Sub.cons rfl (Sub.cons rfl (Sub.cons rfl (Sub.cons rfl (Sub.cons rfl ?_))))); exact Sub.nil _), rfl, by omega⟩
    · (refine WO.yes rfl (Wm rfl (WO.no rfl (WO.no rfl (WO.no rfl (WO.no rfl (WO.no rfl (WO.no rfl (WO.no rfl (WO.yes rfl (Wc (OP.pickF rfl rfl (Wc (OP.pickF rfl rfl (Wn ?_)))))))))))))); dsimp only [zn, zr, zx, yn, yr]; refine WC.condF rfl (WC.skip ?_); dsimp only [zn, zr, zx, yn, yr]; refine Co (Wc (OP.add rfl rfl (by omega) ?_)); refine Wm rfl (Wn ?_); dsimp only [zn, zr, zx, yn, yr])
      exact ⟨i + 1, ⟨by omega, hall.snoc hil ⟨by omega, by omega⟩ (fun _ => by omega)⟩, by (refine Sub.cons rfl (Sub.cons rfl (Sub.cons rfl (Sub.cons rfl (Sub.cons rfl (Sub.cons rfl ?_))))); exact Sub.nil _), rfl, by omega⟩
  rw [List.take_of_length_le (by omega)] at hall
  have T1 : TabRow r1.xs := hall
  clear hall
  (refine Cs (Co (Wc (OP.lssF rfl rfl (by omega) ?_))); refine Wn ?_; dsimp only [zn, zr, zx, yn, yr]; refine Cs (WC.condF rfl (WC.exit ?_)); dsimp only [zn, zr, zx, yn, yr]; rw [yx, if_pos rfl]; dsimp only [zn, zr, zx, yn, yr]; refine Co (Wc (OP.addL rfl rfl (by simp only [Int.reduceAdd]; rfl) (by decide) ?_)); refine Wm rfl (Wn ?_); dsimp only [zn, zr, zx, yn, yr])
  refine WC.unroll ?_
  (refine Cs (Co (Wc (OP.lssT rfl rfl (by omega) ?_))); refine Wn ?_; dsimp only [zn, zr, zx, yn, yr]; refine Cs (WC.condT rfl (WC.skip ?_)); dsimp only [zn, zr, zx, yn, yr]; refine Cs (WC.block (Cs (Co (Wc (OP.idxArr1 rfl rfl (by decide) rfl ?_))))); refine Wm rfl (Wn ?_); dsimp only [zn, zr, zx, yn, yr]; refine Cs (Co (Wm rfl (Wc (OP.lenS rfl (Wm rfl (Wn ?_)))))); dsimp only [zn, zr, zx, yn, yr]; refine WC.block ?_)
  refine WC.loop (fun i : Nat => i ≤ r2.n ∧ TabRow (r2.xs.take i)) (fun i => [(14, .int .i64 (i : Int)), (13, .int .i64 (r2.n : Int)), (12, r2.v), (4, r2.v), (9, .int .i64 2), (8, stV r0 r1 r2 r3)]) (fun _ => h') (fun i => r2.n - i) ?_ 0 ⟨Nat.zero_le _, by simp [TabRow]⟩ (by (refine Sub.cons rfl (Sub.cons rfl (Sub.cons rfl (Sub.cons rfl (Sub.cons rfl (Sub.cons rfl ?_))))); exact Sub.nil _)) rfl
  intro i ⟨hi, hall⟩
  by_cases hlt : (i : Int) < r2.n
  · have hil : i < r2.xs.length := by omega
    have hno : ¬ ((0 ≤ r2.xs[i] ∧ r2.xs[i] < 4) ∧ (0 < i → r2.xs[i - 1] < r2.xs[i])) → ¬ TabOk ⟨r0.xs, r1.xs, r2.xs, r3.xs⟩ := fun hn hh => hn (hh.2.2.1 i hil)
    (refine Cs (Co (Wc (OP.lssT rfl rfl (by omega) ?_))); refine Wn ?_; dsimp only [zn, zr, zx, yn, yr]; refine Cs (WC.condT rfl (WC.skip ?_)); dsimp only [zn, zr, zx, yn, yr]; refine Cs (WC.block (Cs (Co (Wm rfl (Wc (OP.idxS (Sl.pfx (by assumption) (Loc.pfx hL)) rfl rfl (by omega) ?_)))))); refine Wc (OP.ldI (Sl.pfx (by assumption) (Loc.pfx hL)) rfl (by omega) ?_); refine Wm rfl (Wm rfl (Wn ?_)); dsimp only [zn, zr, zx, yn, yr]; refine Cs (Co (Wm rfl (Wc ?_))); refine OP.lssC rfl rfl (fun hc => ?_) (fun hc => ?_); refine Wm rfl (WO.no rfl (WO.no rfl (Wc (OP.pickT rfl rfl (Wm rfl (WO.no rfl (WO.no rfl (WO.no rfl (WO.noU rfl (WO.noU rfl (WO.noU rfl (WO.noU rfl (WO.noU rfl (WO.noU rfl (WO.noU rfl (WO.no rfl (Wc (OP.pickT rfl rfl (Wn ?_))))))))))))))))))); dsimp only [zn, zr, zx, yn, yr]; refine WC.condT rfl (Cs (Co (Wm rfl (Wn ?_)))); dsimp only [zn, zr, zx, yn, yr]; refine WC.ret ?_; dsimp only [zn, zr, zx, yn, yr]; exact Fin.ret rfl ⟨hL.pfx, boolF (by grind)⟩; refine Wm rfl (WO.yes rfl (Wm rfl (WO.yes rfl (Wc ?_)))); refine OP.geqC rfl rfl (fun hc => ?_) (fun hc => ?_); refine Wc (OP.pickF rfl rfl (Wm rfl (WO.no rfl (WO.no rfl (WO.no rfl (WO.noU rfl (WO.noU rfl (WO.noU rfl (WO.noU rfl (WO.noU rfl (WO.noU rfl (WO.noU rfl (WO.no rfl (Wc (OP.pickT rfl rfl (Wn ?_)))))))))))))))); dsimp only [zn, zr, zx, yn, yr]; refine WC.condT rfl (Cs (Co (Wm rfl (Wn ?_)))); dsimp only [zn, zr, zx, yn, yr]; refine WC.ret ?_; dsimp only [zn, zr, zx, yn, yr]; exact Fin.ret rfl ⟨hL.pfx, boolF (by grind)⟩; refine Wc (OP.pickF rfl rfl (Wm rfl (WO.yes rfl (Wm rfl (WO.yes rfl (Wc ?_)))))); refine OP.gtrC rfl rfl (fun hc => ?_) (fun hc => ?_); refine WO.yes rfl (Wm rfl (WO.yes rfl (Wm rfl (WO.yes rfl (Wm rfl (WO.yes rfl (Wc (OP.sub rfl rfl (by omega) ?_)))))))); refine WO.yes rfl (Wc (OP.idxZ (Sl.pfx (by assumption) (Loc.pfx hL)) rfl rfl (by omega) ?_)); refine WO.yes rfl (Wc (OP.ldI (Sl.pfx (by assumption) (Loc.pfx hL)) rfl (by omega) ?_)); refine WO.yes rfl (Wm rfl (WO.yes rfl (Wc ?_))); refine OP.geqC rfl rfl (fun hc => ?_) (fun hc => ?_); refine WO.yes rfl (Wc (OP.pickT rfl rfl (Wc (OP.pickF rfl rfl (Wn ?_))))); dsimp only [zn, zr, zx, yn, yr]; refine WC.condT rfl (Cs (Co (Wm rfl (Wn ?_)))); dsimp only [zn, zr, zx, yn, yr]; refine WC.ret ?_; dsimp only [zn, zr, zx, yn, yr]; exact Fin.ret rfl ⟨hL.pfx, boolF (by grind)⟩; refine WO.yes rfl (Wc (OP.pickT rfl rfl (Wc (OP.pickF rfl rfl (Wn ?_))))); dsimp only [zn, zr, zx, yn, yr]; refine WC.condF rfl (WC.skip ?_); dsimp only [zn, zr, zx, yn, yr]; refine Co (Wc (OP.add rfl rfl (by omega) ?_)); refine Wm rfl (Wn ?_); dsimp only [zn, zr, zx, yn, yr])
    · have e : ((i : Int) - 1).toNat = i - 1 := by omega
      simp only [e] at hc
      exact ⟨i + 1, ⟨by omega, hall.snoc hil ⟨by omega, by omega⟩ (fun _ => by omega)⟩, by (refine Sub.cons rfl (Sub.cons rfl (Sub.cons rfl (Sub.cons rfl (Sub.cons rfl (Sub.cons rfl ?_))))); exact Sub.nil _), rfl, by omega⟩
    · (refine WO.yes rfl (Wm rfl (WO.no rfl (WO.no rfl (WO.no rfl (WO.no rfl (WO.no rfl (WO.no rfl (WO.no rfl (WO.yes rfl (Wc (OP.pickF rfl rfl (Wc (OP.pickF rfl rfl (Wn ?_)))))))))))))); dsimp only [zn, zr, zx, yn, yr]; refine WC.condF rfl (WC.skip ?_); dsimp only [zn, zr, zx, yn, yr]; refine Co (Wc (OP.add rfl rfl (by omega) ?_)); refine Wm rfl (Wn ?_); dsimp only [zn, zr, zx, yn, yr])
      exact ⟨i + 1, ⟨by omega, hall.snoc hil ⟨by omega, by omega⟩ (fun _ => by omega)⟩, by (refine Sub.cons rfl (Sub.cons rfl (Sub.cons rfl (Sub.cons rfl (Sub.cons rfl (Sub.cons rfl ?_))))); exact Sub.nil _), rfl, by omega⟩
  rw [List.take_of_length_le (by omega)] at hall
  have T2 : TabRow r2.xs := hall
  clear hall
  (refine Cs (Co (Wc (OP.lssF rfl rfl (by omega) ?_))); refine Wn ?_; dsimp only [zn, zr, zx, yn, yr]; refine Cs (WC.condF rfl (WC.exit ?_)); dsimp only [zn, zr, zx, yn, yr]; rw [yx, if_pos rfl]; dsimp only [zn, zr, zx, yn, yr]; refine Co (Wc (OP.addL rfl rfl (by simp only [Int.reduceAdd]; rfl) (by decide) ?_)); refine Wm rfl (Wn ?_); dsimp only [zn, zr, zx, yn, yr])
  refine WC.unroll ?_
  (refine Cs (Co (Wc (OP.lssT rfl rfl (by omega) ?_))); refine Wn ?_; dsimp only [zn, zr, zx, yn, yr]; refine Cs (WC.condT rfl (WC.skip ?_)); dsimp only [zn, zr, zx, yn, yr]; refine Cs (WC.block (Cs (Co (Wc (OP.idxArr1 rfl rfl (by decide) rfl ?_))))); refine Wm rfl (Wn ?_); dsimp only [zn, zr, zx, yn, yr]; refine Cs (Co (Wm rfl (Wc (OP.lenS rfl (Wm rfl (Wn ?_)))))); dsimp only [zn, zr, zx, yn, yr]; refine WC.block ?_)
  refine WC.loop (fun i : Nat => i ≤ r3.n ∧ TabRow (r3.xs.take i)) (fun i => [(14, .int .i64 (i : Int)), (13, .int .i64 (r3.n : Int)), (12, r3.v), (4, r3.v), (9, .int .i64 3), (8, stV r0 r1 r2 r3)]) (fun _ => h') (fun i => r3.n - i) ?_ 0 ⟨Nat.zero_le _, by simp [TabRow]⟩ (by (refine Sub.cons rfl (Sub.cons rfl (Sub.cons rfl (Sub.cons rfl (Sub.cons rfl (Sub.cons rfl ?_))))); exact Sub.nil _)) rfl
  intro i ⟨hi, hall⟩
  by_cases hlt : (i : Int) < r3.n
  · have hil : i < r3.xs.length := by omega
    have hno : ¬ ((0 ≤ r3.xs[i] ∧ r3.xs[i] < 4) ∧ (0 < i → r3.xs[i - 1] < r3.xs[i])) → ¬ TabOk ⟨r0.xs, r1.xs, r2.xs, r3.xs⟩ := fun hn hh => hn (hh.2.2.2 i hil)
    (refine Cs (Co (Wc (OP.lssT rfl rfl (by omega) ?_))); refine Wn ?_; dsimp only [zn, zr, zx, yn, yr]; refine Cs (WC.condT rfl (WC.skip ?_)); dsimp only [zn, zr, zx, yn, yr]; refine Cs (WC.block (Cs (Co (Wm rfl (Wc (OP.idxS (Sl.pfx (by assumption) (Loc.pfx hL)) rfl rfl (by omega) ?_)))))); refine Wc (OP.ldI (Sl.pfx (by assumption) (Loc.pfx hL)) rfl (by omega) ?_); refine Wm rfl (Wm rfl (Wn ?_)); dsimp only [zn, zr, zx, yn, yr]; refine Cs (Co (Wm rfl (Wc ?_))); refine OP.lssC rfl rfl (fun hc => ?_) (fun hc => ?_); refine Wm rfl (WO.no rfl (WO.no rfl (Wc (OP.pickT rfl rfl (Wm rfl (WO.no rfl (WO.no rfl (WO.no rfl (WO.noU rfl (WO.noU rfl (WO.noU rfl (WO.noU rfl (WO.noU rfl (WO.noU rfl (WO.noU rfl (WO.no rfl (Wc (OP.pickT rfl rfl (Wn ?_))))))))))))))))))); dsimp only [zn, zr, zx, yn, yr]; refine WC.condT rfl (Cs (Co (Wm rfl (Wn ?_)))); dsimp only [zn, zr, zx, yn, yr]; refine WC.ret ?_; dsimp only [zn, zr, zx, yn, yr]; exact Fin.ret rfl ⟨hL.pfx, boolF (by grind)⟩; refine Wm rfl (WO.yes rfl (Wm rfl (WO.yes rfl (Wc ?_)))); refine OP.geqC rfl rfl (fun hc => ?_) (fun hc => ?_); refine Wc (OP.pickF rfl rfl (Wm rfl (WO.no rfl (WO.no rfl (WO.no rfl (WO.noU rfl (WO.noU rfl (WO.noU rfl (WO.noU rfl (WO.noU rfl (WO.noU rfl (WO.noU rfl (WO.no rfl (Wc (OP.pickT rfl rfl (Wn ?_)))))))))))))))); dsimp only [zn, zr, zx, yn, yr]; refine WC.condT rfl (Cs (Co (Wm rfl (Wn ?_)))); dsimp only [zn, zr, zx, yn, yr]; refine WC.ret ?_; dsimp only [zn, zr, zx, yn, yr]; exact Fin.ret rfl ⟨hL.pfx, boolF (by grind)⟩; refine Wc (OP.pickF rfl rfl (Wm rfl (WO.yes rfl (Wm rfl (WO.yes rfl (Wc ?_)))))); refine OP.gtrC rfl rfl (fun hc => ?_) (fun hc => ?_); refine WO.yes rfl (Wm rfl (WO.yes rfl (Wm rfl (WO.yes rfl (Wm rfl (WO.yes rfl (Wc (OP.sub rfl rfl (by omega) ?_)))))))); refine WO.yes rfl (Wc (OP.idxZ (Sl.pfx (by assumption) (Loc.pfx hL)) rfl rfl (by omega) ?_)); refine WO.yes rfl (Wc (OP.ldI (Sl.pfx (by assumption) (Loc.pfx hL)) rfl (by omega) ?_)); refine WO.yes rfl (Wm rfl (WO.yes rfl (Wc ?_))); refine OP.geqC rfl rfl (fun hc => ?_) (fun hc => ?_); refine WO.yes rfl (Wc (OP.pickT rfl rfl (Wc (OP.pickF rfl rfl (Wn ?_))))); dsimp only [zn, zr, zx, yn, yr]; refine WC.condT rfl (Cs (Co (Wm rfl (Wn ?_)))); dsimp only [zn, zr, zx, yn, yr]; refine WC.ret ?_; dsimp only [zn, zr, zx, yn, yr]; exact Fin.ret rfl ⟨hL.pfx, boolF (by grind)⟩; refine WO.yes rfl (Wc (OP.pickT rfl rfl (Wc (OP.pickF rfl rfl (Wn ?_))))); dsimp only [zn, zr, zx, yn, yr]; refine WC.condF rfl (WC.skip ?_); dsimp only [zn, zr, zx, yn, yr]; refine Co (Wc (OP.add rfl rfl (by omega) ?_)); refine Wm rfl (Wn ?_); dsimp only [zn, zr, zx, yn, yr])
    · have e : ((i : Int) - 1).toNat = i - 1 := by omega
      simp only [e] at hc
      exact ⟨i + 1, ⟨by omega, hall.snoc hil ⟨by omega, by omega⟩ (fun _ => by omega)⟩, by (refine Sub.cons rfl (Sub.cons rfl (Sub.cons rfl (Sub.cons rfl (Sub.cons rfl (Sub.cons rfl ?_))))); exact Sub.nil _), rfl, by omega⟩
    · (refine WO.yes rfl (Wm rfl (WO.no rfl (WO.no rfl (WO.no rfl (WO.no rfl (WO.no rfl (WO.no rfl (WO.no rfl (WO.yes rfl (Wc (OP.pickF rfl rfl (Wc (OP.pickF rfl rfl (Wn ?_)))))))))))))); dsimp only [zn, zr, zx, yn, yr]; refine WC.condF rfl (WC.skip ?_); dsimp only [zn, zr, zx, yn, yr]; refine Co (Wc (OP.add rfl rfl (by omega) ?_)); refine Wm rfl (Wn ?_); dsimp only [zn, zr, zx, yn, yr])
      exact ⟨i + 1, ⟨by omega, hall.snoc hil ⟨by omega, by omega⟩ (fun _ => by omega)⟩, by (refine Sub.cons rfl (Sub.cons rfl (Sub.cons rfl (Sub.cons rfl (Sub.cons rfl (Sub.cons rfl ?_))))); exact Sub.nil _), rfl, by omega⟩
  rw [List.take_of_length_le (by omega)] at hall
  have T3 : TabRow r3.xs := hall
  clear hall
  (refine Cs (Co (Wc (OP.lssF rfl rfl (by omega) ?_))); refine Wn ?_; dsimp only [zn, zr, zx, yn, yr]; refine Cs (WC.condF rfl (WC.exit ?_)); dsimp only [zn, zr, zx, yn, yr]; rw [yx, if_pos rfl]; dsimp only [zn, zr, zx, yn, yr]; refine Co (Wc (OP.addL rfl rfl (by simp only [Int.reduceAdd]; rfl) (by decide) ?_)); refine Wm rfl (Wn ?_); dsimp only [zn, zr, zx, yn, yr])
  have hyes : TabOk ⟨r0.xs, r1.xs, r2.xs, r3.xs⟩ := ⟨T0, T1, T2, T3⟩
  refine WC.unroll ?_
  (refine Cs (Co (Wc (OP.lssF rfl rfl (by omega) ?_))); refine Wn ?_; dsimp only [zn, zr, zx, yn, yr]; refine Cs (WC.condF rfl (WC.exit ?_)); dsimp only [zn, zr, zx, yn, yr]; rw [yx, if_pos rfl]; dsimp only [zn, zr, zx, yn, yr]; refine Cs (Co (Wm rfl (Wn ?_))); dsimp only [zn, zr, zx, yn, yr]; refine WC.ret ?_; exact Fin.ret rfl ⟨hL.pfx, boolT (by omega)⟩)
end
end
end Go.Proofs.YtalknjppnkpmmaaDoorW.Ai
