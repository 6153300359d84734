/-
 Stores (chapter 3), as the small machine runs them: arguments, sums, rows put together.
-/
import Derived.Test.YtalknjppnkpmmaaDoorFn20
import Derived.Test.YtalknjppnkpmmaaDoorMf
set_option linter.unusedVariables false
set_option linter.unusedSimpArgs false
set_option maxHeartbeats 4000000
set_option maxRecDepth 100000
namespace Go.Proofs.YtalknjppnkpmmaaDoorW.Ai
section
def rf_Grow : RFunc :=
 ⟨27, [(.tmp 4)], (.seq (.ops [rO 4 (.mv (.const (.slice .none 0 0)))]) (.seq (.seq (.ops [rO 5 (.mv (.tmp 1)), rO 6 (.bin .lss (.tmp 5) (.const (.int .i64 0)))]) (.cond (.tmp 6) (.ops [rO 7 (.iface 9 (.const (.string ⟨#[99, 97, 110, 110, 111, 116, 32, 98, 101, 32, 110, 101, 103, 97, 116, 105, 118, 101]⟩))), ⟨.none, .fail, .none, false, []⟩]) .skip)) (.seq (.seq (.ops [rO 8 (.mv (.tmp 1)), rO 9 (.mv (.tmp 0)), rO 10 (.cap (.tmp 9)), rO 11 (.mv (.tmp 0)), rO 12 (.len 1 (.tmp 11)), rO 13 (.bin .sub (.tmp 10) (.tmp 12)), rO 14 (.bin .sub (.tmp 8) (.tmp 13)), rO 1 (.mv (.tmp 14))]) (.seq (.ops [rO 15 (.mv (.tmp 1)), rO 16 (.bin .gtr (.tmp 15) (.const (.int .i64 0)))]) (.cond (.tmp 16) (.ops [rO 17 (.mv (.tmp 0)), rO 18 (.mv (.tmp 0)), rO 19 (.cap (.tmp 18)), rO 20 (.slice 1 (.tmp 17) .none (.some (.tmp 19)) .none), rO 21 (.mv (.tmp 1)), rO 22 (.appendZeros [(.int .i64 0)] 8 (.tmp 20) (.tmp 21)), rO 23 (.mv (.tmp 0)), rO 24 (.len 1 (.tmp 23)), rO 25 (.slice 1 (.tmp 22) .none (.some (.tmp 24)) .none), rO 0 (.mv (.tmp 25))]) .skip))) (.seq (.ops [rO 26 (.mv (.tmp 0)), rO 4 (.mv (.tmp 26))]) .ret))))⟩
def rf_Args1 (g0 : Nat) : RFunc :=
 ⟨6, [(.tmp 2)], (.seq (.ops [rO 2 (.mv (.const (.bool false)))]) (.seq (.ops [rO 3 (.mv (.tmp 0)), rO 4 (.call (.func g0) [(.tmp 3)]), rO 5 (.un .not (.tmp 4)), rO 2 (.mv (.tmp 5))]) .ret))⟩
def rf_Args (g0 g1 : Nat) : RFunc :=
 ⟨16, [(.tmp 4)], (.seq (.ops [rO 4 (.mv (.const (.bool false)))]) (.seq (.ops [rO 5 (.mv (.func g0))]) (.seq (.ops [rO 6 (.mv (.tmp 0)), rO 7 (.len 1 (.tmp 6)), rO 8 (.mv (.tmp 1)), rO 9 (.bin .leq (.tmp 7) (.tmp 8)), rO 10 (.mv (.tmp 9)), ⟨(.some 11), (.mv (.tmp 0)), (.some (10, true)), false, []⟩, ⟨(.some 12), (.mv (.tmp 5)), (.some (10, true)), false, []⟩, ⟨(.some 13), (.call (.func g1) [(.tmp 11), (.tmp 12)]), (.some (10, true)), false, []⟩, ⟨(.some 14), (.un .not (.tmp 13)), (.some (10, true)), false, []⟩, rO 15 (.pick (.tmp 10) (.tmp 14) (.const (.bool false))), rO 4 (.mv (.tmp 15))]) .ret)))⟩
def rf_sum : RFunc :=
 ⟨17, [(.tmp 2)], (.seq (.ops [rO 2 (.mv (.const (.int .i64 0)))]) (.seq (.ops [rO 3 (.mv (.const (.int .i64 0)))]) (.seq (.seq (.ops [rO 6 (.mv (.tmp 0)), rO 7 (.len 1 (.tmp 6)), rO 8 (.mv (.const (.int .i64 0)))]) (.block 0 (.loop (.seq (.ops [rO 9 (.bin .lss (.tmp 8) (.tmp 7))]) (.seq (.cond (.tmp 9) .skip (.exit 0)) (.seq (.block 1 (.seq (.ops [rO 10 (.idxAddr 1 (.tmp 6) (.tmp 8)), rO 11 (.load .none (.tmp 10)), rO 5 (.mv (.tmp 11))]) (.ops [rO 12 (.mv (.tmp 3)), rO 13 (.mv (.tmp 5)), rO 14 (.bin .add (.tmp 12) (.tmp 13)), rO 3 (.mv (.tmp 14))]))) (.ops [rO 15 (.bin .add (.tmp 8) (.const (.int .i64 1))), rO 8 (.mv (.tmp 15))]))))))) (.seq (.ops [rO 16 (.mv (.tmp 3)), rO 2 (.mv (.tmp 16))]) .ret))))⟩
def rf_Concat (g0 : Nat) : RFunc :=
 ⟨36, [(.tmp 2)], (.seq (.ops [rO 2 (.mv (.const (.slice .none 0 0)))]) (.seq (.ops [rO 3 (.mv (.const (.int .i64 0)))]) (.seq (.seq (.ops [rO 9 (.mv (.tmp 0)), rO 10 (.len 1 (.tmp 9)), rO 11 (.mv (.const (.int .i64 0)))]) (.block 0 (.loop (.seq (.ops [rO 12 (.bin .lss (.tmp 11) (.tmp 10))]) (.seq (.cond (.tmp 12) .skip (.exit 0)) (.seq (.block 1 (.seq (.ops [rO 13 (.idxAddr 1 (.tmp 9) (.tmp 11)), rO 14 (.load .none (.tmp 13)), rO 5 (.mv (.tmp 14))]) (.seq (.ops [rO 15 (.mv (.tmp 3)), rO 16 (.mv (.tmp 5)), rO 17 (.len 1 (.tmp 16)), rO 18 (.bin .add (.tmp 15) (.tmp 17)), rO 3 (.mv (.tmp 18))]) (.seq (.ops [rO 19 (.mv (.tmp 3)), rO 20 (.bin .lss (.tmp 19) (.const (.int .i64 0)))]) (.cond (.tmp 20) (.ops [rO 21 (.iface 9 (.const (.string ⟨#[108, 101, 110, 32, 111, 117, 116, 32, 111, 102, 32, 114, 97, 110, 103, 101]⟩))), ⟨.none, .fail, .none, false, []⟩]) .skip))))) (.ops [rO 22 (.bin .add (.tmp 11) (.const (.int .i64 1))), rO 11 (.mv (.tmp 22))]))))))) (.seq (.ops [rO 23 (.mv (.tmp 3)), rO 24 (.call (.func g0) [(.const (.slice .none 0 0)), (.tmp 23)]), rO 6 (.mv (.tmp 24))]) (.seq (.seq (.ops [rO 25 (.mv (.tmp 0)), rO 26 (.len 1 (.tmp 25)), rO 27 (.mv (.const (.int .i64 0)))]) (.block 2 (.loop (.seq (.ops [rO 28 (.bin .lss (.tmp 27) (.tmp 26))]) (.seq (.cond (.tmp 28) .skip (.exit 2)) (.seq (.block 3 (.seq (.ops [rO 29 (.idxAddr 1 (.tmp 25) (.tmp 27)), rO 30 (.load .none (.tmp 29)), rO 8 (.mv (.tmp 30))]) (.ops [rO 31 (.mv (.tmp 6)), rO 32 (.mv (.tmp 8)), rO 33 (.append 1 8 (.tmp 31) (.tmp 32)), rO 6 (.mv (.tmp 33))]))) (.ops [rO 34 (.bin .add (.tmp 27) (.const (.int .i64 1))), rO 27 (.mv (.tmp 34))]))))))) (.seq (.ops [rO 35 (.mv (.tmp 6)), rO 2 (.mv (.tmp 35))]) .ret))))))⟩
def ArgsOk (xs : List Int) : Prop := ∀ x ∈ xs, 0 ≤ x ∧ x ≤ 255
instance (xs : List Int) : Decidable (ArgsOk xs) := inferInstanceAs (Decidable (∀ x ∈ xs, 0 ≤ x ∧ x ≤ 255))
def sumL (xs : List Int) : Int := xs.foldl (· + ·) 0
section
variable (X : Ext) (F : FuncId → Option RFunc) (g : FuncId)
abbrev S_Grow : Prop := ∀ (lim : Nat) (h : AH) {n : Nat}, n ≤ 2 ^ 44 → Ret X F lim g [.slice none 0 0, .int .i64 (n : Int)] h fun v h' => Pfx h h' ∧ (n = 0 ∧ v = .slice none 0 0 ∨ 0 < n ∧ ∃ b, h.length ≤ b ∧ v = .slice (some ⟨b, 0, some 1⟩) 0 n ∧ h'[b]? = some (.cells (reps [.int .i64 0] n)))
abbrev S_Concat : Prop := ∀ (lim : Nat) (h : AH) {b : Nat} {r0 r1 r2 r3 : Row}, lim ≤ h.length → h[b]? = some (.cells [r0.v, r1.v, r2.v, r3.v]) → St h r0 r1 r2 r3 → r0.n ≤ 2 ^ 40 ∧ r1.n ≤ 2 ^ 40 ∧ r2.n ≤ 2 ^ 40 ∧ r3.n ≤ 2 ^ 40 → Ret X F lim g [.slice (some ⟨b, 0, none⟩) 4 4] h fun v h' => Pfx h h' ∧ ∃ a n c, v = .slice a n c ∧ n = r0.n + r1.n + r2.n + r3.n ∧ Sl 1 h' a n c (ints (r0.xs ++ r1.xs ++ r2.xs ++ r3.xs))
abbrev S_Args1 : Prop := ∀ (lim : Nat) (h : AH) {x : Int}, Ret X F lim g [.int .i64 x] h fun v h' => Pfx h h' ∧ v = .bool (decide (¬ (0 ≤ x ∧ x ≤ 255)))
abbrev S_Args : Prop := ∀ (lim : Nat) (h : AH) {r : Row} {m : Int}, RowOk h r → Ret X F lim g [r.v, .int .i64 m] h fun v h' => Pfx h h' ∧ v = .bool (decide ((r.n : Int) ≤ m ∧ ArgsOk r.xs))
abbrev S_sum : Prop := ∀ (lim : Nat) (h : AH) {a : Option Addr} {n c : Nat} {xs : List Int}, Sl 1 h a n c (ints xs) → n ≤ 2 ^ 20 → ArgsOk xs → Ret X F lim g [.slice a n c] h fun v h' => Pfx h h' ∧ v = .int .i64 (sumL xs)
end
theorem Loc.pick {h0 h : AH} (hL : Loc h0 h []) {b : Nat} {cs : List Value} (hb : h0.length ≤ b) (hc : h[b]? = some (.cells cs)) : Loc h0 h [bx b cs] := ⟨Nat.le_succ b, (List.getElem?_eq_some_iff.1 hc).1, hc, hb, hL.pfx⟩
theorem reps_zero (n : Nat) : (reps [Value.int .i64 0] n).length = n := by
 induction n with
 | zero => rfl
 | succ n ih => simp only [reps, List.length_append, ih, List.length_cons, List.length_nil]; omega
theorem sumL_snoc {xs : List Int} {i : Nat} (hi : i < xs.length) : sumL (xs.take (i + 1)) = sumL (xs.take i) + xs[i] := by
 unfold sumL
 rw [List.take_succ_eq_append_getElem hi, List.foldl_append]
 rfl
theorem sumL_rng {xs : List Int} (hx : ArgsOk xs) : ∀ i, i ≤ xs.length → 0 ≤ sumL (xs.take i) ∧ sumL (xs.take i) ≤ 255 * i := by
 intro i
 induction i with
 | zero => intro _; simp [sumL]
 | succ i ih =>
  intro hi
  have h1 := ih (by omega)
  have h2 := hx _ (List.getElem_mem (show i < xs.length by omega))
  rw [sumL_snoc (by omega)]
  omega
section
variable {X : Ext} {F : FuncId → Option RFunc} {f : FuncId}
theorem s_Grow (hX : X f = none) (hF : F f = some rf_Grow) : S_Grow X F f := by
 intro lim h n hn
 have hL := Loc.start h
 refine Ret.body hX hF rfl ?_
 simp only [argL, rf_Grow]
 by_cases h0 : n = 0
 ·subst h0
  (refine Cs (Co (Wm rfl (Wt ?_))); refine Cs (Cs (Co (Wm rfl (Wc (OP.lssF rfl rfl (by omega) ?_))))); refine Wt ?_; refine WC.condF rfl (Ks ?_); refine Cs (Cs (Co (Wm rfl (Wm rfl (Wc (OP.capNil rfl (Wm rfl (Wc (OP.lenS rfl (Wc (OP.sub rfl rfl (by omega) ?_))))))))))); refine Wc (OP.sub rfl rfl (by omega) ?_); refine Wm rfl (Wt ?_); refine Cs (Co (Wm rfl (Wc (OP.gtrF rfl rfl (by omega) ?_)))); refine Wt ?_; refine WC.condF rfl (Ks ?_); refine Cs (Co (Wm rfl (Wm rfl (Wt ?_)))); refine WC.ret ?_)
  exact Fin.ret rfl ⟨hL.pfx, .inl ⟨rfl, rfl⟩⟩
 ·(refine Cs (Co (Wm rfl (Wt ?_))); refine Cs (Cs (Co (Wm rfl (Wc (OP.lssF rfl rfl (by omega) ?_))))); refine Wt ?_; refine WC.condF rfl (Ks ?_); refine Cs (Cs (Co (Wm rfl (Wm rfl (Wc (OP.capNil rfl (Wm rfl (Wc (OP.lenS rfl (Wc (OP.sub rfl rfl (by omega) ?_))))))))))); refine Wc (OP.sub rfl rfl (by omega) ?_); refine Wm rfl (Wt ?_); refine Cs (Co (Wm rfl (Wc (OP.gtrT rfl rfl (by omega) ?_)))); refine Wt ?_; refine WC.condT rfl (Co (Wm rfl (Wm rfl (Wc (OP.capNil rfl (Wc (OP.sliceNil rfl rfl (Wm rfl ?_)))))))))
  have hm : (n : Int) - (0 - ((0 : Nat) : Int)) = n := by omega
  rw [hm]
  (refine Wc ?_; refine OL.growNil hL rfl rfl (by omega) ⟨by omega, by omega, by omega, by omega⟩ rfl (fun b h' hL => ?_); refine Wm rfl (Wc (OP.lenS rfl (Wc (OP.sliceNone rfl (.inr rfl) rfl (Wm rfl (Wt ?_)))))); refine Cs (Co (Wm rfl (Wm rfl (Wt ?_)))); refine WC.ret ?_)
  exact Fin.ret rfl ⟨hL.pfx, .inr ⟨by omega, b, hL.lo (k := 0) rfl, rfl, hL.cell (k := 0) rfl⟩⟩
theorem s_Args1 {g0 : Nat} (hX : X f = none) (hF : F f = some (rf_Args1 g0)) (c0 : S_oArg X F g0) : S_Args1 X F f := by
 intro lim h x
 have hL := Loc.start h
 refine Ret.body hX hF rfl ?_
 simp only [argL, rf_Args1]
 (refine Cs (Co (Wm rfl (Wt ?_))); refine Cs (Co (Wm rfl (Wc ?_))); refine OL.callB hL rfl rfl (c0 _ _) (fun h' hp hL hc => ?_) (fun h' hp hL hc => ?_); refine Wc (OP.not rfl (Wm rfl (Wt ?_))); refine WC.ret ?_; exact Fin.ret rfl ⟨hL.pfx, boolF (by omega)⟩; refine Wc (OP.not rfl (Wm rfl (Wt ?_))); refine WC.ret ?_; exact Fin.ret rfl ⟨hL.pfx, boolT (by omega)⟩)
theorem s_Args {g0 g1 : Nat} (hX : X f = none) (hF : F f = some (rf_Args g0 g1)) (c0' : S_Args1 X F g0) (c1' : S_ContainsFunc X F g1) : S_Args X F f := by
 intro lim h r m hr
 have hL := Loc.start h
 have c1 : ∀ lim h', Pfx h h' → Ret X F lim g1 [r.v, .func (.func g0) #[] #[]] h' fun v h'' => Pfx h' h'' ∧ v = .bool (decide (¬ ArgsOk r.xs)) := fun lim h' hp => (c1' lim h' (hr.1.pfx hp) (by have := hr.2; omega) (fun s hs h1 hp1 => c0' lim h1)).mono fun v h'' hh => ⟨hh.1, by rw [hh.2]; exact congrArg Value.bool (decIff (not_congr ⟨fun h s hs => Decidable.not_not.1 (h s hs), fun h s hs => Decidable.not_not.2 (h s hs)⟩))⟩
 refine Ret.body hX hF rfl ?_
 simp only [argL, rf_Args]
 (refine Cs (Co (Wm rfl (Wt ?_))); refine Cs (Co (Wm rfl (Wt ?_))); refine Cs (Co (Wm rfl (Wc (OP.lenS rfl (Wm rfl (Wc ?_)))))); refine OP.leqC rfl rfl (fun hc => ?_) (fun hc => ?_); refine Wm rfl (WO.yes rfl (Wm rfl (WO.yes rfl (Wm rfl (WO.yes rfl (Wc ?_)))))); refine OL.callB hL rfl rfl (c1 _ _ hL.pfx) (fun h' hp hL hc => ?_) (fun h' hp hL hc => ?_); refine WO.yes rfl (Wc (OP.not rfl (Wc (OP.pickT rfl rfl (Wm rfl (Wt ?_)))))); refine WC.ret ?_; exact Fin.ret rfl ⟨hL.pfx, boolF (by grind)⟩; refine WO.yes rfl (Wc (OP.not rfl (Wc (OP.pickT rfl rfl (Wm rfl (Wt ?_)))))); refine WC.ret ?_; exact Fin.ret rfl ⟨hL.pfx, boolT (by grind)⟩; refine Wm rfl (WO.no rfl (WO.no rfl (WO.no rfl (WO.no rfl (Wc (OP.pickF rfl rfl (Wm rfl (Wt ?_)))))))); refine WC.ret ?_; exact Fin.ret rfl ⟨hL.pfx, boolF (by omega)⟩)
theorem s_sum (hX : X f = none) (hF : F f = some rf_sum) : S_sum X F f := by
 intro lim h a n c xs ha hn hx
 have hL := Loc.start h
 have hxn := ha.ilen
 refine Ret.body hX hF rfl ?_
 simp only [argL, rf_sum]
 (refine Cs (Co (Wm rfl (Wt ?_))); refine Cs (Co (Wm rfl (Wt ?_))); refine Cs (Cs (Co (Wm rfl (Wc (OP.lenS rfl (Wm rfl (Wt ?_))))))); refine WC.block ?_)
 refine WC.loop (fun i : Nat => i ≤ n) (fun i => [(8, .int .i64 (i : Int)), (7, .int .i64 (n : Int)), (6, .slice a n c), (3, .int .i64 (sumL (xs.take i)))]) (fun _ => h) (fun i => n - i) ?_ 0 (Nat.zero_le _) (by (refine Sub.cons rfl (Sub.cons rfl (Sub.cons rfl (Sub.cons rfl ?_))); exact Sub.nil _)) rfl
 intro i hi
 have hs := sumL_rng hx i (by omega)
 by_cases hlt : (i : Int) < n
 ·have hil : i < xs.length := by omega
  have hxi := hx _ (List.getElem_mem hil)
  (refine Cs (Co (Wc (OP.lssT rfl rfl (by omega) ?_))); refine Wt ?_; refine Cs (WC.condT rfl (Ks ?_)); refine Cs (WC.block (Cs (Co (Wc (OP.idxS (by assumption) rfl rfl (by omega) ?_))))); refine Wc (OP.ldI (by assumption) rfl (by omega) ?_); refine Wm rfl (Wt ?_); refine Co (Wm rfl (Wm rfl (Wc (OP.add rfl rfl (by omega) ?_)))); refine Wm rfl (Wt ?_); refine Co (Wc (OP.add rfl rfl (by omega) ?_)); refine Wm rfl (Wt ?_))
  refine ⟨i + 1, by omega, ?_, rfl, by omega⟩
  rw [sumL_snoc hil]
  (refine Sub.cons rfl (Sub.cons rfl (Sub.cons rfl (Sub.cons rfl ?_))); exact Sub.nil _)
 ·rw [List.take_of_length_le (by omega)]
  (refine Cs (Co (Wc (OP.lssF rfl rfl (by omega) ?_))); refine Wt ?_; refine Cs (WC.condF rfl (WC.exit ?_)); dsimp only [zn, zr, zx, yn, yr]; rw [yx, if_pos rfl]; dsimp only [zn, zr, zx, yn, yr]; refine Cs (Co (Wm rfl (Wm rfl (Wt ?_)))); refine WC.ret ?_; exact Fin.ret rfl ⟨hL.pfx, rfl⟩)
theorem s_Concat {g0 : Nat} (hX : X f = none) (hF : F f = some (rf_Concat g0)) (c0 : S_Grow X F g0) : S_Concat X F f := by
 intro lim h b r0 r1 r2 r3 hlim hb hst hn
 have hL := Loc.start h
 obtain ⟨⟨s0, l0⟩, ⟨s1, l1⟩, ⟨s2, l2⟩, ⟨s3, l3⟩⟩ := id hst
 have hS : Sl 1 h (some ⟨b, 0, none⟩) 4 4 [r0.v, r1.v, r2.v, r3.v] := Sl.of_block hb rfl
 refine Ret.body hX hF rfl ?_
 simp only [argL, rf_Concat]
 (refine Cs (Co (Wm rfl (Wt ?_))); refine Cs (Co (Wm rfl (Wt ?_))); refine Cs (Cs (Co (Wm rfl (Wc (OP.lenS rfl (Wm rfl (Wt ?_))))))); refine WC.block ?_)
 refine WC.unroll ?_
 (refine Cs (Co (Wc (OP.lssT rfl rfl (by omega) ?_))); refine Wn ?_; dsimp only [zn, zr, zx, yn, yr]; refine Cs (WC.condT rfl (WC.skip ?_)); dsimp only [zn, zr, zx, yn, yr]; refine Cs (WC.block (Cs (Co (Wc (OP.idxZ (by assumption) rfl rfl (by omega) ?_))))); refine Wc (OP.load rfl (by assumption) rfl ?_); refine Wm rfl (Wn ?_); dsimp only [zn, zr, zx, yn, yr]; refine Cs (Co (Wm rfl (Wm rfl (Wc (OP.lenS rfl (Wc (OP.add rfl rfl (by omega) ?_))))))); refine Wm rfl (Wn ?_); dsimp only [zn, zr, zx, yn, yr]; refine Cs (Co (Wm rfl (Wc (OP.lssF rfl rfl (by omega) ?_)))); refine Wn ?_; dsimp only [zn, zr, zx, yn, yr]; refine WC.condF rfl (WC.skip ?_); dsimp only [zn, zr, zx, yn, yr]; refine Co (Wc (OP.addL rfl rfl (by simp only [Int.reduceAdd]; rfl) (by decide) ?_)); refine Wm rfl (Wn ?_); dsimp only [zn, zr, zx, yn, yr])
 refine WC.unroll ?_
 (refine Cs (Co (Wc (OP.lssT rfl rfl (by omega) ?_))); refine Wn ?_; dsimp only [zn, zr, zx, yn, yr]; refine Cs (WC.condT rfl (WC.skip ?_)); dsimp only [zn, zr, zx, yn, yr]; refine Cs (WC.block (Cs (Co (Wc (OP.idxZ (by assumption) rfl rfl (by omega) ?_))))); refine Wc (OP.load rfl (by assumption) rfl ?_); refine Wm rfl (Wn ?_); dsimp only [zn, zr, zx, yn, yr]; refine Cs (Co (Wm rfl (Wm rfl (Wc (OP.lenS rfl (Wc (OP.add rfl rfl (by omega) ?_))))))); refine Wm rfl (Wn ?_); dsimp only [zn, zr, zx, yn, yr]; refine Cs (Co (Wm rfl (Wc (OP.lssF rfl rfl (by omega) ?_)))); refine Wn ?_; dsimp only [zn, zr, zx, yn, yr]; refine WC.condF rfl (WC.skip ?_); dsimp only [zn, zr, zx, yn, yr]; refine Co (Wc (OP.addL rfl rfl (by simp only [Int.reduceAdd]; rfl) (by decide) ?_)); refine Wm rfl (Wn ?_); dsimp only [zn, zr, zx, yn, yr])
 refine WC.unroll ?_
 (refine Cs (Co (Wc (OP.lssT rfl rfl (by omega) ?_))); refine Wn ?_; dsimp only [zn, zr, zx, yn, yr]; refine Cs (WC.condT rfl (WC.skip ?_)); dsimp only [zn, zr, zx, yn, yr]; refine Cs (WC.block (Cs (Co (Wc (OP.idxZ (by assumption) rfl rfl (by omega) ?_))))); refine Wc (OP.load rfl (by assumption) rfl ?_); refine Wm rfl (Wn ?_); dsimp only [zn, zr, zx, yn, yr]; refine Cs (Co (Wm rfl (Wm rfl (Wc (OP.lenS rfl (Wc (OP.add rfl rfl (by omega) ?_))))))); refine Wm rfl (Wn ?_); dsimp only [zn, zr, zx, yn, yr]; refine Cs (Co (Wm rfl (Wc (OP.lssF rfl rfl (by omega) ?_)))); refine Wn ?_; dsimp only [zn, zr, zx, yn, yr]; refine WC.condF rfl (WC.skip ?_); dsimp only [zn, zr, zx, yn, yr]; refine Co (Wc (OP.addL rfl rfl (by simp only [Int.reduceAdd]; rfl) (by decide) ?_)); refine Wm rfl (Wn ?_); dsimp only [zn, zr, zx, yn, yr])
 refine WC.unroll ?_
 (refine Cs (Co (Wc (OP.lssT rfl rfl (by omega) ?_))); refine Wn ?_; dsimp only [zn, zr, zx, yn, yr]; refine Cs (WC.condT rfl (WC.skip ?_)); dsimp only [zn, zr, zx, yn, yr]; refine Cs (WC.block (Cs (Co (Wc (OP.idxZ (by assumption) rfl rfl (by omega) ?_))))); refine Wc (OP.load rfl (by assumption) rfl ?_); refine Wm rfl (Wn ?_); dsimp only [zn, zr, zx, yn, yr]; refine Cs (Co (Wm rfl (Wm rfl (Wc (OP.lenS rfl (Wc (OP.add rfl rfl (by omega) ?_))))))); refine Wm rfl (Wn ?_); dsimp only [zn, zr, zx, yn, yr]; refine Cs (Co (Wm rfl (Wc (OP.lssF rfl rfl (by omega) ?_)))); refine Wn ?_; dsimp only [zn, zr, zx, yn, yr]; refine WC.condF rfl (WC.skip ?_); dsimp only [zn, zr, zx, yn, yr]; refine Co (Wc (OP.addL rfl rfl (by simp only [Int.reduceAdd]; rfl) (by decide) ?_)); refine Wm rfl (Wn ?_); dsimp only [zn, zr, zx, yn, yr])
 refine WC.unroll ?_
 (refine Cs (Co (Wc (OP.lssF rfl rfl (by omega) ?_))); refine Wt ?_; refine Cs (WC.condF rfl (WC.exit ?_)); dsimp only [zn, zr, zx, yn, yr]; rw [yx, if_pos rfl]; dsimp only [zn, zr, zx, yn, yr]; refine Cs (Co (Wm rfl ?_)))
 obtain ⟨T, hT⟩ : ∃ T : Nat, T = r0.n + r1.n + r2.n + r3.n := ⟨_, rfl⟩
 have hTi : (0 : Int) + r0.n + r1.n + r2.n + r3.n = T := by omega
 rw [hTi]
 (refine Wc ?_)
 refine OL.call hL rfl rfl (c0 _ _ (by omega)) (fun v h1 hp hL' hv => ?_)
 have hbl := (List.getElem?_eq_some_iff.1 hb).1
 have hb1 : h1[b]? = some (.cells [r0.v, r1.v, r2.v, r3.v]) := (hp.2 b hbl).trans hb
 have hS1 : Sl 1 h1 (some ⟨b, 0, none⟩) 4 4 [r0.v, r1.v, r2.v, r3.v] := Sl.of_block hb1 rfl
 have e0 := s0.ilen
 have e1 := s1.ilen
 have e2 := s2.ilen
 have e3 := s3.ilen
 rcases hv with ⟨hT0, rfl⟩ | ⟨hT0, b1, hb2, rfl, hb3⟩
 ·have hL := hL'
  (refine Wm rfl (Wt ?_); refine Cs (Cs (Co (Wm rfl (Wc (OP.lenS rfl (Wm rfl (Wt ?_))))))); refine WC.block ?_)
  refine WC.unroll ?_
  (refine Cs (Co (Wc (OP.lssT rfl rfl (by omega) ?_))); refine Wt ?_; refine Cs (WC.condT rfl (Ks ?_)); refine Cs (WC.block (Cs (Co (Wc (OP.idxZ (by assumption) rfl rfl (by omega) ?_))))); refine Wc (OP.load rfl (by assumption) rfl ?_); refine Wm rfl (Wt ?_); refine Co (Wm rfl (Wm rfl (Wc (OP.appendNil rfl rfl (Sl.pfx (by assumption) (Loc.pfx hL)) (by omega) ?_)))); refine Wm rfl (Wt ?_); refine Co (Wc (OP.addL rfl rfl (by simp only [Int.reduceAdd]; rfl) (by decide) ?_)); refine Wm rfl (Wt ?_))
  refine WC.unroll ?_
  (refine Cs (Co (Wc (OP.lssT rfl rfl (by omega) ?_))); refine Wt ?_; refine Cs (WC.condT rfl (Ks ?_)); refine Cs (WC.block (Cs (Co (Wc (OP.idxZ (by assumption) rfl rfl (by omega) ?_))))); refine Wc (OP.load rfl (by assumption) rfl ?_); refine Wm rfl (Wt ?_); refine Co (Wm rfl (Wm rfl (Wc (OP.appendNil rfl rfl (Sl.pfx (by assumption) (Loc.pfx hL)) (by omega) ?_)))); refine Wm rfl (Wt ?_); refine Co (Wc (OP.addL rfl rfl (by simp only [Int.reduceAdd]; rfl) (by decide) ?_)); refine Wm rfl (Wt ?_))
  refine WC.unroll ?_
  (refine Cs (Co (Wc (OP.lssT rfl rfl (by omega) ?_))); refine Wt ?_; refine Cs (WC.condT rfl (Ks ?_)); refine Cs (WC.block (Cs (Co (Wc (OP.idxZ (by assumption) rfl rfl (by omega) ?_))))); refine Wc (OP.load rfl (by assumption) rfl ?_); refine Wm rfl (Wt ?_); refine Co (Wm rfl (Wm rfl (Wc (OP.appendNil rfl rfl (Sl.pfx (by assumption) (Loc.pfx hL)) (by omega) ?_)))); refine Wm rfl (Wt ?_); refine Co (Wc (OP.addL rfl rfl (by simp only [Int.reduceAdd]; rfl) (by decide) ?_)); refine Wm rfl (Wt ?_))
  refine WC.unroll ?_
  (refine Cs (Co (Wc (OP.lssT rfl rfl (by omega) ?_))); refine Wt ?_; refine Cs (WC.condT rfl (Ks ?_)); refine Cs (WC.block (Cs (Co (Wc (OP.idxZ (by assumption) rfl rfl (by omega) ?_))))); refine Wc (OP.load rfl (by assumption) rfl ?_); refine Wm rfl (Wt ?_); refine Co (Wm rfl (Wm rfl (Wc (OP.appendNil rfl rfl (Sl.pfx (by assumption) (Loc.pfx hL)) (by omega) ?_)))); refine Wm rfl (Wt ?_); refine Co (Wc (OP.addL rfl rfl (by simp only [Int.reduceAdd]; rfl) (by decide) ?_)); refine Wm rfl (Wt ?_))
  refine WC.unroll ?_
  (refine Cs (Co (Wc (OP.lssF rfl rfl (by omega) ?_))); refine Wt ?_; refine Cs (WC.condF rfl (WC.exit ?_)); dsimp only [zn, zr, zx, yn, yr]; rw [yx, if_pos rfl]; dsimp only [zn, zr, zx, yn, yr]; refine Cs (Co (Wm rfl (Wm rfl (Wt ?_)))); refine WC.ret ?_)
  have ex : ∀ {xs : List Int} {n : Nat}, xs.length = n → n = 0 → xs = [] := fun h1 h2 => List.eq_nil_of_length_eq_zero (by omega)
  rw [ex e0 (by omega), ex e1 (by omega), ex e2 (by omega), ex e3 (by omega)]
  exact Fin.ret rfl ⟨hL.pfx, none, 0, 0, rfl, by omega, Sl.nil 1 _⟩
 ·have hL := hL'.pick hb2 hb3
  have hz := reps_zero T
  have hL : Loc h h1 [bx b1 ([] ++ reps [.int .i64 0] T)] := hL
  (refine Wm rfl (Wt ?_); refine Cs (Cs (Co (Wm rfl (Wc (OP.lenS rfl (Wm rfl (Wt ?_))))))); refine WC.block ?_)
  refine WC.unroll ?_
  (refine Cs (Co (Wc (OP.lssT rfl rfl (by omega) ?_))); refine Wt ?_; refine Cs (WC.condT rfl (Ks ?_)); refine Cs (WC.block (Cs (Co (Wc (OP.idxZ (by assumption) rfl rfl (by omega) ?_))))); refine Wc (OP.load rfl (by assumption) rfl ?_); refine Wm rfl (Wt ?_); refine Co (Wm rfl (Wm rfl ?_)))
  (refine Wc ?_)
  refine OL.appendIn (k := 0) hL hlim rfl rfl (by simp [ints] <;> omega) rfl (s0.pfx hL.pfx) (by omega) (by simp [ints, hz]; omega) (ints_ok _) (fun h' hL => ?_)
  dsimp only [List.set] at hL
  have hb1 : h'[b]? = some (.cells [r0.v, r1.v, r2.v, r3.v]) := (hL.pfx.2 b hbl).trans hb
  have hS1 : Sl 1 h' (some ⟨b, 0, none⟩) 4 4 [r0.v, r1.v, r2.v, r3.v] := Sl.of_block hb1 rfl
  (refine Wm rfl (Wt ?_); refine Co (Wc (OP.addL rfl rfl (by simp only [Int.reduceAdd]; rfl) (by decide) ?_)); refine Wm rfl (Wt ?_))
  refine WC.unroll ?_
  (refine Cs (Co (Wc (OP.lssT rfl rfl (by omega) ?_))); refine Wt ?_; refine Cs (WC.condT rfl (Ks ?_)); refine Cs (WC.block (Cs (Co (Wc (OP.idxZ (by assumption) rfl rfl (by omega) ?_))))); refine Wc (OP.load rfl (by assumption) rfl ?_); refine Wm rfl (Wt ?_); refine Co (Wm rfl (Wm rfl ?_)))
  (refine Wc ?_)
  refine OL.appendIn (k := 0) hL hlim rfl rfl (by simp [ints] <;> omega) rfl (s1.pfx hL.pfx) (by omega) (by simp [ints, hz]; omega) (ints_ok _) (fun h' hL => ?_)
  dsimp only [List.set] at hL
  have hb1 : h'[b]? = some (.cells [r0.v, r1.v, r2.v, r3.v]) := (hL.pfx.2 b hbl).trans hb
  have hS1 : Sl 1 h' (some ⟨b, 0, none⟩) 4 4 [r0.v, r1.v, r2.v, r3.v] := Sl.of_block hb1 rfl
  (refine Wm rfl (Wt ?_); refine Co (Wc (OP.addL rfl rfl (by simp only [Int.reduceAdd]; rfl) (by decide) ?_)); refine Wm rfl (Wt ?_))
  refine WC.unroll ?_
  (refine Cs (Co (Wc (OP.lssT rfl rfl (by omega) ?_))); refine Wt ?_; refine Cs (WC.condT rfl (Ks ?_)); refine Cs (WC.block (Cs (Co (Wc (OP.idxZ (by assumption) rfl rfl (by omega) ?_))))); refine Wc (OP.load rfl (by assumption) rfl ?_); refine Wm rfl (Wt ?_); refine Co (Wm rfl (Wm rfl ?_)))
  (refine Wc ?_)
  refine OL.appendIn (k := 0) hL hlim rfl rfl (by simp [ints] <;> omega) rfl (s2.pfx hL.pfx) (by omega) (by simp [ints, hz]; omega) (ints_ok _) (fun h' hL => ?_)
  dsimp only [List.set] at hL
  have hb1 : h'[b]? = some (.cells [r0.v, r1.v, r2.v, r3.v]) := (hL.pfx.2 b hbl).trans hb
  have hS1 : Sl 1 h' (some ⟨b, 0, none⟩) 4 4 [r0.v, r1.v, r2.v, r3.v] := Sl.of_block hb1 rfl
  (refine Wm rfl (Wt ?_); refine Co (Wc (OP.addL rfl rfl (by simp only [Int.reduceAdd]; rfl) (by decide) ?_)); refine Wm rfl (Wt ?_))
  refine WC.unroll ?_
  (refine Cs (Co (Wc (OP.lssT rfl rfl (by omega) ?_))); refine Wt ?_; refine Cs (WC.condT rfl (Ks ?_)); refine Cs (WC.block (Cs (Co (Wc (OP.idxZ (by assumption) rfl rfl (by omega) ?_))))); refine Wc (OP.load rfl (by assumption) rfl ?_); refine Wm rfl (Wt ?_); refine Co (Wm rfl (Wm rfl ?_)))
  (refine Wc ?_)
  refine OL.appendIn (k := 0) hL hlim rfl rfl (by simp [ints] <;> omega) rfl (s3.pfx hL.pfx) (by omega) (by simp [ints, hz]; omega) (ints_ok _) (fun h' hL => ?_)
  dsimp only [List.set] at hL
  have hb1 : h'[b]? = some (.cells [r0.v, r1.v, r2.v, r3.v]) := (hL.pfx.2 b hbl).trans hb
  have hS1 : Sl 1 h' (some ⟨b, 0, none⟩) 4 4 [r0.v, r1.v, r2.v, r3.v] := Sl.of_block hb1 rfl
  (refine Wm rfl (Wt ?_); refine Co (Wc (OP.addL rfl rfl (by simp only [Int.reduceAdd]; rfl) (by decide) ?_)); refine Wm rfl (Wt ?_))
  refine WC.unroll ?_
  (refine Cs (Co (Wc (OP.lssF rfl rfl (by omega) ?_))); refine Wt ?_; refine Cs (WC.condF rfl (WC.exit ?_)); dsimp only [zn, zr, zx, yn, yr]; rw [yx, if_pos rfl]; dsimp only [zn, zr, zx, yn, yr]; refine Cs (Co (Wm rfl (Wm rfl (Wt ?_)))); refine WC.ret ?_)
  have hc := hL.cell (k := 0) rfl
  exact Fin.ret rfl ⟨hL.pfx, _, _, _, rfl, by omega, Sl.front (ds := _) (by rw [hc]; simp only [ints, List.map_append, List.nil_append]; rfl) (by simp [ints]; omega) (by omega)⟩
end
end
end Go.Proofs.YtalknjppnkpmmaaDoorW.Ai
