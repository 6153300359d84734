/-
 Tables by the document (chapters 4, 6), as the small machine runs them: rows.
-/
import Derived.Test.YtalknjppnkpmmaaDoorFn43
set_option linter.unusedVariables false
set_option linter.unusedSimpArgs false
set_option maxHeartbeats 4000000
set_option maxRecDepth 100000
namespace Go.Proofs.YtalknjppnkpmmaaDoorW.Ai
section
def rf_fdsRow (g0 : Nat) : RFunc :=
 ⟨64, [(.tmp 4), (.tmp 5)], (.seq (.ops [rO 3 (.box (.tmp 1)), rO 4 (.mv (.const (.slice .none 0 0))), rO 5 (.mv (.const (.int .i64 0)))]) (.seq (.ops [rO 9 (.fieldAddr 2 (.tmp 3)), rO 10 (.load .none (.tmp 9)), rO 6 (.mv (.tmp 10))]) (.seq (.seq (.ops [rO 11 (.fieldAddr 0 (.tmp 3)), rO 12 (.load .none (.tmp 11)), rO 13 (.bin .eql (.tmp 12) (.const (.int .i64 0)))]) (.cond (.tmp 13) (.seq (.ops [rO 6 (.mv (.const (.int .i64 0)))]) (.seq (.block 0 (.loop (.seq (.seq (.ops [rO 14 (.mv (.tmp 0)), rO 15 (.mv (.tmp 6)), rO 16 (.call (.func g0) [(.tmp 14), (.tmp 15)])]) (.cond (.tmp 16) .skip (.exit 0))) (.block 1 (.ops [rO 17 (.mv (.tmp 6)), rO 18 (.bin .add (.tmp 17) (.const (.int .i64 1))), rO 6 (.mv (.tmp 18))]))))) (.seq (.ops [rO 19 (.mv (.tmp 6)), rO 20 (.bin .eql (.tmp 19) (.const (.int .i64 4)))]) (.cond (.tmp 20) (.seq (.ops [rO 21 (.mv (.tmp 0)), rO 4 (.mv (.tmp 21)), rO 5 (.mv (.const (.int .i64 (-1))))]) .ret) .skip)))) .skip)) (.seq (.seq (.ops [rO 22 (.fieldAddr 0 (.tmp 3)), rO 23 (.load .none (.tmp 22)), rO 24 (.bin .eql (.tmp 23) (.const (.int .i64 1))), rO 25 (.mv (.tmp 24)), ⟨(.some 26), (.mv (.tmp 0)), (.some (25, true)), false, []⟩, ⟨(.some 27), (.mv (.tmp 6)), (.some (25, true)), false, []⟩, ⟨(.some 28), (.call (.func g0) [(.tmp 26), (.tmp 27)]), (.some (25, true)), false, []⟩, ⟨(.some 29), (.un .not (.tmp 28)), (.some (25, true)), false, []⟩, rO 30 (.pick (.tmp 25) (.tmp 29) (.const (.bool false)))]) (.cond (.tmp 30) (.seq (.ops [rO 31 (.mv (.tmp 0)), rO 4 (.mv (.tmp 31)), rO 5 (.mv (.const (.int .i64 0)))]) .ret) .skip)) (.seq (.ops [rO 7 (.mv (.const (.slice .none 0 0)))]) (.seq (.seq (.ops [rO 8 (.mv (.const (.int .i64 0)))]) (.block 2 (.loop (.seq (.seq (.ops [rO 32 (.mv (.tmp 8)), rO 33 (.bin .lss (.tmp 32) (.const (.int .i64 4)))]) (.cond (.tmp 33) .skip (.exit 2))) (.seq (.block 3 (.seq (.ops [rO 36 (.mv (.tmp 8)), rO 37 (.mv (.tmp 6)), rO 38 (.bin .eql (.tmp 36) (.tmp 37)), rO 39 (.mv (.tmp 38)), ⟨(.some 40), (.fieldAddr 0 (.tmp 3)), (.some (39, true)), false, []⟩, ⟨(.some 41), (.load .none (.tmp 40)), (.some (39, true)), false, []⟩, ⟨(.some 42), (.bin .eql (.tmp 41) (.const (.int .i64 0))), (.some (39, true)), false, []⟩, rO 43 (.pick (.tmp 39) (.tmp 42) (.const (.bool false))), rO 44 (.mv (.tmp 43)), ⟨(.some 45), (.mv (.tmp 8)), (.some (44, false)), false, []⟩, ⟨(.some 46), (.mv (.tmp 6)), (.some (44, false)), false, []⟩, ⟨(.some 47), (.bin .neq (.tmp 45) (.tmp 46)), (.some (44, false)), false, []⟩, ⟨(.some 48), (.mv (.tmp 47)), (.some (44, false)), false, []⟩, ⟨(.some 49), (.mv (.tmp 0)), (.some (48, true)), false, []⟩, ⟨(.some 50), (.mv (.tmp 8)), (.some (48, true)), false, []⟩, ⟨(.some 51), (.call (.func g0) [(.tmp 49), (.tmp 50)]), (.some (48, true)), false, []⟩, ⟨(.some 52), (.pick (.tmp 48) (.tmp 51) (.const (.bool false))), (.some (44, false)), false, []⟩, rO 53 (.pick (.tmp 44) (.const (.bool true)) (.tmp 52))]) (.cond (.tmp 53) (.ops [rO 54 (.mv (.tmp 7)), rO 55 (.mv (.tmp 8)), rO 56 (.buildSlice [(.int .i64 0)] 1 [(0, (1, (.tmp 55)))]), rO 57 (.append 1 8 (.tmp 54) (.tmp 56)), rO 7 (.mv (.tmp 57))]) .skip))) (.ops [rO 34 (.mv (.tmp 8)), rO 35 (.bin .add (.tmp 34) (.const (.int .i64 1))), rO 8 (.mv (.tmp 35))])))))) (.seq (.seq (.ops [rO 58 (.fieldAddr 0 (.tmp 3)), rO 59 (.load .none (.tmp 58)), rO 60 (.bin .eql (.tmp 59) (.const (.int .i64 0)))]) (.cond (.tmp 60) (.seq (.ops [rO 61 (.mv (.tmp 7)), rO 62 (.mv (.tmp 6)), rO 4 (.mv (.tmp 61)), rO 5 (.mv (.tmp 62))]) .ret) .skip)) (.seq (.ops [rO 63 (.mv (.tmp 7)), rO 4 (.mv (.tmp 63)), rO 5 (.mv (.const (.int .i64 1)))]) .ret))))))))⟩
section
variable (X : Ext) (F : FuncId → Option RFunc) (g : FuncId)
abbrev S_rowMay1 : Prop := ∀ (lim : Nat) (h : AH) {r : Row}, RowOk h r → Ret X F lim g [.int .i64 1, r.v] h fun v h' => Pfx h h' ∧ v = .bool (decide (TabRow r.xs))
abbrev S_StateMay1 : Prop := ∀ (lim : Nat) (h : AH) {r0 r1 r2 r3 : Row}, St h r0 r1 r2 r3 → Ret X F lim g [.int .i64 1, stV r0 r1 r2 r3] h fun v h' => Pfx h h' ∧ v = .bool (decide (TabOk ⟨r0.xs, r1.xs, r2.xs, r3.xs⟩))
abbrev S_fdsRow0N : Prop := ∀ (lim : Nat) (h : AH) {a : Option Addr} {n : Nat} {xs : List Int} {r x : Int}, Sl 1 h a n n (ints xs) → TabRow xs → (takeL xs).2 = -1 → Ret X F lim g [.slice a n n, .agg #[.int .i64 0, .int .i64 r, .int .i64 x]] h fun v h' => Pfx h h' ∧ v = .tuple #[.slice a n n, .int .i64 (-1)]
abbrev S_fdsRow0 : Prop := ∀ (lim : Nat) (h : AH) {a : Option Addr} {n : Nat} {xs : List Int} {r x : Int}, lim ≤ h.length → Sl 1 h a n n (ints xs) → TabRow xs → (takeL xs).2 ≠ -1 → Ret X F lim g [.slice a n n, .agg #[.int .i64 0, .int .i64 r, .int .i64 x]] h fun v h' => Pfx h h' ∧ Made 1 h h' (fun a n => .tuple #[.slice a n n, .int .i64 (takeL xs).2]) (ints (takeL xs).1) v
abbrev S_fdsRow1N : Prop := ∀ (lim : Nat) (h : AH) {a : Option Addr} {n : Nat} {xs : List Int} {r x : Int}, Sl 1 h a n n (ints xs) → TabRow xs → x ∉ xs → Ret X F lim g [.slice a n n, .agg #[.int .i64 1, .int .i64 r, .int .i64 x]] h fun v h' => Pfx h h' ∧ v = .tuple #[.slice a n n, .int .i64 0]
abbrev S_fdsRow1 : Prop := ∀ (lim : Nat) (h : AH) {a : Option Addr} {n : Nat} {xs : List Int} {r x : Int}, lim ≤ h.length → Sl 1 h a n n (ints xs) → TabRow xs → x ∈ xs → Ret X F lim g [.slice a n n, .agg #[.int .i64 1, .int .i64 r, .int .i64 x]] h fun v h' => Pfx h h' ∧ Made 1 h h' (fun a n => .tuple #[.slice a n n, .int .i64 1]) (ints (outL xs x)) v
abbrev S_fdsRow : Prop := (S_fdsRow0N X F g ∧ S_fdsRow0 X F g) ∧ S_fdsRow1N X F g ∧ S_fdsRow1 X F g
end
def keepL (p : Int → Bool) (i : Nat) : List Int := (([0, 1, 2, 3] : List Int).take i).filter p
theorem keepL_yes {p : Int → Bool} {i : Nat} (hi : i < 4) (h : p i = true) : keepL p (i + 1) = keepL p i ++ [(i : Int)] := by
 have : i = 0 ∨ i = 1 ∨ i = 2 ∨ i = 3 := by omega
 rcases this with rfl | rfl | rfl | rfl <;> simp_all [keepL, List.filter_cons] <;> (repeat' split) <;> simp_all
theorem keepL_no {p : Int → Bool} {i : Nat} (hi : i < 4) (h : p i = false) : keepL p (i + 1) = keepL p i := by
 have : i = 0 ∨ i = 1 ∨ i = 2 ∨ i = 3 := by omega
 rcases this with rfl | rfl | rfl | rfl <;> simp_all [keepL, List.filter_cons]
theorem keepL_in {xs : List Int} (hT : TabRow xs) {t : Int} (h0 : 0 ≤ t ∧ t < 4) (ht : t ∉ xs) : keepL (fun y => decide (y = t ∨ y ∈ xs)) 4 = insL xs t := by
 have h4 : t = 0 ∨ t = 1 ∨ t = 2 ∨ t = 3 := by omega
 have key : ∀ ys ∈ subs, ∀ u ∈ ([0, 1, 2, 3] : List Int), u ∉ ys → keepL (fun y => decide (y = u ∨ y ∈ ys)) 4 = insL ys u := by decide
 exact key xs hT.mem t (by simp; omega) ht
theorem keepL_out {xs : List Int} (hT : TabRow xs) (t : Int) : keepL (fun y => decide (y ≠ t ∧ y ∈ xs)) 4 = outL xs t := by
 have key : ∀ ys ∈ subs, (([0, 1, 2, 3] : List Int)).filter (fun y => decide (y ∈ ys)) = ys := by decide
 have h := key xs hT.mem
 show (([0, 1, 2, 3] : List Int)).filter _ = xs.filter _
 conv => rhs; rw [← h]
 rw [List.filter_filter]
 congr 1
 funext y
 simp
theorem takeL_at {xs : List Int} {t : Nat} (h4 : t < 4) (ht : (t : Int) ∉ xs) (hin : ∀ k : Nat, k < t → (k : Int) ∈ xs) : takeL xs = (insL xs t, (t : Int)) := by
 have : t = 0 ∨ t = 1 ∨ t = 2 ∨ t = 3 := by omega
 rcases this with rfl | rfl | rfl | rfl
 ·exact if_pos ht
 ·exact (if_neg (fun q => q (hin 0 (by omega)))).trans (if_pos ht)
 ·exact (if_neg (fun q => q (hin 0 (by omega)))).trans ((if_neg (fun q => q (hin 1 (by omega)))).trans (if_pos ht))
 ·exact (if_neg (fun q => q (hin 0 (by omega)))).trans ((if_neg (fun q => q (hin 1 (by omega)))).trans ((if_neg (fun q => q (hin 2 (by omega)))).trans (if_pos ht)))
theorem takeL_all {xs : List Int} (hin : ∀ k : Nat, k < 4 → (k : Int) ∈ xs) : (takeL xs).2 = -1 := by
 rw [takeL, if_neg (fun q => q (hin 0 (by omega))), if_neg (fun q => q (hin 1 (by omega))), if_neg (fun q => q (hin 2 (by omega))), if_neg (fun q => q (hin 3 (by omega)))]
theorem TabRow.rng {xs : List Int} (hT : TabRow xs) {x : Int} (hx : x ∈ xs) : 0 ≤ x ∧ x < 4 := by
 obtain ⟨k, hk, rfl⟩ := List.mem_iff_getElem.1 hx
 exact (hT k hk).1
section
variable {X : Ext} {F : FuncId → Option RFunc} {f : FuncId}
theorem s_rowMay1 {g0 : Nat} (hX : X f = none) (hF : F f = some (rf_rowMay g0)) (c0 : S_upTo X F g0) : S_rowMay1 X F f := by
 intro lim h r hr
 have hL := Loc.start h
 have hr1 := hr.1
 have hr2 := hr.2
 have hxn := hr.1.ilen
 refine Ret.body hX hF rfl ?_
 simp only [argL, rf_rowMay]
 (refine Cs (Co (Wm rfl (Wt ?_))); refine Cs (Co (Wc ?_)); refine OL.buildSlice hL rfl (by simp [over, Value.cells]; rfl) rfl (fun b h' hL => ?_); refine Wm rfl (Wc (OP.idxZ (Loc.bxAt (k := 0) hL rfl rfl) rfl rfl (by omega) ?_)); refine Wc (OL.load1 (k := 0) hL rfl rfl rfl (Wm rfl (Wt ?_))); refine Cs (Cs (Co (Wm rfl (Wt ?_)))); refine WC.block ?_)
 refine WC.loop (fun q : Nat × AH => q.1 ≤ r.n ∧ Loc h q.2 [] ∧ TabRow (r.xs.take q.1)) (fun q => [(6, .int .i64 (q.1 : Int)), (5, .int .i64 4), (1, r.v), (0, .int .i64 1)]) (fun q => q.2) (fun q => r.n - q.1) ?_ (0, h') ⟨Nat.zero_le _, hL.tail, by simp [TabRow]⟩ (by (refine Sub.cons rfl (Sub.cons rfl (Sub.cons rfl (Sub.cons rfl ?_))); exact Sub.nil _)) rfl
 intro ⟨i, h1⟩ ⟨hi, hL, hall⟩
 simp only at hi hL hall ⊢
 by_cases hlt : (i : Int) < r.n
 ·have hil : i < r.xs.length := by omega
  have hno : ¬ ((0 ≤ r.xs[i] ∧ r.xs[i] < 4) ∧ (0 < i → r.xs[i - 1] < r.xs[i])) → ¬ TabRow r.xs := fun hn hh => hn (hh i hil)
  (refine Cs (Cs (Co (Wm rfl (Wm rfl (Wc (OP.lenS rfl (Wc (OP.lssT rfl rfl (by omega) ?_)))))))); refine Wn ?_; dsimp only [zn, zr, zx, yn, yr]; refine WC.condT rfl (WC.skip ?_); dsimp only [zn, zr, zx, yn, yr]; refine Cs (WC.block (Cs (Co (Wm rfl (Wm rfl (Wc (OP.idxS (Sl.pfx (by assumption) (Loc.pfx hL)) rfl rfl (by omega) ?_))))))); refine Wc (OP.ldI (Sl.pfx (by assumption) (Loc.pfx hL)) rfl (by omega) ?_); refine Wc ?_; refine OL.callB hL rfl rfl (c0 _ _) (fun h' hp hL hc => ?_) (fun h' hp hL hc => ?_); refine Wc (OP.not rfl (Wm rfl (WO.yes rfl (Wm rfl (WO.yes rfl (Wc (OP.eqlT rfl rfl (by omega) ?_))))))); refine WO.yes rfl (Wm rfl (WO.yes rfl (Wm rfl (WO.yes rfl (Wm rfl (WO.yes rfl (Wc (OP.idxS (Sl.pfx (by assumption) (Loc.pfx hL)) rfl rfl (by omega) ?_)))))))); refine WO.yes rfl (Wc (OP.ldI (Sl.pfx (by assumption) (Loc.pfx hL)) rfl (by omega) ?_)); refine WO.yes rfl (Wc ?_); refine OP.geqC rfl rfl (fun hc => ?_) (fun hc => ?_); refine WO.yes rfl (Wm rfl (WO.no rfl (WO.no rfl (WO.no rfl (WO.noU rfl (WO.noU rfl (WO.noU rfl (WO.noU rfl (WO.noU rfl (WO.noU rfl (WO.noU rfl (WO.noU rfl (WO.noU rfl (WO.noU rfl (WO.no rfl (WO.yes rfl (Wc (OP.pickT rfl rfl (WO.yes rfl (Wc (OP.pickT rfl rfl (Wc (OP.pickF rfl rfl (Wn ?_)))))))))))))))))))))))); dsimp only [zn, zr, zx, yn, yr]; refine WC.condT rfl (Cs (Co (Wm rfl (Wn ?_)))); dsimp only [zn, zr, zx, yn, yr]; refine WC.ret ?_; dsimp only [zn, zr, zx, yn, yr]; exact Fin.ret rfl ⟨hL.pfx, boolF (by grind)⟩; refine WO.yes rfl (Wm rfl (WO.yes rfl (Wm rfl (WO.yes rfl (Wc ?_))))); refine OP.gtrC rfl rfl (fun hc => ?_) (fun hc => ?_); refine WO.yes rfl (Wm rfl (WO.yes rfl (WO.consQ (OP.mv rfl (WO.yes rfl (WO.consQ (OP.mv rfl (WO.yes rfl (WO.consQ (OP.idxS (Sl.pfx (by assumption) (Loc.pfx hL)) rfl rfl (by omega) ?_)))))))))); refine WO.yes rfl (WO.consQ (OP.ldI (Sl.pfx (by assumption) (Loc.pfx hL)) rfl (by omega) ?_)); refine WO.yes rfl (WO.consQ (OP.mv rfl (WO.yes rfl (WO.consQ (OP.mv rfl (WO.yes rfl (WO.consQ (OP.sub rfl rfl (by omega) ?_)))))))); refine WO.yes rfl (WO.consQ (OP.idxZ (Sl.pfx (by assumption) (Loc.pfx hL)) rfl rfl (by omega) ?_)); refine WO.yes rfl (WO.consQ (OP.ldI (Sl.pfx (by assumption) (Loc.pfx hL)) rfl (by omega) ?_)); refine WO.yes rfl (Wc ?_); refine OP.leqC rfl rfl (fun hc => ?_) (fun hc => ?_); refine WO.yes rfl (Wc (OP.pickT rfl rfl (WO.yes rfl (Wc (OP.pickF rfl rfl (WO.yes rfl (Wc (OP.pickT rfl rfl (Wc (OP.pickF rfl rfl (Wn ?_))))))))))); dsimp only [zn, zr, zx, yn, yr]; refine WC.condT rfl (Cs (Co (Wm rfl (Wn ?_)))); dsimp only [zn, zr, zx, yn, yr]; refine WC.ret ?_; dsimp only [zn, zr, zx, yn, yr]; exact Fin.ret rfl ⟨hL.pfx, boolF (by grind)⟩; refine WO.yes rfl (Wc (OP.pickT rfl rfl (WO.yes rfl (Wc (OP.pickF rfl rfl (WO.yes rfl (Wc (OP.pickT rfl rfl (Wc (OP.pickF rfl rfl (Wn ?_))))))))))); dsimp only [zn, zr, zx, yn, yr]; refine WC.condF rfl (WC.skip ?_); dsimp only [zn, zr, zx, yn, yr]; refine Co (Wm rfl (Wc (OP.add rfl rfl (by omega) ?_))); refine Wm rfl (Wn ?_); dsimp only [zn, zr, zx, yn, yr])
  ·have e : ((i : Int) - 1).toNat = i - 1 := by omega
   simp only [e] at hc
   exact ⟨(i + 1, h'), ⟨by simp only; omega, hL, hall.snoc hil ⟨by omega, by omega⟩ (fun _ => by omega)⟩, by (refine Sub.cons rfl (Sub.cons rfl (Sub.cons rfl (Sub.cons rfl ?_))); exact Sub.nil _), rfl, by simp only; omega⟩
  ·(refine WO.yes rfl (Wm rfl (WO.no rfl (WO.no rfl (WO.no rfl (WO.no rfl (WO.no rfl (WO.no rfl (WO.no rfl (WO.no rfl (WO.no rfl (WO.no rfl (WO.yes rfl (Wc (OP.pickF rfl rfl (WO.yes rfl (Wc (OP.pickF rfl rfl (WO.yes rfl (Wc (OP.pickT rfl rfl (Wc (OP.pickF rfl rfl (Wn ?_))))))))))))))))))))))); dsimp only [zn, zr, zx, yn, yr]; refine WC.condF rfl (WC.skip ?_); dsimp only [zn, zr, zx, yn, yr]; refine Co (Wm rfl (Wc (OP.add rfl rfl (by omega) ?_))); refine Wm rfl (Wn ?_); dsimp only [zn, zr, zx, yn, yr])
   exact ⟨(i + 1, h'), ⟨by simp only; omega, hL, hall.snoc hil ⟨by omega, by omega⟩ (fun _ => by omega)⟩, by (refine Sub.cons rfl (Sub.cons rfl (Sub.cons rfl (Sub.cons rfl ?_))); exact Sub.nil _), rfl, by simp only; omega⟩
  ·(refine Wc (OP.not rfl (Wm rfl (WO.no rfl (WO.no rfl (WO.no rfl (WO.noU rfl (WO.noU rfl (WO.noU rfl (WO.noU rfl (WO.noU rfl (WO.noU rfl (WO.noU rfl (WO.noU rfl (WO.noU rfl (WO.noU rfl (WO.noU rfl (WO.noU rfl (WO.noU rfl (WO.noU rfl (WO.noU rfl (WO.noU rfl (WO.noU rfl (WO.noU rfl (WO.noU rfl (WO.noU rfl (WO.noU rfl (WO.no rfl (Wc (OP.pickT rfl rfl (Wt ?_)))))))))))))))))))))))))))))); refine WC.condT rfl (Cs (Co (Wm rfl (Wt ?_)))); refine WC.ret ?_; dsimp only [zn, zr, zx, yn, yr]; exact Fin.ret rfl ⟨hL.pfx, boolF (by grind)⟩)
 ·rw [List.take_of_length_le (by omega)] at hall
  have h4 := hall.len
  (refine Cs (Cs (Co (Wm rfl (Wm rfl (Wc (OP.lenS rfl (Wc (OP.lssF rfl rfl (by omega) ?_)))))))); refine Wt ?_; refine WC.condF rfl (WC.exit ?_); dsimp only [zn, zr, zx, yn, yr]; rw [yx, if_pos rfl]; dsimp only [zn, zr, zx, yn, yr]; refine Cs (Co (Wm rfl (Wc (OP.lenS rfl (Wm rfl (Wc (OP.leqT rfl rfl (by omega) ?_))))))); refine Wm rfl (Wt ?_); refine WC.ret ?_; exact Fin.ret rfl ⟨hL.pfx, boolT (by omega)⟩)
theorem s_StateMay1 {g0 : Nat} (hX : X f = none) (hF : F f = some (rf_StateMay g0)) (c0' : S_rowMay1 X F g0) : S_StateMay1 X F f := by
 intro lim h r0 r1 r2 r3 hst
 have hL := Loc.start h
 have cc : ∀ {r : Row}, RowOk h r → ∀ lim h', Pfx h h' → Ret X F lim g0 [.int .i64 1, r.v] h' fun v h'' => Pfx h' h'' ∧ v = .bool (decide (TabRow r.xs)) := fun hr lim h' hp => c0' lim h' (hr.pfx hp)
 have c0 := cc hst.1
 have c1 := cc hst.2.1
 have c2 := cc hst.2.2.1
 have c3 := cc hst.2.2.2
 have hd : decide (TabOk ⟨r0.xs, r1.xs, r2.xs, r3.xs⟩) = decide (TabRow r0.xs ∧ TabRow r1.xs ∧ TabRow r2.xs ∧ TabRow r3.xs) := decIff Iff.rfl
 rw [hd]
 refine Ret.body hX hF rfl ?_
 simp only [argL, rf_StateMay]
 (refine Cs (Co (Wc ?_)); refine OL.boxA hL rfl rfl (fun b h' hL => (Wm rfl (Wt ?_))); refine Cs (Cs (Co (Wm rfl (Wt ?_)))); refine WC.block ?_)
 refine WC.unroll ?_
 (refine Cs (Cs (Co (Wm rfl (Wc (OP.lssT rfl rfl (by omega) ?_))))); refine Wn ?_; dsimp only [zn, zr, zx, yn, yr]; refine WC.condT rfl (WC.skip ?_); dsimp only [zn, zr, zx, yn, yr]; refine Cs (WC.block (Cs (Co (Wm rfl (Wc (OP.lssF rfl rfl (by omega) ?_)))))); refine Wm rfl (WO.yes rfl (Wm rfl (WO.yes rfl (Wc (OP.gtrF rfl rfl (by omega) ?_))))); refine Wc (OP.pickF rfl rfl (Wm rfl (WO.yes rfl (Wm rfl (WO.yes rfl (Wm rfl (WO.yes rfl (Wc (OP.fieldAddr0 rfl (WO.yes rfl (Wc (OP.idxArrZ rfl rfl (by decide) (by simp only [Int.reduceToNat, Nat.mul_one, Nat.zero_add, Nat.reduceMul, Nat.reduceAdd]; rfl) ?_)))))))))))); refine WO.yes rfl (Wc (OL.load1 (k := 0) hL rfl rfl rfl (WO.yes rfl (Wc ?_)))); refine OL.callB hL rfl rfl (c0 _ _ hL.pfx) (fun h' hp hL hc => ?_) (fun h' hp hL hc => ?_); refine WO.yes rfl (Wc (OP.not rfl (Wc (OP.pickF rfl rfl (Wn ?_))))); dsimp only [zn, zr, zx, yn, yr]; refine WC.condF rfl (WC.skip ?_); dsimp only [zn, zr, zx, yn, yr]; refine Co (Wm rfl (Wc (OP.addL rfl rfl (by simp only [Int.reduceAdd]; rfl) (by decide) ?_))); refine Wm rfl (Wn ?_); dsimp only [zn, zr, zx, yn, yr])
 refine WC.unroll ?_
 (refine Cs (Cs (Co (Wm rfl (Wc (OP.lssT rfl rfl (by omega) ?_))))); refine Wn ?_; dsimp only [zn, zr, zx, yn, yr]; refine WC.condT rfl (WC.skip ?_); dsimp only [zn, zr, zx, yn, yr]; refine Cs (WC.block (Cs (Co (Wm rfl (Wc (OP.lssF rfl rfl (by omega) ?_)))))); refine Wm rfl (WO.yes rfl (Wm rfl (WO.yes rfl (Wc (OP.gtrF rfl rfl (by omega) ?_))))); refine Wc (OP.pickF rfl rfl (Wm rfl (WO.yes rfl (Wm rfl (WO.yes rfl (Wm rfl (WO.yes rfl (Wc (OP.fieldAddr0 rfl (WO.yes rfl (Wc (OP.idxArrZ rfl rfl (by decide) (by simp only [Int.reduceToNat, Nat.mul_one, Nat.zero_add, Nat.reduceMul, Nat.reduceAdd]; rfl) ?_)))))))))))); refine WO.yes rfl (Wc (OL.load1 (k := 0) hL rfl rfl rfl (WO.yes rfl (Wc ?_)))); refine OL.callB hL rfl rfl (c1 _ _ hL.pfx) (fun h' hp hL hc => ?_) (fun h' hp hL hc => ?_); refine WO.yes rfl (Wc (OP.not rfl (Wc (OP.pickF rfl rfl (Wn ?_))))); dsimp only [zn, zr, zx, yn, yr]; refine WC.condF rfl (WC.skip ?_); dsimp only [zn, zr, zx, yn, yr]; refine Co (Wm rfl (Wc (OP.addL rfl rfl (by simp only [Int.reduceAdd]; rfl) (by decide) ?_))); refine Wm rfl (Wn ?_); dsimp only [zn, zr, zx, yn, yr])
 refine WC.unroll ?_
 (refine Cs (Cs (Co (Wm rfl (Wc (OP.lssT rfl rfl (by omega) ?_))))); refine Wn ?_; dsimp only [zn, zr, zx, yn, yr]; refine WC.condT rfl (WC.skip ?_); dsimp only [zn, zr, zx, yn, yr]; refine Cs (WC.block (Cs (Co (Wm rfl (Wc (OP.lssF rfl rfl (by omega) ?_)))))); refine Wm rfl (WO.yes rfl (Wm rfl (WO.yes rfl (Wc (OP.gtrF rfl rfl (by omega) ?_))))); refine Wc (OP.pickF rfl rfl (Wm rfl (WO.yes rfl (Wm rfl (WO.yes rfl (Wm rfl (WO.yes rfl (Wc (OP.fieldAddr0 rfl (WO.yes rfl (Wc (OP.idxArrZ rfl rfl (by decide) (by simp only [Int.reduceToNat, Nat.mul_one, Nat.zero_add, Nat.reduceMul, Nat.reduceAdd]; rfl) ?_)))))))))))); refine WO.yes rfl (Wc (OL.load1 (k := 0) hL rfl rfl rfl (WO.yes rfl (Wc ?_)))); refine OL.callB hL rfl rfl (c2 _ _ hL.pfx) (fun h' hp hL hc => ?_) (fun h' hp hL hc => ?_); refine WO.yes rfl (Wc (OP.not rfl (Wc (OP.pickF rfl rfl (Wn ?_))))); dsimp only [zn, zr, zx, yn, yr]; refine WC.condF rfl (WC.skip ?_); dsimp only [zn, zr, zx, yn, yr]; refine Co (Wm rfl (Wc (OP.addL rfl rfl (by simp only [Int.reduceAdd]; rfl) (by decide) ?_))); refine Wm rfl (Wn ?_); dsimp only [zn, zr, zx, yn, yr])
 refine WC.unroll ?_
 (refine Cs (Cs (Co (Wm rfl (Wc (OP.lssT rfl rfl (by omega) ?_))))); refine Wn ?_; dsimp only [zn, zr, zx, yn, yr]; refine WC.condT rfl (WC.skip ?_); dsimp only [zn, zr, zx, yn, yr]; refine Cs (WC.block (Cs (Co (Wm rfl (Wc (OP.lssF rfl rfl (by omega) ?_)))))); refine Wm rfl (WO.yes rfl (Wm rfl (WO.yes rfl (Wc (OP.gtrF rfl rfl (by omega) ?_))))); refine Wc (OP.pickF rfl rfl (Wm rfl (WO.yes rfl (Wm rfl (WO.yes rfl (Wm rfl (WO.yes rfl (Wc (OP.fieldAddr0 rfl (WO.yes rfl (Wc (OP.idxArrZ rfl rfl (by decide) (by simp only [Int.reduceToNat, Nat.mul_one, Nat.zero_add, Nat.reduceMul, Nat.reduceAdd]; rfl) ?_)))))))))))); refine WO.yes rfl (Wc (OL.load1 (k := 0) hL rfl rfl rfl (WO.yes rfl (Wc ?_)))); refine OL.callB hL rfl rfl (c3 _ _ hL.pfx) (fun h' hp hL hc => ?_) (fun h' hp hL hc => ?_); refine WO.yes rfl (Wc (OP.not rfl (Wc (OP.pickF rfl rfl (Wn ?_))))); dsimp only [zn, zr, zx, yn, yr]; refine WC.condF rfl (WC.skip ?_); dsimp only [zn, zr, zx, yn, yr]; refine Co (Wm rfl (Wc (OP.addL rfl rfl (by simp only [Int.reduceAdd]; rfl) (by decide) ?_))); refine Wm rfl (Wn ?_); dsimp only [zn, zr, zx, yn, yr])
 refine WC.unroll ?_
 (refine Cs (Cs (Co (Wm rfl (Wc (OP.lssF rfl rfl (by omega) ?_))))); refine Wt ?_; refine WC.condF rfl (WC.exit ?_); dsimp only [zn, zr, zx, yn, yr]; rw [yx, if_pos rfl]; dsimp only [zn, zr, zx, yn, yr]; refine Cs (Co (Wm rfl (Wt ?_))); refine WC.ret ?_; exact Fin.ret rfl ⟨hL.pfx, boolT (by grind)⟩; refine WO.yes rfl (Wc (OP.not rfl (Wc (OP.pickF rfl rfl (Wt ?_))))); refine WC.condT rfl (Cs (Co (Wm rfl (Wt ?_)))); refine WC.ret ?_; dsimp only [zn, zr, zx, yn, yr]; exact Fin.ret rfl ⟨hL.pfx, boolF (by grind)⟩; refine WO.yes rfl (Wc (OP.not rfl (Wc (OP.pickF rfl rfl (Wt ?_))))); refine WC.condT rfl (Cs (Co (Wm rfl (Wt ?_)))); refine WC.ret ?_; dsimp only [zn, zr, zx, yn, yr]; exact Fin.ret rfl ⟨hL.pfx, boolF (by grind)⟩; refine WO.yes rfl (Wc (OP.not rfl (Wc (OP.pickF rfl rfl (Wt ?_))))); refine WC.condT rfl (Cs (Co (Wm rfl (Wt ?_)))); refine WC.ret ?_; dsimp only [zn, zr, zx, yn, yr]; exact Fin.ret rfl ⟨hL.pfx, boolF (by grind)⟩; refine WO.yes rfl (Wc (OP.not rfl (Wc (OP.pickF rfl rfl (Wt ?_))))); refine WC.condT rfl (Cs (Co (Wm rfl (Wt ?_)))); refine WC.ret ?_; dsimp only [zn, zr, zx, yn, yr]; exact Fin.ret rfl ⟨hL.pfx, boolF (by grind)⟩)
structure KS where
 i : Nat
 h : AH
 b : Option Addr
 n : Nat
theorem Loc.addNil {h0 h : AH} {l : List Item} (hL : Loc h0 h l) : Loc h0 h (ap h.length h.length 1 none 0 (ints []) :: l) :=
 ⟨Nat.le_refl _, Nat.le_refl _, ⟨rfl, .inl ⟨rfl, fun x hx => by cases hx⟩⟩, hL⟩
theorem s_fdsRow0N {g0 : Nat} (hX : X f = none) (hF : F f = some (rf_fdsRow g0)) (c0' : S_has X F g0) : S_fdsRow0N X F f := by
  intro lim h a n xs r x ha hT ht
  have hL := Loc.start h
  have hxn := ha.ilen
  have h4 := hT.len
  have c0 : ∀ lim h' {x : Int}, Pfx h h' → Ret X F lim g0 [.slice a n n, .int .i64 x] h' fun v h'' => Pfx h' h'' ∧ v = .bool (decide (x ∈ xs)) := fun lim h' x hp => c0' lim h' (ha.pfx hp) (by omega)
  refine Ret.body hX hF rfl ?_
  simp only [argL, rf_fdsRow]
  (refine Cs (Co (Wc ?_)); refine OL.boxA hL rfl rfl (fun b h' hL => (Wm rfl (Wm rfl (Wt ?_)))); refine Cs (Co (Wc (OP.fieldAddr0 rfl (Wc (OL.load1 (k := 0) hL rfl rfl rfl (Wm rfl (Wt ?_))))))); refine Cs (Cs (Co (Wc (OP.fieldAddr0 rfl (Wc (OL.load1 (k := 0) hL rfl rfl rfl (Wc (OP.eqlT rfl rfl (by omega) ?_)))))))); refine Wt ?_; refine WC.condT rfl (Cs (Co (Wm rfl (Wt ?_)))); refine Cs (WC.block ?_))
  refine WC.loop (fun q : Nat × AH => q.1 ≤ 4 ∧ Loc h q.2 [bx b [.int .i64 0, .int .i64 r, .int .i64 x]] ∧ ∀ k : Nat, k < q.1 → (k : Int) ∈ xs) (fun q => [(6, .int .i64 (q.1 : Int)), (3, .pointer (some ⟨b, 0, none⟩)), (0, .slice a n n)]) (fun q => q.2) (fun q => 4 - q.1) ?_ (0, h') ⟨Nat.zero_le _, hL, fun k hk => absurd hk (Nat.not_lt_zero k)⟩ (by (refine Sub.cons rfl (Sub.cons rfl (Sub.cons rfl ?_)); exact Sub.nil _)) rfl
  intro ⟨j, h1⟩ ⟨hj, hL, hin⟩
  simp only at hj hL hin ⊢
  by_cases hjx : (j : Int) ∈ xs
  ·have hj4 := hT.rng hjx
   have e1 : decide ((j : Int) ∈ xs) = true := decide_eq_true hjx
   have c1 : ∀ lim h', Pfx h h' → Ret X F lim g0 [.slice a n n, .int .i64 (j : Int)] h' fun v h'' => Pfx h' h'' ∧ v = .bool true := fun lim h' hp => e1 ▸ c0' lim h' (ha.pfx hp) (by omega)
   clear c0
   (refine Cs (Cs (Co (Wm rfl (Wm rfl (Wc ?_))))); refine OL.callV hL rfl rfl (c1 _ _ hL.pfx) (fun h' hp hL => (Wt ?_)); refine WC.condT rfl (Ks ?_); refine WC.block (Co (Wm rfl (Wc (OP.add rfl rfl (by omega) ?_)))); refine Wm rfl (Wt ?_))
   refine ⟨(j + 1, h'), ⟨by simp only; omega, hL, fun k hk => ?_⟩, by (refine Sub.cons rfl (Sub.cons rfl (Sub.cons rfl ?_)); exact Sub.nil _), rfl, by simp only; omega⟩
   by_cases hkj : k = j
   ·rw [hkj]; exact hjx
   ·exact hin k (by simp only at hk; omega)
  have e1 : decide ((j : Int) ∈ xs) = false := decide_eq_false hjx
  have c1 : ∀ lim h', Pfx h h' → Ret X F lim g0 [.slice a n n, .int .i64 (j : Int)] h' fun v h'' => Pfx h' h'' ∧ v = .bool false := fun lim h' hp => e1 ▸ c0' lim h' (ha.pfx hp) (by omega)
  clear c0
  have hj4 : j = 4 := by
   apply Classical.byContradiction
   intro hh
   rw [takeL_at (by omega) hjx hin] at ht
   exact absurd (show (j : Int) = -1 from ht) (by omega)
  subst hj4
  (refine Cs (Cs (Co (Wm rfl (Wm rfl (Wc ?_))))); refine OL.callV hL rfl rfl (c1 _ _ hL.pfx) (fun h' hp hL => (Wt ?_)); refine WC.condF rfl (WC.exit ?_); dsimp only [zn, zr, zx, yn, yr]; rw [yx, if_pos rfl]; dsimp only [zn, zr, zx, yn, yr]; refine Cs (Co (Wm rfl (Wc (OP.eqlT rfl rfl (by omega) ?_)))); refine Wt ?_; refine WC.condT rfl (Cs (Co (Wm rfl (Wm rfl (Wm rfl (Wt ?_)))))); refine WC.ret ?_; dsimp only [zn, zr, zx, yn, yr]; exact Fin.ret rfl ⟨hL.pfx, rfl⟩)
theorem s_fdsRow0 {g0 : Nat} (hX : X f = none) (hF : F f = some (rf_fdsRow g0)) (c0' : S_has X F g0) : S_fdsRow0 X F f := by
  intro lim h a n xs r x hlim ha hT ht
  have hL := Loc.start h
  have hxn := ha.ilen
  have h4 := hT.len
  have c0 : ∀ lim h' {x : Int}, Pfx h h' → Ret X F lim g0 [.slice a n n, .int .i64 x] h' fun v h'' => Pfx h' h'' ∧ v = .bool (decide (x ∈ xs)) := fun lim h' x hp => c0' lim h' (ha.pfx hp) (by omega)
  refine Ret.body hX hF rfl ?_
  simp only [argL, rf_fdsRow]
  (refine Cs (Co (Wc ?_)); refine OL.boxA hL rfl rfl (fun b h' hL => (Wm rfl (Wm rfl (Wt ?_)))); refine Cs (Co (Wc (OP.fieldAddr0 rfl (Wc (OL.load1 (k := 0) hL rfl rfl rfl (Wm rfl (Wt ?_))))))); refine Cs (Cs (Co (Wc (OP.fieldAddr0 rfl (Wc (OL.load1 (k := 0) hL rfl rfl rfl (Wc (OP.eqlT rfl rfl (by omega) ?_)))))))); refine Wt ?_; refine WC.condT rfl (Cs (Co (Wm rfl (Wt ?_)))); refine Cs (WC.block ?_))
  refine WC.loop (fun q : Nat × AH => q.1 ≤ 4 ∧ Loc h q.2 [bx b [.int .i64 0, .int .i64 r, .int .i64 x]] ∧ ∀ k : Nat, k < q.1 → (k : Int) ∈ xs) (fun q => [(6, .int .i64 (q.1 : Int)), (3, .pointer (some ⟨b, 0, none⟩)), (0, .slice a n n)]) (fun q => q.2) (fun q => 4 - q.1) ?_ (0, h') ⟨Nat.zero_le _, hL, fun k hk => absurd hk (Nat.not_lt_zero k)⟩ (by (refine Sub.cons rfl (Sub.cons rfl (Sub.cons rfl ?_)); exact Sub.nil _)) rfl
  intro ⟨j, h1⟩ ⟨hj, hL, hin⟩
  simp only at hj hL hin ⊢
  by_cases hjx : (j : Int) ∈ xs
  ·have hj4 := hT.rng hjx
   have e1 : decide ((j : Int) ∈ xs) = true := decide_eq_true hjx
   have c1 : ∀ lim h', Pfx h h' → Ret X F lim g0 [.slice a n n, .int .i64 (j : Int)] h' fun v h'' => Pfx h' h'' ∧ v = .bool true := fun lim h' hp => e1 ▸ c0' lim h' (ha.pfx hp) (by omega)
   clear c0
   (refine Cs (Cs (Co (Wm rfl (Wm rfl (Wc ?_))))); refine OL.callV hL rfl rfl (c1 _ _ hL.pfx) (fun h' hp hL => (Wt ?_)); refine WC.condT rfl (Ks ?_); refine WC.block (Co (Wm rfl (Wc (OP.add rfl rfl (by omega) ?_)))); refine Wm rfl (Wt ?_))
   refine ⟨(j + 1, h'), ⟨by simp only; omega, hL, fun k hk => ?_⟩, by (refine Sub.cons rfl (Sub.cons rfl (Sub.cons rfl ?_)); exact Sub.nil _), rfl, by simp only; omega⟩
   by_cases hkj : k = j
   ·rw [hkj]; exact hjx
   ·exact hin k (by simp only at hk; omega)
  have e1 : decide ((j : Int) ∈ xs) = false := decide_eq_false hjx
  have c1 : ∀ lim h', Pfx h h' → Ret X F lim g0 [.slice a n n, .int .i64 (j : Int)] h' fun v h'' => Pfx h' h'' ∧ v = .bool false := fun lim h' hp => e1 ▸ c0' lim h' (ha.pfx hp) (by omega)
  clear c0
  have hj4 : j < 4 := by
   apply Classical.byContradiction
   intro hh
   exact ht (takeL_all fun k hk => hin k (by omega))
  have c0 : ∀ lim h' {x : Int}, Pfx h h' → Ret X F lim g0 [.slice a n n, .int .i64 x] h' fun v h'' => Pfx h' h'' ∧ v = .bool (decide (x ∈ xs)) := fun lim h' x hp => c0' lim h' (ha.pfx hp) (by omega)
  (refine Cs (Cs (Co (Wm rfl (Wm rfl (Wc ?_))))); refine OL.callV hL rfl rfl (c1 _ _ hL.pfx) (fun h' hp hL => (Wt ?_)); refine WC.condF rfl (WC.exit ?_); dsimp only [zn, zr, zx, yn, yr]; rw [yx, if_pos rfl]; dsimp only [zn, zr, zx, yn, yr]; refine Cs (Co (Wm rfl (Wc (OP.eqlF rfl rfl (by omega) ?_)))); refine Wt ?_; refine WC.condF rfl (Ks ?_); refine Cs (Cs (Co (Wc (OP.fieldAddr0 rfl (Wc (OL.load1 (k := 0) hL rfl rfl rfl (Wc (OP.eqlF rfl rfl (by omega) ?_)))))))); refine Wm rfl (WO.no rfl (WO.no rfl (WO.no rfl (WO.no rfl (Wc (OP.pickF rfl rfl (Wt ?_))))))); refine WC.condF rfl (Ks ?_); refine Cs (Co (Wm rfl (Wt ?_))); refine Cs (Cs (Co (Wm rfl (Wt ?_)))); refine WC.block ?_)
  refine WC.loop (fun q : KS => q.i ≤ 4 ∧ (q.n : Nat) = (keepL (fun y => decide (y = (j : Int) ∨ y ∈ xs)) q.i).length ∧ ∃ l1 l2, Loc h q.h [ap l1 l2 1 q.b q.n (ints (keepL (fun y => decide (y = (j : Int) ∨ y ∈ xs)) q.i)), bx b [.int .i64 0, .int .i64 r, .int .i64 x]]) (fun q => [(8, .int .i64 (q.i : Int)), (7, .slice q.b q.n q.n), (6, .int .i64 (j : Int)), (3, .pointer (some ⟨b, 0, none⟩)), (0, .slice a n n)]) (fun q => q.h) (fun q => 4 - q.i) ?_ ⟨0, _, none, 0⟩ ⟨Nat.zero_le _, rfl, _, _, hL.addNil⟩ (by (refine Sub.cons rfl (Sub.cons rfl (Sub.cons rfl (Sub.cons rfl (Sub.cons rfl ?_)))); exact Sub.nil _)) rfl
  intro ⟨i, h1, a1, m⟩ ⟨hi, hm, l1, l2, hL⟩
  simp only at hi hm hL ⊢
  by_cases hlt : (i : Int) < 4
  ·have hi4 : i < 4 := by omega
   have hml : (keepL (fun y => decide (y = (j : Int) ∨ y ∈ xs)) i).length ≤ 4 := Nat.le_trans (List.length_filter_le _ _) (by rw [List.length_take]; exact Nat.le_trans (Nat.min_le_left i _) (by omega))
   (refine Cs (Cs (Co (Wm rfl (Wc (OP.lssT rfl rfl (by omega) ?_))))); refine Wt ?_; refine WC.condT rfl (Ks ?_); refine Cs (WC.block (Cs (Co (Wm rfl (Wm rfl (Wc ?_)))))); refine OP.eqlC rfl rfl (fun hc => ?_) (fun hc => ?_); refine Wm rfl (WO.yes rfl (Wc (OP.fieldAddr0 rfl (WO.yes rfl (Wc (OL.load1 (k := 1) hL rfl rfl rfl (WO.yes rfl (Wc (OP.eqlT rfl rfl (by omega) ?_))))))))); refine Wc (OP.pickT rfl rfl (Wm rfl (WO.no rfl (WO.no rfl (WO.no rfl (WO.no rfl (WO.noU rfl (WO.noU rfl (WO.noU rfl (WO.no rfl (Wc (OP.pickT rfl rfl (Wt ?_))))))))))))); refine WC.condT rfl (Co (Wm rfl (Wm rfl (Wc ?_)))); refine OL.buildSlice hL rfl (by simp [over, Value.cells]; rfl) rfl (fun b h' hL => ?_); refine Wc ?_; refine OL.append (k := 1) hL hlim rfl rfl rfl (Loc.bxAt (k := 0) hL rfl rfl) (by omega) ⟨by omega, by omega, by omega⟩ rfl (fun a' h' hL => ?_); dsimp only [List.eraseIdx] at hL; refine Wm rfl (Wt ?_); refine Co (Wm rfl (Wc (OP.add rfl rfl (by omega) ?_))); refine Wm rfl (Wt ?_))
   ·skip
    have hk := keepL_yes (p := (fun y => decide (y = (j : Int) ∨ y ∈ xs))) hi4 (decide_eq_true (.inl hc))
    have hL5 := hL.less (k := 1) rfl
    dsimp only [List.eraseIdx] at hL5
    rw [ints_snoc, ← hk] at hL5
    exact ⟨⟨i + 1, h', a', m + 1⟩, ⟨by simp only; omega, by simp only; rw [hk, List.length_append, ← hm]; rfl, _, _, hL5⟩, by (refine Sub.cons rfl (Sub.cons rfl (Sub.cons rfl (Sub.cons rfl (Sub.cons rfl ?_)))); exact Sub.nil _), rfl, by simp only; omega⟩
   ·(refine Wm rfl (WO.no rfl (WO.no rfl (WO.no rfl (Wc (OP.pickF rfl rfl (Wm rfl (WO.yes rfl (Wm rfl (WO.yes rfl (Wm rfl (WO.yes rfl (Wc (OP.neqT rfl rfl (by omega) ?_))))))))))))); refine WO.yes rfl (Wm rfl (WO.yes rfl (Wm rfl (WO.yes rfl (Wm rfl (WO.yes rfl (Wc ?_))))))); refine OL.callB hL rfl rfl (c0 _ _ hL.pfx) (fun h' hp hL hc => ?_) (fun h' hp hL hc => ?_); refine WO.yes rfl (Wc (OP.pickT rfl rfl (Wc (OP.pickF rfl rfl (Wt ?_))))); refine WC.condT rfl (Co (Wm rfl (Wm rfl (Wc ?_)))); refine OL.buildSlice hL rfl (by simp [over, Value.cells]; rfl) rfl (fun b h' hL => ?_); refine Wc ?_; refine OL.append (k := 1) hL hlim rfl rfl rfl (Loc.bxAt (k := 0) hL rfl rfl) (by omega) ⟨by omega, by omega, by omega⟩ rfl (fun a' h' hL => ?_); dsimp only [List.eraseIdx] at hL; refine Wm rfl (Wt ?_); refine Co (Wm rfl (Wc (OP.add rfl rfl (by omega) ?_))); refine Wm rfl (Wt ?_))
    ·skip
     have hk := keepL_yes (p := (fun y => decide (y = (j : Int) ∨ y ∈ xs))) hi4 (decide_eq_true (.inr hc))
     have hL5 := hL.less (k := 1) rfl
     dsimp only [List.eraseIdx] at hL5
     rw [ints_snoc, ← hk] at hL5
     exact ⟨⟨i + 1, h', a', m + 1⟩, ⟨by simp only; omega, by simp only; rw [hk, List.length_append, ← hm]; rfl, _, _, hL5⟩, by (refine Sub.cons rfl (Sub.cons rfl (Sub.cons rfl (Sub.cons rfl (Sub.cons rfl ?_)))); exact Sub.nil _), rfl, by simp only; omega⟩
    ·(refine WO.yes rfl (Wc (OP.pickT rfl rfl (Wc (OP.pickF rfl rfl (Wn ?_))))); dsimp only [zn, zr, zx, yn, yr]; refine WC.condF rfl (WC.skip ?_); dsimp only [zn, zr, zx, yn, yr]; refine Co (Wm rfl (Wc (OP.add rfl rfl (by omega) ?_))); refine Wm rfl (Wn ?_); dsimp only [zn, zr, zx, yn, yr])
     have hk := keepL_no (p := (fun y => decide (y = (j : Int) ∨ y ∈ xs))) hi4 (decide_eq_false (fun hh => hh.elim (by omega) hc))
     rw [← hk] at hL hm
     exact ⟨⟨i + 1, _, a1, m⟩, ⟨by simp only; omega, hm, _, _, hL⟩, by (refine Sub.cons rfl (Sub.cons rfl (Sub.cons rfl (Sub.cons rfl (Sub.cons rfl ?_)))); exact Sub.nil _), rfl, by simp only; omega⟩
  ·have hi4 : i = 4 := by omega
   subst hi4
   rw [takeL_at hj4 hjx hin]
   rw [keepL_in hT ⟨by omega, by omega⟩ hjx] at hL
   (refine Cs (Cs (Co (Wm rfl (Wc (OP.lssF rfl rfl (by omega) ?_))))); refine Wt ?_; refine WC.condF rfl (WC.exit ?_); dsimp only [zn, zr, zx, yn, yr]; rw [yx, if_pos rfl]; dsimp only [zn, zr, zx, yn, yr]; refine Cs (Cs (Co (Wc (OP.fieldAddr0 rfl (Wc (OL.load1 (k := 1) hL rfl rfl rfl (Wc (OP.eqlT rfl rfl (by omega) ?_)))))))); refine Wt ?_; refine WC.condT rfl (Cs (Co (Wm rfl (Wm rfl (Wm rfl (Wm rfl (Wt ?_))))))); refine WC.ret ?_; dsimp only [zn, zr, zx, yn, yr])
   exact Fin.ret rfl ⟨hL.pfx, _, _, rfl, hL.apOut' (k := 0) rfl⟩
theorem s_fdsRow1N {g0 : Nat} (hX : X f = none) (hF : F f = some (rf_fdsRow g0)) (c0' : S_has X F g0) : S_fdsRow1N X F f := by
  intro lim h a n xs r x ha hT ht
  have hL := Loc.start h
  have hxn := ha.ilen
  have h4 := hT.len
  have e1 : decide (x ∈ xs) = false := decide_eq_false ht
  have c1 : ∀ lim h', Pfx h h' → Ret X F lim g0 [.slice a n n, .int .i64 x] h' fun v h'' => Pfx h' h'' ∧ v = .bool false := fun lim h' hp => e1 ▸ c0' lim h' (ha.pfx hp) (by omega)
  refine Ret.body hX hF rfl ?_
  simp only [argL, rf_fdsRow]
  (refine Cs (Co (Wc ?_)); refine OL.boxA hL rfl rfl (fun b h' hL => (Wm rfl (Wm rfl (Wt ?_)))); refine Cs (Co (Wc (OP.fieldAddr0 rfl (Wc (OL.load1 (k := 0) hL rfl rfl rfl (Wm rfl (Wt ?_))))))); refine Cs (Cs (Co (Wc (OP.fieldAddr0 rfl (Wc (OL.load1 (k := 0) hL rfl rfl rfl (Wc (OP.eqlF rfl rfl (by omega) ?_)))))))); refine Wt ?_; refine WC.condF rfl (Ks ?_); refine Cs (Cs (Co (Wc (OP.fieldAddr0 rfl (Wc (OL.load1 (k := 0) hL rfl rfl rfl (Wc (OP.eqlT rfl rfl (by omega) ?_)))))))); refine Wm rfl (WO.yes rfl (Wm rfl (WO.yes rfl (Wm rfl (WO.yes rfl (Wc ?_)))))); refine OL.callV hL rfl rfl (c1 _ _ hL.pfx) (fun h' hp hL => (WO.yes rfl (Wc (OP.not rfl (Wc (OP.pickT rfl rfl (Wt ?_))))))); refine WC.condT rfl (Cs (Co (Wm rfl (Wm rfl (Wm rfl (Wt ?_)))))); refine WC.ret ?_; dsimp only [zn, zr, zx, yn, yr]; exact Fin.ret rfl ⟨hL.pfx, rfl⟩)
theorem s_fdsRow1 {g0 : Nat} (hX : X f = none) (hF : F f = some (rf_fdsRow g0)) (c0' : S_has X F g0) : S_fdsRow1 X F f := by
  intro lim h a n xs r x hlim ha hT ht
  have hL := Loc.start h
  have hxn := ha.ilen
  have h4 := hT.len
  have e1 : decide (x ∈ xs) = true := decide_eq_true ht
  have c1 : ∀ lim h', Pfx h h' → Ret X F lim g0 [.slice a n n, .int .i64 x] h' fun v h'' => Pfx h' h'' ∧ v = .bool true := fun lim h' hp => e1 ▸ c0' lim h' (ha.pfx hp) (by omega)
  refine Ret.body hX hF rfl ?_
  simp only [argL, rf_fdsRow]
  (refine Cs (Co (Wc ?_)); refine OL.boxA hL rfl rfl (fun b h' hL => (Wm rfl (Wm rfl (Wt ?_)))); refine Cs (Co (Wc (OP.fieldAddr0 rfl (Wc (OL.load1 (k := 0) hL rfl rfl rfl (Wm rfl (Wt ?_))))))); refine Cs (Cs (Co (Wc (OP.fieldAddr0 rfl (Wc (OL.load1 (k := 0) hL rfl rfl rfl (Wc (OP.eqlF rfl rfl (by omega) ?_)))))))); refine Wt ?_; refine WC.condF rfl (Ks ?_); refine Cs (Cs (Co (Wc (OP.fieldAddr0 rfl (Wc (OL.load1 (k := 0) hL rfl rfl rfl (Wc (OP.eqlT rfl rfl (by omega) ?_)))))))); refine Wm rfl (WO.yes rfl (Wm rfl (WO.yes rfl (Wm rfl (WO.yes rfl (Wc ?_)))))); refine OL.callV hL rfl rfl (c1 _ _ hL.pfx) (fun h' hp hL => (WO.yes rfl (Wc (OP.not rfl (Wc (OP.pickT rfl rfl (Wt ?_))))))); refine WC.condF rfl (Ks ?_); refine Cs (Co (Wm rfl (Wt ?_))); refine Cs (Cs (Co (Wm rfl (Wt ?_)))); refine WC.block ?_)
  clear c1
  have c0 : ∀ lim h' {x : Int}, Pfx h h' → Ret X F lim g0 [.slice a n n, .int .i64 x] h' fun v h'' => Pfx h' h'' ∧ v = .bool (decide (x ∈ xs)) := fun lim h' x hp => c0' lim h' (ha.pfx hp) (by omega)
  refine WC.loop (fun q : KS => q.i ≤ 4 ∧ (q.n : Nat) = (keepL (fun y => decide (y ≠ x ∧ y ∈ xs)) q.i).length ∧ ∃ l1 l2, Loc h q.h [ap l1 l2 1 q.b q.n (ints (keepL (fun y => decide (y ≠ x ∧ y ∈ xs)) q.i)), bx b [.int .i64 1, .int .i64 r, .int .i64 x]]) (fun q => [(8, .int .i64 (q.i : Int)), (7, .slice q.b q.n q.n), (6, .int .i64 x), (3, .pointer (some ⟨b, 0, none⟩)), (0, .slice a n n)]) (fun q => q.h) (fun q => 4 - q.i) ?_ ⟨0, _, none, 0⟩ ⟨Nat.zero_le _, rfl, _, _, hL.addNil⟩ (by (refine Sub.cons rfl (Sub.cons rfl (Sub.cons rfl (Sub.cons rfl (Sub.cons rfl ?_)))); exact Sub.nil _)) rfl
  intro ⟨i, h1, a1, m⟩ ⟨hi, hm, l1, l2, hL⟩
  simp only at hi hm hL ⊢
  by_cases hlt : (i : Int) < 4
  ·have hi4 : i < 4 := by omega
   have hml : (keepL (fun y => decide (y ≠ x ∧ y ∈ xs)) i).length ≤ 4 := Nat.le_trans (List.length_filter_le _ _) (by rw [List.length_take]; exact Nat.le_trans (Nat.min_le_left i _) (by omega))
   (refine Cs (Cs (Co (Wm rfl (Wc (OP.lssT rfl rfl (by omega) ?_))))); refine Wn ?_; dsimp only [zn, zr, zx, yn, yr]; refine WC.condT rfl (WC.skip ?_); dsimp only [zn, zr, zx, yn, yr]; refine Cs (WC.block (Cs (Co (Wm rfl (Wm rfl (Wc ?_)))))); refine OP.eqlC rfl rfl (fun hc => ?_) (fun hc => ?_); refine Wm rfl (WO.yes rfl (Wc (OP.fieldAddr0 rfl (WO.yes rfl (Wc (OL.load1 (k := 1) hL rfl rfl rfl (WO.yes rfl (Wc (OP.eqlF rfl rfl (by omega) ?_))))))))); refine Wc (OP.pickT rfl rfl (Wm rfl (WO.yes rfl (Wm rfl (WO.yes rfl (Wm rfl (WO.yes rfl (Wc (OP.neqF rfl rfl (by omega) ?_))))))))); refine WO.yes rfl (Wm rfl (WO.no rfl (WO.no rfl (WO.no rfl (WO.yes rfl (Wc (OP.pickF rfl rfl (Wc (OP.pickF rfl rfl (Wn ?_)))))))))); dsimp only [zn, zr, zx, yn, yr]; refine WC.condF rfl (WC.skip ?_); dsimp only [zn, zr, zx, yn, yr]; refine Co (Wm rfl (Wc (OP.add rfl rfl (by omega) ?_))); refine Wm rfl (Wn ?_); dsimp only [zn, zr, zx, yn, yr])
   ·skip
    have hk := keepL_no (p := (fun y => decide (y ≠ x ∧ y ∈ xs))) hi4 (decide_eq_false (fun hh => hh.1 hc))
    rw [← hk] at hL hm
    exact ⟨⟨i + 1, _, a1, m⟩, ⟨by simp only; omega, hm, _, _, hL⟩, by (refine Sub.cons rfl (Sub.cons rfl (Sub.cons rfl (Sub.cons rfl (Sub.cons rfl ?_)))); exact Sub.nil _), rfl, by simp only; omega⟩
   ·(refine Wm rfl (WO.no rfl (WO.no rfl (WO.no rfl (Wc (OP.pickF rfl rfl (Wm rfl (WO.yes rfl (Wm rfl (WO.yes rfl (Wm rfl (WO.yes rfl (Wc (OP.neqT rfl rfl (by omega) ?_))))))))))))); refine WO.yes rfl (Wm rfl (WO.yes rfl (Wm rfl (WO.yes rfl (Wm rfl (WO.yes rfl (Wc ?_))))))); refine OL.callB hL rfl rfl (c0 _ _ hL.pfx) (fun h' hp hL hc => ?_) (fun h' hp hL hc => ?_); refine WO.yes rfl (Wc (OP.pickT rfl rfl (Wc (OP.pickF rfl rfl (Wt ?_))))); refine WC.condT rfl (Co (Wm rfl (Wm rfl (Wc ?_)))); refine OL.buildSlice hL rfl (by simp [over, Value.cells]; rfl) rfl (fun b h' hL => ?_); refine Wc ?_; refine OL.append (k := 1) hL hlim rfl rfl rfl (Loc.bxAt (k := 0) hL rfl rfl) (by omega) ⟨by omega, by omega, by omega⟩ rfl (fun a' h' hL => ?_); dsimp only [List.eraseIdx] at hL; refine Wm rfl (Wt ?_); refine Co (Wm rfl (Wc (OP.add rfl rfl (by omega) ?_))); refine Wm rfl (Wt ?_))
    ·skip
     have hk := keepL_yes (p := (fun y => decide (y ≠ x ∧ y ∈ xs))) hi4 (decide_eq_true ⟨by assumption, hc⟩)
     have hL5 := hL.less (k := 1) rfl
     dsimp only [List.eraseIdx] at hL5
     rw [ints_snoc, ← hk] at hL5
     exact ⟨⟨i + 1, h', a', m + 1⟩, ⟨by simp only; omega, by simp only; rw [hk, List.length_append, ← hm]; rfl, _, _, hL5⟩, by (refine Sub.cons rfl (Sub.cons rfl (Sub.cons rfl (Sub.cons rfl (Sub.cons rfl ?_)))); exact Sub.nil _), rfl, by simp only; omega⟩
    ·(refine WO.yes rfl (Wc (OP.pickT rfl rfl (Wc (OP.pickF rfl rfl (Wn ?_))))); dsimp only [zn, zr, zx, yn, yr]; refine WC.condF rfl (WC.skip ?_); dsimp only [zn, zr, zx, yn, yr]; refine Co (Wm rfl (Wc (OP.add rfl rfl (by omega) ?_))); refine Wm rfl (Wn ?_); dsimp only [zn, zr, zx, yn, yr])
     have hk := keepL_no (p := (fun y => decide (y ≠ x ∧ y ∈ xs))) hi4 (decide_eq_false (fun hh => hc hh.2))
     rw [← hk] at hL hm
     exact ⟨⟨i + 1, _, a1, m⟩, ⟨by simp only; omega, hm, _, _, hL⟩, by (refine Sub.cons rfl (Sub.cons rfl (Sub.cons rfl (Sub.cons rfl (Sub.cons rfl ?_)))); exact Sub.nil _), rfl, by simp only; omega⟩
  ·have hi4 : i = 4 := by omega
   subst hi4
   rw [keepL_out hT] at hL
   (refine Cs (Cs (Co (Wm rfl (Wc (OP.lssF rfl rfl (by omega) ?_))))); refine Wt ?_; refine WC.condF rfl (WC.exit ?_); dsimp only [zn, zr, zx, yn, yr]; rw [yx, if_pos rfl]; dsimp only [zn, zr, zx, yn, yr]; refine Cs (Cs (Co (Wc (OP.fieldAddr0 rfl (Wc (OL.load1 (k := 1) hL rfl rfl rfl (Wc (OP.eqlF rfl rfl (by omega) ?_)))))))); refine Wt ?_; refine WC.condF rfl (Ks ?_); refine Cs (Co (Wm rfl (Wm rfl (Wm rfl (Wt ?_))))); refine WC.ret ?_)
   exact Fin.ret rfl ⟨hL.pfx, _, _, rfl, hL.apOut' (k := 0) rfl⟩
theorem s_fdsRow {g0 : Nat} (hX : X f = none) (hF : F f = some (rf_fdsRow g0)) (c0' : S_has X F g0) : S_fdsRow X F f := ⟨⟨s_fdsRow0N hX hF c0', s_fdsRow0 hX hF c0'⟩, s_fdsRow1N hX hF c0', s_fdsRow1 hX hF c0'⟩
end
end
end Go.Proofs.YtalknjppnkpmmaaDoorW.Ai
