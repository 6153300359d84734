/-
 Functions on rows of numbers, as the small machine runs them. 
-/
import Derived.Test.YtdcpmchhioilpaaMd
set_option linter.unusedVariables false
set_option linter.unusedSimpArgs false
namespace Go.Proofs.YtdcpmchhioilpaaW.Ai
-- chorus/choruslaw0.SameInts
def rf_SameInts : RFunc :=
 ⟨26, [(.tmp 4)], (.seq (.ops [rO 4 (.mv (.const (.bool false)))]) (.seq (.seq (.ops [rO 6 (.mv (.tmp 0)), rO 7 (.len 1 (.tmp 6)), rO 8 (.mv (.tmp 1)), rO 9 (.len 1 (.tmp 8)), rO 10 (.bin .neq (.tmp 7) (.tmp 9))]) (.cond (.tmp 10) (.seq (.ops [rO 4 (.mv (.const (.bool false)))]) .ret) .skip)) (.seq (.seq (.ops [rO 5 (.mv (.const (.int .i64 0)))]) (.block 0 (.loop (.seq (.seq (.ops [rO 11 (.mv (.tmp 5)), rO 12 (.mv (.tmp 0)), rO 13 (.len 1 (.tmp 12)), rO 14 (.bin .lss (.tmp 11) (.tmp 13))]) (.cond (.tmp 14) .skip (.exit 0))) (.seq (.block 1 (.seq (.ops [⟨(.some 17), (.mv (.tmp 0)), .none, true, []⟩, ⟨(.some 18), (.mv (.tmp 5)), .none, true, []⟩, ⟨(.some 19), (.idxAddr 1 (.tmp 17) (.tmp 18)), .none, true, []⟩, ⟨(.some 20), (.load .none (.tmp 19)), .none, true, []⟩, ⟨(.some 21), (.mv (.tmp 1)), .none, true, []⟩, ⟨(.some 22), (.mv (.tmp 5)), .none, true, []⟩, ⟨(.some 23), (.idxAddr 1 (.tmp 21) (.tmp 22)), .none, true, []⟩, ⟨(.some 24), (.load .none (.tmp 23)), .none, true, []⟩, rO 25 (.bin .neq (.tmp 20) (.tmp 24))]) (.cond (.tmp 25) (.seq (.ops [rO 4 (.mv (.const (.bool false)))]) .ret) .skip))) (.ops [rO 15 (.mv (.tmp 5)), rO 16 (.bin .add (.tmp 15) (.const (.int .i64 1))), rO 5 (.mv (.tmp 16))])))))) (.seq (.ops [rO 4 (.mv (.const (.bool true)))]) .ret))))⟩
-- chorus/choruslaw0.CopyInts
def rf_CopyInts : RFunc :=
 ⟨6, [(.tmp 2)], (.seq (.ops [rO 2 (.mv (.const (.slice .none 0 0)))]) (.seq (.ops [rO 3 (.buildSlice [] 0 []), rO 4 (.mv (.tmp 0)), rO 5 (.append 1 8 (.tmp 3) (.tmp 4)), rO 2 (.mv (.tmp 5))]) .ret))⟩
-- chorus/choruslaw0.LendInts; g0 = chorus/choruslaw0.CopyInts
def rf_LendInts (g0 : Nat) : RFunc :=
 ⟨12, [(.tmp 2)], (.seq (.ops [rO 2 (.mv (.const (.slice .none 0 0)))]) (.seq (.ops [rO 4 (.mv (.tmp 0)), rO 5 (.call (.func g0) [(.tmp 4)]), rO 6 (.buildSlice [(.int .i64 0), (.int .i64 0)] 2 [(0, (1, (.const (.int .i64 (-7777))))), (1, (1, (.const (.int .i64 (-8888)))))]), rO 7 (.append 1 8 (.tmp 5) (.tmp 6)), rO 3 (.mv (.tmp 7))]) (.seq (.ops [rO 8 (.mv (.tmp 3)), rO 9 (.mv (.tmp 0)), rO 10 (.len 1 (.tmp 9)), rO 11 (.slice 1 (.tmp 8) .none (.some (.tmp 10)) .none), rO 2 (.mv (.tmp 11))]) .ret)))⟩
-- chorus/choruslaw0.KeptInts; g0 = chorus/choruslaw0.SameInts
def rf_KeptInts (g0 : Nat) : RFunc :=
 ⟨31, [(.tmp 4)], (.seq (.ops [rO 4 (.mv (.const (.bool false)))]) (.seq (.ops [rO 6 (.mv (.tmp 0)), rO 7 (.mv (.tmp 0)), rO 8 (.len 1 (.tmp 7)), rO 9 (.bin .add (.tmp 8) (.const (.int .i64 2))), rO 10 (.slice 1 (.tmp 6) .none (.some (.tmp 9)) .none), rO 5 (.mv (.tmp 10))]) (.seq (.ops [rO 11 (.mv (.tmp 0)), rO 12 (.mv (.tmp 1)), rO 13 (.call (.func g0) [(.tmp 11), (.tmp 12)]), rO 14 (.mv (.tmp 13)), ⟨(.some 15), (.mv (.tmp 5)), (.some (14, true)), false, []⟩, ⟨(.some 16), (.mv (.tmp 1)), (.some (14, true)), false, []⟩, ⟨(.some 17), (.len 1 (.tmp 16)), (.some (14, true)), false, []⟩, ⟨(.some 18), (.idxAddr 1 (.tmp 15) (.tmp 17)), (.some (14, true)), false, []⟩, ⟨(.some 19), (.load .none (.tmp 18)), (.some (14, true)), false, []⟩, ⟨(.some 20), (.bin .eql (.tmp 19) (.const (.int .i64 (-7777)))), (.some (14, true)), false, []⟩, rO 21 (.pick (.tmp 14) (.tmp 20) (.const (.bool false))), rO 22 (.mv (.tmp 21)), ⟨(.some 23), (.mv (.tmp 5)), (.some (22, true)), false, []⟩, ⟨(.some 24), (.mv (.tmp 1)), (.some (22, true)), false, []⟩, ⟨(.some 25), (.len 1 (.tmp 24)), (.some (22, true)), false, []⟩, ⟨(.some 26), (.bin .add (.tmp 25) (.const (.int .i64 1))), (.some (22, true)), false, []⟩, ⟨(.some 27), (.idxAddr 1 (.tmp 23) (.tmp 26)), (.some (22, true)), false, []⟩, ⟨(.some 28), (.load .none (.tmp 27)), (.some (22, true)), false, []⟩, ⟨(.some 29), (.bin .eql (.tmp 28) (.const (.int .i64 (-8888)))), (.some (22, true)), false, []⟩, rO 30 (.pick (.tmp 22) (.tmp 29) (.const (.bool false))), rO 4 (.mv (.tmp 30))]) .ret)))⟩
-- chorus/choruslaw0.SpoilInts
def rf_SpoilInts : RFunc :=
 ⟨17, [], (.seq (.ops [rO 2 (.mv (.const (.int .i64 0)))]) (.block 0 (.loop (.seq (.seq (.ops [rO 3 (.mv (.tmp 2)), rO 4 (.mv (.tmp 0)), rO 5 (.len 1 (.tmp 4)), rO 6 (.bin .lss (.tmp 3) (.tmp 5))]) (.cond (.tmp 6) .skip (.exit 0))) (.seq (.block 1 (.ops [rO 9 (.mv (.tmp 0)), rO 10 (.mv (.tmp 2)), rO 11 (.mv (.tmp 0)), rO 12 (.mv (.tmp 2)), rO 13 (.idxAddr 1 (.tmp 11) (.tmp 12)), rO 14 (.load .none (.tmp 13)), rO 15 (.bin .sub (.const (.int .i64 (-9))) (.tmp 14)), rO 16 (.idxAddr 1 (.tmp 9) (.tmp 10)), ⟨.none, (.store 1 (.tmp 16) (.tmp 15)), .none, false, []⟩])) (.ops [rO 7 (.mv (.tmp 2)), rO 8 (.bin .add (.tmp 7) (.const (.int .i64 1))), rO 2 (.mv (.tmp 8))]))))))⟩
section
variable {X : Ext} {F : FuncId → Option RFunc} {lim : Nat} {f : FuncId} {h : AH}
theorem SameInts_run (hX : X f = none) (hF : F f = some rf_SameInts) {a b : Option Addr} {n m c d : Nat} {xs ys : List Int} (ha : Sl 1 h a n c (ints xs)) (hb : Sl 1 h b m d (ints ys)) (hn : n < 2 ^ 62) :
  Ret X F lim f [.slice a n c, .slice b m d] h fun v h' => v = .bool (decide (xs = ys)) ∧ h' = h := by
 have hxn := ha.ilen
 have hym := hb.ilen
 refine Ret.body hX hF rfl ?_
 simp only [argL, rf_SameInts]
 (refine Cs (Co (Wm rfl (Wn (Cs (Cs (Co (Wm rfl (Wc (OP.lenS rfl (Wm rfl (Wc (OP.lenS rfl (Wc (OP.neq rfl rfl (Wt ?_))))))))))))))))
 refine WC.condP rfl (fun hne => ?_) (fun hne => ?_)
 ·(refine Cs (Co (Wm rfl (Wn (WC.ret ?_)))); dsimp only [zn, zr, zx, yn, yr])
  refine Fin.ret rfl ⟨?_, rfl⟩
  have : xs ≠ ys := fun h0 => hne (by subst h0; omega)
  simp [resultOf, this]
 ·(refine WC.skip (Cs (Cs (Co (Wm rfl (Wn (WC.block ?_)))))))
  refine WC.loop (fun i : Nat => i ≤ n ∧ xs.take i = ys.take i) (fun i => [(5, .int .i64 (i : Int)), (0, .slice a n c), (1, .slice b m d)]) (fun _ => h) (fun i => n - i) ?_ 0 ⟨Nat.zero_le _, by simp⟩ (by (refine Sub.cons rfl (Sub.cons rfl (Sub.cons rfl ?_)); exact Sub.nil _)) rfl
  intro i ⟨hi, heq⟩
  (refine Cs (Cs (Co (Wm rfl (Wm rfl (Wc (OP.lenS rfl (Wc (OP.bin rfl rfl rfl (Wt ?_))))))))))
  refine WC.condP rfl (fun hlt => ?_) (fun hlt => ?_)
  ·(refine WC.skip (Cs (WC.block (Cs (Co (WO.consQ (OP.mv rfl (WO.consQ (OP.mv rfl (WO.consQ (OP.idxS (by assumption) rfl rfl (by omega) ?_)))))))))); refine WO.consQ (OP.ldI (by assumption) rfl (by omega) ?_); refine WO.consQ (OP.mv rfl (WO.consQ (OP.mv rfl (WO.consQ (OP.idxS (by assumption) rfl rfl (by omega) ?_))))); refine WO.consQ (OP.ldI (by assumption) rfl (by omega) ?_); refine Wc (OP.neq rfl rfl (Wt ?_)))
   refine WC.condP rfl (fun hc => ?_) (fun hc => ?_)
   ·(refine Cs (Co (Wm rfl (Wn (WC.ret ?_)))); dsimp only [zn, zr, zx, yn, yr])
    refine Fin.ret rfl ⟨?_, rfl⟩
    have : xs ≠ ys := fun h0 => hc (by subst h0; rfl)
    simp [resultOf, this]
   ·(refine WC.skip (Co (Wm rfl (Wc (OP.add rfl rfl (by omega) ?_)))); refine Wm rfl (Wt ?_))
    refine ⟨i + 1, ⟨by omega, ?_⟩, by (refine Sub.cons rfl (Sub.cons rfl (Sub.cons rfl ?_)); exact Sub.nil _), rfl, by omega⟩
    exact take_eq_succ (by omega) (by omega) heq (by simpa using hc)
  ·(refine WC.exit (Cs (Co (Wm rfl (Wn (WC.ret ?_))))))
   refine Fin.ret rfl ⟨?_, rfl⟩
   have : xs = ys := take_eq_of (i := i) (by omega) (by omega) heq
   simp [resultOf, this]
theorem room8 {k : Nat} (hk : k ≤ 2 ^ 44 + 2) : Room k 8 := ⟨by omega, by omega, by omega⟩
theorem CopyInts_run (hX : X f = none) (hF : F f = some rf_CopyInts) {a : Option Addr} {n c : Nat} {xs : List Int} (ha : Sl 1 h a n c (ints xs)) (hn : n ≤ 2 ^ 44) :
  Ret X F lim f [.slice a n c] h fun v h' => Pfx h h' ∧ ∃ a', v = .slice a' n n ∧ Ap h.length h'.length 1 h' a' n (ints xs) := by
 have hL := Loc.start h
 refine Ret.body hX hF rfl ?_
 simp only [argL, rf_CopyInts]
 (refine Cs (Co (Wm rfl (Wn (Cs (Co ?_))))); dsimp only [zn, zr, zx, yn, yr])
 (refine Wc ?_; refine OL.buildSlice hL rfl (by simp [over, Value.cells]; rfl) rfl (fun b h1 hL => ?_))
 (refine Wm rfl ?_)
 (refine Wc ?_)
 refine OL.copy hL rfl (fun x hx => by injection hx with hx; subst hx; rfl) rfl (by (exact (Sl.pfx (by assumption) (Loc.pfx hL)))) (room8 (by omega)) (ints_ok xs) (fun a' h2 hp hL => ?_)
 (refine Wm rfl (Wn (WC.ret ?_)))
 exact Fin.ret rfl ⟨hL.pfx, a', rfl, hL.apOut (k := 0) rfl⟩
theorem LendInts_run {g0 : Nat} (hX : X f = none) (hF : F f = some (rf_LendInts g0)) (hX0 : X g0 = none) (hF0 : F g0 = some rf_CopyInts) {a : Option Addr} {n c : Nat} {xs : List Int} (ha : Sl 1 h a n c (ints xs)) (hn : n ≤ 2 ^ 44) (hlim : lim ≤ h.length) :
  Ret X F lim f [.slice a n c] h fun v h' => Pfx h h' ∧ ∃ b, h.length ≤ b ∧ v = .slice (some ⟨b, 0, some 1⟩) n (n + 2) ∧ h'[b]? = some (.cells (ints (xs ++ [-7777, -8888]))) := by
 have hL := Loc.start h
 refine Ret.body hX hF rfl ?_
 simp only [argL, rf_LendInts]
 (refine Cs (Co (Wm rfl (Wn (Cs (Co (Wm rfl ?_)))))); dsimp only [zn, zr, zx, yn, yr])
 (refine Wc ?_)
 refine OL.callAp hL rfl rfl (CopyInts_run hX0 hF0 ha hn) (fun a1 h1 hp hL => ?_)
 (refine Wc ?_; refine OL.buildSlice hL rfl (by simp [over, Value.cells]; rfl) rfl (fun b h2 hL => ?_))
 (refine Wc ?_)
 refine OL.append (k := 1) hL hlim rfl rfl rfl (by (exact (Loc.bxAt (k := 0) hL rfl rfl))) (by decide) (room8 (by omega)) rfl (fun a' h3 hL => ?_)
 obtain ⟨b3, rfl, hb1, hb2, hb3⟩ := Ap.pos (hL.apOut (k := 0) rfl) (by omega)
 (refine Wm rfl (Wn (Cs (Co (Wm rfl (Wm rfl (Wc (OP.lenS rfl ?_))))))); dsimp only [zn, zr, zx, yn, yr])
 (refine Wc ?_)
 refine OP.sliceS (i := 0) (j := n) rfl (.inr rfl) rfl ⟨_, rfl⟩ (by omega) (by omega) ?_
 (refine Wm rfl (Wn (WC.ret ?_)))
 refine Fin.ret rfl ⟨hL.pfx, b3, hb2, ?_, ?_⟩
 ·simp [resultOf]
 ·rw [hb1]; simp [ints]
theorem KeptInts_run {g0 : Nat} (hX : X f = none) (hF : F f = some (rf_KeptInts g0)) (hX0 : X g0 = none) (hF0 : F g0 = some rf_SameInts) {a : Option Addr} {b n m c : Nat} {xs ys : List Int} (hb : h[b]? = some (.cells (ints (ys ++ [-7777, -8888])))) (hy : ys.length = n) (ha : Sl 1 h a m c (ints xs)) (hn : n ≤ 2 ^ 44) (hxy : m = n) :
  Ret X F lim f [.slice (some ⟨b, 0, some 1⟩) n (n + 2), .slice a m c] h fun v h' => v = .bool (decide (ys = xs)) ∧ h' = h := by
 have hxn := ha.ilen
 have hS : Sl 1 h (some ⟨b, 0, some 1⟩) n (n + 2) (ints ys) := by
  refine ⟨?_, by omega, by rw [ints_len]; omega, fun h0 => by cases h0⟩
  simp only [aElems]
  rw [if_pos (by omega)]
  split
  ·rename_i h0
   have : ys = [] := List.eq_nil_of_length_eq_zero (by omega)
   rw [this]; rfl
  ·simp only [cellsOf, hb, Option.bind_some, List.drop_zero, ints_len, List.length_append, List.length_cons, List.length_nil]
   rw [if_pos (by omega)]
   simp [ints, ← hy]
 have hS2 : Sl 1 h (some ⟨b, 0, some 1⟩) (n + 2) (n + 2) (ints (ys ++ [-7777, -8888])) := by
  refine ⟨?_, by omega, by rw [ints_len]; simp; omega, fun h0 => by cases h0⟩
  simp only [aElems]
  rw [if_pos (by omega), if_neg (by omega)]
  simp only [cellsOf, hb, Option.bind_some, List.drop_zero, ints_len, List.length_append, List.length_cons, List.length_nil]
  rw [if_pos (by omega), List.take_of_length_le (by rw [ints_len]; simp; omega)]
 refine Ret.body hX hF rfl ?_
 simp only [argL, rf_KeptInts]
 (refine Cs (Co (Wm rfl (Wn (Cs (Co (Wm rfl (Wm rfl (Wc (OP.lenS rfl (Wc (OP.add rfl rfl (by omega) ?_))))))))))); dsimp only [zn, zr, zx, yn, yr])
 (refine Wc ?_)
 refine OP.sliceS (i := 0) (j := n + 2) rfl (.inr rfl) rfl ⟨_, rfl⟩ (by omega) (by omega) ?_
 simp only [Nat.zero_mul, Nat.add_zero, Nat.sub_zero]
 (refine Wm rfl (Wn (Cs (Co (Wm rfl (Wm rfl ?_))))); dsimp only [zn, zr, zx, yn, yr])
 (refine Wc ?_)
 refine OP.call rfl rfl (Ret.mono (SameInts_run hX0 hF0 hS ha (by omega)) fun v h' hv => ?_)
 obtain ⟨rfl, rfl⟩ := hv
 by_cases he : ys = xs
 ·subst he
  simp only [decide_true]
  (refine Wm rfl (WO.yes rfl (Wm rfl (WO.yes rfl (Wm rfl (WO.yes rfl (Wc (OP.lenS rfl (WO.yes rfl (Wc (OP.idxS (by assumption) rfl rfl (by omega) ?_)))))))))); refine WO.yes rfl ?_)
  (refine Wc ?_)
  refine OP.loadV (v := .int .i64 (-7777)) rfl (hS2.load1 (by simp [ints, ← hy, List.getElem?_append, hxn])) ?_
  (refine WO.yes rfl (Wc ?_))
  refine OP.eql rfl rfl ?_
  simp only [decide_true]
  (refine Wc (OP.pickT rfl rfl (Wm rfl (WO.yes rfl (Wm rfl (WO.yes rfl (Wm rfl (WO.yes rfl (Wc (OP.lenS rfl (WO.yes rfl (Wc (OP.add rfl rfl (by omega) ?_)))))))))))); refine WO.yes rfl (Wc (OP.idxZ (by assumption) rfl rfl (by omega) ?_)); refine WO.yes rfl ?_)
  (refine Wc ?_)
  refine OP.loadV (v := .int .i64 (-8888)) rfl (hS2.load1 (by simp [ints, ← hy, List.getElem?_append, hxn])) ?_
  (refine WO.yes rfl (Wc ?_))
  refine OP.eql rfl rfl ?_
  simp only [decide_true]
  (refine Wc (OP.pickT rfl rfl (Wm rfl (Wn (WC.ret ?_)))))
  exact Fin.ret rfl ⟨rfl, rfl⟩
 ·simp only [he, decide_false]
  (refine Wm rfl (WO.no rfl (WO.no rfl (WO.no rfl (WO.no rfl (WO.no rfl (WO.no rfl (Wc (OP.pickF rfl rfl (Wm rfl (WO.no rfl (WO.no rfl (WO.no rfl (WO.no rfl (WO.no rfl (WO.no rfl (WO.no rfl (Wc (OP.pickF rfl rfl (Wm rfl (Wn (WC.ret ?_))))))))))))))))))))))
  exact Fin.ret rfl ⟨rfl, rfl⟩
/-- What is written over lies where nobody looks. -/
theorem SpoilInts_run (hX : X f = none) (hF : F f = some rf_SpoilInts) {a : Option Addr} {n c lo hi : Nat} {xs : List Int} (ha : Sl 1 h a n c (ints xs)) (hw : Within lo hi 1 a n) (hlo : lim ≤ lo) (hn : n ≤ 2 ^ 44) :
  Ret X F lim f [.slice a n c] h fun v h' => h'.length = h.length ∧ ∀ b, (b < lo ∨ hi ≤ b) → h'[b]? = h[b]? := by
 refine Ret.body hX hF rfl ?_
 simp only [argL, rf_SpoilInts]
 (refine Cs (Co (Wm rfl (Wn (WC.block ?_)))))
 refine WC.loop (fun p : Nat × AH => p.1 ≤ n ∧ (∃ ys, Sl 1 p.2 a n c (ints ys)) ∧ p.2.length = h.length ∧ ∀ b, (b < lo ∨ hi ≤ b) → p.2[b]? = h[b]?) (fun p => [(2, .int .i64 (p.1 : Int)), (0, .slice a n c)]) (fun p => p.2) (fun p => n - p.1) ?_ (0, h) ⟨Nat.zero_le _, ⟨xs, ha⟩, rfl, fun _ _ => rfl⟩ (by (refine Sub.cons rfl (Sub.cons rfl ?_); exact Sub.nil _)) rfl
 intro ⟨i, h1⟩ ⟨hi1, ⟨ys, hys⟩, hlen, hk⟩
 have hyn := hys.ilen
 simp only at hi1 hlen hk hys ⊢
 (refine Cs (Cs (Co (Wm rfl (Wm rfl (Wc (OP.lenS rfl (Wc (OP.bin rfl rfl rfl (Wt ?_))))))))))
 refine WC.condP rfl (fun hlt => ?_) (fun hlt => ?_)
 ·(refine WC.skip (Cs (WC.block (Co (Wm rfl (Wm rfl (Wm rfl (Wm rfl (Wc (OP.idxS (by assumption) rfl rfl (by omega) ?_))))))))); refine Wc (OP.ldI (by assumption) rfl (by omega) ?_); refine Wc (OP.bin rfl rfl rfl (Wc (OP.idxS (by assumption) rfl rfl (by omega) ?_))); dsimp only [zn, zr, zx, yn, yr])
  (refine WO.cons0 ?_)
  refine OP.storeE hys hw hlo rfl rfl (by omega) rfl (fun h2 h3 h4 h5 => ?_)
  rw [ints_set] at h3
  (refine Wn (Co (Wm rfl (Wc (OP.add rfl rfl (by omega) ?_)))); refine Wm rfl (Wt ?_))
  exact ⟨(i + 1, h2), ⟨by omega, ⟨_, h3⟩, by simp only; omega, fun b hb => by rw [h5 b hb, hk b hb]⟩, by (refine Sub.cons rfl (Sub.cons rfl ?_); exact Sub.nil _), rfl, by omega⟩
 ·(refine WC.exit ?_; dsimp only [zn, zr, zx, yn, yr]; rw [yx, if_pos rfl])
  exact Fin.normal rfl ⟨hlen, hk⟩
end
end Go.Proofs.YtdcpmchhioilpaaW.Ai
