/-
 Queues by the document (chapters 5, 6), as the small machine runs them.
-/
import Derived.Test.YtalknjppnkpmmaaDoorFn31
import Derived.Test.YtalknjppnkpmmaaDoorFn33
import Derived.Test.YtalknjppnkpmmaaDoorFn24
set_option linter.unusedVariables false
set_option linter.unusedSimpArgs false
set_option maxHeartbeats 4000000
set_option maxRecDepth 100000
namespace Go.Proofs.YtalknjppnkpmmaaDoorW.Ai
section
def rf_queueRow : RFunc :=
 ⟨33, [(.tmp 4), (.tmp 5)], (.seq (.ops [rO 3 (.box (.tmp 1)), rO 4 (.mv (.const (.slice .none 0 0))), rO 5 (.mv (.const (.int .i64 0)))]) (.seq (.seq (.ops [rO 7 (.fieldAddr 0 (.tmp 3)), rO 8 (.load .none (.tmp 7)), rO 9 (.bin .eql (.tmp 8) (.const (.int .i64 0)))]) (.cond (.tmp 9) (.seq (.seq (.ops [rO 10 (.mv (.tmp 0)), rO 11 (.len 1 (.tmp 10)), rO 12 (.bin .geq (.tmp 11) (.const (.int .i64 4)))]) (.cond (.tmp 12) (.seq (.ops [rO 13 (.mv (.tmp 0)), rO 4 (.mv (.tmp 13)), rO 5 (.mv (.const (.int .i64 0)))]) .ret) .skip)) (.seq (.ops [rO 14 (.buildSlice [] 0 []), rO 15 (.mv (.tmp 0)), rO 16 (.append 1 8 (.tmp 14) (.tmp 15)), rO 6 (.mv (.tmp 16))]) (.seq (.ops [rO 17 (.mv (.tmp 6)), rO 18 (.fieldAddr 2 (.tmp 3)), rO 19 (.load .none (.tmp 18)), rO 20 (.buildSlice [(.int .i64 0)] 1 [(0, (1, (.tmp 19)))]), rO 21 (.append 1 8 (.tmp 17) (.tmp 20)), rO 6 (.mv (.tmp 21))]) (.seq (.ops [rO 22 (.mv (.tmp 6)), rO 4 (.mv (.tmp 22)), rO 5 (.mv (.const (.int .i64 1)))]) .ret)))) .skip)) (.seq (.seq (.ops [rO 23 (.mv (.tmp 0)), rO 24 (.len 1 (.tmp 23)), rO 25 (.bin .eql (.tmp 24) (.const (.int .i64 0)))]) (.cond (.tmp 25) (.seq (.ops [rO 4 (.mv (.const (.slice .none 0 0))), rO 5 (.mv (.const (.int .i64 (-1))))]) .ret) .skip)) (.seq (.ops [⟨(.some 26), (.buildSlice [] 0 []), .none, true, []⟩, ⟨(.some 27), (.mv (.tmp 0)), .none, true, []⟩, ⟨(.some 28), (.slice 1 (.tmp 27) (.some (.const (.int .i64 1))) .none .none), .none, true, []⟩, ⟨(.some 29), (.append 1 8 (.tmp 26) (.tmp 28)), .none, true, []⟩, ⟨(.some 30), (.mv (.tmp 0)), .none, true, []⟩, ⟨(.some 31), (.idxAddr 1 (.tmp 30) (.const (.int .i64 0))), .none, true, []⟩, ⟨(.some 32), (.load .none (.tmp 31)), .none, true, []⟩, ⟨(.some 4), (.mv (.tmp 29)), .none, true, []⟩, rO 5 (.mv (.tmp 32))]) .ret))))⟩
section
variable (X : Ext) (F : FuncId → Option RFunc) (g : FuncId)
abbrev S_qRow0f : Prop := ∀ (lim : Nat) (h : AH) {a : Option Addr} {r x : Int}, Ret X F lim g [.slice a 4 4, .agg #[.int .i64 0, .int .i64 r, .int .i64 x]] h fun v h' => Pfx h h' ∧ v = .tuple #[.slice a 4 4, .int .i64 0]
abbrev S_qRow0 : Prop := ∀ (lim : Nat) (h : AH) {a : Option Addr} {n : Nat} {xs : List Int} {r x : Int}, lim ≤ h.length → Sl 1 h a n n (ints xs) → n < 4 → Ret X F lim g [.slice a n n, .agg #[.int .i64 0, .int .i64 r, .int .i64 x]] h fun v h' => Pfx h h' ∧ Made 1 h h' (fun a n => .tuple #[.slice a n n, .int .i64 1]) (ints (xs ++ [x])) v
abbrev S_qRow1e : Prop := ∀ (lim : Nat) (h : AH) {a : Option Addr} {r x : Int}, Ret X F lim g [.slice a 0 0, .agg #[.int .i64 1, .int .i64 r, .int .i64 x]] h fun v h' => Pfx h h' ∧ v = .tuple #[.slice none 0 0, .int .i64 (-1)]
abbrev S_qRow1 : Prop := ∀ (lim : Nat) (h : AH) {b o n : Nat} {y : Int} {xs : List Int} {r x : Int}, lim ≤ h.length → Sl 1 h (some ⟨b, o, some 1⟩) n n (ints (y :: xs)) → n ≤ 4 → Ret X F lim g [.slice (some ⟨b, o, some 1⟩) n n, .agg #[.int .i64 1, .int .i64 r, .int .i64 x]] h fun v h' => Pfx h h' ∧ Made 1 h h' (fun a n => .tuple #[.slice a n n, .int .i64 y]) (ints xs) v
abbrev S_queueRow : Prop := (S_qRow0f X F g ∧ S_qRow0 X F g) ∧ S_qRow1e X F g ∧ S_qRow1 X F g
abbrev S_rApplyQ : Prop := ∀ (lim : Nat) (h : AH) {r0 r1 r2 r3 : Row} {c r a e : Int}, lim ≤ h.length → St h r0 r1 r2 r3 → Ret X F lim g [.int .i64 2, stV r0 r1 r2 r3, .agg #[.int .i64 c, .int .i64 r, .int .i64 a], .int .i64 e] h fun v h' => Pfx h h' ∧ MadeS h h' (fun s0 s1 s2 s3 => .tuple #[stV s0 s1 s2 s3, .int .i64 (QueueM e ⟨r0.xs, r1.xs, r2.xs, r3.xs⟩ c r a).2.1, .int .i64 (QueueM e ⟨r0.xs, r1.xs, r2.xs, r3.xs⟩ c r a).2.2]) (QueueM e ⟨r0.xs, r1.xs, r2.xs, r3.xs⟩ c r a).1 v
end
theorem Sl.tail {h : AH} {a : Option Addr} {n : Nat} {y : Int} {xs : List Int} (hs : Sl 1 h a n n (ints (y :: xs))) : ∃ b o m, a = some ⟨b, o, m⟩ ∧ Sl 1 h (some ⟨b, o + 1 * 1, m⟩) (n - 1) (n - 1) (ints xs) := by
 have hl := hs.ilen
 simp at hl
 obtain ⟨b, o, m, ds, rfl, h1, h2, h3⟩ := hs.cells (by omega) (by omega)
 refine ⟨b, o, m, rfl, ?_, Nat.le_refl _, by rw [ints_len]; omega, fun h0 => by cases h0⟩
 have e : ints xs = (ds.drop (o + 1 * 1)).take ((n - 1) * 1) := by
  have : (ints (y :: xs)).drop 1 = ints xs := rfl
  rw [← this, h3, List.drop_take, List.drop_drop]
  congr 1 <;> omega
 simp only [aElems]
 rw [if_pos (Nat.le_refl _)]
 by_cases h0 : (n - 1) * 1 = 0
 ·rw [if_pos h0]
  have : xs = [] := List.eq_nil_of_length_eq_zero (by omega)
  rw [this]; rfl
 ·rw [if_neg h0]
  simp only [cellsOf, h1, Option.bind_some]
  rw [if_pos (by omega), e]
section
variable {X : Ext} {F : FuncId → Option RFunc} {f : FuncId}
theorem s_queueRow (hX : X f = none) (hF : F f = some rf_queueRow) : S_queueRow X F f := by
 refine ⟨⟨?_, ?_⟩, ?_, ?_⟩
 ·intro lim h a r x
  have hL := Loc.start h
  refine Ret.body hX hF rfl ?_
  simp only [argL, rf_queueRow]
  (refine Cs (Co (Wc ?_)); refine OL.boxA hL rfl rfl (fun b h' hL => (Wm rfl (Wm rfl (Wt ?_)))); refine Cs (Cs (Co (Wc (OP.fieldAddr0 rfl (Wc (OL.load1 (k := 0) hL rfl rfl rfl (Wc (OP.eqlT rfl rfl (by omega) ?_)))))))); refine Wt ?_; refine WC.condT rfl (Cs (Cs (Co (Wm rfl (Wc (OP.lenS rfl (Wc (OP.geqT rfl rfl (by omega) ?_)))))))); refine Wt ?_; refine WC.condT rfl (Cs (Co (Wm rfl (Wm rfl (Wm rfl (Wt ?_)))))); refine WC.ret ?_; dsimp only [zn, zr, zx, yn, yr]; exact Fin.ret rfl ⟨hL.pfx, rfl⟩)
 ·intro lim h a n xs r x hlim ha hn
  have hL := Loc.start h
  refine Ret.body hX hF rfl ?_
  simp only [argL, rf_queueRow]
  (refine Cs (Co (Wc ?_)); refine OL.boxA hL rfl rfl (fun b h' hL => (Wm rfl (Wm rfl (Wt ?_)))); refine Cs (Cs (Co (Wc (OP.fieldAddr0 rfl (Wc (OL.load1 (k := 0) hL rfl rfl rfl (Wc (OP.eqlT rfl rfl (by omega) ?_)))))))); refine Wt ?_; refine WC.condT rfl (Cs (Cs (Co (Wm rfl (Wc (OP.lenS rfl (Wc (OP.geqF rfl rfl (by omega) ?_)))))))); refine Wt ?_; refine WC.condF rfl (Ks ?_); refine Cs (Co (Wc ?_)); refine OL.buildSlice hL rfl (by simp [over, Value.cells]; rfl) rfl (fun b h' hL => ?_); refine Wm rfl (Wc ?_); refine OL.copy hL rfl (fun x hx => by cases hx; rfl) rfl (Sl.pfx (by assumption) (Loc.pfx hL)) ⟨by omega, by omega, by omega⟩ (ints_ok _) (fun a' h' hp hL => ?_); refine Wm rfl (Wt ?_); refine Cs (Co (Wm rfl (Wc (OP.fieldAddr0 rfl (Wc (OL.load1 (k := 2) hL rfl rfl rfl (Wc ?_))))))); refine OL.buildSlice hL rfl (by simp [over, Value.cells]; rfl) rfl (fun b h' hL => ?_); refine Wc ?_; refine OL.append (k := 1) hL hlim rfl rfl rfl (Loc.bxAt (k := 0) hL rfl rfl) (by omega) ⟨by omega, by omega, by omega⟩ rfl (fun a' h' hL => ?_); dsimp only [List.eraseIdx] at hL; refine Wm rfl (Wt ?_); refine Cs (Co (Wm rfl (Wm rfl (Wm rfl (Wt ?_))))); refine WC.ret ?_; dsimp only [zn, zr, zx, yn, yr])
  rw [ints_snoc xs x] at hL
  exact Fin.ret rfl ⟨hL.pfx, _, _, rfl, hL.apOut' (k := 0) rfl⟩
 ·intro lim h a r x
  have hL := Loc.start h
  refine Ret.body hX hF rfl ?_
  simp only [argL, rf_queueRow]
  (refine Cs (Co (Wc ?_)); refine OL.boxA hL rfl rfl (fun b h' hL => (Wm rfl (Wm rfl (Wt ?_)))); refine Cs (Cs (Co (Wc (OP.fieldAddr0 rfl (Wc (OL.load1 (k := 0) hL rfl rfl rfl (Wc (OP.eqlF rfl rfl (by omega) ?_)))))))); refine Wt ?_; refine WC.condF rfl (Ks ?_); refine Cs (Cs (Co (Wm rfl (Wc (OP.lenS rfl (Wc (OP.eqlT rfl rfl (by omega) ?_))))))); refine Wt ?_; refine WC.condT rfl (Cs (Co (Wm rfl (Wm rfl (Wt ?_))))); refine WC.ret ?_; dsimp only [zn, zr, zx, yn, yr]; exact Fin.ret rfl ⟨hL.pfx, rfl⟩)
 ·intro lim h b o n y xs r x hlim ha hn
  have hL := Loc.start h
  have hl := ha.ilen
  simp at hl
  obtain ⟨b', o', m', hbo, ht⟩ := ha.tail
  cases hbo
  have hpos : 0 < (y :: xs).length := by simp
  refine Ret.body hX hF rfl ?_
  simp only [argL, rf_queueRow]
  (refine Cs (Co (Wc ?_)); refine OL.boxA hL rfl rfl (fun b h' hL => (Wm rfl (Wm rfl (Wt ?_)))); refine Cs (Cs (Co (Wc (OP.fieldAddr0 rfl (Wc (OL.load1 (k := 0) hL rfl rfl rfl (Wc (OP.eqlF rfl rfl (by omega) ?_)))))))); refine Wt ?_; refine WC.condF rfl (Ks ?_); refine Cs (Cs (Co (Wm rfl (Wc (OP.lenS rfl (Wc (OP.eqlF rfl rfl (by omega) ?_))))))); refine Wt ?_; refine WC.condF rfl (Ks ?_); refine Cs (Co (WO.consQ ?_)); refine OL.buildSlice hL rfl (by simp [over, Value.cells]; rfl) rfl (fun b h' hL => ?_); refine WO.consQ (OP.mv rfl ?_))
  (refine WO.consQ ?_)
  refine OP.sliceS (i := 1) (j := n) rfl (.inr rfl) ⟨_, rfl⟩ rfl (by omega) (by omega) ?_
  (refine WO.consQ ?_; refine OL.copy hL rfl (fun x hx => by cases hx; rfl) rfl (Sl.pfx (by assumption) (Loc.pfx hL)) ⟨by omega, by omega, by omega⟩ (ints_ok _) (fun a' h' hp hL => ?_); refine WO.consQ (OP.mv rfl (WO.consQ (OP.idxZ (Sl.pfx (by assumption) (Loc.pfx hL)) rfl rfl (by omega) ?_))); refine WO.consQ (OP.ldI (Sl.pfx (by assumption) (Loc.pfx hL)) rfl (by omega) ?_); refine WO.consQ (OP.mv rfl (Wm rfl (Wt ?_))); refine WC.ret ?_)
  exact Fin.ret rfl ⟨hL.pfx, _, _, rfl, hL.apOut' (k := 0) rfl⟩
theorem s_rApplyQ {g0 g1 g2 g3 g4 g5 g6 : Nat} (hX : X f = none) (hF : F f = some (rf_rApply g0 g1 g2 g3 g4 g5 g6)) (c0' : S_StateMay X F g0) (c1 : S_OperMay X F g1) (hX2 : X g2 = none) (hF2 : F g2 = some rf_rCopyState) (c3' : S_queueRow X F g6) : S_rApplyQ X F f := by
 intro lim h r0 r1 r2 r3 c r a e hlim hst
 have hL := Loc.start h
 have k2 : S_CopyP X F g2 := copyPr hX2 hF2
 have c0 : ∀ lim h', Pfx h h' → Ret X F lim g0 [.int .i64 2, stV r0 r1 r2 r3] h' fun v h'' => Pfx h' h'' ∧ v = .bool (decide (QueueOk ⟨r0.xs, r1.xs, r2.xs, r3.xs⟩)) := fun lim h' hp => c0' lim h' (m := 4) (.inr ⟨rfl, rfl⟩) (hst.pfx hp)
 obtain ⟨⟨s0, l0⟩, ⟨s1, l1⟩, ⟨s2, l2⟩, ⟨s3, l3⟩⟩ := id hst
 have e0 := s0.ilen
 have e1 := s1.ilen
 have e2 := s2.ilen
 have e3 := s3.ilen
 have z1 : ¬ (QueueOk ⟨r0.xs, r1.xs, r2.xs, r3.xs⟩ ∧ OpOk c r a) → QueueM e ⟨r0.xs, r1.xs, r2.xs, r3.xs⟩ c r a = (S4.none, 0, e) := fun hh => if_neg hh
 refine Ret.body hX hF rfl ?_
 simp only [argL, rf_rApply]
 (refine Cs (Co ?_); dsimp only [zn, zr, zx, yn, yr])
 (refine Wc ?_; refine OL.boxA hL rfl rfl (fun B5 h1 hL => ?_))
 (refine Wc ?_; refine OL.boxA hL rfl rfl (fun B6 h2 hL => ?_))
 (refine Wc ?_; refine OL.new hL (fun B8 h3 hL => ?_))
 (refine Wm rfl (Wm rfl (Wn (Cs (Cs (Co (Wm rfl (Wc (OL.loadAll (k := 2) hL rfl rfl rfl (Wc ?_))))))))); refine OL.callB hL rfl rfl (c0 _ _ hL.pfx) (fun h' hp hL hc => ?_) (fun h' hp hL hc => ?_); refine Wc (OP.not rfl (Wm rfl (WO.yes rfl (Wc (OL.loadAll (k := 1) hL rfl rfl rfl (WO.yes rfl (Wc ?_))))))); refine OL.callB hL rfl rfl (c1 _ _) (fun h' hp hL hc => ?_) (fun h' hp hL hc => ?_); refine WO.yes rfl (Wc (OP.not rfl (Wc (OP.pickF rfl rfl (Wt ?_))))); refine WC.condF rfl (Ks ?_); refine Cs (Co (Wc (OL.loadAll (k := 2) hL rfl rfl rfl ?_))))
 have hc1 : QueueOk ⟨r0.xs, r1.xs, r2.xs, r3.xs⟩ := by assumption
 have hlen : ((r0.xs.length : Int) ≤ 4 ∧ ArgsOk r0.xs) ∧ ((r1.xs.length : Int) ≤ 4 ∧ ArgsOk r1.xs) ∧ ((r2.xs.length : Int) ≤ 4 ∧ ArgsOk r2.xs) ∧ ((r3.xs.length : Int) ≤ 4 ∧ ArgsOk r3.xs) := hc1
 have hln : r0.xs.length ≤ 4 ∧ r1.xs.length ≤ 4 ∧ r2.xs.length ≤ 4 ∧ r3.xs.length ≤ 4 := ⟨by have := hlen.1.1; omega, by have := hlen.2.1.1; omega, by have := hlen.2.2.1.1; omega, by have := hlen.2.2.2.1; omega⟩
 have u0 := sumL_full hlen.1.2
 have u1 := sumL_full hlen.2.1.2
 have u2 := sumL_full hlen.2.2.1.2
 have u3 := sumL_full hlen.2.2.2.2
 have zc0 : c = 0 → ¬ (S4.get ⟨r0.xs, r1.xs, r2.xs, r3.xs⟩ r).length ≥ 4 → QueueM e ⟨r0.xs, r1.xs, r2.xs, r3.xs⟩ c r a = (S4.put ⟨r0.xs, r1.xs, r2.xs, r3.xs⟩ r (S4.get ⟨r0.xs, r1.xs, r2.xs, r3.xs⟩ r ++ [a]), 1, 0) := fun h h2 => (if_pos ⟨hc1, by assumption⟩).trans ((if_pos h).trans (if_neg h2))
 have zc0f : c = 0 → (S4.get ⟨r0.xs, r1.xs, r2.xs, r3.xs⟩ r).length ≥ 4 → QueueM e ⟨r0.xs, r1.xs, r2.xs, r3.xs⟩ c r a = (⟨r0.xs, r1.xs, r2.xs, r3.xs⟩, 0, 0) := fun h h2 => (if_pos ⟨hc1, by assumption⟩).trans ((if_pos h).trans (if_pos h2))
 have zc1 : c = 1 → QueueM e ⟨r0.xs, r1.xs, r2.xs, r3.xs⟩ c r a = (S4.put ⟨r0.xs, r1.xs, r2.xs, r3.xs⟩ r (S4.get ⟨r0.xs, r1.xs, r2.xs, r3.xs⟩ r).tail, firstL (S4.get ⟨r0.xs, r1.xs, r2.xs, r3.xs⟩ r), 0) := fun h => (if_pos ⟨hc1, by assumption⟩).trans ((if_neg (by omega)).trans (if_pos h))
 have zc2 : c = 2 → QueueM e ⟨r0.xs, r1.xs, r2.xs, r3.xs⟩ c r a = (⟨r0.xs, r1.xs, r2.xs, r3.xs⟩, ((S4.get ⟨r0.xs, r1.xs, r2.xs, r3.xs⟩ r).length : Int), 0) := fun h => (if_pos ⟨hc1, by assumption⟩).trans ((if_neg (by omega)).trans ((if_neg (by omega)).trans (if_pos h)))
 have zc3 : c = 3 → QueueM e ⟨r0.xs, r1.xs, r2.xs, r3.xs⟩ c r a = (⟨r0.xs, r1.xs, r2.xs, r3.xs⟩, ((allL ⟨r0.xs, r1.xs, r2.xs, r3.xs⟩).length : Int), 0) := fun h => (if_pos ⟨hc1, by assumption⟩).trans ((if_neg (by omega)).trans ((if_neg (by omega)).trans (if_neg (by omega))))
 clear z1
 (refine Wc ?_)
 refine OL.callS4 hL rfl rfl (k2 _ _ (hL.lm hlim) (hst.pfx hL.pfx)) (fun a0 n0 a1 n1 a2 n2 a3 n3 l1' l2' l3' h' hy hp hL => ?_)
 dsimp only at hL hy ⊢
 (refine Wc ?_; refine OL.new hL (fun b h' hL => (WO.cons0 ?_)); refine OL.storeAll (k := 0) hL hlim rfl rfl rfl rfl rfl rfl (by decide) rfl (fun h' hL => ?_); dsimp only [List.set, Nat.zero_add, Nat.reduceAdd, Nat.reduceMul] at hL; refine Wt ?_; refine Cs (Co (Wm rfl (Wm rfl (Wt ?_)))); refine Cs (Cs (Co (Wm rfl (Wt ?_)))); refine WC.block ?_)
 refine WC.unroll ?_
 (refine Cs (Cs (Co (Wm rfl (Wc (OP.lssT rfl rfl (by omega) ?_))))); refine Wt ?_; refine WC.condT rfl (Ks ?_); refine Cs (WC.block (Cs (Co (Wm rfl (Wm rfl (Wc (OP.fieldAddr0 rfl (Wc (OP.idxArrZ rfl rfl (by decide) (by simp only [Int.reduceToNat, Nat.mul_one, Nat.zero_add, Nat.reduceMul, Nat.reduceAdd]; rfl) ?_))))))))); refine Wc (OL.load1 (k := 7) hL rfl rfl rfl (Wc (OP.lenS rfl (Wc (OP.add rfl rfl (by omega) ?_))))); refine Wm rfl (Wt ?_); refine Cs (Co (Wm rfl (Wt ?_))); refine WC.block ?_)
 refine WC.loop (fun j : Nat => j ≤ r0.n) (fun j => [(15, .int .i64 (j : Int)), (12, .int .i64 (0 + sumL (r0.xs.take j))), (13, .int .i64 (0 + (r0.n : Int))), (14, .int .i64 0), (5, .pointer (some ⟨B5, 0, none⟩)), (6, .pointer (some ⟨B6, 0, none⟩)), (8, .pointer (some ⟨B8, 0, none⟩)), (11, .pointer (some ⟨b, 0, none⟩)), (0, .int .i64 2), (3, .int .i64 e)]) (fun _ => h') (fun j => r0.n - j) ?_ 0 (Nat.zero_le _) (by rw [List.take_zero, show sumL [] = 0 from rfl, Int.add_zero]; (refine Sub.cons rfl (Sub.cons rfl (Sub.cons rfl (Sub.cons rfl (Sub.cons rfl (Sub.cons rfl (Sub.cons rfl (Sub.cons rfl (Sub.cons rfl (Sub.cons rfl ?_))))))))); exact Sub.nil _)) rfl
 intro j hj
 have hs := sumL_rng hlen.1.2 j (by omega)
 by_cases hlt : (j : Int) < r0.n
 ·have hjl : j < r0.xs.length := by omega
  have hxi := hlen.1.2 _ (List.getElem_mem hjl)
  (refine Cs (Cs (Co (Wm rfl (Wm rfl (Wc (OP.fieldAddr0 rfl (Wc (OP.idxArrZ rfl rfl (by decide) (by simp only [Int.reduceToNat, Nat.mul_one, Nat.zero_add, Nat.reduceMul, Nat.reduceAdd]; rfl) ?_)))))))); refine Wc (OL.load1 (k := 7) hL rfl rfl rfl (Wc (OP.lenS rfl (Wc (OP.lssT rfl rfl (by omega) ?_))))); refine Wt ?_; refine WC.condT rfl (Ks ?_); refine Cs (WC.block (Co (Wm rfl (Wm rfl (Wc (OP.fieldAddr0 rfl (Wc (OP.idxArrZ rfl rfl (by decide) (by simp only [Int.reduceToNat, Nat.mul_one, Nat.zero_add, Nat.reduceMul, Nat.reduceAdd]; rfl) ?_)))))))); refine Wc (OL.load1 (k := 7) hL rfl rfl rfl (Wm rfl (Wc (OP.idxS (Sl.pfx (by assumption) (Loc.pfx hL)) rfl rfl (by omega) ?_)))); refine Wc (OP.ldI (Sl.pfx (by assumption) (Loc.pfx hL)) rfl (by omega) ?_); refine Wc (OP.add rfl rfl (by omega) ?_); refine Wm rfl (Wt ?_); refine Co (Wm rfl (Wc (OP.add rfl rfl (by omega) ?_))); refine Wm rfl (Wt ?_))
  refine ⟨j + 1, by omega, ?_, rfl, by omega⟩
  rw [sumL_snoc hjl, ← Int.add_assoc]
  (refine Sub.cons rfl (Sub.cons rfl (Sub.cons rfl (Sub.cons rfl (Sub.cons rfl (Sub.cons rfl (Sub.cons rfl (Sub.cons rfl (Sub.cons rfl (Sub.cons rfl ?_))))))))); exact Sub.nil _)
 rw [List.take_of_length_le (by omega)]
 clear hs
 (refine Cs (Cs (Co (Wm rfl (Wm rfl (Wc (OP.fieldAddr0 rfl (Wc (OP.idxArrZ rfl rfl (by decide) (by simp only [Int.reduceToNat, Nat.mul_one, Nat.zero_add, Nat.reduceMul, Nat.reduceAdd]; rfl) ?_)))))))); refine Wc (OL.load1 (k := 7) hL rfl rfl rfl (Wc (OP.lenS rfl (Wc (OP.lssF rfl rfl (by omega) ?_))))); refine Wt ?_; refine WC.condF rfl (WC.exit ?_); dsimp only [zn, zr, zx, yn, yr]; rw [yx, if_pos rfl]; dsimp only [zn, zr, zx, yn, yr]; refine Co (Wm rfl (Wc (OP.addL rfl rfl (by simp only [Int.reduceAdd]; rfl) (by decide) ?_))); refine Wm rfl (Wt ?_))
 refine WC.unroll ?_
 (refine Cs (Cs (Co (Wm rfl (Wc (OP.lssT rfl rfl (by omega) ?_))))); refine Wt ?_; refine WC.condT rfl (Ks ?_); refine Cs (WC.block (Cs (Co (Wm rfl (Wm rfl (Wc (OP.fieldAddr0 rfl (Wc (OP.idxArrZ rfl rfl (by decide) (by simp only [Int.reduceToNat, Nat.mul_one, Nat.zero_add, Nat.reduceMul, Nat.reduceAdd]; rfl) ?_))))))))); refine Wc (OL.load1 (k := 7) hL rfl rfl rfl (Wc (OP.lenS rfl (Wc (OP.add rfl rfl (by omega) ?_))))); refine Wm rfl (Wt ?_); refine Cs (Co (Wm rfl (Wt ?_))); refine WC.block ?_)
 refine WC.loop (fun j : Nat => j ≤ r1.n) (fun j => [(15, .int .i64 (j : Int)), (12, .int .i64 (0 + sumL r0.xs + sumL (r1.xs.take j))), (13, .int .i64 (0 + (r0.n : Int) + (r1.n : Int))), (14, .int .i64 1), (5, .pointer (some ⟨B5, 0, none⟩)), (6, .pointer (some ⟨B6, 0, none⟩)), (8, .pointer (some ⟨B8, 0, none⟩)), (11, .pointer (some ⟨b, 0, none⟩)), (0, .int .i64 2), (3, .int .i64 e)]) (fun _ => h') (fun j => r1.n - j) ?_ 0 (Nat.zero_le _) (by rw [List.take_zero, show sumL [] = 0 from rfl, Int.add_zero]; (refine Sub.cons rfl (Sub.cons rfl (Sub.cons rfl (Sub.cons rfl (Sub.cons rfl (Sub.cons rfl (Sub.cons rfl (Sub.cons rfl (Sub.cons rfl (Sub.cons rfl ?_))))))))); exact Sub.nil _)) rfl
 intro j hj
 have hs := sumL_rng hlen.2.1.2 j (by omega)
 by_cases hlt : (j : Int) < r1.n
 ·have hjl : j < r1.xs.length := by omega
  have hxi := hlen.2.1.2 _ (List.getElem_mem hjl)
  (refine Cs (Cs (Co (Wm rfl (Wm rfl (Wc (OP.fieldAddr0 rfl (Wc (OP.idxArrZ rfl rfl (by decide) (by simp only [Int.reduceToNat, Nat.mul_one, Nat.zero_add, Nat.reduceMul, Nat.reduceAdd]; rfl) ?_)))))))); refine Wc (OL.load1 (k := 7) hL rfl rfl rfl (Wc (OP.lenS rfl (Wc (OP.lssT rfl rfl (by omega) ?_))))); refine Wt ?_; refine WC.condT rfl (Ks ?_); refine Cs (WC.block (Co (Wm rfl (Wm rfl (Wc (OP.fieldAddr0 rfl (Wc (OP.idxArrZ rfl rfl (by decide) (by simp only [Int.reduceToNat, Nat.mul_one, Nat.zero_add, Nat.reduceMul, Nat.reduceAdd]; rfl) ?_)))))))); refine Wc (OL.load1 (k := 7) hL rfl rfl rfl (Wm rfl (Wc (OP.idxS (Sl.pfx (by assumption) (Loc.pfx hL)) rfl rfl (by omega) ?_)))); refine Wc (OP.ldI (Sl.pfx (by assumption) (Loc.pfx hL)) rfl (by omega) ?_); refine Wc (OP.add rfl rfl (by omega) ?_); refine Wm rfl (Wt ?_); refine Co (Wm rfl (Wc (OP.add rfl rfl (by omega) ?_))); refine Wm rfl (Wt ?_))
  refine ⟨j + 1, by omega, ?_, rfl, by omega⟩
  rw [sumL_snoc hjl, ← Int.add_assoc]
  (refine Sub.cons rfl (Sub.cons rfl (Sub.cons rfl (Sub.cons rfl (Sub.cons rfl (Sub.cons rfl (Sub.cons rfl (Sub.cons rfl (Sub.cons rfl (Sub.cons rfl ?_))))))))); exact Sub.nil _)
 rw [List.take_of_length_le (by omega)]
 clear hs
 (refine Cs (Cs (Co (Wm rfl (Wm rfl (Wc (OP.fieldAddr0 rfl (Wc (OP.idxArrZ rfl rfl (by decide) (by simp only [Int.reduceToNat, Nat.mul_one, Nat.zero_add, Nat.reduceMul, Nat.reduceAdd]; rfl) ?_)))))))); refine Wc (OL.load1 (k := 7) hL rfl rfl rfl (Wc (OP.lenS rfl (Wc (OP.lssF rfl rfl (by omega) ?_))))); refine Wt ?_; refine WC.condF rfl (WC.exit ?_); dsimp only [zn, zr, zx, yn, yr]; rw [yx, if_pos rfl]; dsimp only [zn, zr, zx, yn, yr]; refine Co (Wm rfl (Wc (OP.addL rfl rfl (by simp only [Int.reduceAdd]; rfl) (by decide) ?_))); refine Wm rfl (Wt ?_))
 refine WC.unroll ?_
 (refine Cs (Cs (Co (Wm rfl (Wc (OP.lssT rfl rfl (by omega) ?_))))); refine Wt ?_; refine WC.condT rfl (Ks ?_); refine Cs (WC.block (Cs (Co (Wm rfl (Wm rfl (Wc (OP.fieldAddr0 rfl (Wc (OP.idxArrZ rfl rfl (by decide) (by simp only [Int.reduceToNat, Nat.mul_one, Nat.zero_add, Nat.reduceMul, Nat.reduceAdd]; rfl) ?_))))))))); refine Wc (OL.load1 (k := 7) hL rfl rfl rfl (Wc (OP.lenS rfl (Wc (OP.add rfl rfl (by omega) ?_))))); refine Wm rfl (Wt ?_); refine Cs (Co (Wm rfl (Wt ?_))); refine WC.block ?_)
 refine WC.loop (fun j : Nat => j ≤ r2.n) (fun j => [(15, .int .i64 (j : Int)), (12, .int .i64 (0 + sumL r0.xs + sumL r1.xs + sumL (r2.xs.take j))), (13, .int .i64 (0 + (r0.n : Int) + (r1.n : Int) + (r2.n : Int))), (14, .int .i64 2), (5, .pointer (some ⟨B5, 0, none⟩)), (6, .pointer (some ⟨B6, 0, none⟩)), (8, .pointer (some ⟨B8, 0, none⟩)), (11, .pointer (some ⟨b, 0, none⟩)), (0, .int .i64 2), (3, .int .i64 e)]) (fun _ => h') (fun j => r2.n - j) ?_ 0 (Nat.zero_le _) (by rw [List.take_zero, show sumL [] = 0 from rfl, Int.add_zero]; (refine Sub.cons rfl (Sub.cons rfl (Sub.cons rfl (Sub.cons rfl (Sub.cons rfl (Sub.cons rfl (Sub.cons rfl (Sub.cons rfl (Sub.cons rfl (Sub.cons rfl ?_))))))))); exact Sub.nil _)) rfl
 intro j hj
 have hs := sumL_rng hlen.2.2.1.2 j (by omega)
 by_cases hlt : (j : Int) < r2.n
 ·have hjl : j < r2.xs.length := by omega
  have hxi := hlen.2.2.1.2 _ (List.getElem_mem hjl)
  (refine Cs (Cs (Co (Wm rfl (Wm rfl (Wc (OP.fieldAddr0 rfl (Wc (OP.idxArrZ rfl rfl (by decide) (by simp only [Int.reduceToNat, Nat.mul_one, Nat.zero_add, Nat.reduceMul, Nat.reduceAdd]; rfl) ?_)))))))); refine Wc (OL.load1 (k := 7) hL rfl rfl rfl (Wc (OP.lenS rfl (Wc (OP.lssT rfl rfl (by omega) ?_))))); refine Wt ?_; refine WC.condT rfl (Ks ?_); refine Cs (WC.block (Co (Wm rfl (Wm rfl (Wc (OP.fieldAddr0 rfl (Wc (OP.idxArrZ rfl rfl (by decide) (by simp only [Int.reduceToNat, Nat.mul_one, Nat.zero_add, Nat.reduceMul, Nat.reduceAdd]; rfl) ?_)))))))); refine Wc (OL.load1 (k := 7) hL rfl rfl rfl (Wm rfl (Wc (OP.idxS (Sl.pfx (by assumption) (Loc.pfx hL)) rfl rfl (by omega) ?_)))); refine Wc (OP.ldI (Sl.pfx (by assumption) (Loc.pfx hL)) rfl (by omega) ?_); refine Wc (OP.add rfl rfl (by omega) ?_); refine Wm rfl (Wt ?_); refine Co (Wm rfl (Wc (OP.add rfl rfl (by omega) ?_))); refine Wm rfl (Wt ?_))
  refine ⟨j + 1, by omega, ?_, rfl, by omega⟩
  rw [sumL_snoc hjl, ← Int.add_assoc]
  (refine Sub.cons rfl (Sub.cons rfl (Sub.cons rfl (Sub.cons rfl (Sub.cons rfl (Sub.cons rfl (Sub.cons rfl (Sub.cons rfl (Sub.cons rfl (Sub.cons rfl ?_))))))))); exact Sub.nil _)
 rw [List.take_of_length_le (by omega)]
 clear hs
 (refine Cs (Cs (Co (Wm rfl (Wm rfl (Wc (OP.fieldAddr0 rfl (Wc (OP.idxArrZ rfl rfl (by decide) (by simp only [Int.reduceToNat, Nat.mul_one, Nat.zero_add, Nat.reduceMul, Nat.reduceAdd]; rfl) ?_)))))))); refine Wc (OL.load1 (k := 7) hL rfl rfl rfl (Wc (OP.lenS rfl (Wc (OP.lssF rfl rfl (by omega) ?_))))); refine Wt ?_; refine WC.condF rfl (WC.exit ?_); dsimp only [zn, zr, zx, yn, yr]; rw [yx, if_pos rfl]; dsimp only [zn, zr, zx, yn, yr]; refine Co (Wm rfl (Wc (OP.addL rfl rfl (by simp only [Int.reduceAdd]; rfl) (by decide) ?_))); refine Wm rfl (Wt ?_))
 refine WC.unroll ?_
 (refine Cs (Cs (Co (Wm rfl (Wc (OP.lssT rfl rfl (by omega) ?_))))); refine Wt ?_; refine WC.condT rfl (Ks ?_); refine Cs (WC.block (Cs (Co (Wm rfl (Wm rfl (Wc (OP.fieldAddr0 rfl (Wc (OP.idxArrZ rfl rfl (by decide) (by simp only [Int.reduceToNat, Nat.mul_one, Nat.zero_add, Nat.reduceMul, Nat.reduceAdd]; rfl) ?_))))))))); refine Wc (OL.load1 (k := 7) hL rfl rfl rfl (Wc (OP.lenS rfl (Wc (OP.add rfl rfl (by omega) ?_))))); refine Wm rfl (Wt ?_); refine Cs (Co (Wm rfl (Wt ?_))); refine WC.block ?_)
 refine WC.loop (fun j : Nat => j ≤ r3.n) (fun j => [(15, .int .i64 (j : Int)), (12, .int .i64 (0 + sumL r0.xs + sumL r1.xs + sumL r2.xs + sumL (r3.xs.take j))), (13, .int .i64 (0 + (r0.n : Int) + (r1.n : Int) + (r2.n : Int) + (r3.n : Int))), (14, .int .i64 3), (5, .pointer (some ⟨B5, 0, none⟩)), (6, .pointer (some ⟨B6, 0, none⟩)), (8, .pointer (some ⟨B8, 0, none⟩)), (11, .pointer (some ⟨b, 0, none⟩)), (0, .int .i64 2), (3, .int .i64 e)]) (fun _ => h') (fun j => r3.n - j) ?_ 0 (Nat.zero_le _) (by rw [List.take_zero, show sumL [] = 0 from rfl, Int.add_zero]; (refine Sub.cons rfl (Sub.cons rfl (Sub.cons rfl (Sub.cons rfl (Sub.cons rfl (Sub.cons rfl (Sub.cons rfl (Sub.cons rfl (Sub.cons rfl (Sub.cons rfl ?_))))))))); exact Sub.nil _)) rfl
 intro j hj
 have hs := sumL_rng hlen.2.2.2.2 j (by omega)
 by_cases hlt : (j : Int) < r3.n
 ·have hjl : j < r3.xs.length := by omega
  have hxi := hlen.2.2.2.2 _ (List.getElem_mem hjl)
  (refine Cs (Cs (Co (Wm rfl (Wm rfl (Wc (OP.fieldAddr0 rfl (Wc (OP.idxArrZ rfl rfl (by decide) (by simp only [Int.reduceToNat, Nat.mul_one, Nat.zero_add, Nat.reduceMul, Nat.reduceAdd]; rfl) ?_)))))))); refine Wc (OL.load1 (k := 7) hL rfl rfl rfl (Wc (OP.lenS rfl (Wc (OP.lssT rfl rfl (by omega) ?_))))); refine Wt ?_; refine WC.condT rfl (Ks ?_); refine Cs (WC.block (Co (Wm rfl (Wm rfl (Wc (OP.fieldAddr0 rfl (Wc (OP.idxArrZ rfl rfl (by decide) (by simp only [Int.reduceToNat, Nat.mul_one, Nat.zero_add, Nat.reduceMul, Nat.reduceAdd]; rfl) ?_)))))))); refine Wc (OL.load1 (k := 7) hL rfl rfl rfl (Wm rfl (Wc (OP.idxS (Sl.pfx (by assumption) (Loc.pfx hL)) rfl rfl (by omega) ?_)))); refine Wc (OP.ldI (Sl.pfx (by assumption) (Loc.pfx hL)) rfl (by omega) ?_); refine Wc (OP.add rfl rfl (by omega) ?_); refine Wm rfl (Wt ?_); refine Co (Wm rfl (Wc (OP.add rfl rfl (by omega) ?_))); refine Wm rfl (Wt ?_))
  refine ⟨j + 1, by omega, ?_, rfl, by omega⟩
  rw [sumL_snoc hjl, ← Int.add_assoc]
  (refine Sub.cons rfl (Sub.cons rfl (Sub.cons rfl (Sub.cons rfl (Sub.cons rfl (Sub.cons rfl (Sub.cons rfl (Sub.cons rfl (Sub.cons rfl (Sub.cons rfl ?_))))))))); exact Sub.nil _)
 rw [List.take_of_length_le (by omega)]
 clear hs
 (refine Cs (Cs (Co (Wm rfl (Wm rfl (Wc (OP.fieldAddr0 rfl (Wc (OP.idxArrZ rfl rfl (by decide) (by simp only [Int.reduceToNat, Nat.mul_one, Nat.zero_add, Nat.reduceMul, Nat.reduceAdd]; rfl) ?_)))))))); refine Wc (OL.load1 (k := 7) hL rfl rfl rfl (Wc (OP.lenS rfl (Wc (OP.lssF rfl rfl (by omega) ?_))))); refine Wt ?_; refine WC.condF rfl (WC.exit ?_); dsimp only [zn, zr, zx, yn, yr]; rw [yx, if_pos rfl]; dsimp only [zn, zr, zx, yn, yr]; refine Co (Wm rfl (Wc (OP.addL rfl rfl (by simp only [Int.reduceAdd]; rfl) (by decide) ?_))); refine Wm rfl (Wt ?_))
 refine WC.unroll ?_
 (refine Cs (Cs (Co (Wm rfl (Wc (OP.lssF rfl rfl (by omega) ?_))))); refine Wt ?_; refine WC.condF rfl (WC.exit ?_); dsimp only [zn, zr, zx, yn, yr]; rw [yx, if_pos rfl]; dsimp only [zn, zr, zx, yn, yr]; refine Cs (Cs (Co (Wc (OP.fieldAddr0 rfl (Wc (OL.load1 (k := 6) hL rfl rfl rfl (Wc ?_))))))); refine OP.eqlC rfl rfl (fun hc => ?_) (fun hc => ?_); refine Wt ?_; refine WC.condT rfl (Cs (Cs (Co (Wm rfl (Wc (OP.eqlF rfl rfl (by omega) ?_)))))); refine Wt ?_; refine WC.condF rfl (Ks ?_); refine Cs (Co (Wc (OL.loadAll (k := 0) hL rfl rfl rfl (Wm rfl (WO.cons0 ?_))))); refine OL.storeAll (k := 5) hL hlim rfl rfl rfl rfl rfl rfl (by decide) rfl (fun h' hL => ?_); dsimp only [List.set, Nat.zero_add, Nat.reduceAdd, Nat.reduceMul] at hL; refine Wm rfl (Wm rfl (Wt ?_)); refine WC.ret ?_; dsimp only [zn, zr, zx, yn, yr])
 have hmany : (0 : Int) + r0.n + r1.n + r2.n + r3.n = ((allL ⟨r0.xs, r1.xs, r2.xs, r3.xs⟩).length : Int) := by
  simp [allL]; omega
 rw [zc3 hc, hmany]
 have A0 := hL.rA (n := n0) (xs := r0.xs)
 have A1 := hL.rA (n := n1) (xs := r1.xs)
 have A2 := hL.rA (n := n2) (xs := r2.xs)
 have A3 := hL.rA (n := n3) (xs := r3.xs)
 exact Fin.ret (resL_cell rfl (hL.cell (k := 5) rfl) rfl rfl) ⟨hL.pfx, ⟨a0, n0, r0.xs⟩, ⟨a1, n1, r1.xs⟩, ⟨a2, n2, r2.xs⟩, ⟨a3, n3, r3.xs⟩, rfl, ⟨rfl, rfl, rfl, rfl⟩, ⟨A0.1, A1.1, A2.1, A3.1⟩, A0.2, A1.2, A2.2, A3.2⟩
 (refine Wt ?_; refine WC.condF rfl (Ks ?_); refine Cs (Co (Wc (OP.fieldAddr0 rfl (Wc (OL.load1 (k := 6) hL rfl rfl rfl (Wc (OP.fieldAddr0 rfl ?_))))))))
 dsimp only [Row.v] at hL ⊢
 have q0 : Sl 1 h' a0 n0 n0 (ints r0.xs) := hL.apM (by repeat (first | exact mh | apply mt))
 have q1 : Sl 1 h' a1 n1 n1 (ints r1.xs) := hL.apM (by repeat (first | exact mh | apply mt))
 have q2 : Sl 1 h' a2 n2 n2 (ints r2.xs) := hL.apM (by repeat (first | exact mh | apply mt))
 have q3 : Sl 1 h' a3 n3 n3 (ints r3.xs) := hL.apM (by repeat (first | exact mh | apply mt))
 have hr : r = 0 ∨ r = 1 ∨ r = 2 ∨ r = 3 := by omega
 have hcc : c = 0 ∨ c = 1 ∨ c = 2 := by omega
 rcases hr with rfl | rfl | rfl | rfl
 ·rcases hcc with rfl | rfl | rfl
  ·by_cases hfull : n0 = 4
   ·subst hfull
    have c6 := c3'.1.1
    (refine Wc (OP.idxArrZ rfl rfl (by decide) (by simp only [Int.reduceToNat, Nat.mul_one, Nat.zero_add, Nat.reduceMul, Nat.reduceAdd]; rfl) ?_); refine Wc (OL.load1 (k := 0) hL rfl rfl rfl (Wm rfl (Wt ?_))); refine Cs (Cs (Co (Wc (OP.fieldAddr0 rfl (Wc (OL.load1 (k := 6) hL rfl rfl rfl (Wc (OP.eqlF rfl rfl (by omega) ?_)))))))); refine Wt ?_; refine WC.condF rfl (Ks ?_); refine Cs (Co (Wm rfl (Wt ?_))); refine Cs (Cs (Co (Wm rfl (Wt ?_)))); refine WC.block (Cs (Co (Wc (OP.eqlF rfl rfl (by omega) ?_)))); refine Wm rfl (Wt ?_); refine WC.condF rfl (Cs (Co (Wc (OP.eqlF rfl rfl (by omega) ?_)))); refine Wm rfl (Wt ?_); refine WC.condF rfl (Co (Wm rfl (Wc (OL.loadAll (k := 6) hL rfl rfl rfl (Wc ?_))))); refine OL.callV hL rfl rfl (c6 _ _) (fun h' hp hL => (Wm rfl (Wc (OP.extract rfl rfl (Wc (OP.extract rfl rfl (Wm rfl (Wm rfl (Wt ?_))))))))); refine Cs (Co (Wc (OP.fieldAddr0 rfl (Wc (OL.load1 (k := 6) hL rfl rfl rfl (Wm rfl (Wc (OP.fieldAddr0 rfl (Wc (OP.idxArrZ rfl rfl (by decide) (by simp only [Int.reduceToNat, Nat.mul_one, Nat.zero_add, Nat.reduceMul, Nat.reduceAdd]; rfl) ?_)))))))))); refine WO.cons0 ?_; refine OL.store1 (k := 0) hL hlim rfl rfl rfl rfl rfl rfl rfl (fun h' hL => ?_); dsimp only [List.set, Nat.zero_add, Nat.reduceAdd, Nat.reduceMul] at hL; refine Wt ?_; refine Cs (Co (Wc (OL.loadAll (k := 0) hL rfl rfl rfl (Wm rfl (WO.cons0 ?_))))); refine OL.storeAll (k := 5) hL hlim rfl rfl rfl rfl rfl rfl (by decide) rfl (fun h' hL => ?_); dsimp only [List.set, Nat.zero_add, Nat.reduceAdd, Nat.reduceMul] at hL; refine Wm rfl (Wm rfl (Wt ?_)); refine WC.ret ?_)
    rw [zc0f rfl (by show r0.xs.length ≥ 4; omega)]
    have A0 := hL.rA (n := 4) (xs := r0.xs)
    have A1 := hL.rA (n := n1) (xs := r1.xs)
    have A2 := hL.rA (n := n2) (xs := r2.xs)
    have A3 := hL.rA (n := n3) (xs := r3.xs)
    exact Fin.ret (resL_cell rfl (hL.cell (k := 5) rfl) rfl rfl) ⟨hL.pfx, ⟨a0, 4, r0.xs⟩, ⟨a1, n1, r1.xs⟩, ⟨a2, n2, r2.xs⟩, ⟨a3, n3, r3.xs⟩, rfl, ⟨rfl, rfl, rfl, rfl⟩, ⟨A0.1, A1.1, A2.1, A3.1⟩, A0.2, A1.2, A2.2, A3.2⟩
   ·have c6 := c3'.1.2
    (refine Wc (OP.idxArrZ rfl rfl (by decide) (by simp only [Int.reduceToNat, Nat.mul_one, Nat.zero_add, Nat.reduceMul, Nat.reduceAdd]; rfl) ?_); refine Wc (OL.load1 (k := 0) hL rfl rfl rfl (Wm rfl (Wt ?_))); refine Cs (Cs (Co (Wc (OP.fieldAddr0 rfl (Wc (OL.load1 (k := 6) hL rfl rfl rfl (Wc (OP.eqlF rfl rfl (by omega) ?_)))))))); refine Wt ?_; refine WC.condF rfl (Ks ?_); refine Cs (Co (Wm rfl (Wt ?_))); refine Cs (Cs (Co (Wm rfl (Wt ?_)))); refine WC.block (Cs (Co (Wc (OP.eqlF rfl rfl (by omega) ?_)))); refine Wm rfl (Wt ?_); refine WC.condF rfl (Cs (Co (Wc (OP.eqlF rfl rfl (by omega) ?_)))); refine Wm rfl (Wt ?_); refine WC.condF rfl (Co (Wm rfl (Wc (OL.loadAll (k := 6) hL rfl rfl rfl (Wc ?_))))); refine OL.callSl hL rfl rfl (c6 _ _ (by first | exact hL.lm hlim | exact Nat.le_refl _ | omega) (by first | assumption | exact Sl.pfx (by assumption) hL.pfx | exact hL.slM (by repeat (first | exact mh | apply mt)) | exact hL.apM (by repeat (first | exact mh | apply mt)) | exact (hL.stM (by repeat (first | exact mh | apply mt))).1.1 | exact (hL.stM (by repeat (first | exact mh | apply mt))).2.1.1 | exact (hL.stM (by repeat (first | exact mh | apply mt))).2.2.1.1 | exact (hL.stM (by repeat (first | exact mh | apply mt))).2.2.2.1 | exact Sl.nil _ _) (by first | omega | assumption | exact St.pfx (by assumption) hL.pfx | exact hL.stM (by repeat (first | exact mh | apply mt)) | exact RowOk.pfx (by assumption) hL.pfx | exact (hL.stM (by repeat (first | exact mh | apply mt))).1 | exact (hL.stM (by repeat (first | exact mh | apply mt))).2.1 | exact (hL.stM (by repeat (first | exact mh | apply mt))).2.2.1 | exact (hL.stM (by repeat (first | exact mh | apply mt))).2.2.2)) (fun a' n' h' hp hL => ?_); refine Wm rfl (Wc (OP.extract rfl rfl (Wc (OP.extract rfl rfl (Wm rfl (Wm rfl (Wt ?_))))))); refine Cs (Co (Wc (OP.fieldAddr0 rfl (Wc (OL.load1 (k := 7) hL rfl rfl rfl (Wm rfl (Wc (OP.fieldAddr0 rfl (Wc (OP.idxArrZ rfl rfl (by decide) (by simp only [Int.reduceToNat, Nat.mul_one, Nat.zero_add, Nat.reduceMul, Nat.reduceAdd]; rfl) ?_)))))))))); refine WO.cons0 ?_; refine OL.store1 (k := 1) hL hlim rfl rfl rfl rfl rfl rfl rfl (fun h' hL => ?_); dsimp only [List.set, Nat.zero_add, Nat.reduceAdd, Nat.reduceMul] at hL; refine Wt ?_; refine Cs (Co (Wc (OL.loadAll (k := 1) hL rfl rfl rfl (Wm rfl (WO.cons0 ?_))))); refine OL.storeAll (k := 6) hL hlim rfl rfl rfl rfl rfl rfl (by decide) rfl (fun h' hL => ?_); dsimp only [List.set, Nat.zero_add, Nat.reduceAdd, Nat.reduceMul] at hL; refine Wm rfl (Wm rfl (Wt ?_)); refine WC.ret ?_)
    rw [zc0 rfl (by show ¬ r0.xs.length ≥ 4; omega), show S4.get ⟨r0.xs, r1.xs, r2.xs, r3.xs⟩ 0 = r0.xs from rfl]
    have hw := hL.rowSl (xs := r0.xs ++ [a]) (by repeat (first | exact mh | apply mt)) (by simp; omega)
    have A1 := hL.rA (n := n1) (xs := r1.xs)
    have A2 := hL.rA (n := n2) (xs := r2.xs)
    have A3 := hL.rA (n := n3) (xs := r3.xs)
    exact Fin.ret (resL_cell rfl (hL.cell (k := 6) rfl) rfl rfl) ⟨hL.pfx, ⟨_, _, r0.xs ++ [a]⟩, ⟨a1, n1, r1.xs⟩, ⟨a2, n2, r2.xs⟩, ⟨a3, n3, r3.xs⟩, rfl, ⟨rfl, rfl, rfl, rfl⟩, ⟨hw.1, A1.1, A2.1, A3.1⟩, hw.2, A1.2, A2.2, A3.2⟩
  ·by_cases h0 : n0 = 0
   ·subst h0
    have c6 := c3'.2.1
    (refine Wc (OP.idxArrZ rfl rfl (by decide) (by simp only [Int.reduceToNat, Nat.mul_one, Nat.zero_add, Nat.reduceMul, Nat.reduceAdd]; rfl) ?_); refine Wc (OL.load1 (k := 0) hL rfl rfl rfl (Wm rfl (Wt ?_))); refine Cs (Cs (Co (Wc (OP.fieldAddr0 rfl (Wc (OL.load1 (k := 6) hL rfl rfl rfl (Wc (OP.eqlF rfl rfl (by omega) ?_)))))))); refine Wt ?_; refine WC.condF rfl (Ks ?_); refine Cs (Co (Wm rfl (Wt ?_))); refine Cs (Cs (Co (Wm rfl (Wt ?_)))); refine WC.block (Cs (Co (Wc (OP.eqlF rfl rfl (by omega) ?_)))); refine Wm rfl (Wt ?_); refine WC.condF rfl (Cs (Co (Wc (OP.eqlF rfl rfl (by omega) ?_)))); refine Wm rfl (Wt ?_); refine WC.condF rfl (Co (Wm rfl (Wc (OL.loadAll (k := 6) hL rfl rfl rfl (Wc ?_))))); refine OL.callV hL rfl rfl (c6 _ _) (fun h' hp hL => (Wm rfl (Wc (OP.extract rfl rfl (Wc (OP.extract rfl rfl (Wm rfl (Wm rfl (Wt ?_))))))))); refine Cs (Co (Wc (OP.fieldAddr0 rfl (Wc (OL.load1 (k := 6) hL rfl rfl rfl (Wm rfl (Wc (OP.fieldAddr0 rfl (Wc (OP.idxArrZ rfl rfl (by decide) (by simp only [Int.reduceToNat, Nat.mul_one, Nat.zero_add, Nat.reduceMul, Nat.reduceAdd]; rfl) ?_)))))))))); refine WO.cons0 ?_; refine OL.store1 (k := 0) hL hlim rfl rfl rfl rfl rfl rfl rfl (fun h' hL => ?_); dsimp only [List.set, Nat.zero_add, Nat.reduceAdd, Nat.reduceMul] at hL; refine Wt ?_; refine Cs (Co (Wc (OL.loadAll (k := 0) hL rfl rfl rfl (Wm rfl (WO.cons0 ?_))))); refine OL.storeAll (k := 5) hL hlim rfl rfl rfl rfl rfl rfl (by decide) rfl (fun h' hL => ?_); dsimp only [List.set, Nat.zero_add, Nat.reduceAdd, Nat.reduceMul] at hL; refine Wm rfl (Wm rfl (Wt ?_)); refine WC.ret ?_)
    have e0 : r0.xs = [] := List.eq_nil_of_length_eq_zero (by omega)
    rw [zc1 rfl, show S4.get ⟨r0.xs, r1.xs, r2.xs, r3.xs⟩ 0 = r0.xs from rfl, firstL_nil (by omega), show r0.xs.tail = [] by rw [e0]; rfl]
    have A1 := hL.rA (n := n1) (xs := r1.xs)
    have A2 := hL.rA (n := n2) (xs := r2.xs)
    have A3 := hL.rA (n := n3) (xs := r3.xs)
    exact Fin.ret (resL_cell rfl (hL.cell (k := 5) rfl) rfl rfl) ⟨hL.pfx, nilRow, ⟨a1, n1, r1.xs⟩, ⟨a2, n2, r2.xs⟩, ⟨a3, n3, r3.xs⟩, rfl, ⟨rfl, rfl, rfl, rfl⟩, ⟨nilRow_ok _, A1.1, A2.1, A3.1⟩, nilRow_in _ _, A1.2, A2.2, A3.2⟩
   ·obtain ⟨y, ys, hys⟩ : ∃ y ys, r0.xs = y :: ys := by
     cases hx : r0.xs with
     | nil => rw [hx] at hy; simp at hy; omega
     | cons y ys => exact ⟨y, ys, rfl⟩
    obtain ⟨bb, haa, hbb, hb1, hb2⟩ := Ap.pos (hL.get (k := 4) rfl) (by omega)
    subst haa
    have qq : Sl 1 h' (some ⟨bb, 0, some 1⟩) n0 n0 (ints (y :: ys)) := hys ▸ q0
    have c6 := c3'.2.2
    (refine Wc (OP.idxArrZ rfl rfl (by decide) (by simp only [Int.reduceToNat, Nat.mul_one, Nat.zero_add, Nat.reduceMul, Nat.reduceAdd]; rfl) ?_); refine Wc (OL.load1 (k := 0) hL rfl rfl rfl (Wm rfl (Wt ?_))); refine Cs (Cs (Co (Wc (OP.fieldAddr0 rfl (Wc (OL.load1 (k := 6) hL rfl rfl rfl (Wc (OP.eqlF rfl rfl (by omega) ?_)))))))); refine Wt ?_; refine WC.condF rfl (Ks ?_); refine Cs (Co (Wm rfl (Wt ?_))); refine Cs (Cs (Co (Wm rfl (Wt ?_)))); refine WC.block (Cs (Co (Wc (OP.eqlF rfl rfl (by omega) ?_)))); refine Wm rfl (Wt ?_); refine WC.condF rfl (Cs (Co (Wc (OP.eqlF rfl rfl (by omega) ?_)))); refine Wm rfl (Wt ?_); refine WC.condF rfl (Co (Wm rfl (Wc (OL.loadAll (k := 6) hL rfl rfl rfl (Wc ?_))))); refine OL.callSl hL rfl rfl (c6 _ _ (by first | exact hL.lm hlim | exact Nat.le_refl _ | omega) (by first | assumption | exact Sl.pfx (by assumption) hL.pfx | exact hL.slM (by repeat (first | exact mh | apply mt)) | exact hL.apM (by repeat (first | exact mh | apply mt)) | exact (hL.stM (by repeat (first | exact mh | apply mt))).1.1 | exact (hL.stM (by repeat (first | exact mh | apply mt))).2.1.1 | exact (hL.stM (by repeat (first | exact mh | apply mt))).2.2.1.1 | exact (hL.stM (by repeat (first | exact mh | apply mt))).2.2.2.1 | exact Sl.nil _ _) (by omega)) (fun a' n' h' hp hL => ?_); refine Wm rfl (Wc (OP.extract rfl rfl (Wc (OP.extract rfl rfl (Wm rfl (Wm rfl (Wt ?_))))))); refine Cs (Co (Wc (OP.fieldAddr0 rfl (Wc (OL.load1 (k := 7) hL rfl rfl rfl (Wm rfl (Wc (OP.fieldAddr0 rfl (Wc (OP.idxArrZ rfl rfl (by decide) (by simp only [Int.reduceToNat, Nat.mul_one, Nat.zero_add, Nat.reduceMul, Nat.reduceAdd]; rfl) ?_)))))))))); refine WO.cons0 ?_; refine OL.store1 (k := 1) hL hlim rfl rfl rfl rfl rfl rfl rfl (fun h' hL => ?_); dsimp only [List.set, Nat.zero_add, Nat.reduceAdd, Nat.reduceMul] at hL; refine Wt ?_; refine Cs (Co (Wc (OL.loadAll (k := 1) hL rfl rfl rfl (Wm rfl (WO.cons0 ?_))))); refine OL.storeAll (k := 6) hL hlim rfl rfl rfl rfl rfl rfl (by decide) rfl (fun h' hL => ?_); dsimp only [List.set, Nat.zero_add, Nat.reduceAdd, Nat.reduceMul] at hL; refine Wm rfl (Wm rfl (Wt ?_)); refine WC.ret ?_)
    rw [zc1 rfl, show S4.get ⟨r0.xs, r1.xs, r2.xs, r3.xs⟩ 0 = r0.xs from rfl, hys]
    have hyl : ys.length ≤ 4 := by have := hln; rw [hys] at this; simp at this; omega
    have hw := hL.rowSl (xs := ys) (by repeat (first | exact mh | apply mt)) (by omega)
    have A1 := hL.rA (n := n1) (xs := r1.xs)
    have A2 := hL.rA (n := n2) (xs := r2.xs)
    have A3 := hL.rA (n := n3) (xs := r3.xs)
    exact Fin.ret (resL_cell rfl (hL.cell (k := 6) rfl) rfl rfl) ⟨hL.pfx, ⟨_, _, ys⟩, ⟨a1, n1, r1.xs⟩, ⟨a2, n2, r2.xs⟩, ⟨a3, n3, r3.xs⟩, rfl, ⟨rfl, rfl, rfl, rfl⟩, ⟨hw.1, A1.1, A2.1, A3.1⟩, hw.2, A1.2, A2.2, A3.2⟩
  ·(refine Wc (OP.idxArrZ rfl rfl (by decide) (by simp only [Int.reduceToNat, Nat.mul_one, Nat.zero_add, Nat.reduceMul, Nat.reduceAdd]; rfl) ?_); refine Wc (OL.load1 (k := 0) hL rfl rfl rfl (Wm rfl (Wt ?_))); refine Cs (Cs (Co (Wc (OP.fieldAddr0 rfl (Wc (OL.load1 (k := 6) hL rfl rfl rfl (Wc (OP.eqlT rfl rfl (by omega) ?_)))))))); refine Wt ?_; refine WC.condT rfl (Cs (Cs (Co (Wm rfl (Wc (OP.eqlF rfl rfl (by omega) ?_)))))); refine Wt ?_; refine WC.condF rfl (Ks ?_); refine Cs (Co (Wc (OL.loadAll (k := 0) hL rfl rfl rfl (Wm rfl (Wc (OP.lenS rfl (WO.cons0 ?_))))))); refine OL.storeAll (k := 5) hL hlim rfl rfl rfl rfl rfl rfl (by decide) rfl (fun h' hL => ?_); dsimp only [List.set, Nat.zero_add, Nat.reduceAdd, Nat.reduceMul] at hL; refine Wm rfl (Wm rfl (Wt ?_)); refine WC.ret ?_; dsimp only [zn, zr, zx, yn, yr])
   rw [zc2 rfl, show S4.get ⟨r0.xs, r1.xs, r2.xs, r3.xs⟩ 0 = r0.xs from rfl, show r0.xs.length = n0 by omega]
   have A0 := hL.rA (n := n0) (xs := r0.xs)
   have A1 := hL.rA (n := n1) (xs := r1.xs)
   have A2 := hL.rA (n := n2) (xs := r2.xs)
   have A3 := hL.rA (n := n3) (xs := r3.xs)
   exact Fin.ret (resL_cell rfl (hL.cell (k := 5) rfl) rfl rfl) ⟨hL.pfx, ⟨a0, n0, r0.xs⟩, ⟨a1, n1, r1.xs⟩, ⟨a2, n2, r2.xs⟩, ⟨a3, n3, r3.xs⟩, rfl, ⟨rfl, rfl, rfl, rfl⟩, ⟨A0.1, A1.1, A2.1, A3.1⟩, A0.2, A1.2, A2.2, A3.2⟩
 ·rcases hcc with rfl | rfl | rfl
  ·by_cases hfull : n1 = 4
   ·subst hfull
    have c6 := c3'.1.1
    (refine Wc (OP.idxArrZ rfl rfl (by decide) (by simp only [Int.reduceToNat, Nat.mul_one, Nat.zero_add, Nat.reduceMul, Nat.reduceAdd]; rfl) ?_); refine Wc (OL.load1 (k := 0) hL rfl rfl rfl (Wm rfl (Wt ?_))); refine Cs (Cs (Co (Wc (OP.fieldAddr0 rfl (Wc (OL.load1 (k := 6) hL rfl rfl rfl (Wc (OP.eqlF rfl rfl (by omega) ?_)))))))); refine Wt ?_; refine WC.condF rfl (Ks ?_); refine Cs (Co (Wm rfl (Wt ?_))); refine Cs (Cs (Co (Wm rfl (Wt ?_)))); refine WC.block (Cs (Co (Wc (OP.eqlF rfl rfl (by omega) ?_)))); refine Wm rfl (Wt ?_); refine WC.condF rfl (Cs (Co (Wc (OP.eqlF rfl rfl (by omega) ?_)))); refine Wm rfl (Wt ?_); refine WC.condF rfl (Co (Wm rfl (Wc (OL.loadAll (k := 6) hL rfl rfl rfl (Wc ?_))))); refine OL.callV hL rfl rfl (c6 _ _) (fun h' hp hL => (Wm rfl (Wc (OP.extract rfl rfl (Wc (OP.extract rfl rfl (Wm rfl (Wm rfl (Wt ?_))))))))); refine Cs (Co (Wc (OP.fieldAddr0 rfl (Wc (OL.load1 (k := 6) hL rfl rfl rfl (Wm rfl (Wc (OP.fieldAddr0 rfl (Wc (OP.idxArrZ rfl rfl (by decide) (by simp only [Int.reduceToNat, Nat.mul_one, Nat.zero_add, Nat.reduceMul, Nat.reduceAdd]; rfl) ?_)))))))))); refine WO.cons0 ?_; refine OL.store1 (k := 0) hL hlim rfl rfl rfl rfl rfl rfl rfl (fun h' hL => ?_); dsimp only [List.set, Nat.zero_add, Nat.reduceAdd, Nat.reduceMul] at hL; refine Wt ?_; refine Cs (Co (Wc (OL.loadAll (k := 0) hL rfl rfl rfl (Wm rfl (WO.cons0 ?_))))); refine OL.storeAll (k := 5) hL hlim rfl rfl rfl rfl rfl rfl (by decide) rfl (fun h' hL => ?_); dsimp only [List.set, Nat.zero_add, Nat.reduceAdd, Nat.reduceMul] at hL; refine Wm rfl (Wm rfl (Wt ?_)); refine WC.ret ?_)
    rw [zc0f rfl (by show r1.xs.length ≥ 4; omega)]
    have A0 := hL.rA (n := n0) (xs := r0.xs)
    have A1 := hL.rA (n := 4) (xs := r1.xs)
    have A2 := hL.rA (n := n2) (xs := r2.xs)
    have A3 := hL.rA (n := n3) (xs := r3.xs)
    exact Fin.ret (resL_cell rfl (hL.cell (k := 5) rfl) rfl rfl) ⟨hL.pfx, ⟨a0, n0, r0.xs⟩, ⟨a1, 4, r1.xs⟩, ⟨a2, n2, r2.xs⟩, ⟨a3, n3, r3.xs⟩, rfl, ⟨rfl, rfl, rfl, rfl⟩, ⟨A0.1, A1.1, A2.1, A3.1⟩, A0.2, A1.2, A2.2, A3.2⟩
   ·have c6 := c3'.1.2
    (refine Wc (OP.idxArrZ rfl rfl (by decide) (by simp only [Int.reduceToNat, Nat.mul_one, Nat.zero_add, Nat.reduceMul, Nat.reduceAdd]; rfl) ?_); refine Wc (OL.load1 (k := 0) hL rfl rfl rfl (Wm rfl (Wt ?_))); refine Cs (Cs (Co (Wc (OP.fieldAddr0 rfl (Wc (OL.load1 (k := 6) hL rfl rfl rfl (Wc (OP.eqlF rfl rfl (by omega) ?_)))))))); refine Wt ?_; refine WC.condF rfl (Ks ?_); refine Cs (Co (Wm rfl (Wt ?_))); refine Cs (Cs (Co (Wm rfl (Wt ?_)))); refine WC.block (Cs (Co (Wc (OP.eqlF rfl rfl (by omega) ?_)))); refine Wm rfl (Wt ?_); refine WC.condF rfl (Cs (Co (Wc (OP.eqlF rfl rfl (by omega) ?_)))); refine Wm rfl (Wt ?_); refine WC.condF rfl (Co (Wm rfl (Wc (OL.loadAll (k := 6) hL rfl rfl rfl (Wc ?_))))); refine OL.callSl hL rfl rfl (c6 _ _ (by first | exact hL.lm hlim | exact Nat.le_refl _ | omega) (by first | assumption | exact Sl.pfx (by assumption) hL.pfx | exact hL.slM (by repeat (first | exact mh | apply mt)) | exact hL.apM (by repeat (first | exact mh | apply mt)) | exact (hL.stM (by repeat (first | exact mh | apply mt))).1.1 | exact (hL.stM (by repeat (first | exact mh | apply mt))).2.1.1 | exact (hL.stM (by repeat (first | exact mh | apply mt))).2.2.1.1 | exact (hL.stM (by repeat (first | exact mh | apply mt))).2.2.2.1 | exact Sl.nil _ _) (by first | omega | assumption | exact St.pfx (by assumption) hL.pfx | exact hL.stM (by repeat (first | exact mh | apply mt)) | exact RowOk.pfx (by assumption) hL.pfx | exact (hL.stM (by repeat (first | exact mh | apply mt))).1 | exact (hL.stM (by repeat (first | exact mh | apply mt))).2.1 | exact (hL.stM (by repeat (first | exact mh | apply mt))).2.2.1 | exact (hL.stM (by repeat (first | exact mh | apply mt))).2.2.2)) (fun a' n' h' hp hL => ?_); refine Wm rfl (Wc (OP.extract rfl rfl (Wc (OP.extract rfl rfl (Wm rfl (Wm rfl (Wt ?_))))))); refine Cs (Co (Wc (OP.fieldAddr0 rfl (Wc (OL.load1 (k := 7) hL rfl rfl rfl (Wm rfl (Wc (OP.fieldAddr0 rfl (Wc (OP.idxArrZ rfl rfl (by decide) (by simp only [Int.reduceToNat, Nat.mul_one, Nat.zero_add, Nat.reduceMul, Nat.reduceAdd]; rfl) ?_)))))))))); refine WO.cons0 ?_; refine OL.store1 (k := 1) hL hlim rfl rfl rfl rfl rfl rfl rfl (fun h' hL => ?_); dsimp only [List.set, Nat.zero_add, Nat.reduceAdd, Nat.reduceMul] at hL; refine Wt ?_; refine Cs (Co (Wc (OL.loadAll (k := 1) hL rfl rfl rfl (Wm rfl (WO.cons0 ?_))))); refine OL.storeAll (k := 6) hL hlim rfl rfl rfl rfl rfl rfl (by decide) rfl (fun h' hL => ?_); dsimp only [List.set, Nat.zero_add, Nat.reduceAdd, Nat.reduceMul] at hL; refine Wm rfl (Wm rfl (Wt ?_)); refine WC.ret ?_)
    rw [zc0 rfl (by show ¬ r1.xs.length ≥ 4; omega), show S4.get ⟨r0.xs, r1.xs, r2.xs, r3.xs⟩ 1 = r1.xs from rfl]
    have hw := hL.rowSl (xs := r1.xs ++ [a]) (by repeat (first | exact mh | apply mt)) (by simp; omega)
    have A0 := hL.rA (n := n0) (xs := r0.xs)
    have A2 := hL.rA (n := n2) (xs := r2.xs)
    have A3 := hL.rA (n := n3) (xs := r3.xs)
    exact Fin.ret (resL_cell rfl (hL.cell (k := 6) rfl) rfl rfl) ⟨hL.pfx, ⟨a0, n0, r0.xs⟩, ⟨_, _, r1.xs ++ [a]⟩, ⟨a2, n2, r2.xs⟩, ⟨a3, n3, r3.xs⟩, rfl, ⟨rfl, rfl, rfl, rfl⟩, ⟨A0.1, hw.1, A2.1, A3.1⟩, A0.2, hw.2, A2.2, A3.2⟩
  ·by_cases h0 : n1 = 0
   ·subst h0
    have c6 := c3'.2.1
    (refine Wc (OP.idxArrZ rfl rfl (by decide) (by simp only [Int.reduceToNat, Nat.mul_one, Nat.zero_add, Nat.reduceMul, Nat.reduceAdd]; rfl) ?_); refine Wc (OL.load1 (k := 0) hL rfl rfl rfl (Wm rfl (Wt ?_))); refine Cs (Cs (Co (Wc (OP.fieldAddr0 rfl (Wc (OL.load1 (k := 6) hL rfl rfl rfl (Wc (OP.eqlF rfl rfl (by omega) ?_)))))))); refine Wt ?_; refine WC.condF rfl (Ks ?_); refine Cs (Co (Wm rfl (Wt ?_))); refine Cs (Cs (Co (Wm rfl (Wt ?_)))); refine WC.block (Cs (Co (Wc (OP.eqlF rfl rfl (by omega) ?_)))); refine Wm rfl (Wt ?_); refine WC.condF rfl (Cs (Co (Wc (OP.eqlF rfl rfl (by omega) ?_)))); refine Wm rfl (Wt ?_); refine WC.condF rfl (Co (Wm rfl (Wc (OL.loadAll (k := 6) hL rfl rfl rfl (Wc ?_))))); refine OL.callV hL rfl rfl (c6 _ _) (fun h' hp hL => (Wm rfl (Wc (OP.extract rfl rfl (Wc (OP.extract rfl rfl (Wm rfl (Wm rfl (Wt ?_))))))))); refine Cs (Co (Wc (OP.fieldAddr0 rfl (Wc (OL.load1 (k := 6) hL rfl rfl rfl (Wm rfl (Wc (OP.fieldAddr0 rfl (Wc (OP.idxArrZ rfl rfl (by decide) (by simp only [Int.reduceToNat, Nat.mul_one, Nat.zero_add, Nat.reduceMul, Nat.reduceAdd]; rfl) ?_)))))))))); refine WO.cons0 ?_; refine OL.store1 (k := 0) hL hlim rfl rfl rfl rfl rfl rfl rfl (fun h' hL => ?_); dsimp only [List.set, Nat.zero_add, Nat.reduceAdd, Nat.reduceMul] at hL; refine Wt ?_; refine Cs (Co (Wc (OL.loadAll (k := 0) hL rfl rfl rfl (Wm rfl (WO.cons0 ?_))))); refine OL.storeAll (k := 5) hL hlim rfl rfl rfl rfl rfl rfl (by decide) rfl (fun h' hL => ?_); dsimp only [List.set, Nat.zero_add, Nat.reduceAdd, Nat.reduceMul] at hL; refine Wm rfl (Wm rfl (Wt ?_)); refine WC.ret ?_)
    have e0 : r1.xs = [] := List.eq_nil_of_length_eq_zero (by omega)
    rw [zc1 rfl, show S4.get ⟨r0.xs, r1.xs, r2.xs, r3.xs⟩ 1 = r1.xs from rfl, firstL_nil (by omega), show r1.xs.tail = [] by rw [e0]; rfl]
    have A0 := hL.rA (n := n0) (xs := r0.xs)
    have A2 := hL.rA (n := n2) (xs := r2.xs)
    have A3 := hL.rA (n := n3) (xs := r3.xs)
    exact Fin.ret (resL_cell rfl (hL.cell (k := 5) rfl) rfl rfl) ⟨hL.pfx, ⟨a0, n0, r0.xs⟩, nilRow, ⟨a2, n2, r2.xs⟩, ⟨a3, n3, r3.xs⟩, rfl, ⟨rfl, rfl, rfl, rfl⟩, ⟨A0.1, nilRow_ok _, A2.1, A3.1⟩, A0.2, nilRow_in _ _, A2.2, A3.2⟩
   ·obtain ⟨y, ys, hys⟩ : ∃ y ys, r1.xs = y :: ys := by
     cases hx : r1.xs with
     | nil => rw [hx] at hy; simp at hy; omega
     | cons y ys => exact ⟨y, ys, rfl⟩
    obtain ⟨bb, haa, hbb, hb1, hb2⟩ := Ap.pos (hL.get (k := 3) rfl) (by omega)
    subst haa
    have qq : Sl 1 h' (some ⟨bb, 0, some 1⟩) n1 n1 (ints (y :: ys)) := hys ▸ q1
    have c6 := c3'.2.2
    (refine Wc (OP.idxArrZ rfl rfl (by decide) (by simp only [Int.reduceToNat, Nat.mul_one, Nat.zero_add, Nat.reduceMul, Nat.reduceAdd]; rfl) ?_); refine Wc (OL.load1 (k := 0) hL rfl rfl rfl (Wm rfl (Wt ?_))); refine Cs (Cs (Co (Wc (OP.fieldAddr0 rfl (Wc (OL.load1 (k := 6) hL rfl rfl rfl (Wc (OP.eqlF rfl rfl (by omega) ?_)))))))); refine Wt ?_; refine WC.condF rfl (Ks ?_); refine Cs (Co (Wm rfl (Wt ?_))); refine Cs (Cs (Co (Wm rfl (Wt ?_)))); refine WC.block (Cs (Co (Wc (OP.eqlF rfl rfl (by omega) ?_)))); refine Wm rfl (Wt ?_); refine WC.condF rfl (Cs (Co (Wc (OP.eqlF rfl rfl (by omega) ?_)))); refine Wm rfl (Wt ?_); refine WC.condF rfl (Co (Wm rfl (Wc (OL.loadAll (k := 6) hL rfl rfl rfl (Wc ?_))))); refine OL.callSl hL rfl rfl (c6 _ _ (by first | exact hL.lm hlim | exact Nat.le_refl _ | omega) (by first | assumption | exact Sl.pfx (by assumption) hL.pfx | exact hL.slM (by repeat (first | exact mh | apply mt)) | exact hL.apM (by repeat (first | exact mh | apply mt)) | exact (hL.stM (by repeat (first | exact mh | apply mt))).1.1 | exact (hL.stM (by repeat (first | exact mh | apply mt))).2.1.1 | exact (hL.stM (by repeat (first | exact mh | apply mt))).2.2.1.1 | exact (hL.stM (by repeat (first | exact mh | apply mt))).2.2.2.1 | exact Sl.nil _ _) (by omega)) (fun a' n' h' hp hL => ?_); refine Wm rfl (Wc (OP.extract rfl rfl (Wc (OP.extract rfl rfl (Wm rfl (Wm rfl (Wt ?_))))))); refine Cs (Co (Wc (OP.fieldAddr0 rfl (Wc (OL.load1 (k := 7) hL rfl rfl rfl (Wm rfl (Wc (OP.fieldAddr0 rfl (Wc (OP.idxArrZ rfl rfl (by decide) (by simp only [Int.reduceToNat, Nat.mul_one, Nat.zero_add, Nat.reduceMul, Nat.reduceAdd]; rfl) ?_)))))))))); refine WO.cons0 ?_; refine OL.store1 (k := 1) hL hlim rfl rfl rfl rfl rfl rfl rfl (fun h' hL => ?_); dsimp only [List.set, Nat.zero_add, Nat.reduceAdd, Nat.reduceMul] at hL; refine Wt ?_; refine Cs (Co (Wc (OL.loadAll (k := 1) hL rfl rfl rfl (Wm rfl (WO.cons0 ?_))))); refine OL.storeAll (k := 6) hL hlim rfl rfl rfl rfl rfl rfl (by decide) rfl (fun h' hL => ?_); dsimp only [List.set, Nat.zero_add, Nat.reduceAdd, Nat.reduceMul] at hL; refine Wm rfl (Wm rfl (Wt ?_)); refine WC.ret ?_)
    rw [zc1 rfl, show S4.get ⟨r0.xs, r1.xs, r2.xs, r3.xs⟩ 1 = r1.xs from rfl, hys]
    have hyl : ys.length ≤ 4 := by have := hln; rw [hys] at this; simp at this; omega
    have hw := hL.rowSl (xs := ys) (by repeat (first | exact mh | apply mt)) (by omega)
    have A0 := hL.rA (n := n0) (xs := r0.xs)
    have A2 := hL.rA (n := n2) (xs := r2.xs)
    have A3 := hL.rA (n := n3) (xs := r3.xs)
    exact Fin.ret (resL_cell rfl (hL.cell (k := 6) rfl) rfl rfl) ⟨hL.pfx, ⟨a0, n0, r0.xs⟩, ⟨_, _, ys⟩, ⟨a2, n2, r2.xs⟩, ⟨a3, n3, r3.xs⟩, rfl, ⟨rfl, rfl, rfl, rfl⟩, ⟨A0.1, hw.1, A2.1, A3.1⟩, A0.2, hw.2, A2.2, A3.2⟩
  ·(refine Wc (OP.idxArrZ rfl rfl (by decide) (by simp only [Int.reduceToNat, Nat.mul_one, Nat.zero_add, Nat.reduceMul, Nat.reduceAdd]; rfl) ?_); refine Wc (OL.load1 (k := 0) hL rfl rfl rfl (Wm rfl (Wt ?_))); refine Cs (Cs (Co (Wc (OP.fieldAddr0 rfl (Wc (OL.load1 (k := 6) hL rfl rfl rfl (Wc (OP.eqlT rfl rfl (by omega) ?_)))))))); refine Wt ?_; refine WC.condT rfl (Cs (Cs (Co (Wm rfl (Wc (OP.eqlF rfl rfl (by omega) ?_)))))); refine Wt ?_; refine WC.condF rfl (Ks ?_); refine Cs (Co (Wc (OL.loadAll (k := 0) hL rfl rfl rfl (Wm rfl (Wc (OP.lenS rfl (WO.cons0 ?_))))))); refine OL.storeAll (k := 5) hL hlim rfl rfl rfl rfl rfl rfl (by decide) rfl (fun h' hL => ?_); dsimp only [List.set, Nat.zero_add, Nat.reduceAdd, Nat.reduceMul] at hL; refine Wm rfl (Wm rfl (Wt ?_)); refine WC.ret ?_; dsimp only [zn, zr, zx, yn, yr])
   rw [zc2 rfl, show S4.get ⟨r0.xs, r1.xs, r2.xs, r3.xs⟩ 1 = r1.xs from rfl, show r1.xs.length = n1 by omega]
   have A0 := hL.rA (n := n0) (xs := r0.xs)
   have A1 := hL.rA (n := n1) (xs := r1.xs)
   have A2 := hL.rA (n := n2) (xs := r2.xs)
   have A3 := hL.rA (n := n3) (xs := r3.xs)
   exact Fin.ret (resL_cell rfl (hL.cell (k := 5) rfl) rfl rfl) ⟨hL.pfx, ⟨a0, n0, r0.xs⟩, ⟨a1, n1, r1.xs⟩, ⟨a2, n2, r2.xs⟩, ⟨a3, n3, r3.xs⟩, rfl, ⟨rfl, rfl, rfl, rfl⟩, ⟨A0.1, A1.1, A2.1, A3.1⟩, A0.2, A1.2, A2.2, A3.2⟩
 ·rcases hcc with rfl | rfl | rfl
  ·by_cases hfull : n2 = 4
   ·subst hfull
    have c6 := c3'.1.1
    (refine Wc (OP.idxArrZ rfl rfl (by decide) (by simp only [Int.reduceToNat, Nat.mul_one, Nat.zero_add, Nat.reduceMul, Nat.reduceAdd]; rfl) ?_); refine Wc (OL.load1 (k := 0) hL rfl rfl rfl (Wm rfl (Wt ?_))); refine Cs (Cs (Co (Wc (OP.fieldAddr0 rfl (Wc (OL.load1 (k := 6) hL rfl rfl rfl (Wc (OP.eqlF rfl rfl (by omega) ?_)))))))); refine Wt ?_; refine WC.condF rfl (Ks ?_); refine Cs (Co (Wm rfl (Wt ?_))); refine Cs (Cs (Co (Wm rfl (Wt ?_)))); refine WC.block (Cs (Co (Wc (OP.eqlF rfl rfl (by omega) ?_)))); refine Wm rfl (Wt ?_); refine WC.condF rfl (Cs (Co (Wc (OP.eqlF rfl rfl (by omega) ?_)))); refine Wm rfl (Wt ?_); refine WC.condF rfl (Co (Wm rfl (Wc (OL.loadAll (k := 6) hL rfl rfl rfl (Wc ?_))))); refine OL.callV hL rfl rfl (c6 _ _) (fun h' hp hL => (Wm rfl (Wc (OP.extract rfl rfl (Wc (OP.extract rfl rfl (Wm rfl (Wm rfl (Wt ?_))))))))); refine Cs (Co (Wc (OP.fieldAddr0 rfl (Wc (OL.load1 (k := 6) hL rfl rfl rfl (Wm rfl (Wc (OP.fieldAddr0 rfl (Wc (OP.idxArrZ rfl rfl (by decide) (by simp only [Int.reduceToNat, Nat.mul_one, Nat.zero_add, Nat.reduceMul, Nat.reduceAdd]; rfl) ?_)))))))))); refine WO.cons0 ?_; refine OL.store1 (k := 0) hL hlim rfl rfl rfl rfl rfl rfl rfl (fun h' hL => ?_); dsimp only [List.set, Nat.zero_add, Nat.reduceAdd, Nat.reduceMul] at hL; refine Wt ?_; refine Cs (Co (Wc (OL.loadAll (k := 0) hL rfl rfl rfl (Wm rfl (WO.cons0 ?_))))); refine OL.storeAll (k := 5) hL hlim rfl rfl rfl rfl rfl rfl (by decide) rfl (fun h' hL => ?_); dsimp only [List.set, Nat.zero_add, Nat.reduceAdd, Nat.reduceMul] at hL; refine Wm rfl (Wm rfl (Wt ?_)); refine WC.ret ?_)
    rw [zc0f rfl (by show r2.xs.length ≥ 4; omega)]
    have A0 := hL.rA (n := n0) (xs := r0.xs)
    have A1 := hL.rA (n := n1) (xs := r1.xs)
    have A2 := hL.rA (n := 4) (xs := r2.xs)
    have A3 := hL.rA (n := n3) (xs := r3.xs)
    exact Fin.ret (resL_cell rfl (hL.cell (k := 5) rfl) rfl rfl) ⟨hL.pfx, ⟨a0, n0, r0.xs⟩, ⟨a1, n1, r1.xs⟩, ⟨a2, 4, r2.xs⟩, ⟨a3, n3, r3.xs⟩, rfl, ⟨rfl, rfl, rfl, rfl⟩, ⟨A0.1, A1.1, A2.1, A3.1⟩, A0.2, A1.2, A2.2, A3.2⟩
   ·have c6 := c3'.1.2
    (refine Wc (OP.idxArrZ rfl rfl (by decide) (by simp only [Int.reduceToNat, Nat.mul_one, Nat.zero_add, Nat.reduceMul, Nat.reduceAdd]; rfl) ?_); refine Wc (OL.load1 (k := 0) hL rfl rfl rfl (Wm rfl (Wt ?_))); refine Cs (Cs (Co (Wc (OP.fieldAddr0 rfl (Wc (OL.load1 (k := 6) hL rfl rfl rfl (Wc (OP.eqlF rfl rfl (by omega) ?_)))))))); refine Wt ?_; refine WC.condF rfl (Ks ?_); refine Cs (Co (Wm rfl (Wt ?_))); refine Cs (Cs (Co (Wm rfl (Wt ?_)))); refine WC.block (Cs (Co (Wc (OP.eqlF rfl rfl (by omega) ?_)))); refine Wm rfl (Wt ?_); refine WC.condF rfl (Cs (Co (Wc (OP.eqlF rfl rfl (by omega) ?_)))); refine Wm rfl (Wt ?_); refine WC.condF rfl (Co (Wm rfl (Wc (OL.loadAll (k := 6) hL rfl rfl rfl (Wc ?_))))); refine OL.callSl hL rfl rfl (c6 _ _ (by first | exact hL.lm hlim | exact Nat.le_refl _ | omega) (by first | assumption | exact Sl.pfx (by assumption) hL.pfx | exact hL.slM (by repeat (first | exact mh | apply mt)) | exact hL.apM (by repeat (first | exact mh | apply mt)) | exact (hL.stM (by repeat (first | exact mh | apply mt))).1.1 | exact (hL.stM (by repeat (first | exact mh | apply mt))).2.1.1 | exact (hL.stM (by repeat (first | exact mh | apply mt))).2.2.1.1 | exact (hL.stM (by repeat (first | exact mh | apply mt))).2.2.2.1 | exact Sl.nil _ _) (by first | omega | assumption | exact St.pfx (by assumption) hL.pfx | exact hL.stM (by repeat (first | exact mh | apply mt)) | exact RowOk.pfx (by assumption) hL.pfx | exact (hL.stM (by repeat (first | exact mh | apply mt))).1 | exact (hL.stM (by repeat (first | exact mh | apply mt))).2.1 | exact (hL.stM (by repeat (first | exact mh | apply mt))).2.2.1 | exact (hL.stM (by repeat (first | exact mh | apply mt))).2.2.2)) (fun a' n' h' hp hL => ?_); refine Wm rfl (Wc (OP.extract rfl rfl (Wc (OP.extract rfl rfl (Wm rfl (Wm rfl (Wt ?_))))))); refine Cs (Co (Wc (OP.fieldAddr0 rfl (Wc (OL.load1 (k := 7) hL rfl rfl rfl (Wm rfl (Wc (OP.fieldAddr0 rfl (Wc (OP.idxArrZ rfl rfl (by decide) (by simp only [Int.reduceToNat, Nat.mul_one, Nat.zero_add, Nat.reduceMul, Nat.reduceAdd]; rfl) ?_)))))))))); refine WO.cons0 ?_; refine OL.store1 (k := 1) hL hlim rfl rfl rfl rfl rfl rfl rfl (fun h' hL => ?_); dsimp only [List.set, Nat.zero_add, Nat.reduceAdd, Nat.reduceMul] at hL; refine Wt ?_; refine Cs (Co (Wc (OL.loadAll (k := 1) hL rfl rfl rfl (Wm rfl (WO.cons0 ?_))))); refine OL.storeAll (k := 6) hL hlim rfl rfl rfl rfl rfl rfl (by decide) rfl (fun h' hL => ?_); dsimp only [List.set, Nat.zero_add, Nat.reduceAdd, Nat.reduceMul] at hL; refine Wm rfl (Wm rfl (Wt ?_)); refine WC.ret ?_)
    rw [zc0 rfl (by show ¬ r2.xs.length ≥ 4; omega), show S4.get ⟨r0.xs, r1.xs, r2.xs, r3.xs⟩ 2 = r2.xs from rfl]
    have hw := hL.rowSl (xs := r2.xs ++ [a]) (by repeat (first | exact mh | apply mt)) (by simp; omega)
    have A0 := hL.rA (n := n0) (xs := r0.xs)
    have A1 := hL.rA (n := n1) (xs := r1.xs)
    have A3 := hL.rA (n := n3) (xs := r3.xs)
    exact Fin.ret (resL_cell rfl (hL.cell (k := 6) rfl) rfl rfl) ⟨hL.pfx, ⟨a0, n0, r0.xs⟩, ⟨a1, n1, r1.xs⟩, ⟨_, _, r2.xs ++ [a]⟩, ⟨a3, n3, r3.xs⟩, rfl, ⟨rfl, rfl, rfl, rfl⟩, ⟨A0.1, A1.1, hw.1, A3.1⟩, A0.2, A1.2, hw.2, A3.2⟩
  ·by_cases h0 : n2 = 0
   ·subst h0
    have c6 := c3'.2.1
    (refine Wc (OP.idxArrZ rfl rfl (by decide) (by simp only [Int.reduceToNat, Nat.mul_one, Nat.zero_add, Nat.reduceMul, Nat.reduceAdd]; rfl) ?_); refine Wc (OL.load1 (k := 0) hL rfl rfl rfl (Wm rfl (Wt ?_))); refine Cs (Cs (Co (Wc (OP.fieldAddr0 rfl (Wc (OL.load1 (k := 6) hL rfl rfl rfl (Wc (OP.eqlF rfl rfl (by omega) ?_)))))))); refine Wt ?_; refine WC.condF rfl (Ks ?_); refine Cs (Co (Wm rfl (Wt ?_))); refine Cs (Cs (Co (Wm rfl (Wt ?_)))); refine WC.block (Cs (Co (Wc (OP.eqlF rfl rfl (by omega) ?_)))); refine Wm rfl (Wt ?_); refine WC.condF rfl (Cs (Co (Wc (OP.eqlF rfl rfl (by omega) ?_)))); refine Wm rfl (Wt ?_); refine WC.condF rfl (Co (Wm rfl (Wc (OL.loadAll (k := 6) hL rfl rfl rfl (Wc ?_))))); refine OL.callV hL rfl rfl (c6 _ _) (fun h' hp hL => (Wm rfl (Wc (OP.extract rfl rfl (Wc (OP.extract rfl rfl (Wm rfl (Wm rfl (Wt ?_))))))))); refine Cs (Co (Wc (OP.fieldAddr0 rfl (Wc (OL.load1 (k := 6) hL rfl rfl rfl (Wm rfl (Wc (OP.fieldAddr0 rfl (Wc (OP.idxArrZ rfl rfl (by decide) (by simp only [Int.reduceToNat, Nat.mul_one, Nat.zero_add, Nat.reduceMul, Nat.reduceAdd]; rfl) ?_)))))))))); refine WO.cons0 ?_; refine OL.store1 (k := 0) hL hlim rfl rfl rfl rfl rfl rfl rfl (fun h' hL => ?_); dsimp only [List.set, Nat.zero_add, Nat.reduceAdd, Nat.reduceMul] at hL; refine Wt ?_; refine Cs (Co (Wc (OL.loadAll (k := 0) hL rfl rfl rfl (Wm rfl (WO.cons0 ?_))))); refine OL.storeAll (k := 5) hL hlim rfl rfl rfl rfl rfl rfl (by decide) rfl (fun h' hL => ?_); dsimp only [List.set, Nat.zero_add, Nat.reduceAdd, Nat.reduceMul] at hL; refine Wm rfl (Wm rfl (Wt ?_)); refine WC.ret ?_)
    have e0 : r2.xs = [] := List.eq_nil_of_length_eq_zero (by omega)
    rw [zc1 rfl, show S4.get ⟨r0.xs, r1.xs, r2.xs, r3.xs⟩ 2 = r2.xs from rfl, firstL_nil (by omega), show r2.xs.tail = [] by rw [e0]; rfl]
    have A0 := hL.rA (n := n0) (xs := r0.xs)
    have A1 := hL.rA (n := n1) (xs := r1.xs)
    have A3 := hL.rA (n := n3) (xs := r3.xs)
    exact Fin.ret (resL_cell rfl (hL.cell (k := 5) rfl) rfl rfl) ⟨hL.pfx, ⟨a0, n0, r0.xs⟩, ⟨a1, n1, r1.xs⟩, nilRow, ⟨a3, n3, r3.xs⟩, rfl, ⟨rfl, rfl, rfl, rfl⟩, ⟨A0.1, A1.1, nilRow_ok _, A3.1⟩, A0.2, A1.2, nilRow_in _ _, A3.2⟩
   ·obtain ⟨y, ys, hys⟩ : ∃ y ys, r2.xs = y :: ys := by
     cases hx : r2.xs with
     | nil => rw [hx] at hy; simp at hy; omega
     | cons y ys => exact ⟨y, ys, rfl⟩
    obtain ⟨bb, haa, hbb, hb1, hb2⟩ := Ap.pos (hL.get (k := 2) rfl) (by omega)
    subst haa
    have qq : Sl 1 h' (some ⟨bb, 0, some 1⟩) n2 n2 (ints (y :: ys)) := hys ▸ q2
    have c6 := c3'.2.2
    (refine Wc (OP.idxArrZ rfl rfl (by decide) (by simp only [Int.reduceToNat, Nat.mul_one, Nat.zero_add, Nat.reduceMul, Nat.reduceAdd]; rfl) ?_); refine Wc (OL.load1 (k := 0) hL rfl rfl rfl (Wm rfl (Wt ?_))); refine Cs (Cs (Co (Wc (OP.fieldAddr0 rfl (Wc (OL.load1 (k := 6) hL rfl rfl rfl (Wc (OP.eqlF rfl rfl (by omega) ?_)))))))); refine Wt ?_; refine WC.condF rfl (Ks ?_); refine Cs (Co (Wm rfl (Wt ?_))); refine Cs (Cs (Co (Wm rfl (Wt ?_)))); refine WC.block (Cs (Co (Wc (OP.eqlF rfl rfl (by omega) ?_)))); refine Wm rfl (Wt ?_); refine WC.condF rfl (Cs (Co (Wc (OP.eqlF rfl rfl (by omega) ?_)))); refine Wm rfl (Wt ?_); refine WC.condF rfl (Co (Wm rfl (Wc (OL.loadAll (k := 6) hL rfl rfl rfl (Wc ?_))))); refine OL.callSl hL rfl rfl (c6 _ _ (by first | exact hL.lm hlim | exact Nat.le_refl _ | omega) (by first | assumption | exact Sl.pfx (by assumption) hL.pfx | exact hL.slM (by repeat (first | exact mh | apply mt)) | exact hL.apM (by repeat (first | exact mh | apply mt)) | exact (hL.stM (by repeat (first | exact mh | apply mt))).1.1 | exact (hL.stM (by repeat (first | exact mh | apply mt))).2.1.1 | exact (hL.stM (by repeat (first | exact mh | apply mt))).2.2.1.1 | exact (hL.stM (by repeat (first | exact mh | apply mt))).2.2.2.1 | exact Sl.nil _ _) (by omega)) (fun a' n' h' hp hL => ?_); refine Wm rfl (Wc (OP.extract rfl rfl (Wc (OP.extract rfl rfl (Wm rfl (Wm rfl (Wt ?_))))))); refine Cs (Co (Wc (OP.fieldAddr0 rfl (Wc (OL.load1 (k := 7) hL rfl rfl rfl (Wm rfl (Wc (OP.fieldAddr0 rfl (Wc (OP.idxArrZ rfl rfl (by decide) (by simp only [Int.reduceToNat, Nat.mul_one, Nat.zero_add, Nat.reduceMul, Nat.reduceAdd]; rfl) ?_)))))))))); refine WO.cons0 ?_; refine OL.store1 (k := 1) hL hlim rfl rfl rfl rfl rfl rfl rfl (fun h' hL => ?_); dsimp only [List.set, Nat.zero_add, Nat.reduceAdd, Nat.reduceMul] at hL; refine Wt ?_; refine Cs (Co (Wc (OL.loadAll (k := 1) hL rfl rfl rfl (Wm rfl (WO.cons0 ?_))))); refine OL.storeAll (k := 6) hL hlim rfl rfl rfl rfl rfl rfl (by decide) rfl (fun h' hL => ?_); dsimp only [List.set, Nat.zero_add, Nat.reduceAdd, Nat.reduceMul] at hL; refine Wm rfl (Wm rfl (Wt ?_)); refine WC.ret ?_)
    rw [zc1 rfl, show S4.get ⟨r0.xs, r1.xs, r2.xs, r3.xs⟩ 2 = r2.xs from rfl, hys]
    have hyl : ys.length ≤ 4 := by have := hln; rw [hys] at this; simp at this; omega
    have hw := hL.rowSl (xs := ys) (by repeat (first | exact mh | apply mt)) (by omega)
    have A0 := hL.rA (n := n0) (xs := r0.xs)
    have A1 := hL.rA (n := n1) (xs := r1.xs)
    have A3 := hL.rA (n := n3) (xs := r3.xs)
    exact Fin.ret (resL_cell rfl (hL.cell (k := 6) rfl) rfl rfl) ⟨hL.pfx, ⟨a0, n0, r0.xs⟩, ⟨a1, n1, r1.xs⟩, ⟨_, _, ys⟩, ⟨a3, n3, r3.xs⟩, rfl, ⟨rfl, rfl, rfl, rfl⟩, ⟨A0.1, A1.1, hw.1, A3.1⟩, A0.2, A1.2, hw.2, A3.2⟩
  ·(refine Wc (OP.idxArrZ rfl rfl (by decide) (by simp only [Int.reduceToNat, Nat.mul_one, Nat.zero_add, Nat.reduceMul, Nat.reduceAdd]; rfl) ?_); refine Wc (OL.load1 (k := 0) hL rfl rfl rfl (Wm rfl (Wt ?_))); refine Cs (Cs (Co (Wc (OP.fieldAddr0 rfl (Wc (OL.load1 (k := 6) hL rfl rfl rfl (Wc (OP.eqlT rfl rfl (by omega) ?_)))))))); refine Wt ?_; refine WC.condT rfl (Cs (Cs (Co (Wm rfl (Wc (OP.eqlF rfl rfl (by omega) ?_)))))); refine Wt ?_; refine WC.condF rfl (Ks ?_); refine Cs (Co (Wc (OL.loadAll (k := 0) hL rfl rfl rfl (Wm rfl (Wc (OP.lenS rfl (WO.cons0 ?_))))))); refine OL.storeAll (k := 5) hL hlim rfl rfl rfl rfl rfl rfl (by decide) rfl (fun h' hL => ?_); dsimp only [List.set, Nat.zero_add, Nat.reduceAdd, Nat.reduceMul] at hL; refine Wm rfl (Wm rfl (Wt ?_)); refine WC.ret ?_; dsimp only [zn, zr, zx, yn, yr])
   rw [zc2 rfl, show S4.get ⟨r0.xs, r1.xs, r2.xs, r3.xs⟩ 2 = r2.xs from rfl, show r2.xs.length = n2 by omega]
   have A0 := hL.rA (n := n0) (xs := r0.xs)
   have A1 := hL.rA (n := n1) (xs := r1.xs)
   have A2 := hL.rA (n := n2) (xs := r2.xs)
   have A3 := hL.rA (n := n3) (xs := r3.xs)
   exact Fin.ret (resL_cell rfl (hL.cell (k := 5) rfl) rfl rfl) ⟨hL.pfx, ⟨a0, n0, r0.xs⟩, ⟨a1, n1, r1.xs⟩, ⟨a2, n2, r2.xs⟩, ⟨a3, n3, r3.xs⟩, rfl, ⟨rfl, rfl, rfl, rfl⟩, ⟨A0.1, A1.1, A2.1, A3.1⟩, A0.2, A1.2, A2.2, A3.2⟩
 ·rcases hcc with rfl | rfl | rfl
  ·by_cases hfull : n3 = 4
   ·subst hfull
    have c6 := c3'.1.1
    (refine Wc (OP.idxArrZ rfl rfl (by decide) (by simp only [Int.reduceToNat, Nat.mul_one, Nat.zero_add, Nat.reduceMul, Nat.reduceAdd]; rfl) ?_); refine Wc (OL.load1 (k := 0) hL rfl rfl rfl (Wm rfl (Wt ?_))); refine Cs (Cs (Co (Wc (OP.fieldAddr0 rfl (Wc (OL.load1 (k := 6) hL rfl rfl rfl (Wc (OP.eqlF rfl rfl (by omega) ?_)))))))); refine Wt ?_; refine WC.condF rfl (Ks ?_); refine Cs (Co (Wm rfl (Wt ?_))); refine Cs (Cs (Co (Wm rfl (Wt ?_)))); refine WC.block (Cs (Co (Wc (OP.eqlF rfl rfl (by omega) ?_)))); refine Wm rfl (Wt ?_); refine WC.condF rfl (Cs (Co (Wc (OP.eqlF rfl rfl (by omega) ?_)))); refine Wm rfl (Wt ?_); refine WC.condF rfl (Co (Wm rfl (Wc (OL.loadAll (k := 6) hL rfl rfl rfl (Wc ?_))))); refine OL.callV hL rfl rfl (c6 _ _) (fun h' hp hL => (Wm rfl (Wc (OP.extract rfl rfl (Wc (OP.extract rfl rfl (Wm rfl (Wm rfl (Wt ?_))))))))); refine Cs (Co (Wc (OP.fieldAddr0 rfl (Wc (OL.load1 (k := 6) hL rfl rfl rfl (Wm rfl (Wc (OP.fieldAddr0 rfl (Wc (OP.idxArrZ rfl rfl (by decide) (by simp only [Int.reduceToNat, Nat.mul_one, Nat.zero_add, Nat.reduceMul, Nat.reduceAdd]; rfl) ?_)))))))))); refine WO.cons0 ?_; refine OL.store1 (k := 0) hL hlim rfl rfl rfl rfl rfl rfl rfl (fun h' hL => ?_); dsimp only [List.set, Nat.zero_add, Nat.reduceAdd, Nat.reduceMul] at hL; refine Wt ?_; refine Cs (Co (Wc (OL.loadAll (k := 0) hL rfl rfl rfl (Wm rfl (WO.cons0 ?_))))); refine OL.storeAll (k := 5) hL hlim rfl rfl rfl rfl rfl rfl (by decide) rfl (fun h' hL => ?_); dsimp only [List.set, Nat.zero_add, Nat.reduceAdd, Nat.reduceMul] at hL; refine Wm rfl (Wm rfl (Wt ?_)); refine WC.ret ?_)
    rw [zc0f rfl (by show r3.xs.length ≥ 4; omega)]
    have A0 := hL.rA (n := n0) (xs := r0.xs)
    have A1 := hL.rA (n := n1) (xs := r1.xs)
    have A2 := hL.rA (n := n2) (xs := r2.xs)
    have A3 := hL.rA (n := 4) (xs := r3.xs)
    exact Fin.ret (resL_cell rfl (hL.cell (k := 5) rfl) rfl rfl) ⟨hL.pfx, ⟨a0, n0, r0.xs⟩, ⟨a1, n1, r1.xs⟩, ⟨a2, n2, r2.xs⟩, ⟨a3, 4, r3.xs⟩, rfl, ⟨rfl, rfl, rfl, rfl⟩, ⟨A0.1, A1.1, A2.1, A3.1⟩, A0.2, A1.2, A2.2, A3.2⟩
   ·have c6 := c3'.1.2
    (refine Wc (OP.idxArrZ rfl rfl (by decide) (by simp only [Int.reduceToNat, Nat.mul_one, Nat.zero_add, Nat.reduceMul, Nat.reduceAdd]; rfl) ?_); refine Wc (OL.load1 (k := 0) hL rfl rfl rfl (Wm rfl (Wt ?_))); refine Cs (Cs (Co (Wc (OP.fieldAddr0 rfl (Wc (OL.load1 (k := 6) hL rfl rfl rfl (Wc (OP.eqlF rfl rfl (by omega) ?_)))))))); refine Wt ?_; refine WC.condF rfl (Ks ?_); refine Cs (Co (Wm rfl (Wt ?_))); refine Cs (Cs (Co (Wm rfl (Wt ?_)))); refine WC.block (Cs (Co (Wc (OP.eqlF rfl rfl (by omega) ?_)))); refine Wm rfl (Wt ?_); refine WC.condF rfl (Cs (Co (Wc (OP.eqlF rfl rfl (by omega) ?_)))); refine Wm rfl (Wt ?_); refine WC.condF rfl (Co (Wm rfl (Wc (OL.loadAll (k := 6) hL rfl rfl rfl (Wc ?_))))); refine OL.callSl hL rfl rfl (c6 _ _ (by first | exact hL.lm hlim | exact Nat.le_refl _ | omega) (by first | assumption | exact Sl.pfx (by assumption) hL.pfx | exact hL.slM (by repeat (first | exact mh | apply mt)) | exact hL.apM (by repeat (first | exact mh | apply mt)) | exact (hL.stM (by repeat (first | exact mh | apply mt))).1.1 | exact (hL.stM (by repeat (first | exact mh | apply mt))).2.1.1 | exact (hL.stM (by repeat (first | exact mh | apply mt))).2.2.1.1 | exact (hL.stM (by repeat (first | exact mh | apply mt))).2.2.2.1 | exact Sl.nil _ _) (by first | omega | assumption | exact St.pfx (by assumption) hL.pfx | exact hL.stM (by repeat (first | exact mh | apply mt)) | exact RowOk.pfx (by assumption) hL.pfx | exact (hL.stM (by repeat (first | exact mh | apply mt))).1 | exact (hL.stM (by repeat (first | exact mh | apply mt))).2.1 | exact (hL.stM (by repeat (first | exact mh | apply mt))).2.2.1 | exact (hL.stM (by repeat (first | exact mh | apply mt))).2.2.2)) (fun a' n' h' hp hL => ?_); refine Wm rfl (Wc (OP.extract rfl rfl (Wc (OP.extract rfl rfl (Wm rfl (Wm rfl (Wt ?_))))))); refine Cs (Co (Wc (OP.fieldAddr0 rfl (Wc (OL.load1 (k := 7) hL rfl rfl rfl (Wm rfl (Wc (OP.fieldAddr0 rfl (Wc (OP.idxArrZ rfl rfl (by decide) (by simp only [Int.reduceToNat, Nat.mul_one, Nat.zero_add, Nat.reduceMul, Nat.reduceAdd]; rfl) ?_)))))))))); refine WO.cons0 ?_; refine OL.store1 (k := 1) hL hlim rfl rfl rfl rfl rfl rfl rfl (fun h' hL => ?_); dsimp only [List.set, Nat.zero_add, Nat.reduceAdd, Nat.reduceMul] at hL; refine Wt ?_; refine Cs (Co (Wc (OL.loadAll (k := 1) hL rfl rfl rfl (Wm rfl (WO.cons0 ?_))))); refine OL.storeAll (k := 6) hL hlim rfl rfl rfl rfl rfl rfl (by decide) rfl (fun h' hL => ?_); dsimp only [List.set, Nat.zero_add, Nat.reduceAdd, Nat.reduceMul] at hL; refine Wm rfl (Wm rfl (Wt ?_)); refine WC.ret ?_)
    rw [zc0 rfl (by show ¬ r3.xs.length ≥ 4; omega), show S4.get ⟨r0.xs, r1.xs, r2.xs, r3.xs⟩ 3 = r3.xs from rfl]
    have hw := hL.rowSl (xs := r3.xs ++ [a]) (by repeat (first | exact mh | apply mt)) (by simp; omega)
    have A0 := hL.rA (n := n0) (xs := r0.xs)
    have A1 := hL.rA (n := n1) (xs := r1.xs)
    have A2 := hL.rA (n := n2) (xs := r2.xs)
    exact Fin.ret (resL_cell rfl (hL.cell (k := 6) rfl) rfl rfl) ⟨hL.pfx, ⟨a0, n0, r0.xs⟩, ⟨a1, n1, r1.xs⟩, ⟨a2, n2, r2.xs⟩, ⟨_, _, r3.xs ++ [a]⟩, rfl, ⟨rfl, rfl, rfl, rfl⟩, ⟨A0.1, A1.1, A2.1, hw.1⟩, A0.2, A1.2, A2.2, hw.2⟩
  ·by_cases h0 : n3 = 0
   ·subst h0
    have c6 := c3'.2.1
    (refine Wc (OP.idxArrZ rfl rfl (by decide) (by simp only [Int.reduceToNat, Nat.mul_one, Nat.zero_add, Nat.reduceMul, Nat.reduceAdd]; rfl) ?_); refine Wc (OL.load1 (k := 0) hL rfl rfl rfl (Wm rfl (Wt ?_))); refine Cs (Cs (Co (Wc (OP.fieldAddr0 rfl (Wc (OL.load1 (k := 6) hL rfl rfl rfl (Wc (OP.eqlF rfl rfl (by omega) ?_)))))))); refine Wt ?_; refine WC.condF rfl (Ks ?_); refine Cs (Co (Wm rfl (Wt ?_))); refine Cs (Cs (Co (Wm rfl (Wt ?_)))); refine WC.block (Cs (Co (Wc (OP.eqlF rfl rfl (by omega) ?_)))); refine Wm rfl (Wt ?_); refine WC.condF rfl (Cs (Co (Wc (OP.eqlF rfl rfl (by omega) ?_)))); refine Wm rfl (Wt ?_); refine WC.condF rfl (Co (Wm rfl (Wc (OL.loadAll (k := 6) hL rfl rfl rfl (Wc ?_))))); refine OL.callV hL rfl rfl (c6 _ _) (fun h' hp hL => (Wm rfl (Wc (OP.extract rfl rfl (Wc (OP.extract rfl rfl (Wm rfl (Wm rfl (Wt ?_))))))))); refine Cs (Co (Wc (OP.fieldAddr0 rfl (Wc (OL.load1 (k := 6) hL rfl rfl rfl (Wm rfl (Wc (OP.fieldAddr0 rfl (Wc (OP.idxArrZ rfl rfl (by decide) (by simp only [Int.reduceToNat, Nat.mul_one, Nat.zero_add, Nat.reduceMul, Nat.reduceAdd]; rfl) ?_)))))))))); refine WO.cons0 ?_; refine OL.store1 (k := 0) hL hlim rfl rfl rfl rfl rfl rfl rfl (fun h' hL => ?_); dsimp only [List.set, Nat.zero_add, Nat.reduceAdd, Nat.reduceMul] at hL; refine Wt ?_; refine Cs (Co (Wc (OL.loadAll (k := 0) hL rfl rfl rfl (Wm rfl (WO.cons0 ?_))))); refine OL.storeAll (k := 5) hL hlim rfl rfl rfl rfl rfl rfl (by decide) rfl (fun h' hL => ?_); dsimp only [List.set, Nat.zero_add, Nat.reduceAdd, Nat.reduceMul] at hL; refine Wm rfl (Wm rfl (Wt ?_)); refine WC.ret ?_)
    have e0 : r3.xs = [] := List.eq_nil_of_length_eq_zero (by omega)
    rw [zc1 rfl, show S4.get ⟨r0.xs, r1.xs, r2.xs, r3.xs⟩ 3 = r3.xs from rfl, firstL_nil (by omega), show r3.xs.tail = [] by rw [e0]; rfl]
    have A0 := hL.rA (n := n0) (xs := r0.xs)
    have A1 := hL.rA (n := n1) (xs := r1.xs)
    have A2 := hL.rA (n := n2) (xs := r2.xs)
    exact Fin.ret (resL_cell rfl (hL.cell (k := 5) rfl) rfl rfl) ⟨hL.pfx, ⟨a0, n0, r0.xs⟩, ⟨a1, n1, r1.xs⟩, ⟨a2, n2, r2.xs⟩, nilRow, rfl, ⟨rfl, rfl, rfl, rfl⟩, ⟨A0.1, A1.1, A2.1, nilRow_ok _⟩, A0.2, A1.2, A2.2, nilRow_in _ _⟩
   ·obtain ⟨y, ys, hys⟩ : ∃ y ys, r3.xs = y :: ys := by
     cases hx : r3.xs with
     | nil => rw [hx] at hy; simp at hy; omega
     | cons y ys => exact ⟨y, ys, rfl⟩
    obtain ⟨bb, haa, hbb, hb1, hb2⟩ := Ap.pos (hL.get (k := 1) rfl) (by omega)
    subst haa
    have qq : Sl 1 h' (some ⟨bb, 0, some 1⟩) n3 n3 (ints (y :: ys)) := hys ▸ q3
    have c6 := c3'.2.2
    (refine Wc (OP.idxArrZ rfl rfl (by decide) (by simp only [Int.reduceToNat, Nat.mul_one, Nat.zero_add, Nat.reduceMul, Nat.reduceAdd]; rfl) ?_); refine Wc (OL.load1 (k := 0) hL rfl rfl rfl (Wm rfl (Wt ?_))); refine Cs (Cs (Co (Wc (OP.fieldAddr0 rfl (Wc (OL.load1 (k := 6) hL rfl rfl rfl (Wc (OP.eqlF rfl rfl (by omega) ?_)))))))); refine Wt ?_; refine WC.condF rfl (Ks ?_); refine Cs (Co (Wm rfl (Wt ?_))); refine Cs (Cs (Co (Wm rfl (Wt ?_)))); refine WC.block (Cs (Co (Wc (OP.eqlF rfl rfl (by omega) ?_)))); refine Wm rfl (Wt ?_); refine WC.condF rfl (Cs (Co (Wc (OP.eqlF rfl rfl (by omega) ?_)))); refine Wm rfl (Wt ?_); refine WC.condF rfl (Co (Wm rfl (Wc (OL.loadAll (k := 6) hL rfl rfl rfl (Wc ?_))))); refine OL.callSl hL rfl rfl (c6 _ _ (by first | exact hL.lm hlim | exact Nat.le_refl _ | omega) (by first | assumption | exact Sl.pfx (by assumption) hL.pfx | exact hL.slM (by repeat (first | exact mh | apply mt)) | exact hL.apM (by repeat (first | exact mh | apply mt)) | exact (hL.stM (by repeat (first | exact mh | apply mt))).1.1 | exact (hL.stM (by repeat (first | exact mh | apply mt))).2.1.1 | exact (hL.stM (by repeat (first | exact mh | apply mt))).2.2.1.1 | exact (hL.stM (by repeat (first | exact mh | apply mt))).2.2.2.1 | exact Sl.nil _ _) (by omega)) (fun a' n' h' hp hL => ?_); refine Wm rfl (Wc (OP.extract rfl rfl (Wc (OP.extract rfl rfl (Wm rfl (Wm rfl (Wt ?_))))))); refine Cs (Co (Wc (OP.fieldAddr0 rfl (Wc (OL.load1 (k := 7) hL rfl rfl rfl (Wm rfl (Wc (OP.fieldAddr0 rfl (Wc (OP.idxArrZ rfl rfl (by decide) (by simp only [Int.reduceToNat, Nat.mul_one, Nat.zero_add, Nat.reduceMul, Nat.reduceAdd]; rfl) ?_)))))))))); refine WO.cons0 ?_; refine OL.store1 (k := 1) hL hlim rfl rfl rfl rfl rfl rfl rfl (fun h' hL => ?_); dsimp only [List.set, Nat.zero_add, Nat.reduceAdd, Nat.reduceMul] at hL; refine Wt ?_; refine Cs (Co (Wc (OL.loadAll (k := 1) hL rfl rfl rfl (Wm rfl (WO.cons0 ?_))))); refine OL.storeAll (k := 6) hL hlim rfl rfl rfl rfl rfl rfl (by decide) rfl (fun h' hL => ?_); dsimp only [List.set, Nat.zero_add, Nat.reduceAdd, Nat.reduceMul] at hL; refine Wm rfl (Wm rfl (Wt ?_)); refine WC.ret ?_)
    rw [zc1 rfl, show S4.get ⟨r0.xs, r1.xs, r2.xs, r3.xs⟩ 3 = r3.xs from rfl, hys]
    have hyl : ys.length ≤ 4 := by have := hln; rw [hys] at this; simp at this; omega
    have hw := hL.rowSl (xs := ys) (by repeat (first | exact mh | apply mt)) (by omega)
    have A0 := hL.rA (n := n0) (xs := r0.xs)
    have A1 := hL.rA (n := n1) (xs := r1.xs)
    have A2 := hL.rA (n := n2) (xs := r2.xs)
    exact Fin.ret (resL_cell rfl (hL.cell (k := 6) rfl) rfl rfl) ⟨hL.pfx, ⟨a0, n0, r0.xs⟩, ⟨a1, n1, r1.xs⟩, ⟨a2, n2, r2.xs⟩, ⟨_, _, ys⟩, rfl, ⟨rfl, rfl, rfl, rfl⟩, ⟨A0.1, A1.1, A2.1, hw.1⟩, A0.2, A1.2, A2.2, hw.2⟩
  ·(refine Wc (OP.idxArrZ rfl rfl (by decide) (by simp only [Int.reduceToNat, Nat.mul_one, Nat.zero_add, Nat.reduceMul, Nat.reduceAdd]; rfl) ?_); refine Wc (OL.load1 (k := 0) hL rfl rfl rfl (Wm rfl (Wt ?_))); refine Cs (Cs (Co (Wc (OP.fieldAddr0 rfl (Wc (OL.load1 (k := 6) hL rfl rfl rfl (Wc (OP.eqlT rfl rfl (by omega) ?_)))))))); refine Wt ?_; refine WC.condT rfl (Cs (Cs (Co (Wm rfl (Wc (OP.eqlF rfl rfl (by omega) ?_)))))); refine Wt ?_; refine WC.condF rfl (Ks ?_); refine Cs (Co (Wc (OL.loadAll (k := 0) hL rfl rfl rfl (Wm rfl (Wc (OP.lenS rfl (WO.cons0 ?_))))))); refine OL.storeAll (k := 5) hL hlim rfl rfl rfl rfl rfl rfl (by decide) rfl (fun h' hL => ?_); dsimp only [List.set, Nat.zero_add, Nat.reduceAdd, Nat.reduceMul] at hL; refine Wm rfl (Wm rfl (Wt ?_)); refine WC.ret ?_; dsimp only [zn, zr, zx, yn, yr])
   rw [zc2 rfl, show S4.get ⟨r0.xs, r1.xs, r2.xs, r3.xs⟩ 3 = r3.xs from rfl, show r3.xs.length = n3 by omega]
   have A0 := hL.rA (n := n0) (xs := r0.xs)
   have A1 := hL.rA (n := n1) (xs := r1.xs)
   have A2 := hL.rA (n := n2) (xs := r2.xs)
   have A3 := hL.rA (n := n3) (xs := r3.xs)
   exact Fin.ret (resL_cell rfl (hL.cell (k := 5) rfl) rfl rfl) ⟨hL.pfx, ⟨a0, n0, r0.xs⟩, ⟨a1, n1, r1.xs⟩, ⟨a2, n2, r2.xs⟩, ⟨a3, n3, r3.xs⟩, rfl, ⟨rfl, rfl, rfl, rfl⟩, ⟨A0.1, A1.1, A2.1, A3.1⟩, A0.2, A1.2, A2.2, A3.2⟩
 (refine WO.yes rfl (Wc (OP.not rfl (Wc (OP.pickF rfl rfl (Wt ?_))))); refine WC.condT rfl (Cs (Co (Wc (OP.buildN rfl rfl (Wm rfl (WO.cons0 ?_)))))); refine OL.storeAll (k := 0) hL hlim rfl rfl rfl rfl rfl rfl (by decide) rfl (fun h' hL => ?_); dsimp only [List.set, Nat.zero_add, Nat.reduceAdd, Nat.reduceMul] at hL; refine Wm rfl (Wm rfl (Wt ?_)); refine WC.ret ?_; dsimp only [zn, zr, zx, yn, yr]; rw [z1 (by grind)]; exact Fin.ret (resL_cell rfl (hL.cell (k := 0) rfl) rfl rfl) ⟨hL.pfx, nilRow, nilRow, nilRow, nilRow, rfl, ⟨rfl, rfl, rfl, rfl⟩, nilSt _, nilIn _ _⟩; refine Wc (OP.not rfl (Wm rfl (WO.no rfl (WO.no rfl (WO.no rfl (Wc (OP.pickT rfl rfl (Wt ?_)))))))); refine WC.condT rfl (Cs (Co (Wc (OP.buildN rfl rfl (Wm rfl (WO.cons0 ?_)))))); refine OL.storeAll (k := 0) hL hlim rfl rfl rfl rfl rfl rfl (by decide) rfl (fun h' hL => ?_); dsimp only [List.set, Nat.zero_add, Nat.reduceAdd, Nat.reduceMul] at hL; refine Wm rfl (Wm rfl (Wt ?_)); refine WC.ret ?_; dsimp only [zn, zr, zx, yn, yr]; rw [z1 (by grind)]; exact Fin.ret (resL_cell rfl (hL.cell (k := 0) rfl) rfl rfl) ⟨hL.pfx, nilRow, nilRow, nilRow, nilRow, rfl, ⟨rfl, rfl, rfl, rfl⟩, nilSt _, nilIn _ _⟩)
end
end
end Go.Proofs.YtalknjppnkpmmaaDoorW.Ai
