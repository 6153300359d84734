/-
 Queues (chapter 5), as the small machine runs them: what may be, in, out, how many.
-/
import Derived.Test.YtalknjppnkpmmaaDoorFn25
import Derived.Test.YtalknjppnkpmmaaDoorMf
set_option linter.unusedVariables false
set_option linter.unusedSimpArgs false
set_option maxHeartbeats 4000000
set_option maxRecDepth 100000
namespace Go.Proofs.YtalknjppnkpmmaaDoorW.Ai
section
def rf_qMay (g0 : Nat) : RFunc :=
 ⟨14, [(.tmp 2)], (.seq (.ops [rO 1 (.box (.tmp 0)), rO 2 (.mv (.const (.bool false)))]) (.seq (.seq (.ops [rO 5 (.fieldAddr 0 (.tmp 1)), rO 6 (.load (.some 4) (.tmp 5)), rO 7 (.mv (.const (.int .i64 0)))]) (.block 0 (.loop (.seq (.ops [rO 8 (.bin .lss (.tmp 7) (.const (.int .i64 4)))]) (.seq (.cond (.tmp 8) .skip (.exit 0)) (.seq (.block 1 (.seq (.ops [rO 9 (.idxArr 4 1 .none (.tmp 6) (.tmp 7)), rO 4 (.mv (.tmp 9))]) (.seq (.ops [rO 10 (.mv (.tmp 4)), rO 11 (.call (.func g0) [(.tmp 10), (.const (.int .i64 4))]), rO 12 (.un .not (.tmp 11))]) (.cond (.tmp 12) (.seq (.ops [rO 2 (.mv (.const (.bool false)))]) .ret) .skip)))) (.ops [rO 13 (.bin .add (.tmp 7) (.const (.int .i64 1))), rO 7 (.mv (.tmp 13))]))))))) (.seq (.ops [rO 2 (.mv (.const (.bool true)))]) .ret)))⟩
def rf_qin : RFunc :=
 ⟨14, [(.tmp 4), (.tmp 5)], (.seq (.ops [rO 4 (.mv (.const (.slice .none 0 0))), rO 5 (.mv (.const (.int .i64 0)))]) (.seq (.seq (.ops [rO 6 (.mv (.tmp 0)), rO 7 (.len 1 (.tmp 6)), rO 8 (.bin .eql (.tmp 7) (.const (.int .i64 4)))]) (.cond (.tmp 8) (.seq (.ops [rO 9 (.mv (.tmp 0)), rO 4 (.mv (.tmp 9)), rO 5 (.mv (.const (.int .i64 0)))]) .ret) .skip)) (.seq (.ops [rO 10 (.mv (.tmp 0)), rO 11 (.mv (.tmp 1)), rO 12 (.buildSlice [(.int .i64 0)] 1 [(0, (1, (.tmp 11)))]), rO 13 (.append 1 8 (.tmp 10) (.tmp 12)), rO 4 (.mv (.tmp 13)), rO 5 (.mv (.const (.int .i64 1)))]) .ret)))⟩
def rf_qout : RFunc :=
 ⟨13, [(.tmp 2), (.tmp 3)], (.seq (.ops [rO 2 (.mv (.const (.slice .none 0 0))), rO 3 (.mv (.const (.int .i64 0)))]) (.seq (.seq (.ops [rO 4 (.mv (.tmp 0)), rO 5 (.len 1 (.tmp 4)), rO 6 (.bin .eql (.tmp 5) (.const (.int .i64 0)))]) (.cond (.tmp 6) (.seq (.ops [rO 7 (.mv (.tmp 0)), rO 2 (.mv (.tmp 7)), rO 3 (.mv (.const (.int .i64 (-1))))]) .ret) .skip)) (.seq (.ops [⟨(.some 8), (.mv (.tmp 0)), .none, true, []⟩, ⟨(.some 9), (.slice 1 (.tmp 8) (.some (.const (.int .i64 1))) .none .none), .none, true, []⟩, rO 10 (.mv (.tmp 0)), rO 11 (.idxAddr 1 (.tmp 10) (.const (.int .i64 0))), rO 12 (.load .none (.tmp 11)), ⟨(.some 2), (.mv (.tmp 9)), .none, true, []⟩, rO 3 (.mv (.tmp 12))]) .ret)))⟩
def rf_fMany (g0 : Nat) : RFunc :=
 ⟨9, [(.tmp 2)], (.seq (.ops [rO 2 (.mv (.const (.int .i64 0)))]) (.seq (.ops [rO 3 (.mv (.tmp 0)), rO 4 (.nilCheck (.tmp 3)), rO 5 (.fieldAddr 0 (.tmp 4)), rO 6 (.sliceArr 4 1 (.tmp 5) .none .none .none), rO 7 (.call (.func g0) [(.tmp 6)]), rO 8 (.len 1 (.tmp 7)), rO 2 (.mv (.tmp 8))]) .ret))⟩
def QueueOk (s : S4) : Prop := RowsOk 4 s
instance (s : S4) : Decidable (QueueOk s) := inferInstanceAs (Decidable (RowsOk 4 s))
section
variable (X : Ext) (F : FuncId → Option RFunc) (g : FuncId)
abbrev S_qMay : Prop := ∀ (lim : Nat) (h : AH) {r0 r1 r2 r3 : Row}, St h r0 r1 r2 r3 → Ret X F lim g [stV r0 r1 r2 r3] h fun v h' => Pfx h h' ∧ v = .bool (decide (QueueOk ⟨r0.xs, r1.xs, r2.xs, r3.xs⟩))
abbrev S_qin : Prop := ∀ (lim : Nat) (h : AH) {a : Option Addr} {n lo hi : Nat} {xs : List Int} {x : Int}, lim ≤ lo → hi ≤ h.length → lo ≤ hi → n < 4 → Ap lo hi 1 h a n (ints xs) → Ret X F lim g [.slice a n n, .int .i64 x] h fun v h' => h.length ≤ h'.length ∧ (∀ b, (b < lo ∨ hi ≤ b) → b < h.length → h'[b]? = h[b]?) ∧ ∃ a', v = .tuple #[.slice a' (n + 1) (n + 1), .int .i64 1] ∧ Ap h.length h'.length 1 h' a' (n + 1) (ints (xs ++ [x]))
abbrev S_qin4 : Prop := ∀ (lim : Nat) (h : AH) {a : Option Addr} {x : Int}, Ret X F lim g [.slice a 4 4, .int .i64 x] h fun v h' => Pfx h h' ∧ v = .tuple #[.slice a 4 4, .int .i64 0]
abbrev S_in2 : Prop := S_qin X F g ∧ S_qin4 X F g
abbrev S_qout : Prop := ∀ (lim : Nat) (h : AH) {b : Nat} {n : Nat} {x : Int} {xs : List Int}, h[b]? = some (.cells (ints (x :: xs))) → xs.length + 1 = n → Ret X F lim g [.slice (some ⟨b, 0, some 1⟩) n n] h fun v h' => Pfx h h' ∧ v = .tuple #[.slice (some ⟨b, 1, some 1⟩) (n - 1) (n - 1), .int .i64 x]
abbrev S_qout0 : Prop := ∀ (lim : Nat) (h : AH) {a : Option Addr}, Ret X F lim g [.slice a 0 0] h fun v h' => Pfx h h' ∧ v = .tuple #[.slice a 0 0, .int .i64 (-1)]
abbrev S_out2 : Prop := S_qout X F g ∧ S_qout0 X F g
abbrev S_fMany : Prop := ∀ (lim : Nat) (h : AH) {b : Nat} {r0 r1 r2 r3 : Row}, lim ≤ h.length → h[b]? = some (.cells [r0.v, r1.v, r2.v, r3.v]) → St h r0 r1 r2 r3 → r0.n ≤ 2 ^ 40 ∧ r1.n ≤ 2 ^ 40 ∧ r2.n ≤ 2 ^ 40 ∧ r3.n ≤ 2 ^ 40 → Ret X F lim g [.pointer (some ⟨b, 0, none⟩)] h fun v h' => Pfx h h' ∧ v = .int .i64 (((r0.n + r1.n + r2.n + r3.n : Nat)) : Int)
abbrev S_CopyP : Prop := ∀ (lim : Nat) (h : AH) {r0 r1 r2 r3 : Row}, lim ≤ h.length → St h r0 r1 r2 r3 → Ret X F lim g [stV r0 r1 r2 r3] h fun v h' => Pfx h h' ∧ MadeP h h' (fun r0 r1 r2 r3 => stV r0 r1 r2 r3) ⟨r0.xs, r1.xs, r2.xs, r3.xs⟩ v
end
theorem ints_snoc (xs : List Int) (x : Int) : ints xs ++ [Value.int .i64 x] = ints (xs ++ [x]) := by simp [ints]
section
variable {X : Ext} {F : FuncId → Option RFunc} {f : FuncId}
theorem s_qMay {g0 : Nat} (hX : X f = none) (hF : F f = some (rf_qMay g0)) (c0' : S_Args X F g0) : S_qMay X F f := by
 intro lim h r0 r1 r2 r3 hst
 have hL := Loc.start h
 have cc : ∀ {r : Row}, RowOk h r → ∀ lim h', Pfx h h' → Ret X F lim g0 [r.v, .int .i64 4] h' fun v h'' => Pfx h' h'' ∧ v = .bool (decide ((r.xs.length : Int) ≤ 4 ∧ ArgsOk r.xs)) := fun hr lim h' hp => by have := c0' lim h' (m := 4) (hr.pfx hp); rw [← hr.1.ilen] at this; exact this
 have c0 := cc hst.1
 have c1 := cc hst.2.1
 have c2 := cc hst.2.2.1
 have c3 := cc hst.2.2.2
 have hd : decide (QueueOk ⟨r0.xs, r1.xs, r2.xs, r3.xs⟩) = decide (((r0.xs.length : Int) ≤ 4 ∧ ArgsOk r0.xs) ∧ ((r1.xs.length : Int) ≤ 4 ∧ ArgsOk r1.xs) ∧ ((r2.xs.length : Int) ≤ 4 ∧ ArgsOk r2.xs) ∧ ((r3.xs.length : Int) ≤ 4 ∧ ArgsOk r3.xs)) := decIff Iff.rfl
 rw [hd]
 refine Ret.body hX hF rfl ?_
 simp only [argL, rf_qMay]
 (refine Cs (Co (Wc ?_)); refine OL.boxA hL rfl rfl (fun b h' hL => (Wm rfl (Wt ?_))); refine Cs (Cs (Co (Wc (OP.fieldAddr0 rfl (Wc (OL.loadAll (k := 0) hL rfl rfl rfl (Wm rfl (Wt ?_)))))))); refine WC.block ?_)
 refine WC.unroll ?_
 (refine Cs (Co (Wc (OP.lssT rfl rfl (by omega) ?_))); refine Wn ?_; dsimp only [zn, zr, zx, yn, yr]; refine Cs (WC.condT rfl (WC.skip ?_)); dsimp only [zn, zr, zx, yn, yr]; refine Cs (WC.block (Cs (Co (Wc (OP.idxArr1 rfl rfl (by decide) rfl ?_))))); refine Wm rfl (Wn ?_); dsimp only [zn, zr, zx, yn, yr]; refine Cs (Co (Wm rfl (Wc ?_))); refine OL.callB hL rfl rfl (c0 _ _ hL.pfx) (fun h' hp hL hc => ?_) (fun h' hp hL hc => ?_); refine Wc (OP.not rfl (Wn ?_)); dsimp only [zn, zr, zx, yn, yr]; refine WC.condF rfl (WC.skip ?_); dsimp only [zn, zr, zx, yn, yr]; refine Co (Wc (OP.addL rfl rfl (by simp only [Int.reduceAdd]; rfl) (by decide) ?_)); refine Wm rfl (Wn ?_); dsimp only [zn, zr, zx, yn, yr])
 refine WC.unroll ?_
 (refine Cs (Co (Wc (OP.lssT rfl rfl (by omega) ?_))); refine Wn ?_; dsimp only [zn, zr, zx, yn, yr]; refine Cs (WC.condT rfl (WC.skip ?_)); dsimp only [zn, zr, zx, yn, yr]; refine Cs (WC.block (Cs (Co (Wc (OP.idxArr1 rfl rfl (by decide) rfl ?_))))); refine Wm rfl (Wn ?_); dsimp only [zn, zr, zx, yn, yr]; refine Cs (Co (Wm rfl (Wc ?_))); refine OL.callB hL rfl rfl (c1 _ _ hL.pfx) (fun h' hp hL hc => ?_) (fun h' hp hL hc => ?_); refine Wc (OP.not rfl (Wn ?_)); dsimp only [zn, zr, zx, yn, yr]; refine WC.condF rfl (WC.skip ?_); dsimp only [zn, zr, zx, yn, yr]; refine Co (Wc (OP.addL rfl rfl (by simp only [Int.reduceAdd]; rfl) (by decide) ?_)); refine Wm rfl (Wn ?_); dsimp only [zn, zr, zx, yn, yr])
 refine WC.unroll ?_
 (refine Cs (Co (Wc (OP.lssT rfl rfl (by omega) ?_))); refine Wn ?_; dsimp only [zn, zr, zx, yn, yr]; refine Cs (WC.condT rfl (WC.skip ?_)); dsimp only [zn, zr, zx, yn, yr]; refine Cs (WC.block (Cs (Co (Wc (OP.idxArr1 rfl rfl (by decide) rfl ?_))))); refine Wm rfl (Wn ?_); dsimp only [zn, zr, zx, yn, yr]; refine Cs (Co (Wm rfl (Wc ?_))); refine OL.callB hL rfl rfl (c2 _ _ hL.pfx) (fun h' hp hL hc => ?_) (fun h' hp hL hc => ?_); refine Wc (OP.not rfl (Wn ?_)); dsimp only [zn, zr, zx, yn, yr]; refine WC.condF rfl (WC.skip ?_); dsimp only [zn, zr, zx, yn, yr]; refine Co (Wc (OP.addL rfl rfl (by simp only [Int.reduceAdd]; rfl) (by decide) ?_)); refine Wm rfl (Wn ?_); dsimp only [zn, zr, zx, yn, yr])
 refine WC.unroll ?_
 (refine Cs (Co (Wc (OP.lssT rfl rfl (by omega) ?_))); refine Wn ?_; dsimp only [zn, zr, zx, yn, yr]; refine Cs (WC.condT rfl (WC.skip ?_)); dsimp only [zn, zr, zx, yn, yr]; refine Cs (WC.block (Cs (Co (Wc (OP.idxArr1 rfl rfl (by decide) rfl ?_))))); refine Wm rfl (Wn ?_); dsimp only [zn, zr, zx, yn, yr]; refine Cs (Co (Wm rfl (Wc ?_))); refine OL.callB hL rfl rfl (c3 _ _ hL.pfx) (fun h' hp hL hc => ?_) (fun h' hp hL hc => ?_); refine Wc (OP.not rfl (Wn ?_)); dsimp only [zn, zr, zx, yn, yr]; refine WC.condF rfl (WC.skip ?_); dsimp only [zn, zr, zx, yn, yr]; refine Co (Wc (OP.addL rfl rfl (by simp only [Int.reduceAdd]; rfl) (by decide) ?_)); refine Wm rfl (Wn ?_); dsimp only [zn, zr, zx, yn, yr])
 refine WC.unroll ?_
 (refine Cs (Co (Wc (OP.lssF rfl rfl (by omega) ?_))); refine Wt ?_; refine Cs (WC.condF rfl (WC.exit ?_)); dsimp only [zn, zr, zx, yn, yr]; rw [yx, if_pos rfl]; dsimp only [zn, zr, zx, yn, yr]; refine Cs (Co (Wm rfl (Wt ?_))); refine WC.ret ?_; exact Fin.ret rfl ⟨hL.pfx, boolT (by grind)⟩; refine Wc (OP.not rfl (Wt ?_)); refine WC.condT rfl (Cs (Co (Wm rfl (Wt ?_)))); refine WC.ret ?_; dsimp only [zn, zr, zx, yn, yr]; exact Fin.ret rfl ⟨hL.pfx, boolF (by grind)⟩; refine Wc (OP.not rfl (Wt ?_)); refine WC.condT rfl (Cs (Co (Wm rfl (Wt ?_)))); refine WC.ret ?_; dsimp only [zn, zr, zx, yn, yr]; exact Fin.ret rfl ⟨hL.pfx, boolF (by grind)⟩; refine Wc (OP.not rfl (Wt ?_)); refine WC.condT rfl (Cs (Co (Wm rfl (Wt ?_)))); refine WC.ret ?_; dsimp only [zn, zr, zx, yn, yr]; exact Fin.ret rfl ⟨hL.pfx, boolF (by grind)⟩; refine Wc (OP.not rfl (Wt ?_)); refine WC.condT rfl (Cs (Co (Wm rfl (Wt ?_)))); refine WC.ret ?_; dsimp only [zn, zr, zx, yn, yr]; exact Fin.ret rfl ⟨hL.pfx, boolF (by grind)⟩)
theorem s_qin (hX : X f = none) (hF : F f = some rf_qin) : S_in2 X F f := by
 constructor
 ·intro lim h a n lo hi xs x hlo hhi hle hn hA
  have hA1 := hA.sl.1
  have hL0 : Loc h h [] := Loc.start h
  refine Ret.body hX hF rfl ?_
  simp only [argL, rf_qin]
  have hL := Loc.frame hA hle hhi
  have htl : (h.take lo).length = lo := by rw [List.length_take]; omega
  have hlim : lim ≤ (h.take lo).length := by omega
  (refine Cs (Co (Wm rfl (Wm rfl (Wt ?_)))); refine Cs (Cs (Co (Wm rfl (Wc (OP.lenS rfl (Wc (OP.eqlF rfl rfl (by omega) ?_))))))); refine Wt ?_; refine WC.condF rfl (Ks ?_); refine Cs (Co (Wm rfl (Wm rfl (Wc ?_)))); refine OL.buildSlice hL rfl (by simp [over, Value.cells]; rfl) rfl (fun b h' hL => ?_); refine Wc ?_; refine OL.append (k := 2) hL hlim rfl rfl rfl (Loc.bxAt (k := 0) hL rfl rfl) (by omega) ⟨by omega, by omega, by omega⟩ rfl (fun a' h' hL => ?_); dsimp only [List.eraseIdx] at hL; refine Wm rfl (Wm rfl (Wt ?_)); refine WC.ret ?_)
  rw [ints_snoc xs x] at hL
  refine Fin.ret rfl ⟨?_, fun b hb hbl => ?_, a', rfl, ?_⟩
  ·exact hL.toEnd (k := 2) rfl
  ·rcases hb with hb | hb
   ·have := hL.pfx.2 b (by omega)
    rw [this, List.getElem?_take_of_lt hb]
   ·exact hL.get (k := 2) rfl b hb hbl
  ·have h3 := hL.below (i := 0) (j := 2) rfl rfl (by decide)
   exact Ap.widen (hL.get (k := 0) rfl) h3 (hL.toEnd (k := 0) rfl)
 ·intro lim h a x
  have hL := Loc.start h
  refine Ret.body hX hF rfl ?_
  simp only [argL, rf_qin]
  (refine Cs (Co (Wm rfl (Wm rfl (Wt ?_)))); refine Cs (Cs (Co (Wm rfl (Wc (OP.lenS rfl (Wc (OP.eqlT rfl rfl (by omega) ?_))))))); refine Wt ?_; refine WC.condT rfl (Cs (Co (Wm rfl (Wm rfl (Wm rfl (Wt ?_)))))); refine WC.ret ?_; dsimp only [zn, zr, zx, yn, yr]; exact Fin.ret rfl ⟨hL.pfx, rfl⟩)
theorem s_qout (hX : X f = none) (hF : F f = some rf_qout) : S_out2 X F f := by
 constructor
 ·intro lim h b n x xs hb hn
  have hS : Sl 1 h (some ⟨b, 0, some 1⟩) n n (ints (x :: xs)) := by
   have := Sl.front (m := some 1) (n := n) (c := n) (sz := 1) (cs := ints (x :: xs)) (ds := []) (by rw [hb]; simp) (by rw [ints_len]; simp; omega) (Nat.le_refl _)
   exact this
  have hL := Loc.start h
  refine Ret.body hX hF rfl ?_
  simp only [argL, rf_qout]
  (refine Cs (Co (Wm rfl (Wm rfl (Wt ?_)))); refine Cs (Cs (Co (Wm rfl (Wc (OP.lenS rfl (Wc (OP.eqlF rfl rfl (by omega) ?_))))))); refine Wt ?_; refine WC.condF rfl (Ks ?_); refine Cs (Co (WO.consQ (OP.mv rfl ?_))))
  (refine WO.consQ ?_)
  refine OP.sliceS (i := 1) (j := n) rfl (.inr rfl) ⟨_, rfl⟩ rfl (by omega) (by omega) ?_
  (refine Wm rfl (Wc (OP.idxZ (by assumption) rfl rfl (by omega) ?_)); refine Wc (OP.load rfl (by assumption) rfl ?_); refine WO.consQ (OP.mv rfl (Wm rfl (Wt ?_))); refine WC.ret ?_; exact Fin.ret rfl ⟨hL.pfx, rfl⟩)
 ·intro lim h a
  have hL := Loc.start h
  refine Ret.body hX hF rfl ?_
  simp only [argL, rf_qout]
  (refine Cs (Co (Wm rfl (Wm rfl (Wt ?_)))); refine Cs (Cs (Co (Wm rfl (Wc (OP.lenS rfl (Wc (OP.eqlT rfl rfl (by omega) ?_))))))); refine Wt ?_; refine WC.condT rfl (Cs (Co (Wm rfl (Wm rfl (Wm rfl (Wt ?_)))))); refine WC.ret ?_; dsimp only [zn, zr, zx, yn, yr]; exact Fin.ret rfl ⟨hL.pfx, rfl⟩)
theorem s_fMany {g0 : Nat} (hX : X f = none) (hF : F f = some (rf_fMany g0)) (c0 : S_Concat X F g0) : S_fMany X F f := by
 intro lim h b r0 r1 r2 r3 hlim hb hst hn
 have hL := Loc.start h
 refine Ret.body hX hF rfl ?_
 simp only [argL, rf_fMany]
 (refine Cs (Co (Wm rfl (Wt ?_))); refine Cs (Co (Wm rfl (Wc (OP.nilP rfl (Wc (OP.fieldAddr0 rfl (Wc (OP.sliceArr0 rfl ?_)))))))))
 (refine Wc ?_)
 refine OL.call hL rfl rfl (c0 _ _ (hL.lm hlim) hb hst hn) (fun v h1 hp hL hv => ?_)
 obtain ⟨aa, nn, cc, rfl, rfl, hss⟩ := hv
 (refine Wc (OP.lenS rfl (Wm rfl (Wt ?_))); refine WC.ret ?_; exact Fin.ret rfl ⟨hL.pfx, rfl⟩)
theorem copyP {g0 : Nat} (hX : X f = none) (hF : F f = some (rf_sCopy g0)) (hX0 : X g0 = none) (hF0 : F g0 = some rf_Clone) : S_CopyP X F f := by
 intro lim h r0 r1 r2 r3 hlim hst
 have hL := Loc.start h
 refine Ret.body hX hF rfl ?_
 obtain ⟨⟨s0, l0⟩, ⟨s1, l1⟩, ⟨s2, l2⟩, ⟨s3, l3⟩⟩ := id hst
 simp only [argL, rf_sCopy]
 (refine Cs (Co (Wc ?_)); refine OL.boxA hL rfl rfl (fun b h' hL => (Wc ?_)); refine OL.new hL (fun b h' hL => (Wt ?_)); refine Cs (Cs (Co (Wm rfl (Wt ?_)))); refine WC.block ?_)
 refine WC.unroll ?_
 (refine Cs (Co (Wc (OP.lssT rfl rfl (by omega) ?_))); refine Wt ?_; refine Cs (WC.condT rfl (Ks ?_)); refine Cs (WC.block (Cs (Co (Wm rfl (Wm rfl (Wt ?_)))))); refine Co (Wm rfl (Wm rfl (Wc (OP.fieldAddr0 rfl (Wc (OP.idxArrZ rfl rfl (by decide) (by simp only [Int.reduceToNat, Nat.mul_one, Nat.zero_add, Nat.reduceMul, Nat.reduceAdd]; rfl) ?_)))))); refine Wc (OL.load1 (k := 1) hL rfl rfl rfl ?_))
 (refine Wc ?_)
 refine OL.callAp hL rfl rfl (Clone_run hX0 hF0 (s0.pfx hL.pfx) l0) (fun a0 h' hp hL => ?_)
 (refine Wc (OP.fieldAddr0 rfl (Wc (OP.idxArrZ rfl rfl (by decide) (by simp only [Int.reduceToNat, Nat.mul_one, Nat.zero_add, Nat.reduceMul, Nat.reduceAdd]; rfl) ?_))); refine WO.cons0 ?_; refine OL.store1 (k := 2) hL hlim rfl rfl rfl rfl rfl rfl rfl (fun h' hL => ?_); dsimp only [List.set, Nat.zero_add, Nat.reduceAdd, Nat.reduceMul] at hL; refine Wt ?_; refine Co (Wc (OP.addL rfl rfl (by simp only [Int.reduceAdd]; rfl) (by decide) ?_)); refine Wm rfl (Wt ?_))
 refine WC.unroll ?_
 (refine Cs (Co (Wc (OP.lssT rfl rfl (by omega) ?_))); refine Wt ?_; refine Cs (WC.condT rfl (Ks ?_)); refine Cs (WC.block (Cs (Co (Wm rfl (Wm rfl (Wt ?_)))))); refine Co (Wm rfl (Wm rfl (Wc (OP.fieldAddr0 rfl (Wc (OP.idxArrZ rfl rfl (by decide) (by simp only [Int.reduceToNat, Nat.mul_one, Nat.zero_add, Nat.reduceMul, Nat.reduceAdd]; rfl) ?_)))))); refine Wc (OL.load1 (k := 2) hL rfl rfl rfl ?_))
 (refine Wc ?_)
 refine OL.callAp hL rfl rfl (Clone_run hX0 hF0 (s1.pfx hL.pfx) l1) (fun a1 h' hp hL => ?_)
 (refine Wc (OP.fieldAddr0 rfl (Wc (OP.idxArrZ rfl rfl (by decide) (by simp only [Int.reduceToNat, Nat.mul_one, Nat.zero_add, Nat.reduceMul, Nat.reduceAdd]; rfl) ?_))); refine WO.cons0 ?_; refine OL.store1 (k := 3) hL hlim rfl rfl rfl rfl rfl rfl rfl (fun h' hL => ?_); dsimp only [List.set, Nat.zero_add, Nat.reduceAdd, Nat.reduceMul] at hL; refine Wt ?_; refine Co (Wc (OP.addL rfl rfl (by simp only [Int.reduceAdd]; rfl) (by decide) ?_)); refine Wm rfl (Wt ?_))
 refine WC.unroll ?_
 (refine Cs (Co (Wc (OP.lssT rfl rfl (by omega) ?_))); refine Wt ?_; refine Cs (WC.condT rfl (Ks ?_)); refine Cs (WC.block (Cs (Co (Wm rfl (Wm rfl (Wt ?_)))))); refine Co (Wm rfl (Wm rfl (Wc (OP.fieldAddr0 rfl (Wc (OP.idxArrZ rfl rfl (by decide) (by simp only [Int.reduceToNat, Nat.mul_one, Nat.zero_add, Nat.reduceMul, Nat.reduceAdd]; rfl) ?_)))))); refine Wc (OL.load1 (k := 3) hL rfl rfl rfl ?_))
 (refine Wc ?_)
 refine OL.callAp hL rfl rfl (Clone_run hX0 hF0 (s2.pfx hL.pfx) l2) (fun a2 h' hp hL => ?_)
 (refine Wc (OP.fieldAddr0 rfl (Wc (OP.idxArrZ rfl rfl (by decide) (by simp only [Int.reduceToNat, Nat.mul_one, Nat.zero_add, Nat.reduceMul, Nat.reduceAdd]; rfl) ?_))); refine WO.cons0 ?_; refine OL.store1 (k := 4) hL hlim rfl rfl rfl rfl rfl rfl rfl (fun h' hL => ?_); dsimp only [List.set, Nat.zero_add, Nat.reduceAdd, Nat.reduceMul] at hL; refine Wt ?_; refine Co (Wc (OP.addL rfl rfl (by simp only [Int.reduceAdd]; rfl) (by decide) ?_)); refine Wm rfl (Wt ?_))
 refine WC.unroll ?_
 (refine Cs (Co (Wc (OP.lssT rfl rfl (by omega) ?_))); refine Wt ?_; refine Cs (WC.condT rfl (Ks ?_)); refine Cs (WC.block (Cs (Co (Wm rfl (Wm rfl (Wt ?_)))))); refine Co (Wm rfl (Wm rfl (Wc (OP.fieldAddr0 rfl (Wc (OP.idxArrZ rfl rfl (by decide) (by simp only [Int.reduceToNat, Nat.mul_one, Nat.zero_add, Nat.reduceMul, Nat.reduceAdd]; rfl) ?_)))))); refine Wc (OL.load1 (k := 4) hL rfl rfl rfl ?_))
 (refine Wc ?_)
 refine OL.callAp hL rfl rfl (Clone_run hX0 hF0 (s3.pfx hL.pfx) l3) (fun a3 h' hp hL => ?_)
 (refine Wc (OP.fieldAddr0 rfl (Wc (OP.idxArrZ rfl rfl (by decide) (by simp only [Int.reduceToNat, Nat.mul_one, Nat.zero_add, Nat.reduceMul, Nat.reduceAdd]; rfl) ?_))); refine WO.cons0 ?_; refine OL.store1 (k := 5) hL hlim rfl rfl rfl rfl rfl rfl rfl (fun h' hL => ?_); dsimp only [List.set, Nat.zero_add, Nat.reduceAdd, Nat.reduceMul] at hL; refine Wt ?_; refine Co (Wc (OP.addL rfl rfl (by simp only [Int.reduceAdd]; rfl) (by decide) ?_)); refine Wm rfl (Wt ?_))
 refine WC.unroll ?_
 (refine Cs (Co (Wc (OP.lssF rfl rfl (by omega) ?_))); refine Wt ?_; refine Cs (WC.condF rfl (WC.exit ?_)); dsimp only [zn, zr, zx, yn, yr]; rw [yx, if_pos rfl]; dsimp only [zn, zr, zx, yn, yr]; refine Cs (Co (Wc (OL.loadAll (k := 5) hL rfl rfl rfl (WO.cons0 ?_)))); refine OL.storeAll (k := 4) hL hlim rfl rfl rfl rfl rfl rfl (by decide) rfl (fun h' hL => ?_); dsimp only [List.set, Nat.zero_add, Nat.reduceAdd, Nat.reduceMul] at hL; refine Wt ?_; refine WC.ret ?_)
 exact Fin.ret (resL_cell rfl (hL.cell (k := 4) rfl) rfl rfl) ⟨hL.pfx, _, _, _, _, _, _, _, _, rfl, hL.made4 (k0 := 3) (k1 := 2) (k2 := 1) (k3 := 0) rfl rfl rfl rfl (by decide) (by decide) (by decide)⟩
end
end
end Go.Proofs.YtalknjppnkpmmaaDoorW.Ai
