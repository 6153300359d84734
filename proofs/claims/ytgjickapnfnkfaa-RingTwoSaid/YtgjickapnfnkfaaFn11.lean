/-
 Entries' bits, copies of rings, rings that are the same (chapters 9, 10), as the small machine runs them.
-/
import Derived.Test.YtgjickapnfnkfaaFn10
import Derived.Test.YtgjickapnfnkfaaMf
set_option linter.unusedVariables false
set_option linter.unusedSimpArgs false
set_option maxHeartbeats 4000000
set_option maxRecDepth 100000
namespace Go.Proofs.YtgjickapnfnkfaaW.Ai
-- chorus/slot.Bit; g0 = chorus/slot.Many; g1 = chorus/cell.Number
def rf_Bit (g0 g1 : Nat) : RFunc :=
 ⟨19, [(.tmp 4), (.tmp 5)], (.seq (.ops [rO 4 (.mv (.const (.int .i64 0))), rO 5 (.mv (.const (.int .i64 0)))]) (.seq (.seq (.ops [rO 6 (.mv (.tmp 1)), rO 7 (.call (.func g0) [(.tmp 6)]), rO 8 (.un .not (.tmp 7)), rO 9 (.mv (.tmp 8)), ⟨(.some 10), (.mv (.tmp 0)), (.some (9, false)), false, []⟩, ⟨(.some 11), (.call (.func g1) [(.tmp 10)]), (.some (9, false)), false, []⟩, ⟨(.some 12), (.un .not (.tmp 11)), (.some (9, false)), false, []⟩, rO 13 (.pick (.tmp 9) (.const (.bool true)) (.tmp 12))]) (.cond (.tmp 13) (.seq (.ops [rO 4 (.mv (.const (.int .i64 0))), rO 5 (.mv (.const (.int .i64 900)))]) .ret) .skip)) (.seq (.ops [rO 14 (.mv (.tmp 0)), rO 15 (.mv (.tmp 1)), rO 16 (.bin .quo (.tmp 14) (.tmp 15)), rO 17 (.bin .rem (.tmp 16) (.const (.int .i64 2))), rO 18 (.bin .sub (.const (.int .i64 1)) (.tmp 17)), rO 4 (.mv (.tmp 18)), rO 5 (.mv (.const (.int .i64 0)))]) .ret)))⟩
-- chorus/slot.Alive; g0 = chorus/slot.Bit
def rf_Alive (g0 : Nat) : RFunc :=
 ⟨25, [(.tmp 6), (.tmp 7)], (.seq (.ops [rO 3 (.box (.tmp 0)), rO 6 (.mv (.const (.bool false))), rO 7 (.mv (.const (.int .i64 0)))]) (.seq (.ops [rO 11 (.mv (.tmp 1)), rO 12 (.mv (.tmp 2)), rO 13 (.call (.func g0) [(.tmp 11), (.tmp 12)]), rO 10 (.mv (.tmp 13)), rO 14 (.extract (.tmp 10) 0), rO 15 (.extract (.tmp 10) 1), rO 8 (.mv (.tmp 14)), rO 9 (.mv (.tmp 15))]) (.seq (.ops [rO 16 (.mv (.tmp 9)), rO 17 (.bin .eql (.tmp 16) (.const (.int .i64 0))), rO 18 (.mv (.tmp 17)), ⟨(.some 19), (.fieldAddr 4 (.tmp 3)), (.some (18, true)), false, []⟩, ⟨(.some 20), (.load .none (.tmp 19)), (.some (18, true)), false, []⟩, ⟨(.some 21), (.mv (.tmp 8)), (.some (18, true)), false, []⟩, ⟨(.some 22), (.bin .eql (.tmp 20) (.tmp 21)), (.some (18, true)), false, []⟩, rO 23 (.pick (.tmp 18) (.tmp 22) (.const (.bool false))), rO 24 (.mv (.tmp 9)), rO 6 (.mv (.tmp 23)), rO 7 (.mv (.tmp 24))]) .ret)))⟩
-- chorus/ring.in
def rf_in : RFunc :=
 ⟨19, [(.tmp 4)], (.seq (.ops [rO 4 (.mv (.const (.bool false)))]) (.seq (.ops [rO 5 (.mv (.tmp 1)), rO 6 (.mv (.tmp 0)), rO 7 (.nilCheck (.tmp 6)), rO 8 (.fieldAddr 0 (.tmp 7)), rO 9 (.load .none (.tmp 8)), rO 10 (.bin .geq (.tmp 5) (.tmp 9)), rO 11 (.mv (.tmp 10)), ⟨(.some 12), (.mv (.tmp 1)), (.some (11, true)), false, []⟩, ⟨(.some 13), (.mv (.tmp 0)), (.some (11, true)), false, []⟩, ⟨(.some 14), (.nilCheck (.tmp 13)), (.some (11, true)), false, []⟩, ⟨(.some 15), (.fieldAddr 1 (.tmp 14)), (.some (11, true)), false, []⟩, ⟨(.some 16), (.load .none (.tmp 15)), (.some (11, true)), false, []⟩, ⟨(.some 17), (.bin .lss (.tmp 12) (.tmp 16)), (.some (11, true)), false, []⟩, rO 18 (.pick (.tmp 11) (.tmp 17) (.const (.bool false))), rO 4 (.mv (.tmp 18))]) .ret))⟩
-- slices.Clone[[]chorus/api.Slot,chorus/api.Slot]
def rf_CloneS : RFunc :=
 ⟨8, [(.tmp 2)], (.seq (.ops [rO 2 (.mv (.const (.slice .none 0 0)))]) (.seq (.seq (.ops [rO 3 (.mv (.tmp 0)), rO 4 (.isNil false 0 (.tmp 3))]) (.cond (.tmp 4) (.seq (.ops [rO 2 (.mv (.const (.slice .none 0 0)))]) .ret) .skip)) (.seq (.ops [rO 5 (.buildSlice [] 0 []), rO 6 (.mv (.tmp 0)), rO 7 (.append 5 40 (.tmp 5) (.tmp 6)), rO 2 (.mv (.tmp 7))]) .ret)))⟩
-- chorus/ring.Copy; g0 = slices.Clone[[]chorus/api.Slot,chorus/api.Slot]
def rf_rCopy (g0 : Nat) : RFunc :=
 ⟨8, [(.cell 2 (.some 4))], (.seq (.ops [rO 1 (.box (.tmp 0)), rO 2 (.new [(.int .i64 0), (.int .i64 0), (.int .i64 0), (.slice .none 0 0)])]) (.seq (.ops [rO 3 (.fieldAddr 3 (.tmp 1)), rO 4 (.load .none (.tmp 3)), rO 5 (.call (.func g0) [(.tmp 4)]), rO 6 (.fieldAddr 3 (.tmp 1)), ⟨.none, (.store 1 (.tmp 6) (.tmp 5)), .none, false, []⟩]) (.seq (.ops [rO 7 (.load (.some 4) (.tmp 1)), ⟨.none, (.store 4 (.tmp 2) (.tmp 7)), .none, false, []⟩]) .ret)))⟩
/-- The bit of an entry; whether it is alive. -/
def BitM (at' n : Int) : Int × Int := if SlotsN n ∧ 0 ≤ at' ∧ at' ≤ 1048576 then (1 - at' / n % 2, 0) else (0, 900)
section
variable (X : Ext) (F : FuncId → Option RFunc) (g : FuncId)
abbrev S_Bit : Prop := ∀ (lim : Nat) (h : AH) {x n : Int}, Ret X F lim g [.int .i64 x, .int .i64 n] h fun v h' => Pfx h h' ∧ v = .tuple #[.int .i64 (BitM x n).1, .int .i64 (BitM x n).2]
abbrev S_Alive : Prop := ∀ (lim : Nat) (h : AH) {s : SlotR} {x n : Int}, Ret X F lim g [.agg (slotC s).toArray, .int .i64 x, .int .i64 n] h fun v h' => Pfx h h' ∧ v = .tuple #[.bool (decide ((BitM x n).2 = 0 ∧ s.b = (BitM x n).1)), .int .i64 (BitM x n).2]
abbrev S_in : Prop := ∀ (lim : Nat) (h : AH) {b : Nat} {p q x : Int} {e s : Value}, h[b]? = some (.cells [.int .i64 p, .int .i64 q, e, s]) → Ret X F lim g [.pointer (some ⟨b, 0, none⟩), .int .i64 x] h fun v h' => Pfx h h' ∧ v = .bool (decide (p ≤ x ∧ x < q))
abbrev S_CloneS : Prop := ∀ (lim : Nat) (h : AH) {ss : List SlotR} {a : Option Addr} {n c : Nat}, Sl 5 h a n c (recs slotC ss) → n ≤ 4398046511104 → Ret X F lim g [.slice a n c] h fun v h' => Pfx h h' ∧ MadeN 5 h h' (fun a n => .slice a n n) (recs slotC ss) v
abbrev S_rCopy : Prop := ∀ (lim : Nat) (h : AH) {r : RingR} {a : Option Addr} {n c : Nat}, lim ≤ h.length → Sl 5 h a n c (recs slotC r.ss) → n ≤ 4398046511104 → Ret X F lim g [ringC r a n c] h fun v h' => Pfx h h' ∧ MadeN 5 h h' (fun a n => ringV r a n) (recs slotC r.ss) v
abbrev S_lCopyRing : Prop := S_rCopy X F g
abbrev S_SameRing : Prop := ∀ (lim : Nat) (h : AH) {r t : RingR} {a b : Option Addr} {n m : Nat}, Sl 5 h a n n (recs slotC r.ss) → n ≤ 4398046511104 → Sl 5 h b m m (recs slotC t.ss) → Ret X F lim g [ringV r a n, ringV t b m] h fun v h' => Pfx h h' ∧ v = .bool (decide (r = t))
end
section
variable {X : Ext} {F : FuncId → Option RFunc} {f : FuncId}
theorem s_Bit {g0 g1 : Nat} (hX : X f = none) (hF : F f = some (rf_Bit g0 g1)) (c0 : S_Many X F g0) (c1 : S_Number X F g1) : S_Bit X F f := by
 intro lim h x n
 have hL := Loc.start h
 refine Ret.body hX hF rfl ?_
 simp only [argL, rf_Bit]
 (refine Cs (Co (Wm rfl (Wm rfl (Wt ?_)))); refine Cs (Cs (Co (Wm rfl (Wc ?_)))); refine OL.callB hL rfl rfl (c0 _ _) (fun h' hp hL hc => ?_) (fun h' hp hL hc => ?_); refine Wc (OP.not rfl (Wm rfl (WO.yes rfl (Wm rfl (WO.yes rfl (Wc ?_)))))); refine OL.callB hL rfl rfl (c1 _ _) (fun h' hp hL hc => ?_) (fun h' hp hL hc => ?_); refine WO.yes rfl (Wc (OP.not rfl (Wc (OP.pickF rfl rfl (Wt ?_))))); refine WC.condF rfl (Ks ?_); refine Cs (Co (Wm rfl (Wm rfl (Wc ?_)))); refine OP.quoP rfl rfl (by omega) (by omega) (fun m hm hm2 => ?_); refine Wc ?_; refine OP.remP rfl rfl (by omega) (by omega) (fun m hm hm2 => ?_); refine Wc (OP.sub rfl rfl (by omega) ?_); refine Wm rfl (Wm rfl (Wt ?_)); refine WC.ret ?_)
 rw [show BitM x n = (1 - x / n % 2, 0) from if_pos (by omega)]
 subst_vars
 (exact Fin.ret rfl ⟨hL.pfx, rfl⟩; refine WO.yes rfl (Wc (OP.not rfl (Wc (OP.pickF rfl rfl (Wt ?_))))); refine WC.condT rfl (Cs (Co (Wm rfl (Wm rfl (Wt ?_))))); refine WC.ret ?_; dsimp only [zn, zr, zx, yn, yr])
 rw [show BitM x n = (0, 900) from if_neg (by omega)]
 (exact Fin.ret rfl ⟨hL.pfx, rfl⟩; refine Wc (OP.not rfl (Wm rfl (WO.no rfl (WO.no rfl (WO.no rfl (Wc (OP.pickT rfl rfl (Wt ?_)))))))); refine WC.condT rfl (Cs (Co (Wm rfl (Wm rfl (Wt ?_))))); refine WC.ret ?_; dsimp only [zn, zr, zx, yn, yr])
 rw [show BitM x n = (0, 900) from if_neg (by omega)]
 (exact Fin.ret rfl ⟨hL.pfx, rfl⟩)
theorem s_Alive {g0 : Nat} (hX : X f = none) (hF : F f = some (rf_Alive g0)) (c0 : S_Bit X F g0) : S_Alive X F f := by
 intro lim h s x n
 have hL := Loc.start h
 refine Ret.body hX hF rfl ?_
 simp only [argL, rf_Alive]
 (refine Cs (Co (Wc ?_)); refine OL.boxA hL rfl rfl (fun b h' hL => (Wm rfl (Wm rfl (Wt ?_)))); refine Cs (Co (Wm rfl (Wm rfl (Wc ?_)))); refine OL.callV hL rfl rfl (c0 _ _) (fun h' hp hL => (Wm rfl (Wc (OP.extract rfl rfl (Wc (OP.extract rfl rfl (Wm rfl (Wm rfl (Wt ?_))))))))); refine Cs (Co (Wm rfl (Wc ?_))); refine OP.eqlC rfl rfl (fun hc => ?_) (fun hc => ?_); refine Wm rfl (WO.yes rfl (Wc (OP.fieldAddr0 rfl (WO.yes rfl (Wc (OL.load1 (k := 0) hL rfl rfl rfl (WO.yes rfl (Wm rfl (WO.yes rfl (Wc ?_)))))))))); refine OP.eqlC rfl rfl (fun hc => ?_) (fun hc => ?_); refine Wc (OP.pickT rfl rfl (Wm rfl (Wm rfl (Wm rfl (Wt ?_))))); refine WC.ret ?_; exact Fin.ret rfl ⟨hL.pfx, tupBT (by grind)⟩; refine Wc (OP.pickT rfl rfl (Wm rfl (Wm rfl (Wm rfl (Wt ?_))))); refine WC.ret ?_; exact Fin.ret rfl ⟨hL.pfx, tupBF (by grind)⟩; refine Wm rfl (WO.no rfl (WO.no rfl (WO.no rfl (WO.no rfl (Wc (OP.pickF rfl rfl (Wm rfl (Wm rfl (Wm rfl (Wt ?_)))))))))); refine WC.ret ?_; exact Fin.ret rfl ⟨hL.pfx, tupBF (by grind)⟩)
theorem s_in (hX : X f = none) (hF : F f = some rf_in) : S_in X F f := by
 intro lim h b p q x e s hb
 have hL := Loc.start h
 refine Ret.body hX hF rfl ?_
 simp only [argL, rf_in]
 (refine Cs (Co (Wm rfl (Wt ?_))); refine Cs (Co (Wm rfl (Wm rfl (Wc (OP.nilP rfl (Wc (OP.fieldAddr0 rfl (Wc (OP.load rfl (by assumption) rfl ?_))))))))); refine Wc ?_; refine OP.geqC rfl rfl (fun hc => ?_) (fun hc => ?_); refine Wm rfl (WO.yes rfl (Wm rfl (WO.yes rfl (Wm rfl (WO.yes rfl (Wc (OP.nilP rfl (WO.yes rfl (Wc (OP.fieldAddr0 rfl (WO.yes rfl (Wc (OP.load rfl (by assumption) rfl ?_))))))))))))); refine WO.yes rfl (Wc ?_); refine OP.lssC rfl rfl (fun hc => ?_) (fun hc => ?_); refine Wc (OP.pickT rfl rfl (Wm rfl (Wt ?_))); refine WC.ret ?_; exact Fin.ret rfl ⟨hL.pfx, boolT (by omega)⟩; refine Wc (OP.pickT rfl rfl (Wm rfl (Wt ?_))); refine WC.ret ?_; exact Fin.ret rfl ⟨hL.pfx, boolF (by omega)⟩; refine Wm rfl (WO.no rfl (WO.no rfl (WO.no rfl (WO.no rfl (WO.no rfl (WO.no rfl (Wc (OP.pickF rfl rfl (Wm rfl (Wt ?_)))))))))); refine WC.ret ?_; exact Fin.ret rfl ⟨hL.pfx, boolF (by omega)⟩)
theorem s_CloneS (hX : X f = none) (hF : F f = some rf_CloneS) : S_CloneS X F f := by
 intro lim h ss a n c ha hn
 have hL := Loc.start h
 refine Ret.body hX hF rfl ?_
 simp only [argL, rf_CloneS]
 cases a with
 | none =>
  have h0 : n = 0 := by have := ha.2.2.2 rfl; have := ha.2.1; omega
  subst h0
  (refine Cs (Co (Wm rfl (Wt ?_))); refine Cs (Cs (Co (Wm rfl (Wc (OP.isNilT rfl rfl (Wt ?_)))))); refine WC.condT rfl (Cs (Co (Wm rfl (Wt ?_)))); refine WC.ret ?_; dsimp only [zn, zr, zx, yn, yr])
  have e : recs slotC ss = [] := List.eq_nil_of_length_eq_zero (by rw [ha.2.2.1, Nat.zero_mul])
  rw [e]
  exact Fin.ret rfl ⟨hL.pfx, none, 0, rfl, ⟨Sl.nil 5 _, Within.none _ _ _⟩, by omega⟩
 | some x =>
  (refine Cs (Co (Wm rfl (Wt ?_))); refine Cs (Cs (Co (Wm rfl (Wc (OP.isNilF rfl rfl (Wt ?_)))))); refine WC.condF rfl (Ks ?_); refine Cs (Co (Wc ?_)); refine OL.buildSlice hL rfl (by simp [over, Value.cells]; rfl) rfl (fun b h' hL => ?_); refine Wm rfl (Wc ?_); refine OL.copy hL rfl (fun x hx => by cases hx; rfl) rfl (Sl.pfx (by assumption) (Loc.pfx hL)) ⟨by omega, by omega, by omega⟩ (recs_ok slotC_ok _) (fun a' h' hp hL => ?_); refine Wm rfl (Wt ?_); refine WC.ret ?_)
  exact Fin.ret rfl ⟨hL.pfx, _, _, rfl, hL.apOut' (k := 0) rfl, hn⟩
theorem s_rCopy {g0 : Nat} (hX : X f = none) (hF : F f = some (rf_rCopy g0)) (c0 : S_CloneS X F g0) : S_rCopy X F f := by
 intro lim h r a n c hlim ha hn
 have hL := Loc.start h
 refine Ret.body hX hF rfl ?_
 simp only [argL, rf_rCopy]
 (refine Cs (Co (Wc ?_)); refine OL.boxA hL rfl rfl (fun b h' hL => (Wc ?_)); refine OL.new hL (fun b h' hL => (Wt ?_)); refine Cs (Co (Wc (OP.fieldAddr0 rfl (Wc (OL.load1 (k := 1) hL rfl rfl rfl (Wc ?_)))))); refine OL.callSn5 hL rfl rfl (c0 _ _ (by first | assumption | exact Sl.pfx (by assumption) hL.pfx | exact hL.slM (by repeat (first | exact mh | apply mt)) | exact hL.apM (by repeat (first | exact mh | apply mt)) | exact (hL.stM (by repeat (first | exact mh | apply mt))).1.1 | exact (hL.stM (by repeat (first | exact mh | apply mt))).2.1.1 | exact (hL.stM (by repeat (first | exact mh | apply mt))).2.2.1.1 | exact (hL.stM (by repeat (first | exact mh | apply mt))).2.2.2.1) (by omega)) (fun a' n' h' hn' hl' hp hL => ?_); refine Wc (OP.fieldAddr0 rfl (WO.cons0 ?_)); refine OL.store1 (k := 2) hL hlim rfl rfl rfl rfl rfl rfl rfl (fun h' hL => ?_); dsimp only [List.set, Nat.zero_add, Nat.reduceAdd, Nat.reduceMul] at hL; refine Wt ?_; refine Cs (Co (Wc (OL.loadAll (k := 2) hL rfl rfl rfl (WO.cons0 ?_)))); refine OL.storeAll (k := 1) hL hlim rfl rfl rfl rfl rfl rfl (by decide) rfl (fun h' hL => ?_); dsimp only [List.set, Nat.zero_add, Nat.reduceAdd, Nat.reduceMul] at hL; refine Wt ?_; refine WC.ret ?_)
 exact Fin.ret (resL_cell rfl (hL.cell (k := 1) rfl) rfl rfl) ⟨hL.pfx, _, _, rfl, hL.slOut (k := 0) rfl, hn'⟩
end
end Go.Proofs.YtgjickapnfnkfaaW.Ai
