/-
 Rings and cursors (chapters 9 to 11), as the small machine runs them: what may be.
-/
import Derived.Test.YtgjickapnfnkfaaFn7
set_option linter.unusedVariables false
set_option linter.unusedSimpArgs false
set_option maxHeartbeats 4000000
set_option maxRecDepth 100000
namespace Go.Proofs.YtgjickapnfnkfaaW.Ai
-- chorus/slot.Many
def rf_Many : RFunc :=
 ⟨16, [(.tmp 2)], (.seq (.ops [rO 2 (.mv (.const (.bool false)))]) (.seq (.ops [rO 3 (.mv (.tmp 0)), rO 4 (.bin .geq (.tmp 3) (.const (.int .i64 2))), rO 5 (.mv (.tmp 4)), ⟨(.some 6), (.mv (.tmp 0)), (.some (5, true)), false, []⟩, ⟨(.some 7), (.bin .leq (.tmp 6) (.const (.int .i64 16))), (.some (5, true)), false, []⟩, rO 8 (.pick (.tmp 5) (.tmp 7) (.const (.bool false))), rO 9 (.mv (.tmp 8)), ⟨(.some 10), (.mv (.tmp 0)), (.some (9, true)), false, []⟩, ⟨(.some 11), (.mv (.tmp 0)), (.some (9, true)), false, []⟩, ⟨(.some 12), (.bin .sub (.tmp 11) (.const (.int .i64 1))), (.some (9, true)), false, []⟩, ⟨(.some 13), (.bin .and (.tmp 10) (.tmp 12)), (.some (9, true)), false, []⟩, ⟨(.some 14), (.bin .eql (.tmp 13) (.const (.int .i64 0))), (.some (9, true)), false, []⟩, rO 15 (.pick (.tmp 9) (.tmp 14) (.const (.bool false))), rO 2 (.mv (.tmp 15))]) .ret))⟩
-- chorus/ring.odd; g0 = chorus/oper.Updates; g1 = chorus/ring.Thread
def rf_odd (g0 g1 : Nat) : RFunc :=
 ⟨23, [(.tmp 2)], (.seq (.ops [rO 1 (.box (.tmp 0)), rO 2 (.mv (.const (.bool false)))]) (.seq (.ops [rO 3 (.fieldAddr 0 (.tmp 1)), rO 4 (.load (.some 3) (.tmp 3)), rO 5 (.call (.func g0) [(.tmp 4)]), rO 6 (.un .not (.tmp 5)), rO 7 (.mv (.tmp 6)), ⟨(.some 8), (.fieldAddr 3 (.tmp 1)), (.some (7, false)), false, []⟩, ⟨(.some 9), (.load .none (.tmp 8)), (.some (7, false)), false, []⟩, ⟨(.some 10), (.call (.func g1) [(.tmp 9), (.const (.int .i64 4))]), (.some (7, false)), false, []⟩, ⟨(.some 11), (.un .not (.tmp 10)), (.some (7, false)), false, []⟩, rO 12 (.pick (.tmp 7) (.const (.bool true)) (.tmp 11)), rO 13 (.mv (.tmp 12)), ⟨(.some 14), (.fieldAddr 4 (.tmp 1)), (.some (13, false)), false, []⟩, ⟨(.some 15), (.load .none (.tmp 14)), (.some (13, false)), false, []⟩, ⟨(.some 16), (.bin .neq (.tmp 15) (.const (.int .i64 0))), (.some (13, false)), false, []⟩, ⟨(.some 17), (.mv (.tmp 16)), (.some (13, false)), false, []⟩, ⟨(.some 18), (.fieldAddr 4 (.tmp 1)), (.some (17, true)), false, []⟩, ⟨(.some 19), (.load .none (.tmp 18)), (.some (17, true)), false, []⟩, ⟨(.some 20), (.bin .neq (.tmp 19) (.const (.int .i64 1))), (.some (17, true)), false, []⟩, ⟨(.some 21), (.pick (.tmp 17) (.tmp 20) (.const (.bool false))), (.some (13, false)), false, []⟩, rO 22 (.pick (.tmp 13) (.const (.bool true)) (.tmp 21)), rO 2 (.mv (.tmp 22))]) .ret))⟩
-- chorus/ring.Thread
def rf_Thread : RFunc :=
 ⟨12, [(.tmp 4)], (.seq (.ops [rO 4 (.mv (.const (.bool false)))]) (.seq (.ops [rO 5 (.mv (.tmp 0)), rO 6 (.bin .geq (.tmp 5) (.const (.int .i64 0))), rO 7 (.mv (.tmp 6)), ⟨(.some 8), (.mv (.tmp 0)), (.some (7, true)), false, []⟩, ⟨(.some 9), (.mv (.tmp 1)), (.some (7, true)), false, []⟩, ⟨(.some 10), (.bin .lss (.tmp 8) (.tmp 9)), (.some (7, true)), false, []⟩, rO 11 (.pick (.tmp 7) (.tmp 10) (.const (.bool false))), rO 4 (.mv (.tmp 11))]) .ret))⟩
-- slices.ContainsFunc[[]chorus/api.Slot,chorus/api.Slot]; g0 = slices.IndexFunc[[]chorus/api.Slot,chorus/api.Slot]
def rf_ContainsFuncS (g0 : Nat) : RFunc :=
 ⟨9, [(.tmp 4)], (.seq (.ops [rO 4 (.mv (.const (.bool false)))]) (.seq (.ops [rO 5 (.mv (.tmp 0)), rO 6 (.mv (.tmp 1)), rO 7 (.call (.func g0) [(.tmp 5), (.tmp 6)]), rO 8 (.bin .geq (.tmp 7) (.const (.int .i64 0))), rO 4 (.mv (.tmp 8))]) .ret))⟩
-- slices.IndexFunc[[]chorus/api.Slot,chorus/api.Slot]
def rf_IndexFuncS : RFunc :=
 ⟨19, [(.tmp 4)], (.seq (.ops [rO 4 (.mv (.const (.int .i64 0)))]) (.seq (.seq (.ops [rO 6 (.mv (.tmp 0)), rO 7 (.len 1 (.tmp 6)), rO 8 (.mv (.const (.int .i64 0)))]) (.block 0 (.loop (.seq (.ops [rO 9 (.bin .lss (.tmp 8) (.tmp 7))]) (.seq (.cond (.tmp 9) .skip (.exit 0)) (.seq (.block 1 (.seq (.ops [rO 10 (.mv (.tmp 8)), rO 5 (.mv (.tmp 10))]) (.seq (.ops [rO 11 (.mv (.tmp 1)), rO 12 (.mv (.tmp 0)), rO 13 (.mv (.tmp 5)), rO 14 (.idxAddr 5 (.tmp 12) (.tmp 13)), rO 15 (.load (.some 5) (.tmp 14)), rO 16 (.call (.tmp 11) [(.tmp 15)])]) (.cond (.tmp 16) (.seq (.ops [rO 17 (.mv (.tmp 5)), rO 4 (.mv (.tmp 17))]) .ret) .skip)))) (.ops [rO 18 (.bin .add (.tmp 8) (.const (.int .i64 1))), rO 8 (.mv (.tmp 18))]))))))) (.seq (.ops [rO 4 (.mv (.const (.int .i64 (-1))))]) .ret)))⟩
-- chorus/ring.May; g0 = chorus/slot.Many; g1 = slices.ContainsFunc[[]chorus/api.Slot,chorus/api.Slot]; g2 = chorus/ring.odd; g3 = chorus/ring.Thread
def rf_ringMay (g0 g1 g2 g3 : Nat) : RFunc :=
 ⟨45, [(.tmp 2)], (.seq (.ops [rO 1 (.box (.tmp 0)), rO 2 (.mv (.const (.bool false)))]) (.seq (.ops [rO 4 (.fieldAddr 3 (.tmp 1)), rO 5 (.load .none (.tmp 4)), rO 6 (.len 1 (.tmp 5)), rO 3 (.mv (.tmp 6))]) (.seq (.seq (.ops [rO 7 (.mv (.tmp 3)), rO 8 (.call (.func g0) [(.tmp 7)]), rO 9 (.un .not (.tmp 8)), rO 10 (.mv (.tmp 9)), ⟨(.some 11), (.fieldAddr 3 (.tmp 1)), (.some (10, false)), false, []⟩, ⟨(.some 12), (.load .none (.tmp 11)), (.some (10, false)), false, []⟩, ⟨(.some 13), (.call (.func g1) [(.tmp 12), (.func g2)]), (.some (10, false)), false, []⟩, rO 14 (.pick (.tmp 10) (.const (.bool true)) (.tmp 13)), rO 15 (.mv (.tmp 14)), ⟨(.some 16), (.fieldAddr 2 (.tmp 1)), (.some (15, false)), false, []⟩, ⟨(.some 17), (.load .none (.tmp 16)), (.some (15, false)), false, []⟩, ⟨(.some 18), (.call (.func g3) [(.tmp 17), (.const (.int .i64 5))]), (.some (15, false)), false, []⟩, ⟨(.some 19), (.un .not (.tmp 18)), (.some (15, false)), false, []⟩, rO 20 (.pick (.tmp 15) (.const (.bool true)) (.tmp 19))]) (.cond (.tmp 20) (.seq (.ops [rO 2 (.mv (.const (.bool false)))]) .ret) .skip)) (.seq (.ops [rO 21 (.fieldAddr 0 (.tmp 1)), rO 22 (.load .none (.tmp 21)), rO 23 (.bin .geq (.tmp 22) (.const (.int .i64 0))), rO 24 (.mv (.tmp 23)), ⟨(.some 25), (.fieldAddr 1 (.tmp 1)), (.some (24, true)), false, []⟩, ⟨(.some 26), (.load .none (.tmp 25)), (.some (24, true)), false, []⟩, ⟨(.some 27), (.fieldAddr 0 (.tmp 1)), (.some (24, true)), false, []⟩, ⟨(.some 28), (.load .none (.tmp 27)), (.some (24, true)), false, []⟩, ⟨(.some 29), (.bin .geq (.tmp 26) (.tmp 28)), (.some (24, true)), false, []⟩, rO 30 (.pick (.tmp 24) (.tmp 29) (.const (.bool false))), rO 31 (.mv (.tmp 30)), ⟨(.some 32), (.fieldAddr 1 (.tmp 1)), (.some (31, true)), false, []⟩, ⟨(.some 33), (.load .none (.tmp 32)), (.some (31, true)), false, []⟩, ⟨(.some 34), (.bin .leq (.tmp 33) (.const (.int .i64 1048576))), (.some (31, true)), false, []⟩, rO 35 (.pick (.tmp 31) (.tmp 34) (.const (.bool false))), rO 36 (.mv (.tmp 35)), ⟨(.some 37), (.fieldAddr 1 (.tmp 1)), (.some (36, true)), false, []⟩, ⟨(.some 38), (.load .none (.tmp 37)), (.some (36, true)), false, []⟩, ⟨(.some 39), (.fieldAddr 0 (.tmp 1)), (.some (36, true)), false, []⟩, ⟨(.some 40), (.load .none (.tmp 39)), (.some (36, true)), false, []⟩, ⟨(.some 41), (.bin .sub (.tmp 38) (.tmp 40)), (.some (36, true)), false, []⟩, ⟨(.some 42), (.mv (.tmp 3)), (.some (36, true)), false, []⟩, ⟨(.some 43), (.bin .leq (.tmp 41) (.tmp 42)), (.some (36, true)), false, []⟩, rO 44 (.pick (.tmp 36) (.tmp 43) (.const (.bool false))), rO 2 (.mv (.tmp 44))]) .ret))))⟩
/-- An entry that may be; a ring that may be. -/
abbrev SlotOk (s : SlotR) : Prop := OpOk s.c s.r s.a ∧ s.c < 2 ∧ 0 ≤ s.t ∧ s.t ≤ 3 ∧ (s.b = 0 ∨ s.b = 1)
def SlotsOk (ss : List SlotR) : Prop := ∀ s ∈ ss, SlotOk s
instance (ss : List SlotR) : Decidable (SlotsOk ss) := inferInstanceAs (Decidable (∀ s ∈ ss, SlotOk s))
abbrev RingOk (p q e : Int) (ss : List SlotR) : Prop := SlotsN ss.length ∧ SlotsOk ss ∧ (0 ≤ e ∧ e ≤ 4) ∧ 0 ≤ p ∧ p ≤ q ∧ q ≤ 1048576 ∧ q - p ≤ ss.length
section
variable (X : Ext) (F : FuncId → Option RFunc) (g : FuncId)
abbrev S_Many : Prop := S_SlotsMay X F g
abbrev S_Thread : Prop := ∀ (lim : Nat) (h : AH) {x y : Int}, Ret X F lim g [.int .i64 x, .int .i64 y] h fun v h' => Pfx h h' ∧ v = .bool (decide (0 ≤ x ∧ x < y))
abbrev S_odd : Prop := ∀ (lim : Nat) (h : AH) {s : SlotR}, Ret X F lim g [.agg (slotC s).toArray] h fun v h' => Pfx h h' ∧ v = .bool (decide (¬ SlotOk s))
abbrev S_IndexFuncS : Prop := ∀ (lim : Nat) (h : AH) {a : Option Addr} {n c : Nat} {ss : List SlotR} {k : FuncId} {cap : Array Value} {p : SlotR → Prop} [DecidablePred p], Sl 5 h a n c (recs slotC ss) → n < 2 ^ 62 → (∀ s ∈ ss, ∀ h1, Pfx h h1 → Ret X F lim k (.agg (slotC s).toArray :: cap.toList) h1 fun v h' => Pfx h1 h' ∧ v = .bool (decide (p s))) → Ret X F lim g [.slice a n c, .func (.func k) #[] cap] h fun v h' => Pfx h h' ∧ ∃ i : Int, v = .int .i64 i ∧ (0 ≤ i ↔ ¬ ∀ s ∈ ss, ¬ p s)
abbrev S_ContainsFuncS : Prop := ∀ (lim : Nat) (h : AH) {a : Option Addr} {n c : Nat} {ss : List SlotR} {k : FuncId} {cap : Array Value} {p : SlotR → Prop} [DecidablePred p], Sl 5 h a n c (recs slotC ss) → n < 2 ^ 62 → (∀ s ∈ ss, ∀ h1, Pfx h h1 → Ret X F lim k (.agg (slotC s).toArray :: cap.toList) h1 fun v h' => Pfx h1 h' ∧ v = .bool (decide (p s))) → Ret X F lim g [.slice a n c, .func (.func k) #[] cap] h fun v h' => Pfx h h' ∧ v = .bool (decide (¬ ∀ s ∈ ss, ¬ p s))
abbrev S_ringMay : Prop := ∀ (lim : Nat) (h : AH) {p q e : Int} {a : Option Addr} {n c : Nat} {ss : List SlotR}, lim ≤ h.length → Sl 5 h a n c (recs slotC ss) → n ≤ 2 ^ 42 → Ret X F lim g [.agg #[.int .i64 p, .int .i64 q, .int .i64 e, .slice a n c]] h fun v h' => Pfx h h' ∧ v = .bool (decide (RingOk p q e ss))
abbrev S_RingMay : Prop := S_ringMay X F g
end
theorem mask_slots {x : Int} (h1 : 2 ≤ x) (h2 : x ≤ 16) : mask x (x - 1) = 0 ↔ SlotsN x := by
 obtain ⟨n, rfl⟩ : ∃ n : Nat, x = n := ⟨x.toNat, by omega⟩
 have : ∀ n : _root_.Fin 17, 2 ≤ n.val → (mask (n.val : Int) ((n.val : Int) - 1) = 0 ↔ SlotsN (n.val : Int)) := by decide
 exact this ⟨n, by omega⟩ (by simp; omega)
section
variable {X : Ext} {F : FuncId → Option RFunc} {f : FuncId}
theorem s_Many (hX : X f = none) (hF : F f = some rf_Many) : S_Many X F f := by
 intro lim h x
 have hL := Loc.start h
 refine Ret.body hX hF rfl ?_
 simp only [argL, rf_Many]
 (refine Cs (Co (Wm rfl (Wn (Cs (Co (Wm rfl (Wc ?_))))))); refine OP.geqC rfl rfl (fun hc => ?_) (fun hc => ?_); refine Wm rfl (WO.yes rfl (Wm rfl (WO.yes rfl (Wc ?_)))); refine OP.leqC rfl rfl (fun hc => ?_) (fun hc => ?_); refine Wc (OP.pickT rfl rfl (Wm rfl (WO.yes rfl (Wm rfl (WO.yes rfl (Wm rfl (WO.yes rfl (Wc (OP.sub rfl rfl (by omega) ?_))))))))); refine WO.yes rfl (Wc ?_); refine OP.andC rfl rfl (by omega) (fun m hm hm2 => ?_); refine WO.yes rfl (Wc ?_); refine OP.eqlC rfl rfl (fun hc => ?_) (fun hc => ?_); refine Wc (OP.pickT rfl rfl (Wm rfl (Wn (WC.ret ?_)))))
 exact Fin.ret rfl ⟨hL.pfx, boolT ((mask_slots (by omega) (by omega)).1 (by omega))⟩
 (refine Wc (OP.pickT rfl rfl (Wm rfl (Wn (WC.ret ?_)))))
 exact Fin.ret rfl ⟨hL.pfx, boolF (fun hh => by have := (mask_slots (by omega) (by omega)).2 hh; omega)⟩
 (refine Wc (OP.pickT rfl rfl (Wm rfl (WO.no rfl (WO.no rfl (WO.no rfl (WO.no rfl (WO.no rfl (Wc (OP.pickF rfl rfl (Wm rfl (Wn (WC.ret ?_)))))))))))); exact Fin.ret rfl ⟨hL.pfx, boolF (by omega)⟩; refine Wm rfl (WO.no rfl (WO.no rfl (Wc (OP.pickF rfl rfl (Wm rfl (WO.no rfl (WO.no rfl (WO.no rfl (WO.no rfl (WO.no rfl (Wc (OP.pickF rfl rfl (Wm rfl (Wn (WC.ret ?_))))))))))))))); exact Fin.ret rfl ⟨hL.pfx, boolF (by omega)⟩)
theorem s_Thread (hX : X f = none) (hF : F f = some rf_Thread) : S_Thread X F f := by
 intro lim h x y
 have hL := Loc.start h
 refine Ret.body hX hF rfl ?_
 simp only [argL, rf_Thread]
 (refine Cs (Co (Wm rfl (Wn (Cs (Co (Wm rfl (Wc ?_))))))); refine OP.geqC rfl rfl (fun hc => ?_) (fun hc => ?_); refine Wm rfl (WO.yes rfl (Wm rfl (WO.yes rfl (Wm rfl (WO.yes rfl (Wc ?_)))))); refine OP.lssC rfl rfl (fun hc => ?_) (fun hc => ?_); refine Wc (OP.pickT rfl rfl (Wm rfl (Wn (WC.ret ?_)))); exact Fin.ret rfl ⟨hL.pfx, boolT (by omega)⟩; refine Wc (OP.pickT rfl rfl (Wm rfl (Wn (WC.ret ?_)))); exact Fin.ret rfl ⟨hL.pfx, boolF (by omega)⟩; refine Wm rfl (WO.no rfl (WO.no rfl (WO.no rfl (Wc (OP.pickF rfl rfl (Wm rfl (Wn (WC.ret ?_)))))))); exact Fin.ret rfl ⟨hL.pfx, boolF (by omega)⟩)
theorem s_odd {g0 g1 : Nat} (hX : X f = none) (hF : F f = some (rf_odd g0 g1)) (c0 : S_oUpdates X F g0) (c1 : S_Thread X F g1) : S_odd X F f := by
 intro lim h s
 have hL := Loc.start h
 refine Ret.body hX hF rfl ?_
 simp only [argL, rf_odd]
 (refine Cs (Co (Wc ?_)); refine OL.boxA hL rfl rfl (fun b h' hL => (Wm rfl (Wn (Cs (Co (Wc (OP.fieldAddr rfl (Wc (OL.load (k := 0) hL rfl rfl rfl (Wc ?_)))))))))); refine OL.callB hL rfl rfl (c0 _ _) (fun h' hp hL hc => ?_) (fun h' hp hL hc => ?_); refine Wc (OP.not rfl (Wm rfl (WO.yes rfl (Wc (OP.fieldAddr rfl (WO.yes rfl (Wc (OL.load1 (k := 0) hL rfl rfl rfl (WO.yes rfl (Wc ?_)))))))))); refine OL.callB hL rfl rfl (c1 _ _) (fun h' hp hL hc => ?_) (fun h' hp hL hc => ?_); refine WO.yes rfl (Wc (OP.not rfl (Wc (OP.pickF rfl rfl (Wm rfl (WO.yes rfl (Wc (OP.fieldAddr rfl (WO.yes rfl (Wc (OL.load1 (k := 0) hL rfl rfl rfl (WO.yes rfl (Wc ?_))))))))))))); refine OP.neqC rfl rfl (fun hc => ?_) (fun hc => ?_); refine WO.yes rfl (Wm rfl (WO.yes rfl (Wc (OP.fieldAddr rfl (WO.yes rfl (Wc (OL.load1 (k := 0) hL rfl rfl rfl (WO.yes rfl (Wc ?_))))))))); refine OP.neqC rfl rfl (fun hc => ?_) (fun hc => ?_); refine WO.yes rfl (Wc (OP.pickT rfl rfl (Wc (OP.pickF rfl rfl (Wm rfl (Wn (WC.ret ?_))))))); exact Fin.ret rfl ⟨hL.pfx, boolT (by omega)⟩; refine WO.yes rfl (Wc (OP.pickT rfl rfl (Wc (OP.pickF rfl rfl (Wm rfl (Wn (WC.ret ?_))))))); exact Fin.ret rfl ⟨hL.pfx, boolF (by omega)⟩; refine WO.yes rfl (Wm rfl (WO.no rfl (WO.no rfl (WO.no rfl (WO.yes rfl (Wc (OP.pickF rfl rfl (Wc (OP.pickF rfl rfl (Wm rfl (Wn (WC.ret ?_)))))))))))); exact Fin.ret rfl ⟨hL.pfx, boolF (by omega)⟩; refine WO.yes rfl (Wc (OP.not rfl (Wc (OP.pickF rfl rfl (Wm rfl (WO.no rfl (WO.no rfl (WO.no rfl (WO.no rfl (WO.noU rfl (WO.noU rfl (WO.noU rfl (WO.no rfl (Wc (OP.pickT rfl rfl (Wm rfl (Wn (WC.ret ?_)))))))))))))))))); exact Fin.ret rfl ⟨hL.pfx, boolT (by omega)⟩; refine Wc (OP.not rfl (Wm rfl (WO.no rfl (WO.no rfl (WO.no rfl (WO.no rfl (Wc (OP.pickT rfl rfl (Wm rfl (WO.no rfl (WO.no rfl (WO.no rfl (WO.no rfl (WO.noU rfl (WO.noU rfl (WO.noU rfl (WO.no rfl (Wc (OP.pickT rfl rfl (Wm rfl (Wn (WC.ret ?_)))))))))))))))))))))); exact Fin.ret rfl ⟨hL.pfx, boolT (by omega)⟩)
theorem s_IndexFuncS (hX : X f = none) (hF : F f = some rf_IndexFuncS) : S_IndexFuncS X F f := by
 intro lim h a n c ss k cap p _ ha hn hp
 have hxn := ha.rlen slotC_len (by decide)
 refine Ret.body hX hF rfl ?_
 simp only [argL, rf_IndexFuncS]
 (refine Cs (Co (Wm rfl (Wn (Cs (Cs (Co (Wm rfl (Wc (OP.lenS rfl (Wm rfl (Wn (WC.block ?_)))))))))))))
 refine WC.loop (fun q : Nat × AH => q.1 ≤ n ∧ Pfx h q.2 ∧ ∀ s ∈ ss.take q.1, ¬ p s) (fun q => [(8, .int .i64 (q.1 : Int)), (7, .int .i64 (n : Int)), (0, .slice a n c), (1, .func (.func k) #[] cap)]) (fun q => q.2) (fun q => n - q.1) ?_ (0, h) ⟨Nat.zero_le _, Pfx.refl h, by simp⟩ (by (refine Sub.cons rfl (Sub.cons rfl (Sub.cons rfl (Sub.cons rfl ?_))); exact Sub.nil _)) rfl
 intro ⟨i, h1⟩ ⟨hi, hp1, hany⟩
 simp only at hi hp1 hany ⊢
 have ha1 := ha.pfx hp1
 by_cases hlt : (i : Int) < n
 ·(refine Cs (Co (Wc (OP.lssT rfl rfl (by omega) ?_))); refine Wn (Cs (WC.condT rfl (WC.skip (Cs (WC.block (Cs (Co (Wm rfl (Wm rfl (Wn (Cs (Co (Wm rfl (Wm rfl (Wm rfl (Wc (OP.idxS (by assumption) rfl rfl (by omega) ?_))))))))))))))))); refine Wc (OP.ldR slotC_len (by decide) (by assumption) rfl (by omega) ?_); dsimp only [zn, zr, zx, yn, yr])
  (refine Wc ?_)
  refine OP.callC rfl rfl (Ret.mono (hp ss[i] (List.getElem_mem _) h1 hp1) fun v h2 hv => ?_)
  obtain ⟨hp2, rfl⟩ := hv
  by_cases hpx : p ss[i]
  ·rw [decide_eq_true hpx]
   (refine Wn (WC.condT rfl (Cs (Co (Wm rfl (Wm rfl (Wn (WC.ret ?_))))))); dsimp only [zn, zr, zx, yn, yr])
   refine Fin.ret rfl ⟨hp1.trans hp2, i, rfl, ?_⟩
   simp only [Int.natCast_nonneg, true_iff]
   exact fun hh => hh _ (List.getElem_mem _) hpx
  ·rw [decide_eq_false hpx]
   (refine Wn (WC.condF rfl (WC.skip (Co (Wc (OP.add rfl rfl (by omega) ?_))))); refine Wm rfl (Wt ?_))
   refine ⟨(i + 1, h2), ⟨by simp only; omega, hp1.trans hp2, ?_⟩, by (refine Sub.cons rfl (Sub.cons rfl (Sub.cons rfl (Sub.cons rfl ?_))); exact Sub.nil _), rfl, by simp only; omega⟩
   simp only
   rw [List.take_succ_eq_append_getElem (by omega)]
   intro s hs
   rcases List.mem_append.1 hs with hs | hs
   ·exact hany s hs
   ·simp at hs; rw [hs]; exact hpx
 ·(refine Cs (Co (Wc (OP.lssF rfl rfl (by omega) ?_))); refine Wn (Cs (WC.condF rfl (WC.exit (Cs (Co (Wm rfl (Wn (WC.ret ?_)))))))))
  refine Fin.ret rfl ⟨hp1, -1, rfl, ?_⟩
  rw [List.take_of_length_le (by omega)] at hany
  simp only [show ¬ (0 : Int) ≤ -1 by omega, false_iff]
  exact fun hh => hh hany
theorem s_ContainsFuncS {g0 : Nat} (hX : X f = none) (hF : F f = some (rf_ContainsFuncS g0)) (c0 : S_IndexFuncS X F g0) : S_ContainsFuncS X F f := by
 intro lim h a n c ss k cap p _ ha hn hp
 have hL := Loc.start h
 refine Ret.body hX hF rfl ?_
 simp only [argL, rf_ContainsFuncS]
 (refine Cs (Co (Wm rfl (Wn (Cs (Co (Wm rfl (Wm rfl ?_))))))); dsimp only [zn, zr, zx, yn, yr])
 (refine Wc ?_)
 refine OL.call hL rfl rfl (c0 _ _ ha hn hp) (fun v h1 hp1 hL hv => ?_)
 obtain ⟨i, rfl, hi⟩ := hv
 (refine Wc ?_; refine OP.geqC rfl rfl (fun hc => ?_) (fun hc => ?_); refine Wm rfl (Wn (WC.ret ?_)); exact Fin.ret rfl ⟨hL.pfx, boolT (by grind)⟩; refine Wm rfl (Wn (WC.ret ?_)); exact Fin.ret rfl ⟨hL.pfx, boolF (by grind)⟩)
theorem s_ringMay {g0 g1 g2 g3 : Nat} (hX : X f = none) (hF : F f = some (rf_ringMay g0 g1 g2 g3)) (c0 : S_Many X F g0) (c1' : S_ContainsFuncS X F g1) (c2 : S_odd X F g2) (c3 : S_Thread X F g3) : S_ringMay X F f := by
 intro lim h p q e a n c ss hlim ha hn
 have hL := Loc.start h
 have hxn := ha.rlen slotC_len (by decide)
 have c1 : ∀ lim h', Pfx h h' → Ret X F lim g1 [.slice a n c, .func (.func g2) #[] #[]] h' fun v h'' => Pfx h' h'' ∧ v = .bool (decide (¬ SlotsOk ss)) := fun lim h' hp => (c1' lim h' (ha.pfx hp) (by omega) (fun s hs h1 hp1 => c2 lim h1)).mono fun v h'' ⟨g1, g2⟩ => ⟨g1, by rw [g2]; exact congrArg Value.bool (decIff (not_congr ⟨fun h s hs => Decidable.not_not.1 (h s hs), fun h s hs => Decidable.not_not.2 (h s hs)⟩))⟩
 refine Ret.body hX hF rfl ?_
 simp only [argL, rf_ringMay]
 (refine Cs (Co (Wc ?_)); refine OL.boxA hL rfl rfl (fun b h' hL => (Wm rfl (Wn (Cs (Co (Wc (OP.fieldAddr rfl (Wc (OL.load1 (k := 0) hL rfl rfl rfl (Wc (OP.lenS rfl (Wm rfl (Wn (Cs (Cs (Co (Wm rfl (Wc ?_)))))))))))))))))); refine OL.callB hL rfl rfl (c0 _ _) (fun h' hp hL hc => ?_) (fun h' hp hL hc => ?_); refine Wc (OP.not rfl (Wm rfl (WO.yes rfl (Wc (OP.fieldAddr rfl (WO.yes rfl (Wc (OL.load1 (k := 0) hL rfl rfl rfl (WO.yes rfl (Wc ?_)))))))))); refine OL.callB hL rfl rfl (c1 _ _ hL.pfx) (fun h' hp hL hc => ?_) (fun h' hp hL hc => ?_); refine Wc (OP.pickF rfl rfl (Wm rfl (WO.no rfl (WO.no rfl (WO.no rfl (WO.no rfl (Wc (OP.pickT rfl rfl (Wn (WC.condT rfl (Cs (Co (Wm rfl (Wn (WC.ret ?_))))))))))))))); dsimp only [zn, zr, zx, yn, yr]; exact Fin.ret rfl ⟨hL.pfx, boolF (by grind)⟩; refine Wc (OP.pickF rfl rfl (Wm rfl (WO.yes rfl (Wc (OP.fieldAddr rfl (WO.yes rfl (Wc (OL.load1 (k := 0) hL rfl rfl rfl (WO.yes rfl (Wc ?_)))))))))); refine OL.callB hL rfl rfl (c3 _ _) (fun h' hp hL hc => ?_) (fun h' hp hL hc => ?_); refine WO.yes rfl (Wc (OP.not rfl (Wc (OP.pickF rfl rfl (Wn (WC.condF rfl (WC.skip (Cs (Co (Wc (OP.fieldAddr rfl (Wc (OL.load1 (k := 0) hL rfl rfl rfl (Wc ?_)))))))))))))); refine OP.geqC rfl rfl (fun hc => ?_) (fun hc => ?_); refine Wm rfl (WO.yes rfl (Wc (OP.fieldAddr rfl (WO.yes rfl (Wc (OL.load1 (k := 0) hL rfl rfl rfl (WO.yes rfl (Wc (OP.fieldAddr rfl (WO.yes rfl (Wc (OL.load1 (k := 0) hL rfl rfl rfl (WO.yes rfl (Wc ?_)))))))))))))); refine OP.geqC rfl rfl (fun hc => ?_) (fun hc => ?_); refine Wc (OP.pickT rfl rfl (Wm rfl (WO.yes rfl (Wc (OP.fieldAddr rfl (WO.yes rfl (Wc (OL.load1 (k := 0) hL rfl rfl rfl (WO.yes rfl (Wc ?_)))))))))); refine OP.leqC rfl rfl (fun hc => ?_) (fun hc => ?_); refine Wc (OP.pickT rfl rfl (Wm rfl (WO.yes rfl (Wc (OP.fieldAddr rfl (WO.yes rfl (Wc (OL.load1 (k := 0) hL rfl rfl rfl (WO.yes rfl (Wc (OP.fieldAddr rfl (WO.yes rfl (Wc (OL.load1 (k := 0) hL rfl rfl rfl (WO.yes rfl (Wc (OP.sub rfl rfl (by omega) ?_))))))))))))))))); refine WO.yes rfl (Wm rfl (WO.yes rfl (Wc ?_))); refine OP.leqC rfl rfl (fun hc => ?_) (fun hc => ?_); refine Wc (OP.pickT rfl rfl (Wm rfl (Wn (WC.ret ?_)))); exact Fin.ret rfl ⟨hL.pfx, boolT (by grind)⟩; refine Wc (OP.pickT rfl rfl (Wm rfl (Wn (WC.ret ?_)))); exact Fin.ret rfl ⟨hL.pfx, boolF (by omega)⟩; refine Wc (OP.pickT rfl rfl (Wm rfl (WO.no rfl (WO.no rfl (WO.no rfl (WO.no rfl (WO.no rfl (WO.no rfl (WO.no rfl (Wc (OP.pickF rfl rfl (Wm rfl (Wn (WC.ret ?_)))))))))))))); exact Fin.ret rfl ⟨hL.pfx, boolF (by omega)⟩; refine Wc (OP.pickT rfl rfl (Wm rfl (WO.no rfl (WO.no rfl (WO.no rfl (Wc (OP.pickF rfl rfl (Wm rfl (WO.no rfl (WO.no rfl (WO.no rfl (WO.no rfl (WO.no rfl (WO.no rfl (WO.no rfl (Wc (OP.pickF rfl rfl (Wm rfl (Wn (WC.ret ?_)))))))))))))))))))); exact Fin.ret rfl ⟨hL.pfx, boolF (by omega)⟩; refine Wm rfl (WO.no rfl (WO.no rfl (WO.no rfl (WO.no rfl (WO.no rfl (Wc (OP.pickF rfl rfl (Wm rfl (WO.no rfl (WO.no rfl (WO.no rfl (Wc (OP.pickF rfl rfl (Wm rfl (WO.no rfl (WO.no rfl (WO.no rfl (WO.no rfl (WO.no rfl (WO.no rfl (WO.no rfl (Wc (OP.pickF rfl rfl (Wm rfl (Wn (WC.ret ?_)))))))))))))))))))))))))); exact Fin.ret rfl ⟨hL.pfx, boolF (by omega)⟩; refine WO.yes rfl (Wc (OP.not rfl (Wc (OP.pickF rfl rfl (Wn (WC.condT rfl (Cs (Co (Wm rfl (Wn (WC.ret ?_))))))))))); dsimp only [zn, zr, zx, yn, yr]; exact Fin.ret rfl ⟨hL.pfx, boolF (by omega)⟩; refine Wc (OP.not rfl (Wm rfl (WO.no rfl (WO.no rfl (WO.no rfl (Wc (OP.pickT rfl rfl (Wm rfl (WO.no rfl (WO.no rfl (WO.no rfl (WO.no rfl (Wc (OP.pickT rfl rfl (Wn (WC.condT rfl (Cs (Co (Wm rfl (Wn (WC.ret ?_))))))))))))))))))))); dsimp only [zn, zr, zx, yn, yr]; exact Fin.ret rfl ⟨hL.pfx, boolF (by omega)⟩)
end
end Go.Proofs.YtgjickapnfnkfaaW.Ai
