/-
 Cursors (chapter 11), as the small machine runs them: what may be.
-/
import Derived.Test.YtdcpmchhioilpaaFn8
import Derived.Test.YtdcpmchhioilpaaFn6
set_option linter.unusedVariables false
set_option linter.unusedSimpArgs false
set_option maxHeartbeats 4000000
set_option maxRecDepth 100000
namespace Go.Proofs.YtdcpmchhioilpaaW.Ai
-- chorus/cursor.May; g0 = chorus/cursor.May$1; g1 = chorus/ring.May; g2 = slices.ContainsFunc[[]int,int]
def rf_curMay (g0 g1 g2 : Nat) : RFunc :=
 ⟨15, [(.tmp 4)], (.seq (.ops [rO 2 (.box (.tmp 0)), rO 4 (.mv (.const (.bool false)))]) (.seq (.ops [rO 6 (.func (.func g0) [] [(.tmp 2)]), rO 5 (.mv (.tmp 6))]) (.seq (.ops [rO 7 (.load (.some 4) (.tmp 2)), rO 8 (.call (.func g1) [(.tmp 7)]), rO 9 (.mv (.tmp 8)), ⟨(.some 10), (.mv (.tmp 1)), (.some (9, true)), false, []⟩, ⟨(.some 11), (.mv (.tmp 5)), (.some (9, true)), false, []⟩, ⟨(.some 12), (.call (.func g2) [(.tmp 10), (.tmp 11)]), (.some (9, true)), false, []⟩, ⟨(.some 13), (.un .not (.tmp 12)), (.some (9, true)), false, []⟩, rO 14 (.pick (.tmp 9) (.tmp 13) (.const (.bool false))), rO 4 (.mv (.tmp 14))]) .ret)))⟩
-- chorus/cursor.May$1
def rf_curMay1 : RFunc :=
 ⟨14, [(.tmp 3)], (.seq (.ops [rO 3 (.mv (.const (.bool false)))]) (.seq (.ops [rO 4 (.mv (.tmp 0)), rO 5 (.fieldAddr 0 (.tmp 1)), rO 6 (.load .none (.tmp 5)), rO 7 (.bin .lss (.tmp 4) (.tmp 6)), rO 8 (.mv (.tmp 7)), ⟨(.some 9), (.mv (.tmp 0)), (.some (8, false)), false, []⟩, ⟨(.some 10), (.fieldAddr 1 (.tmp 1)), (.some (8, false)), false, []⟩, ⟨(.some 11), (.load .none (.tmp 10)), (.some (8, false)), false, []⟩, ⟨(.some 12), (.bin .gtr (.tmp 9) (.tmp 11)), (.some (8, false)), false, []⟩, rO 13 (.pick (.tmp 8) (.const (.bool true)) (.tmp 12)), rO 3 (.mv (.tmp 13))]) .ret))⟩
-- chorus/chorusref1.CursorsMay; g0 = chorus/chorusref1.RingMay
def rf_CursorsMay (g0 : Nat) : RFunc :=
 ⟨30, [(.tmp 4)], (.seq (.ops [rO 2 (.box (.tmp 0)), rO 4 (.mv (.const (.bool false)))]) (.seq (.seq (.ops [rO 5 (.mv (.const (.int .i64 0)))]) (.block 0 (.loop (.seq (.seq (.ops [rO 6 (.mv (.tmp 5)), rO 7 (.mv (.tmp 1)), rO 8 (.len 1 (.tmp 7)), rO 9 (.bin .lss (.tmp 6) (.tmp 8))]) (.cond (.tmp 9) .skip (.exit 0))) (.seq (.block 1 (.seq (.ops [⟨(.some 12), (.mv (.tmp 1)), .none, true, []⟩, ⟨(.some 13), (.mv (.tmp 5)), .none, true, []⟩, ⟨(.some 14), (.idxAddr 1 (.tmp 12) (.tmp 13)), .none, true, []⟩, ⟨(.some 15), (.load .none (.tmp 14)), .none, true, []⟩, ⟨(.some 16), (.fieldAddr 0 (.tmp 2)), .none, true, []⟩, ⟨(.some 17), (.load .none (.tmp 16)), .none, true, []⟩, rO 18 (.bin .lss (.tmp 15) (.tmp 17)), rO 19 (.mv (.tmp 18)), ⟨(.some 20), (.mv (.tmp 1)), (.some (19, false)), true, []⟩, ⟨(.some 21), (.mv (.tmp 5)), (.some (19, false)), true, []⟩, ⟨(.some 22), (.idxAddr 1 (.tmp 20) (.tmp 21)), (.some (19, false)), true, []⟩, ⟨(.some 23), (.load .none (.tmp 22)), (.some (19, false)), true, []⟩, ⟨(.some 24), (.fieldAddr 1 (.tmp 2)), (.some (19, false)), true, []⟩, ⟨(.some 25), (.load .none (.tmp 24)), (.some (19, false)), true, []⟩, ⟨(.some 26), (.bin .gtr (.tmp 23) (.tmp 25)), (.some (19, false)), false, []⟩, rO 27 (.pick (.tmp 19) (.const (.bool true)) (.tmp 26))]) (.cond (.tmp 27) (.seq (.ops [rO 4 (.mv (.const (.bool false)))]) .ret) .skip))) (.ops [rO 10 (.mv (.tmp 5)), rO 11 (.bin .add (.tmp 10) (.const (.int .i64 1))), rO 5 (.mv (.tmp 11))])))))) (.seq (.ops [rO 28 (.load (.some 4) (.tmp 2)), rO 29 (.call (.func g0) [(.tmp 28)]), rO 4 (.mv (.tmp 29))]) .ret)))⟩
section
variable (X : Ext) (F : FuncId → Option RFunc) (g : FuncId)
abbrev CursOk (p q e : Int) (ss : List SlotR) (xs : List Int) : Prop := RingOk p q e ss ∧ ∀ x ∈ xs, p ≤ x ∧ x ≤ q
abbrev S_ContainsFunc : Prop := ∀ (lim : Nat) (h : AH) {a : Option Addr} {n c : Nat} {ss : List Int} {k : FuncId} {cap : Array Value} {p : Int → Prop} [DecidablePred p], Sl 1 h a n c (ints ss) → n < 2 ^ 62 → (∀ s ∈ ss, ∀ h1, Pfx h h1 → Ret X F lim k (.int .i64 s :: cap.toList) h1 fun v h' => Pfx h1 h' ∧ v = .bool (decide (p s))) → Ret X F lim g [.slice a n c, .func (.func k) #[] cap] h fun v h' => Pfx h h' ∧ v = .bool (decide (¬ ∀ s ∈ ss, ¬ p s))
abbrev S_curMay1 : Prop := ∀ (lim : Nat) (h : AH) {x p q : Int} {b : Nat} {e s : Value}, h[b]? = some (.cells [.int .i64 p, .int .i64 q, e, s]) → Ret X F lim g [.int .i64 x, .pointer (some ⟨b, 0, none⟩)] h fun v h' => Pfx h h' ∧ v = .bool (decide (x < p ∨ q < x))
abbrev S_curMay : Prop := ∀ (lim : Nat) (h : AH) {p q e : Int} {a : Option Addr} {n c : Nat} {ss : List SlotR} {b : Option Addr} {m d : Nat} {xs : List Int}, lim ≤ h.length → Sl 5 h a n c (recs slotC ss) → n ≤ 2 ^ 42 → Sl 1 h b m d (ints xs) → m ≤ 2 ^ 44 → Ret X F lim g [.agg #[.int .i64 p, .int .i64 q, .int .i64 e, .slice a n c], .slice b m d] h fun v h' => Pfx h h' ∧ v = .bool (decide (CursOk p q e ss xs))
abbrev S_CursorsMay : Prop := S_curMay X F g
abbrev S_SameInts : Prop := ∀ (lim : Nat) (h : AH) {a b : Option Addr} {n m c d : Nat} {xs ys : List Int}, Sl 1 h a n c (ints xs) → Sl 1 h b m d (ints ys) → n < 2 ^ 62 → Ret X F lim g [.slice a n c, .slice b m d] h fun v h' => Pfx h h' ∧ v = .bool (decide (xs = ys))
abbrev S_Least : Prop := ∀ (lim : Nat) (h : AH) {a : Option Addr} {n c : Nat} {xs : List Int}, Sl 1 h a n c (ints xs) → n ≤ 2 ^ 44 → Ret X F lim g [.slice a n c] h fun v h' => Pfx h h' ∧ v = .tuple #[.int .i64 (LeastM xs).1, .int .i64 (LeastM xs).2]
abbrev S_cLeast : Prop := S_Least X F g
abbrev S_rLeast : Prop := S_Least X F g
end
section
variable {X : Ext} {F : FuncId → Option RFunc} {f : FuncId}
theorem s_SameInts (hX : X f = none) (hF : F f = some rf_SameInts) : S_SameInts X F f := fun lim h _ _ _ _ _ _ _ _ ha hb hn => (SameInts_run hX hF ha hb hn).pfx
theorem s_cLeast {g0 : Nat} (hX : X f = none) (hF : F f = some (rf_cLeast g0)) (hX0 : X g0 = none) (hF0 : F g0 = some rf_Min) : S_cLeast X F f := fun lim h _ _ _ _ ha hn => (cLeast_run hX hF hX0 hF0 ha hn).pfx
theorem s_rLeast (hX : X f = none) (hF : F f = some rf_rLeast) : S_rLeast X F f := fun lim h _ _ _ _ ha hn => (rLeast_run hX hF ha hn).pfx
theorem s_ContainsFunc {g0 : Nat} (hX : X f = none) (hF : F f = some (rf_ContainsFunc g0)) (hX0 : X g0 = none) (hF0 : F g0 = some rf_IndexFunc) : S_ContainsFunc X F f := fun lim h a n c ss k cap p _ ha hn hp =>
 (ContainsFunc_run (p := fun x => decide (p x)) hX hF hX0 hF0 ha hn (fun x hx h1 hp1 => (hp x hx h1 hp1).mono fun v h' hh => ⟨hh.2, hh.1⟩)).mono fun v h' ⟨h1, h2⟩ => ⟨h1, by rw [h2]; congr 1; simp [List.any_eq]⟩
theorem s_RingMay {g0 g1 g2 g3 g4 : Nat} (hX : X f = none) (hF : F f = some (rf_RingMay g0 g1 g2 g3 g4)) (c0 : S_SlotsMay X F g0) (c1 : S_cellMay X F g1) (c2 : S_upTo X F g2) (c3 : S_rUpdates X F g3) (c4 : S_threadMay X F g4) : S_RingMay X F f := by
 intro lim h p q e a n c ss hlim ha hn
 have hL := Loc.start h
 have hxn := ha.rlen slotC_len (by decide)
 refine Ret.body hX hF rfl ?_
 simp only [argL, rf_RingMay]
 (refine Cs (Co (Wc ?_)); refine OL.boxA hL rfl rfl (fun b h' hL => (Wm rfl (Wt ?_))); refine Cs (Co (Wc (OP.fieldAddr rfl (Wc (OL.load1 (k := 0) hL rfl rfl rfl (Wc (OP.lenS rfl (Wm rfl (Wt ?_))))))))); refine Cs (Cs (Co (Wm rfl (Wc ?_)))); refine OL.callB hL rfl rfl (c0 _ _) (fun h' hp hL hc => ?_) (fun h' hp hL hc => ?_); refine Wc (OP.not rfl (Wm rfl (WO.yes rfl (Wc (OP.fieldAddr rfl (WO.yes rfl (Wc (OL.load1 (k := 0) hL rfl rfl rfl (WO.yes rfl (Wc ?_)))))))))); refine OL.callB hL rfl rfl (c1 _ _) (fun h' hp hL hc => ?_) (fun h' hp hL hc => ?_); refine WO.yes rfl (Wc (OP.not rfl (Wc (OP.pickF rfl rfl (Wm rfl (WO.yes rfl (Wc (OP.fieldAddr rfl (WO.yes rfl (Wc (OL.load1 (k := 0) hL rfl rfl rfl (WO.yes rfl (Wc (OP.fieldAddr rfl (WO.yes rfl (Wc (OL.load1 (k := 0) hL rfl rfl rfl (WO.yes rfl (Wc (OP.fieldAddr rfl (WO.yes rfl (Wc (OL.load1 (k := 0) hL rfl rfl rfl (WO.yes rfl (Wm rfl (WO.yes rfl (Wc (OP.add rfl rfl (by omega) ?_)))))))))))))))))))))))))))); refine WO.yes rfl (Wc ?_); refine OL.callB hL rfl rfl (c2 _ _) (fun h' hp hL hc => ?_) (fun h' hp hL hc => ?_); refine WO.yes rfl (Wc (OP.not rfl (Wc (OP.pickF rfl rfl (Wm rfl (WO.yes rfl (Wc (OP.fieldAddr rfl (WO.yes rfl (Wc (OL.load1 (k := 0) hL rfl rfl rfl (WO.yes rfl (Wc ?_))))))))))))); refine OL.callB hL rfl rfl (c1 _ _) (fun h' hp hL hc => ?_) (fun h' hp hL hc => ?_); refine WO.yes rfl (Wc (OP.not rfl (Wc (OP.pickF rfl rfl (Wm rfl (WO.yes rfl (Wc (OP.fieldAddr rfl (WO.yes rfl (Wc (OL.load1 (k := 0) hL rfl rfl rfl (WO.yes rfl (Wc ?_))))))))))))); refine OL.callB hL rfl rfl (c2 _ _) (fun h' hp hL hc => ?_) (fun h' hp hL hc => ?_); refine WO.yes rfl (Wc (OP.not rfl (Wc (OP.pickF rfl rfl (Wt ?_))))); refine WC.condF rfl (Ks ?_); refine Cs (Cs (Co (Wm rfl (Wt ?_)))); refine WC.block ?_)
 refine WC.loop (fun q' : Nat × AH => q'.1 ≤ n ∧ Loc h q'.2 [bx b [.int .i64 p, .int .i64 q, .int .i64 e, .slice a n c]] ∧ ∀ s ∈ ss.take q'.1, SlotOk s) (fun q' => [(4, .int .i64 (q'.1 : Int)), (3, .int .i64 (n : Int)), (1, .pointer (some ⟨b, 0, none⟩))]) (fun q' => q'.2) (fun q' => n - q'.1) ?_ (0, h') ⟨Nat.zero_le _, hL, by simp⟩ (by (refine Sub.cons rfl (Sub.cons rfl (Sub.cons rfl ?_)); exact Sub.nil _)) rfl
 intro ⟨i, h1⟩ ⟨hi, hL, hall⟩
 simp only at hi hL hall ⊢
 by_cases hlt : (i : Int) < n
 ·have hil : i < ss.length := by omega
  (refine Cs (Cs (Co (Wm rfl (Wm rfl (Wc (OP.lssT rfl rfl (by omega) ?_)))))); refine Wn ?_; dsimp only [zn, zr, zx, yn, yr]; refine WC.condT rfl (WC.skip ?_); dsimp only [zn, zr, zx, yn, yr]; refine Cs (WC.block (Cs (Co (Wc (OP.fieldAddr rfl (Wc (OL.load1 (k := 0) hL rfl rfl rfl (Wm rfl (Wc (OP.idxS (Sl.pfx (by assumption) (Loc.pfx hL)) rfl rfl (by omega) ?_)))))))))); refine Wc (OP.ldR slotC_len (by decide) (Sl.pfx (by assumption) (Loc.pfx hL)) rfl (by omega) ?_); refine Wc ?_; refine OL.new hL (fun b h' hL => (WO.cons0 ?_)); refine OL.storeAll (k := 0) hL hlim rfl rfl rfl rfl rfl rfl (by decide) rfl (fun h' hL => ?_); refine Wn ?_; dsimp only [zn, zr, zx, yn, yr]; refine Cs (Co (Wc (OP.fieldAddr rfl (Wc (OL.load (k := 0) hL rfl rfl rfl (Wc ?_)))))); refine OL.callB hL rfl rfl (c3 _ _) (fun h' hp hL hc => ?_) (fun h' hp hL hc => ?_); refine Wc (OP.not rfl (Wm rfl (WO.yes rfl (Wc (OP.fieldAddr rfl (WO.yes rfl (Wc (OL.load1 (k := 0) hL rfl rfl rfl (WO.yes rfl (Wc ?_)))))))))); refine OL.callB hL rfl rfl (c4 _ _) (fun h' hp hL hc => ?_) (fun h' hp hL hc => ?_); refine WO.yes rfl (Wc (OP.not rfl (Wc (OP.pickF rfl rfl (Wm rfl (WO.yes rfl (Wc (OP.fieldAddr rfl (WO.yes rfl (Wc (OL.load1 (k := 0) hL rfl rfl rfl (WO.yes rfl (Wc ?_))))))))))))); refine OL.callB hL rfl rfl (c2 _ _) (fun h' hp hL hc => ?_) (fun h' hp hL hc => ?_); refine WO.yes rfl (Wc (OP.not rfl (Wc (OP.pickF rfl rfl (Wn ?_))))); dsimp only [zn, zr, zx, yn, yr]; refine WC.condF rfl (WC.skip ?_); dsimp only [zn, zr, zx, yn, yr]; refine Co (Wm rfl (Wc (OP.add rfl rfl (by omega) ?_))); refine Wm rfl (Wn ?_); dsimp only [zn, zr, zx, yn, yr])
  refine ⟨(i + 1, h'), ⟨by simp only; omega, hL.tail, ?_⟩, by (refine Sub.cons rfl (Sub.cons rfl (Sub.cons rfl ?_)); exact Sub.nil _), rfl, by simp only; omega⟩
  simp only
  rw [List.take_succ_eq_append_getElem hil]
  intro s hs
  rcases List.mem_append.1 hs with hs | hs
  ·exact hall s hs
  ·simp at hs; rw [hs]; simp only [SlotOk]; omega
  (refine WO.yes rfl (Wc (OP.not rfl (Wc (OP.pickF rfl rfl (Wt ?_))))); refine WC.condT rfl (Cs (Co (Wm rfl (Wt ?_)))); refine WC.ret ?_; dsimp only [zn, zr, zx, yn, yr])
  exact Fin.ret rfl ⟨hL.pfx, boolF (fun hh => by have := hh.2.1 _ (List.getElem_mem hil); simp only [SlotOk] at this; omega)⟩
  (refine WO.yes rfl (Wc (OP.not rfl (Wc (OP.pickF rfl rfl (Wm rfl (WO.no rfl (WO.no rfl (WO.no rfl (WO.no rfl (Wc (OP.pickT rfl rfl (Wt ?_)))))))))))); refine WC.condT rfl (Cs (Co (Wm rfl (Wt ?_)))); refine WC.ret ?_; dsimp only [zn, zr, zx, yn, yr])
  exact Fin.ret rfl ⟨hL.pfx, boolF (fun hh => by have := hh.2.1 _ (List.getElem_mem hil); simp only [SlotOk] at this; omega)⟩
  (refine Wc (OP.not rfl (Wm rfl (WO.no rfl (WO.no rfl (WO.no rfl (WO.no rfl (Wc (OP.pickT rfl rfl (Wm rfl (WO.no rfl (WO.no rfl (WO.no rfl (WO.no rfl (Wc (OP.pickT rfl rfl (Wt ?_)))))))))))))))); refine WC.condT rfl (Cs (Co (Wm rfl (Wt ?_)))); refine WC.ret ?_; dsimp only [zn, zr, zx, yn, yr])
  exact Fin.ret rfl ⟨hL.pfx, boolF (fun hh => by have := hh.2.1 _ (List.getElem_mem hil); simp only [SlotOk] at this; omega)⟩
 ·(refine Cs (Cs (Co (Wm rfl (Wm rfl (Wc (OP.lssF rfl rfl (by omega) ?_)))))); refine Wt ?_; refine WC.condF rfl (WC.exit ?_); dsimp only [zn, zr, zx, yn, yr]; rw [yx, if_pos rfl]; dsimp only [zn, zr, zx, yn, yr]; refine Cs (Co (Wm rfl (Wt ?_))); refine WC.ret ?_)
  rw [List.take_of_length_le (by omega)] at hall
  have hall : SlotsOk ss := hall
  exact Fin.ret rfl ⟨hL.pfx, boolT (by grind)⟩
 (refine WO.yes rfl (Wc (OP.not rfl (Wc (OP.pickF rfl rfl (Wt ?_))))); refine WC.condT rfl (Cs (Co (Wm rfl (Wt ?_)))); refine WC.ret ?_; dsimp only [zn, zr, zx, yn, yr]; exact Fin.ret rfl ⟨hL.pfx, boolF (by omega)⟩; refine WO.yes rfl (Wc (OP.not rfl (Wc (OP.pickF rfl rfl (Wm rfl (WO.no rfl (WO.no rfl (WO.no rfl (WO.no rfl (Wc (OP.pickT rfl rfl (Wt ?_)))))))))))); refine WC.condT rfl (Cs (Co (Wm rfl (Wt ?_)))); refine WC.ret ?_; dsimp only [zn, zr, zx, yn, yr]; exact Fin.ret rfl ⟨hL.pfx, boolF (by omega)⟩; refine WO.yes rfl (Wc (OP.not rfl (Wc (OP.pickF rfl rfl (Wm rfl (WO.no rfl (WO.no rfl (WO.no rfl (WO.no rfl (Wc (OP.pickT rfl rfl (Wm rfl (WO.no rfl (WO.no rfl (WO.no rfl (WO.no rfl (Wc (OP.pickT rfl rfl (Wt ?_))))))))))))))))))); refine WC.condT rfl (Cs (Co (Wm rfl (Wt ?_)))); refine WC.ret ?_; dsimp only [zn, zr, zx, yn, yr]; exact Fin.ret rfl ⟨hL.pfx, boolF (by omega)⟩; refine WO.yes rfl (Wc (OP.not rfl (Wc (OP.pickF rfl rfl (Wm rfl (WO.no rfl (WO.no rfl (WO.no rfl (WO.no rfl (WO.no rfl (WO.no rfl (WO.no rfl (WO.no rfl (WO.no rfl (WO.no rfl (Wc (OP.pickT rfl rfl (Wm rfl (WO.no rfl (WO.no rfl (WO.no rfl (WO.no rfl (Wc (OP.pickT rfl rfl (Wm rfl (WO.no rfl (WO.no rfl (WO.no rfl (WO.no rfl (Wc (OP.pickT rfl rfl (Wt ?_)))))))))))))))))))))))))))))))); refine WC.condT rfl (Cs (Co (Wm rfl (Wt ?_)))); refine WC.ret ?_; dsimp only [zn, zr, zx, yn, yr]; exact Fin.ret rfl ⟨hL.pfx, boolF (by omega)⟩; refine Wc (OP.not rfl (Wm rfl (WO.no rfl (WO.no rfl (WO.no rfl (WO.no rfl (Wc (OP.pickT rfl rfl (Wm rfl (WO.no rfl (WO.no rfl (WO.no rfl (WO.no rfl (WO.no rfl (WO.no rfl (WO.no rfl (WO.no rfl (WO.no rfl (WO.no rfl (Wc (OP.pickT rfl rfl (Wm rfl (WO.no rfl (WO.no rfl (WO.no rfl (WO.no rfl (Wc (OP.pickT rfl rfl (Wm rfl (WO.no rfl (WO.no rfl (WO.no rfl (WO.no rfl (Wc (OP.pickT rfl rfl (Wt ?_)))))))))))))))))))))))))))))))))))); refine WC.condT rfl (Cs (Co (Wm rfl (Wt ?_)))); refine WC.ret ?_; dsimp only [zn, zr, zx, yn, yr]; exact Fin.ret rfl ⟨hL.pfx, boolF (by omega)⟩)
theorem s_curMay1 (hX : X f = none) (hF : F f = some rf_curMay1) : S_curMay1 X F f := by
 intro lim h x p q b e s hb
 have hL : Loc h h [] := Loc.start h
 refine Ret.body hX hF rfl ?_
 simp only [argL, rf_curMay1]
 (refine Cs (Co (Wm rfl (Wt ?_))); refine Cs (Co (Wm rfl (Wc (OP.fieldAddr rfl (Wc (OP.load rfl (by assumption) rfl ?_)))))); refine Wc ?_; refine OP.lssC rfl rfl (fun hc => ?_) (fun hc => ?_); refine Wm rfl (WO.no rfl (WO.no rfl (WO.no rfl (WO.no rfl (Wc (OP.pickT rfl rfl (Wm rfl (Wt ?_)))))))); refine WC.ret ?_; exact Fin.ret rfl ⟨hL.pfx, boolT (by omega)⟩; refine Wm rfl (WO.yes rfl (Wm rfl (WO.yes rfl (Wc (OP.fieldAddr rfl (WO.yes rfl (Wc (OP.load rfl (by assumption) rfl ?_)))))))); refine WO.yes rfl (Wc ?_); refine OP.gtrC rfl rfl (fun hc => ?_) (fun hc => ?_); refine Wc (OP.pickF rfl rfl (Wm rfl (Wt ?_))); refine WC.ret ?_; exact Fin.ret rfl ⟨hL.pfx, boolT (by omega)⟩; refine Wc (OP.pickF rfl rfl (Wm rfl (Wt ?_))); refine WC.ret ?_; exact Fin.ret rfl ⟨hL.pfx, boolF (by omega)⟩)
theorem s_curMay {g0 g1 g2 : Nat} (hX : X f = none) (hF : F f = some (rf_curMay g0 g1 g2)) (c0 : S_curMay1 X F g0) (c1 : S_ringMay X F g1) (c2 : S_ContainsFunc X F g2) : S_curMay X F f := by
 intro lim h p q e a n c ss bb m d xs hlim ha hn hb hm
 have hL := Loc.start h
 refine Ret.body hX hF rfl ?_
 simp only [argL, rf_curMay]
 have c3 : ∀ lim h', lim ≤ h'.length → Pfx h h' → Ret X F lim g1 [.agg #[.int .i64 p, .int .i64 q, .int .i64 e, .slice a n c]] h' fun v h'' => Pfx h' h'' ∧ v = .bool (decide (RingOk p q e ss)) := fun lim h' hl hp => c1 lim h' hl (ha.pfx hp) hn
 (refine Cs (Co (Wc ?_)); refine OL.boxA hL rfl rfl (fun b h' hL => (Wm rfl (Wt ?_))); refine Cs (Co (Wc (OP.func1 rfl (Wm rfl (Wt ?_))))); refine Cs (Co (Wc (OL.loadAll (k := 0) hL rfl rfl rfl (Wc ?_)))); refine OL.callB hL rfl rfl (c3 _ _ (hL.lm hlim) hL.pfx) (fun h' hp hL hc => ?_) (fun h' hp hL hc => ?_); refine Wm rfl (WO.yes rfl (Wm rfl (WO.yes rfl (Wm rfl (WO.yes rfl ?_))))))
 (refine Wc ?_)
 refine OL.callB hL rfl rfl (c2 _ _ (hb.pfx hL.pfx) (by omega) (fun x hx h1 hp1 => c0 _ _ ((hL.grow hp1).cell (k := 0) rfl))) (fun h' hp hL hc => ?_) (fun h' hp hL hc => ?_)
 (refine WO.yes rfl (Wc (OP.not rfl (Wc (OP.pickT rfl rfl (Wm rfl (Wt ?_)))))); refine WC.ret ?_; exact Fin.ret rfl ⟨hL.pfx, boolF (by grind)⟩; refine WO.yes rfl (Wc (OP.not rfl (Wc (OP.pickT rfl rfl (Wm rfl (Wt ?_)))))); refine WC.ret ?_; exact Fin.ret rfl ⟨hL.pfx, boolT (by grind)⟩; refine Wm rfl (WO.no rfl (WO.no rfl (WO.no rfl (WO.no rfl (Wc (OP.pickF rfl rfl (Wm rfl (Wt ?_)))))))); refine WC.ret ?_; exact Fin.ret rfl ⟨hL.pfx, boolF (by grind)⟩)
theorem s_CursorsMay {g0 : Nat} (hX : X f = none) (hF : F f = some (rf_CursorsMay g0)) (c0 : S_RingMay X F g0) : S_CursorsMay X F f := by
 intro lim h p q e a n c ss bb m d xs hlim ha hn hb hm
 have hL := Loc.start h
 have hxm := hb.ilen
 refine Ret.body hX hF rfl ?_
 simp only [argL, rf_CursorsMay]
 have c3 : ∀ lim h', lim ≤ h'.length → Pfx h h' → Ret X F lim g0 [.agg #[.int .i64 p, .int .i64 q, .int .i64 e, .slice a n c]] h' fun v h'' => Pfx h' h'' ∧ v = .bool (decide (RingOk p q e ss)) := fun lim h' hl hp => c0 lim h' hl (ha.pfx hp) hn
 (refine Cs (Co (Wc ?_)); refine OL.boxA hL rfl rfl (fun b h' hL => (Wm rfl (Wt ?_))); refine Cs (Cs (Co (Wm rfl (Wt ?_)))); refine WC.block ?_)
 refine WC.loop (fun i : Nat => i ≤ m ∧ ∀ x ∈ xs.take i, p ≤ x ∧ x ≤ q) (fun i => [(5, .int .i64 (i : Int)), (2, .pointer (some ⟨b, 0, none⟩)), (1, .slice bb m d)]) (fun _ => h') (fun i => m - i) ?_ 0 ⟨Nat.zero_le _, by simp⟩ (by (refine Sub.cons rfl (Sub.cons rfl (Sub.cons rfl ?_)); exact Sub.nil _)) rfl
 intro i ⟨hi, hall⟩
 by_cases hlt : (i : Int) < m
 ·have hil : i < xs.length := by omega
  (refine Cs (Cs (Co (Wm rfl (Wm rfl (Wc (OP.lenS rfl (Wc (OP.lssT rfl rfl (by omega) ?_)))))))); refine Wt ?_; refine WC.condT rfl (Ks ?_); refine Cs (WC.block (Cs (Co (WO.consQ (OP.mv rfl (WO.consQ (OP.mv rfl (WO.consQ (OP.idxS (Sl.pfx (by assumption) (Loc.pfx hL)) rfl rfl (by omega) ?_))))))))); refine WO.consQ (OP.ldI (Sl.pfx (by assumption) (Loc.pfx hL)) rfl (by omega) ?_); refine WO.consQ (OP.fieldAddr rfl (WO.consQ (OL.load1 (k := 0) hL rfl rfl rfl (Wc ?_)))); refine OP.lssC rfl rfl (fun hc => ?_) (fun hc => ?_); refine Wm rfl (WO.no rfl (WO.no rfl (WO.no rfl (WO.no rfl (WO.no rfl (WO.no rfl (WO.no rfl (Wc (OP.pickT rfl rfl (Wt ?_)))))))))); refine WC.condT rfl (Cs (Co (Wm rfl (Wt ?_)))); refine WC.ret ?_; dsimp only [zn, zr, zx, yn, yr])
  exact Fin.ret rfl ⟨hL.pfx, boolF (fun hh => by have := hh.2 _ (List.getElem_mem hil); omega)⟩
  (refine Wm rfl (WO.yes rfl (WO.consQ (OP.mv rfl (WO.yes rfl (WO.consQ (OP.mv rfl (WO.yes rfl (WO.consQ (OP.idxS (Sl.pfx (by assumption) (Loc.pfx hL)) rfl rfl (by omega) ?_))))))))); refine WO.yes rfl (WO.consQ (OP.ldI (Sl.pfx (by assumption) (Loc.pfx hL)) rfl (by omega) ?_)); refine WO.yes rfl (WO.consQ (OP.fieldAddr rfl (WO.yes rfl (WO.consQ (OL.load1 (k := 0) hL rfl rfl rfl (WO.yes rfl (Wc ?_))))))); refine OP.gtrC rfl rfl (fun hc => ?_) (fun hc => ?_); refine Wc (OP.pickF rfl rfl (Wn ?_)); dsimp only [zn, zr, zx, yn, yr]; refine WC.condT rfl (Cs (Co (Wm rfl (Wn ?_)))); dsimp only [zn, zr, zx, yn, yr]; refine WC.ret ?_; dsimp only [zn, zr, zx, yn, yr]; exact Fin.ret rfl ⟨hL.pfx, boolF (by grind)⟩; refine Wc (OP.pickF rfl rfl (Wn ?_)); dsimp only [zn, zr, zx, yn, yr]; refine WC.condF rfl (WC.skip ?_); dsimp only [zn, zr, zx, yn, yr]; refine Co (Wm rfl (Wc (OP.add rfl rfl (by omega) ?_))); refine Wm rfl (Wn ?_); dsimp only [zn, zr, zx, yn, yr])
  refine ⟨i + 1, ⟨by omega, ?_⟩, by (refine Sub.cons rfl (Sub.cons rfl (Sub.cons rfl ?_)); exact Sub.nil _), rfl, by omega⟩
  rw [List.take_succ_eq_append_getElem hil]
  intro s hs
  rcases List.mem_append.1 hs with hs | hs
  ·exact hall s hs
  ·simp at hs; rw [hs]; omega
 ·rw [List.take_of_length_le (by omega)] at hall
  (refine Cs (Cs (Co (Wm rfl (Wm rfl (Wc (OP.lenS rfl (Wc (OP.lssF rfl rfl (by omega) ?_)))))))); refine Wt ?_; refine WC.condF rfl (WC.exit ?_); dsimp only [zn, zr, zx, yn, yr]; rw [yx, if_pos rfl]; dsimp only [zn, zr, zx, yn, yr]; refine Cs (Co (Wc (OL.loadAll (k := 0) hL rfl rfl rfl (Wc ?_)))); refine OL.callB hL rfl rfl (c3 _ _ (hL.lm hlim) hL.pfx) (fun h' hp hL hc => ?_) (fun h' hp hL hc => ?_); refine Wm rfl (Wt ?_); refine WC.ret ?_; exact Fin.ret rfl ⟨hL.pfx, boolT (by grind)⟩; refine Wm rfl (Wt ?_); refine WC.ret ?_; exact Fin.ret rfl ⟨hL.pfx, boolF (by grind)⟩)
end
end Go.Proofs.YtdcpmchhioilpaaW.Ai
