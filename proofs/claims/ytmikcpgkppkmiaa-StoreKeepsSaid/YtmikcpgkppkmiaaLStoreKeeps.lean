/-
  The statement StoreKeeps (chapter 3), as the small machine runs it.
-/
import Derived.Test.YtmikcpgkppkmiaaLStoreKeeps0
import Derived.Test.YtmikcpgkppkmiaaLStoreKeeps1
import Derived.Test.YtmikcpgkppkmiaaLStoreKeeps2
import Derived.Test.YtmikcpgkppkmiaaLStoreKeeps3
set_option linter.unusedVariables false
set_option linter.unusedSimpArgs false
set_option maxHeartbeats 4000000
set_option maxRecDepth 100000
namespace Go.Proofs.YtmikcpgkppkmiaaW.Ai
section
variable {X : Ext} {F : FuncId → Option RFunc} {f : FuncId}
theorem s_StoreKeeps {g0 g1 g2 g3 g4 : Nat} (hX : X f = none) (hF : F f = some (rf_StoreKeeps g0 g1 g2 g3 g4)) (d0 : S_yes X F g0) (e1 : S_sApply X F g1) (d2 : S_Num X F g2) (e3 : S_SameState X F g3) (e4 : S_SameInts X F g4)
    (h : AH) {r0 r1 r2 r3 : Row} {c r a : Int} (hst : St h r0 r1 r2 r3) (ho : R64 c ∧ R64 r ∧ R64 a) : Ret X F h.length f [stV r0 r1 r2 r3, .agg #[.int .i64 c, .int .i64 r, .int .i64 a]] h fun v _ => v = .bool true := by
  by_cases hok : StoreOk ⟨r0.xs, r1.xs, r2.xs, r3.xs⟩ ∧ OpOk c r a
  · obtain ⟨hok, hop⟩ := hok
    have hc : c = 0 ∨ c = 1 ∨ c = 2 ∨ c = 3 := by omega
    have hr : r = 0 ∨ r = 1 ∨ r = 2 ∨ r = 3 := by omega
    have ha : 0 ≤ a ∧ a ≤ 255 := by omega
    rcases hc with rfl | rfl | rfl | rfl
    · rcases hr with rfl | rfl | rfl | rfl
      · exact keeps00 hX hF d0 e1 d2 e3 e4 h hst hok ha
      · exact keeps01 hX hF d0 e1 d2 e3 e4 h hst hok ha
      · exact keeps02 hX hF d0 e1 d2 e3 e4 h hst hok ha
      · exact keeps03 hX hF d0 e1 d2 e3 e4 h hst hok ha
    · rcases hr with rfl | rfl | rfl | rfl
      · exact keeps10 hX hF d0 e1 d2 e3 e4 h hst hok ha
      · exact keeps11 hX hF d0 e1 d2 e3 e4 h hst hok ha
      · exact keeps12 hX hF d0 e1 d2 e3 e4 h hst hok ha
      · exact keeps13 hX hF d0 e1 d2 e3 e4 h hst hok ha
    · rcases hr with rfl | rfl | rfl | rfl
      · obtain rfl : a = 0 := by omega
        exact keeps20 hX hF d0 e1 d2 e3 e4 h (a := 0) hst hok ⟨by decide, by decide⟩
      · obtain rfl : a = 0 := by omega
        exact keeps21 hX hF d0 e1 d2 e3 e4 h (a := 0) hst hok ⟨by decide, by decide⟩
      · obtain rfl : a = 0 := by omega
        exact keeps22 hX hF d0 e1 d2 e3 e4 h (a := 0) hst hok ⟨by decide, by decide⟩
      · obtain rfl : a = 0 := by omega
        exact keeps23 hX hF d0 e1 d2 e3 e4 h (a := 0) hst hok ⟨by decide, by decide⟩
    · obtain rfl : a = 0 := by omega
      obtain rfl : r = 0 := by omega
      exact keeps30 hX hF d0 e1 d2 e3 e4 h (a := 0) hst hok ⟨by decide, by decide⟩
  · have hL := Loc.start h
    have hlim : h.length ≤ h.length := Nat.le_refl _
    have d10 : ∀ (lim : Nat) (h' : AH), lim ≤ h'.length → Pfx h h' → Ret X F lim g1 [stV r0 r1 r2 r3, .agg #[.int .i64 c, .int .i64 r, .int .i64 a]] h' fun v h'' => Pfx h' h'' ∧ MadeS h' h'' (fun s0 s1 s2 s3 => .tuple #[stV s0 s1 s2 s3, .int .i64 0, .int .i64 300]) S4.none v := fun lim h' hl hp => applyAt e1 ⟨r0.xs, r1.xs, r2.xs, r3.xs⟩ c r a (S4.none, 0, 300) (if_neg hok) lim h' hl (hst.pfx hp) rfl rfl rfl rfl
    have d14 : ∀ (lim : Nat) (h' : AH) {r0 r1 r2 r3 : Row}, St h' r0 r1 r2 r3 → Ret X F lim g3 [stV r0 r1 r2 r3, .agg #[.slice none 0 0, .slice none 0 0, .slice none 0 0, .slice none 0 0]] h' fun v h'' => Pfx h' h'' ∧ v = .bool (decide (r0.xs = [] ∧ r1.xs = [] ∧ r2.xs = [] ∧ r3.xs = [])) := fun lim h' r0 r1 r2 r3 hs => e3 lim h' (t0 := nilRow) (t1 := nilRow) (t2 := nilRow) (t3 := nilRow) hs (nilSt h')
    refine Ret.body hX hF rfl ?_
    simp only [argL, rf_StoreKeeps]
    (refine WC.seq (WC.ops (WO.cons ?_)); refine OL.boxA hL rfl rfl (fun b h' hL => (WO.cons ?_)); refine OL.boxA hL rfl rfl (fun b h' hL => (WO.cons (OP.mv rfl (WO.nil ?_)))); dsimp only [thn_normal, thn_ret, thn_exit, blk_normal, blk_ret]; refine WC.seq (WC.seq (WC.ops (WO.cons ?_))); refine OL.callV hL rfl rfl (d0 _ _) (fun h' hp hL => (WO.cons (OP.not rfl (WO.nil ?_)))); dsimp only [thn_normal, thn_ret, thn_exit, blk_normal, blk_ret]; refine WC.condF rfl (WC.skip ?_); dsimp only [thn_normal, thn_ret, thn_exit, blk_normal, blk_ret]; refine WC.seq (WC.ops (WO.cons (OL.loadAll (k := 1) hL rfl rfl rfl (WO.cons (OL.loadAll (k := 0) hL rfl rfl rfl (WO.cons ?_)))))); refine OL.callSt hL rfl rfl (d10 _ _ (by first | exact hL.lm hlim | exact Nat.le_refl _ | omega) hL.pfx) (fun a0 n0 a1 n1 a2 n2 a3 n3 h' hy hp hL => ?_); (try dsimp only at hL hy ⊢); refine WO.cons (OP.mv rfl (WO.cons (OP.extract rfl rfl (WO.cons (OP.extract rfl rfl (WO.cons (OP.extract rfl rfl (WO.cons ?_)))))))); refine OL.new hL (fun b h' hL => (WO.cons0 ?_)); refine OL.storeAll (k := 0) hL hlim rfl rfl rfl rfl rfl rfl (by decide) rfl (fun h' hL => ?_); dsimp only [List.set, Nat.zero_add, Nat.reduceAdd, Nat.reduceMul] at hL; refine WO.cons (OP.mv rfl (WO.cons (OP.mv rfl (WO.nil ?_)))); dsimp only [thn_normal, thn_ret, thn_exit, blk_normal, blk_ret]; refine WC.seq (WC.seq (WC.ops (WO.cons (OP.mv rfl (WO.cons ?_))))); refine OL.callV hL rfl rfl (d2 _ _ (by first | omega | assumption | exact St.pfx (by assumption) hL.pfx | exact hL.stM (by repeat (first | exact List.Mem.head _ | apply List.Mem.tail)) | exact RowOk.pfx (by assumption) hL.pfx | exact (hL.stM (by repeat (first | exact List.Mem.head _ | apply List.Mem.tail))).1 | exact (hL.stM (by repeat (first | exact List.Mem.head _ | apply List.Mem.tail))).2.1 | exact (hL.stM (by repeat (first | exact List.Mem.head _ | apply List.Mem.tail))).2.2.1 | exact (hL.stM (by repeat (first | exact List.Mem.head _ | apply List.Mem.tail))).2.2.2)) (fun h' hp hL => ?_); refine WO.cons (OP.neqT rfl rfl (by omega) ?_); refine WO.nil ?_; dsimp only [thn_normal, thn_ret, thn_exit, blk_normal, blk_ret]; refine WC.condT rfl (WC.seq (WC.ops (WO.cons (OL.loadAll (k := 0) hL rfl rfl rfl (WO.cons (OP.buildN rfl rfl (WO.cons ?_))))))); refine OL.callB hL rfl rfl (d14 _ _ (by first | omega | assumption | exact St.pfx (by assumption) hL.pfx | exact hL.stM (by repeat (first | exact List.Mem.head _ | apply List.Mem.tail)) | exact RowOk.pfx (by assumption) hL.pfx | exact (hL.stM (by repeat (first | exact List.Mem.head _ | apply List.Mem.tail))).1 | exact (hL.stM (by repeat (first | exact List.Mem.head _ | apply List.Mem.tail))).2.1 | exact (hL.stM (by repeat (first | exact List.Mem.head _ | apply List.Mem.tail))).2.2.1 | exact (hL.stM (by repeat (first | exact List.Mem.head _ | apply List.Mem.tail))).2.2.2)) (fun h' hp hL hc => ?_) (fun h' hp hL hc => ?_); refine WO.cons (OP.mv rfl (WO.nil ?_)); dsimp only [thn_normal, thn_ret, thn_exit, blk_normal, blk_ret]; refine WC.ret ?_; dsimp only [thn_normal, thn_ret, thn_exit, blk_normal, blk_ret]; exact Fin.ret rfl rfl; refine WO.cons (OP.mv rfl (WO.nil ?_)); dsimp only [thn_normal, thn_ret, thn_exit, blk_normal, blk_ret]; refine WC.ret ?_; dsimp only [thn_normal, thn_ret, thn_exit, blk_normal, blk_ret]; exact False.elim (by grind))
end
end Go.Proofs.YtmikcpgkppkmiaaW.Ai
