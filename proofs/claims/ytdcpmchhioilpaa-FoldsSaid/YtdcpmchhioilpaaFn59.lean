/-
 Operations lent and kept.
-/
import Derived.Test.YtdcpmchhioilpaaFn56
set_option linter.unusedVariables false
set_option linter.unusedSimpArgs false
set_option maxHeartbeats 4000000
set_option maxRecDepth 100000
namespace Go.Proofs.YtdcpmchhioilpaaW.Ai
-- chorus/choruslaw0.CopyOps
def rf_CopyOps : RFunc :=
 ⟨6, [(.tmp 2)], (.seq (.ops [rO 2 (.mv (.const (.slice .none 0 0)))]) (.seq (.ops [rO 3 (.buildSlice [] 0 []), rO 4 (.mv (.tmp 0)), rO 5 (.append 3 24 (.tmp 3) (.tmp 4)), rO 2 (.mv (.tmp 5))]) .ret))⟩
-- chorus/choruslaw0.LendOps; g0 = chorus/choruslaw0.CopyOps
def rf_LendOps (g0 : Nat) : RFunc :=
 ⟨14, [(.tmp 2)], (.seq (.ops [rO 2 (.mv (.const (.slice .none 0 0)))]) (.seq (.ops [rO 4 (.mv (.tmp 0)), rO 5 (.call (.func g0) [(.tmp 4)]), rO 6 (.build [(.int .i64 0), (.int .i64 0), (.int .i64 0)] [(1, (1, (.const (.int .i64 77777))))]), rO 7 (.build [(.int .i64 0), (.int .i64 0), (.int .i64 0)] [(1, (1, (.const (.int .i64 77777))))]), rO 8 (.buildSlice [(.int .i64 0), (.int .i64 0), (.int .i64 0), (.int .i64 0), (.int .i64 0), (.int .i64 0)] 2 [(0, (3, (.tmp 6))), (3, (3, (.tmp 7)))]), rO 9 (.append 3 24 (.tmp 5) (.tmp 8)), rO 3 (.mv (.tmp 9))]) (.seq (.ops [rO 10 (.mv (.tmp 3)), rO 11 (.mv (.tmp 0)), rO 12 (.len 1 (.tmp 11)), rO 13 (.slice 3 (.tmp 10) .none (.some (.tmp 12)) .none), rO 2 (.mv (.tmp 13))]) .ret)))⟩
-- chorus/choruslaw0.SameOps
def rf_SameOps : RFunc :=
 ⟨26, [(.tmp 4)], (.seq (.ops [rO 4 (.mv (.const (.bool false)))]) (.seq (.seq (.ops [rO 6 (.mv (.tmp 0)), rO 7 (.len 1 (.tmp 6)), rO 8 (.mv (.tmp 1)), rO 9 (.len 1 (.tmp 8)), rO 10 (.bin .neq (.tmp 7) (.tmp 9))]) (.cond (.tmp 10) (.seq (.ops [rO 4 (.mv (.const (.bool false)))]) .ret) .skip)) (.seq (.seq (.ops [rO 5 (.mv (.const (.int .i64 0)))]) (.block 0 (.loop (.seq (.seq (.ops [rO 11 (.mv (.tmp 5)), rO 12 (.mv (.tmp 0)), rO 13 (.len 1 (.tmp 12)), rO 14 (.bin .lss (.tmp 11) (.tmp 13))]) (.cond (.tmp 14) .skip (.exit 0))) (.seq (.block 1 (.seq (.ops [⟨(.some 17), (.mv (.tmp 0)), .none, true, []⟩, ⟨(.some 18), (.mv (.tmp 5)), .none, true, []⟩, ⟨(.some 19), (.idxAddr 3 (.tmp 17) (.tmp 18)), .none, true, []⟩, ⟨(.some 20), (.load (.some 3) (.tmp 19)), .none, true, []⟩, ⟨(.some 21), (.mv (.tmp 1)), .none, true, []⟩, ⟨(.some 22), (.mv (.tmp 5)), .none, true, []⟩, ⟨(.some 23), (.idxAddr 3 (.tmp 21) (.tmp 22)), .none, true, []⟩, ⟨(.some 24), (.load (.some 3) (.tmp 23)), .none, true, []⟩, rO 25 (.eq true (.some [1, 1, 1]) (.tmp 20) (.tmp 24))]) (.cond (.tmp 25) (.seq (.ops [rO 4 (.mv (.const (.bool false)))]) .ret) .skip))) (.ops [rO 15 (.mv (.tmp 5)), rO 16 (.bin .add (.tmp 15) (.const (.int .i64 1))), rO 5 (.mv (.tmp 16))])))))) (.seq (.ops [rO 4 (.mv (.const (.bool true)))]) .ret))))⟩
-- chorus/choruslaw0.KeptOps; g0 = chorus/choruslaw0.SameOps
def rf_KeptOps (g0 : Nat) : RFunc :=
 ⟨33, [(.tmp 4)], (.seq (.ops [rO 4 (.mv (.const (.bool false)))]) (.seq (.ops [rO 6 (.mv (.tmp 0)), rO 7 (.mv (.tmp 0)), rO 8 (.len 1 (.tmp 7)), rO 9 (.bin .add (.tmp 8) (.const (.int .i64 2))), rO 10 (.slice 3 (.tmp 6) .none (.some (.tmp 9)) .none), rO 5 (.mv (.tmp 10))]) (.seq (.ops [rO 11 (.mv (.tmp 0)), rO 12 (.mv (.tmp 1)), rO 13 (.call (.func g0) [(.tmp 11), (.tmp 12)]), rO 14 (.mv (.tmp 13)), ⟨(.some 15), (.mv (.tmp 5)), (.some (14, true)), false, []⟩, ⟨(.some 16), (.mv (.tmp 1)), (.some (14, true)), false, []⟩, ⟨(.some 17), (.len 1 (.tmp 16)), (.some (14, true)), false, []⟩, ⟨(.some 18), (.idxAddr 3 (.tmp 15) (.tmp 17)), (.some (14, true)), false, []⟩, ⟨(.some 19), (.load (.some 3) (.tmp 18)), (.some (14, true)), false, []⟩, ⟨(.some 20), (.build [(.int .i64 0), (.int .i64 0), (.int .i64 0)] [(1, (1, (.const (.int .i64 77777))))]), (.some (14, true)), false, []⟩, ⟨(.some 21), (.eq false (.some [1, 1, 1]) (.tmp 19) (.tmp 20)), (.some (14, true)), false, []⟩, rO 22 (.pick (.tmp 14) (.tmp 21) (.const (.bool false))), rO 23 (.mv (.tmp 22)), ⟨(.some 24), (.mv (.tmp 5)), (.some (23, true)), false, []⟩, ⟨(.some 25), (.mv (.tmp 1)), (.some (23, true)), false, []⟩, ⟨(.some 26), (.len 1 (.tmp 25)), (.some (23, true)), false, []⟩, ⟨(.some 27), (.bin .add (.tmp 26) (.const (.int .i64 1))), (.some (23, true)), false, []⟩, ⟨(.some 28), (.idxAddr 3 (.tmp 24) (.tmp 27)), (.some (23, true)), false, []⟩, ⟨(.some 29), (.load (.some 3) (.tmp 28)), (.some (23, true)), false, []⟩, ⟨(.some 30), (.build [(.int .i64 0), (.int .i64 0), (.int .i64 0)] [(1, (1, (.const (.int .i64 77777))))]), (.some (23, true)), false, []⟩, ⟨(.some 31), (.eq false (.some [1, 1, 1]) (.tmp 29) (.tmp 30)), (.some (23, true)), false, []⟩, rO 32 (.pick (.tmp 23) (.tmp 31) (.const (.bool false))), rO 4 (.mv (.tmp 32))]) .ret)))⟩
section
variable (X : Ext) (F : FuncId → Option RFunc) (g : FuncId)
abbrev S_CopyOps : Prop := ∀ (lim : Nat) (h : AH) {a : Option Addr} {n c : Nat} {os : List OpR}, Sl 3 h a n c (recs opC os) → n ≤ 2 ^ 43 → Ret X F lim g [.slice a n c] h fun v h' => Pfx h h' ∧ ∃ a', v = .slice a' n n ∧ Ap h.length h'.length 3 h' a' n (recs opC os)
abbrev S_LendOps : Prop := ∀ (lim : Nat) (h : AH) {a : Option Addr} {n c : Nat} {os : List OpR}, lim ≤ h.length → Sl 3 h a n c (recs opC os) → n ≤ 2 ^ 43 → Ret X F lim g [.slice a n c] h fun v h' => Pfx h h' ∧ ∃ b, (h.length ≤ b ∧ b < h'.length) ∧ v = .slice (some ⟨b, 0, some 3⟩) n (n + 2) ∧ h'[b]? = some (.cells (recs opC (os ++ [⟨0, 77777, 0⟩, ⟨0, 77777, 0⟩])))
abbrev S_SameOps : Prop := ∀ (lim : Nat) (h : AH) {a b : Option Addr} {n m c d : Nat} {os ps : List OpR}, Sl 3 h a n c (recs opC os) → Sl 3 h b m d (recs opC ps) → n ≤ 2 ^ 43 → Ret X F lim g [.slice a n c, .slice b m d] h fun v h' => Pfx h h' ∧ v = .bool (decide (os = ps))
abbrev S_KeptOps : Prop := ∀ (lim : Nat) (h : AH) {a : Option Addr} {b n c : Nat} {os : List OpR}, h[b]? = some (.cells (recs opC (os ++ [⟨0, 77777, 0⟩, ⟨0, 77777, 0⟩]))) → Sl 3 h a n c (recs opC os) → n ≤ 2 ^ 43 → Ret X F lim g [.slice (some ⟨b, 0, some 3⟩) n (n + 2), .slice a n c] h fun v h' => Pfx h h' ∧ v = .bool true
end
section
variable {X : Ext} {F : FuncId → Option RFunc} {f : FuncId}
theorem s_CopyOps (hX : X f = none) (hF : F f = some rf_CopyOps) : S_CopyOps X F f := by
 intro lim h a n c os ha hn
 have hL := Loc.start h
 refine Ret.body hX hF rfl ?_
 simp only [argL, rf_CopyOps]
 (refine Cs (Co (Wm rfl (Wn (Cs (Co ?_))))); dsimp only [zn, zr, zx, yn, yr])
 (refine Wc ?_; refine OL.buildSlice hL rfl (by simp [over, Value.cells]; rfl) rfl (fun b h1 hL => ?_))
 (refine Wm rfl ?_)
 (refine Wc ?_)
 refine OL.copy hL rfl (fun x hx => by cases hx; rfl) rfl (ha.pfx hL.pfx) ⟨by omega, by omega, by omega⟩ (recs_ok opC_ok os) (fun a' h2 hp hL => ?_)
 (refine Wm rfl (Wn (WC.ret ?_)))
 exact Fin.ret rfl ⟨hL.pfx, a', rfl, hL.apOut (k := 0) rfl⟩
theorem s_LendOps {g0 : Nat} (hX : X f = none) (hF : F f = some (rf_LendOps g0)) (c0' : S_CopyOps X F g0) : S_LendOps X F f := by
 intro lim h a n c os hlim ha hn
 have hL := Loc.start h
 refine Ret.body hX hF rfl ?_
 simp only [argL, rf_LendOps]
 (refine Cs (Co (Wm rfl (Wn (Cs (Co (Wm rfl ?_)))))); dsimp only [zn, zr, zx, yn, yr])
 (refine Wc ?_)
 refine OL.callAp hL rfl rfl (c0' _ _ ha hn) (fun a1 h1 hp hL => ?_)
 (refine Wc (OP.buildN rfl (by simp [over, Value.cells]; rfl) ?_); refine Wc (OP.buildN rfl (by simp [over, Value.cells]; rfl) ?_); refine Wc ?_; refine OL.buildSlice hL rfl (by simp [over, Value.cells]; rfl) rfl (fun b h' hL => ?_); refine Wc ?_; refine OL.append (k := 1) hL hlim rfl rfl rfl (Loc.bxAt (k := 0) hL rfl rfl) (by omega) ⟨by omega, by omega, by omega⟩ rfl (fun a' h' hL => ?_); dsimp only [List.eraseIdx] at hL; refine Wm rfl (Wn (Cs (Co (Wm rfl (Wm rfl (Wc (OP.lenS rfl ?_))))))))
 obtain ⟨b3, hb0, hb1, hb2, hb3⟩ := Ap.pos (hL.apOut (k := 0) rfl) (by omega)
 subst hb0
 (refine Wc ?_)
 refine OP.sliceS (i := 0) (j := n) rfl (.inr rfl) rfl ⟨_, rfl⟩ (by omega) (by omega) ?_
 simp only [Nat.zero_mul, Nat.add_zero, Nat.sub_zero]
 (refine Wm rfl (Wn (WC.ret ?_)))
 refine Fin.ret rfl ⟨hL.pfx, b3, ⟨hb2, hb3⟩, rfl, ?_⟩
 rw [hb1]
 simp [recs, opC]
theorem s_SameOps (hX : X f = none) (hF : F f = some rf_SameOps) : S_SameOps X F f := by
 intro lim h a b n m c d os ps ha hb hn
 have hL := Loc.start h
 have hxn : os.length = n := ha.rlen opC_len (by decide)
 have hyn : ps.length = m := hb.rlen opC_len (by decide)
 refine Ret.body hX hF rfl ?_
 simp only [argL, rf_SameOps]
 by_cases hnm : n = m
 ·subst hnm
  (refine Cs (Co (Wm rfl (Wt ?_))); refine Cs (Cs (Co (Wm rfl (Wc (OP.lenS rfl (Wm rfl (Wc (OP.lenS rfl (Wc (OP.neqF rfl rfl (by omega) ?_)))))))))); refine Wt ?_; refine WC.condF rfl (Ks ?_); refine Cs (Cs (Co (Wm rfl (Wt ?_)))); refine WC.block ?_)
  refine WC.loop (fun i : Nat => i ≤ n ∧ ∀ (k : Nat) (h1 : k < os.length) (h2 : k < ps.length), k < i → os[k] = ps[k]) (fun i => [(5, .int .i64 (i : Int)), (0, .slice a n c), (1, .slice b n d)]) (fun _ => h) (fun i => n - i) ?_ 0 ⟨Nat.zero_le _, fun k _ _ hk => absurd hk (Nat.not_lt_zero k)⟩ (by (refine Sub.cons rfl (Sub.cons rfl (Sub.cons rfl ?_)); exact Sub.nil _)) rfl
  intro i ⟨hi, hall⟩
  by_cases hlt : (i : Int) < n
  ·have hil : i < os.length := by omega
   have hil2 : i < ps.length := by omega
   have hno : ¬ os[i] = ps[i] → ¬ os = ps := fun hh he => hh (by simp only [he])
   (refine Cs (Cs (Co (Wm rfl (Wm rfl (Wc (OP.lenS rfl (Wc (OP.lssT rfl rfl (by omega) ?_)))))))); refine Wn ?_; dsimp only [zn, zr, zx, yn, yr]; refine WC.condT rfl (WC.skip ?_); dsimp only [zn, zr, zx, yn, yr]; refine Cs (WC.block (Cs (Co (WO.consQ (OP.mv rfl (WO.consQ (OP.mv rfl (WO.consQ (OP.idxS (by assumption) rfl rfl (by omega) ?_))))))))); refine WO.consQ (OP.ldR opC_len (by decide) (by assumption) rfl (by omega) ?_); refine WO.consQ (OP.mv rfl (WO.consQ (OP.mv rfl (WO.consQ (OP.idxS (by assumption) rfl rfl (by omega) ?_))))); refine WO.consQ (OP.ldR opC_len (by decide) (by assumption) rfl (by omega) ?_); refine Wc ?_; refine OP.eqOp rfl rfl (fun hc => ?_) (fun hc => ?_); refine Wn ?_; dsimp only [zn, zr, zx, yn, yr]; refine WC.condF rfl (WC.skip ?_); dsimp only [zn, zr, zx, yn, yr]; refine Co (Wm rfl (Wc (OP.add rfl rfl (by omega) ?_))); refine Wm rfl (Wn ?_); dsimp only [zn, zr, zx, yn, yr])
   ·refine ⟨i + 1, ⟨by omega, fun k h1 h2 hk => ?_⟩, by (refine Sub.cons rfl (Sub.cons rfl (Sub.cons rfl ?_)); exact Sub.nil _), rfl, by omega⟩
    by_cases hki : k = i
    ·subst hki; exact hc
    ·exact hall k h1 h2 (by omega)
   ·have hno2 := hno hc
    (refine Wt ?_; refine WC.condT rfl (Cs (Co (Wm rfl (Wt ?_)))); refine WC.ret ?_; dsimp only [zn, zr, zx, yn, yr]; exact Fin.ret rfl ⟨hL.pfx, boolF (by omega)⟩)
  ·have hyes : os = ps := List.ext_getElem (by omega) fun k h1 h2 => hall k h1 h2 (by omega)
   (refine Cs (Cs (Co (Wm rfl (Wm rfl (Wc (OP.lenS rfl (Wc (OP.lssF rfl rfl (by omega) ?_)))))))); refine Wt ?_; refine WC.condF rfl (WC.exit ?_); dsimp only [zn, zr, zx, yn, yr]; rw [yx, if_pos rfl]; dsimp only [zn, zr, zx, yn, yr]; refine Cs (Co (Wm rfl (Wt ?_))); refine WC.ret ?_; exact Fin.ret rfl ⟨hL.pfx, boolT (by omega)⟩)
 ·have hno : ¬ os = ps := fun hh => hnm (by rw [← hxn, ← hyn, hh])
  (refine Cs (Co (Wm rfl (Wt ?_))); refine Cs (Cs (Co (Wm rfl (Wc (OP.lenS rfl (Wm rfl (Wc (OP.lenS rfl (Wc (OP.neqT rfl rfl (by omega) ?_)))))))))); refine Wt ?_; refine WC.condT rfl (Cs (Co (Wm rfl (Wt ?_)))); refine WC.ret ?_; dsimp only [zn, zr, zx, yn, yr]; exact Fin.ret rfl ⟨hL.pfx, boolF (by omega)⟩)
theorem s_KeptOps {g0 : Nat} (hX : X f = none) (hF : F f = some (rf_KeptOps g0)) (c0' : S_SameOps X F g0) : S_KeptOps X F f := by
 intro lim h a b n c os hb ha hn
 have hL := Loc.start h
 have hxn : os.length = n := ha.rlen opC_len (by decide)
 have hrl : (recs opC (os ++ [⟨0, 77777, 0⟩, ⟨0, 77777, 0⟩])).length = (n + 2) * 3 := by rw [recs_len opC_len]; simp; omega
 have hS2 : Sl 3 h (some ⟨b, 0, some 3⟩) (n + 2) (n + 2) (recs opC (os ++ [⟨0, 77777, 0⟩, ⟨0, 77777, 0⟩])) := Sl.front (m := some 3) (ds := []) (by rw [List.append_nil]; exact hb) hrl (Nat.le_refl _)
 have hS : Sl 3 h (some ⟨b, 0, some 3⟩) n (n + 2) (recs opC os) := Sl.front (m := some 3) (ds := recs opC [⟨0, 77777, 0⟩, ⟨0, 77777, 0⟩]) (by rw [hb]; simp [recs]) (by rw [recs_len opC_len]; omega) (by omega)
 have e1 : ∀ (h1 : n < (os ++ [(⟨0, 77777, 0⟩ : OpR), ⟨0, 77777, 0⟩]).length), (os ++ [(⟨0, 77777, 0⟩ : OpR), ⟨0, 77777, 0⟩])[n] = ⟨0, 77777, 0⟩ := fun h1 => by subst hxn; simp
 have en : ((n : Int) + 1).toNat = n + 1 := by omega
 have e2 : ∀ (h1 : ((n : Int) + 1).toNat < (os ++ [(⟨0, 77777, 0⟩ : OpR), ⟨0, 77777, 0⟩]).length), (os ++ [(⟨0, 77777, 0⟩ : OpR), ⟨0, 77777, 0⟩])[((n : Int) + 1).toNat] = ⟨0, 77777, 0⟩ := fun h1 => by
  subst hxn
  simp only [en]
  simp
 have hl2 : (os ++ [(⟨0, 77777, 0⟩ : OpR), ⟨0, 77777, 0⟩]).length = n + 2 := by simp; omega
 have c0 : ∀ lim h', Pfx h h' → Ret X F lim g0 [.slice (some ⟨b, 0, some 3⟩) n (n + 2), .slice a n c] h' fun v h'' => Pfx h' h'' ∧ v = .bool true := fun lim h' hp => by
  have := c0' lim h' (hS.pfx hp) (ha.pfx hp) hn
  rw [decide_eq_true rfl] at this
  exact this
 refine Ret.body hX hF rfl ?_
 simp only [argL, rf_KeptOps]
 (refine Cs (Co (Wm rfl (Wt ?_))); refine Cs (Co (Wm rfl (Wm rfl (Wc (OP.lenS rfl (Wc (OP.add rfl rfl (by omega) ?_))))))))
 (refine Wc ?_)
 refine OP.sliceS (i := 0) (j := n + 2) rfl (.inr rfl) rfl ⟨_, rfl⟩ (by omega) (by omega) ?_
 simp only [Nat.zero_mul, Nat.add_zero, Nat.sub_zero]
 (refine Wm rfl (Wt ?_); refine Cs (Co (Wm rfl (Wm rfl (Wc ?_)))); refine OL.callV hL rfl rfl (c0 _ _ hL.pfx) (fun h' hp hL => (Wm rfl (WO.yes rfl (Wm rfl (WO.yes rfl (Wm rfl (WO.yes rfl (Wc (OP.lenS rfl (WO.yes rfl (Wc (OP.idxS (Sl.pfx (by assumption) (Loc.pfx hL)) rfl rfl (by omega) ?_)))))))))))); refine WO.yes rfl ?_)
 (refine Wc ?_)
 refine OP.ldR opC_len (by decide) (hS2.pfx hL.pfx) rfl (by omega) ?_
 simp only [e1, opC]
 (refine WO.yes rfl (Wc (OP.buildN rfl (by simp [over, Value.cells]; rfl) ?_)); refine WO.yes rfl (Wc (OP.eq rfl rfl rfl (Wc (OP.pickT rfl rfl (Wm rfl (WO.yes rfl (Wm rfl (WO.yes rfl (Wm rfl (WO.yes rfl (Wc (OP.lenS rfl (WO.yes rfl (Wc (OP.add rfl rfl (by omega) ?_))))))))))))))); refine WO.yes rfl (Wc (OP.idxZ (Sl.pfx (by assumption) (Loc.pfx hL)) rfl rfl (by omega) ?_)); refine WO.yes rfl ?_)
 (refine Wc ?_)
 refine OP.ldR opC_len (by decide) (hS2.pfx hL.pfx) rfl (by omega) ?_
 simp only [e2, opC]
 (refine WO.yes rfl (Wc (OP.buildN rfl (by simp [over, Value.cells]; rfl) ?_)); refine WO.yes rfl (Wc (OP.eq rfl rfl rfl (Wc (OP.pickT rfl rfl (Wm rfl (Wt ?_)))))); refine WC.ret ?_; exact Fin.ret rfl ⟨hL.pfx, rfl⟩)
end
end Go.Proofs.YtdcpmchhioilpaaW.Ai
