/-
 Functions on rows of numbers, as the small machine runs them. 
-/
import Derived.Test.YtmbljbbopgojcaaMd
set_option linter.unusedVariables false
set_option linter.unusedSimpArgs false
namespace Go.Proofs.YtmbljbbopgojcaaW.Ai
-- chorus/choruslaw0.SameInts
def rf_SameInts : RFunc :=
 ⟨26, [(.tmp 4)], (.seq (.ops [rO 4 (.mv (.const (.bool false)))]) (.seq (.seq (.ops [rO 6 (.mv (.tmp 0)), rO 7 (.len 1 (.tmp 6)), rO 8 (.mv (.tmp 1)), rO 9 (.len 1 (.tmp 8)), rO 10 (.bin .neq (.tmp 7) (.tmp 9))]) (.cond (.tmp 10) (.seq (.ops [rO 4 (.mv (.const (.bool false)))]) .ret) .skip)) (.seq (.seq (.ops [rO 5 (.mv (.const (.int .i64 0)))]) (.block 0 (.loop (.seq (.seq (.ops [rO 11 (.mv (.tmp 5)), rO 12 (.mv (.tmp 0)), rO 13 (.len 1 (.tmp 12)), rO 14 (.bin .lss (.tmp 11) (.tmp 13))]) (.cond (.tmp 14) .skip (.exit 0))) (.seq (.block 1 (.seq (.ops [⟨(.some 17), (.mv (.tmp 0)), .none, true, []⟩, ⟨(.some 18), (.mv (.tmp 5)), .none, true, []⟩, ⟨(.some 19), (.idxAddr 1 (.tmp 17) (.tmp 18)), .none, true, []⟩, ⟨(.some 20), (.load .none (.tmp 19)), .none, true, []⟩, ⟨(.some 21), (.mv (.tmp 1)), .none, true, []⟩, ⟨(.some 22), (.mv (.tmp 5)), .none, true, []⟩, ⟨(.some 23), (.idxAddr 1 (.tmp 21) (.tmp 22)), .none, true, []⟩, ⟨(.some 24), (.load .none (.tmp 23)), .none, true, []⟩, rO 25 (.bin .neq (.tmp 20) (.tmp 24))]) (.cond (.tmp 25) (.seq (.ops [rO 4 (.mv (.const (.bool false)))]) .ret) .skip))) (.ops [rO 15 (.mv (.tmp 5)), rO 16 (.bin .add (.tmp 15) (.const (.int .i64 1))), rO 5 (.mv (.tmp 16))])))))) (.seq (.ops [rO 4 (.mv (.const (.bool true)))]) .ret))))⟩
section
variable {X : Ext} {F : FuncId → Option RFunc} {lim : Nat} {f : FuncId} {h : AH}
theorem SameInts_run (hX : X f = none) (hF : F f = some rf_SameInts) {a b : Option Addr} {n m c d : Nat} {xs ys : List Int} (ha : Sl 1 h a n c (ints xs)) (hb : Sl 1 h b m d (ints ys)) (hn : n < 2 ^ 62) :
  Ret X F lim f [.slice a n c, .slice b m d] h fun v h' => v = .bool (decide (xs = ys)) ∧ h' = h := by
 have hxn := ha.ilen
 have hym := hb.ilen
 refine Ret.body hX hF rfl ?_
 simp only [argL, rf_SameInts]
 (refine Cs (Co (Wm rfl (Wn (Cs (Cs (Co (Wm rfl (Wc (OP.lenS rfl (Wm rfl (Wc (OP.lenS rfl (Wc (OP.neq rfl rfl (Wt ?_))))))))))))))))
 refine WC.condP rfl (fun hne => ?_) (fun hne => ?_)
 ·(refine Cs (Co (Wm rfl (Wn (WC.ret ?_)))); dsimp only [zn, zr, zx, yn, yr])
  refine Fin.ret rfl ⟨?_, rfl⟩
  have : xs ≠ ys := fun h0 => hne (by subst h0; omega)
  simp [resultOf, this]
 ·(refine WC.skip (Cs (Cs (Co (Wm rfl (Wn (WC.block ?_)))))))
  refine WC.loop (fun i : Nat => i ≤ n ∧ xs.take i = ys.take i) (fun i => [(5, .int .i64 (i : Int)), (0, .slice a n c), (1, .slice b m d)]) (fun _ => h) (fun i => n - i) ?_ 0 ⟨Nat.zero_le _, by simp⟩ (by (refine Sub.cons rfl (Sub.cons rfl (Sub.cons rfl ?_)); exact Sub.nil _)) rfl
  intro i ⟨hi, heq⟩
  (refine Cs (Cs (Co (Wm rfl (Wm rfl (Wc (OP.lenS rfl (Wc (OP.bin rfl rfl rfl (Wt ?_))))))))))
  refine WC.condP rfl (fun hlt => ?_) (fun hlt => ?_)
  ·(refine WC.skip (Cs (WC.block (Cs (Co (WO.consQ (OP.mv rfl (WO.consQ (OP.mv rfl (WO.consQ (OP.idxS (by assumption) rfl rfl (by omega) ?_)))))))))); refine WO.consQ (OP.ldI (by assumption) rfl (by omega) ?_); refine WO.consQ (OP.mv rfl (WO.consQ (OP.mv rfl (WO.consQ (OP.idxS (by assumption) rfl rfl (by omega) ?_))))); refine WO.consQ (OP.ldI (by assumption) rfl (by omega) ?_); refine Wc (OP.neq rfl rfl (Wt ?_)))
   refine WC.condP rfl (fun hc => ?_) (fun hc => ?_)
   ·(refine Cs (Co (Wm rfl (Wn (WC.ret ?_)))); dsimp only [zn, zr, zx, yn, yr])
    refine Fin.ret rfl ⟨?_, rfl⟩
    have : xs ≠ ys := fun h0 => hc (by subst h0; rfl)
    simp [resultOf, this]
   ·(refine WC.skip (Co (Wm rfl (Wc (OP.add rfl rfl (by omega) ?_)))); refine Wm rfl (Wt ?_))
    refine ⟨i + 1, ⟨by omega, ?_⟩, by (refine Sub.cons rfl (Sub.cons rfl (Sub.cons rfl ?_)); exact Sub.nil _), rfl, by omega⟩
    exact take_eq_succ (by omega) (by omega) heq (by simpa using hc)
  ·(refine WC.exit (Cs (Co (Wm rfl (Wn (WC.ret ?_))))))
   refine Fin.ret rfl ⟨?_, rfl⟩
   have : xs = ys := take_eq_of (i := i) (by omega) (by omega) heq
   simp [resultOf, this]
theorem room8 {k : Nat} (hk : k ≤ 2 ^ 44 + 2) : Room k 8 := ⟨by omega, by omega, by omega⟩
end
end Go.Proofs.YtmbljbbopgojcaaW.Ai
