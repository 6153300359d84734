/-
 States written over (chapter 3), as the small machine runs them.
-/
import Derived.Test.YtdcpmchhioilpaaFn24
set_option linter.unusedVariables false
set_option linter.unusedSimpArgs false
set_option maxHeartbeats 4000000
set_option maxRecDepth 100000
namespace Go.Proofs.YtdcpmchhioilpaaW.Ai
-- chorus/choruslaw0.SpoilState; g0 = chorus/choruslaw0.SpoilInts
def rf_SpoilState (g0 : Nat) : RFunc :=
 ⟨12, [], (.seq (.ops [rO 1 (.box (.tmp 0))]) (.seq (.ops [rO 2 (.mv (.const (.int .i64 0)))]) (.block 0 (.loop (.seq (.seq (.ops [rO 3 (.mv (.tmp 2)), rO 4 (.bin .lss (.tmp 3) (.const (.int .i64 4)))]) (.cond (.tmp 4) .skip (.exit 0))) (.seq (.block 1 (.ops [rO 7 (.mv (.tmp 2)), rO 8 (.fieldAddr 0 (.tmp 1)), rO 9 (.idxAddrArr 4 1 (.tmp 8) (.tmp 7)), rO 10 (.load .none (.tmp 9)), rO 11 (.call (.func g0) [(.tmp 10)])])) (.ops [rO 5 (.mv (.tmp 2)), rO 6 (.bin .add (.tmp 5) (.const (.int .i64 1))), rO 2 (.mv (.tmp 6))])))))))⟩
theorem Sl.keep {h : AH} {b p : Nat} {ds : List Value} {v : Int} (hc : h[b]? = some (.cells ds)) {a : Option Addr} {n c : Nat} {xs : List Int} (hs : Sl 1 h a n c (ints xs)) : ∃ ys, Sl 1 (h.set b (.cells (ds.set p (.int .i64 v)))) a n c (ints ys) := by
 rcases Nat.eq_zero_or_pos n with h0 | h0
 ·exact ⟨xs, hs.same fun x hx hn => by omega⟩
 ·obtain ⟨b', o, m, es, rfl, h1, h2, h3⟩ := hs.cells (by omega) h0
  have hbl := (List.getElem?_eq_some_iff.1 hc).1
  by_cases hb : b' = b
  ·subst hb
   rw [hc] at h1
   simp only [Option.some.injEq, Blk.cells.injEq] at h1
   subst h1
   have key : ∃ ys : List Int, ((ds.set p (.int .i64 v)).drop o).take (n * 1) = ints ys ∧ ys.length = xs.length := by
    rw [List.drop_set]
    split
    ·exact ⟨xs, h3.symm, rfl⟩
    ·rw [List.take_set, ← h3, ints_set]
     exact ⟨_, rfl, by simp⟩
   obtain ⟨ys, k1, k2⟩ := key
   refine ⟨ys, ?_, hs.2.1, ?_, fun h0 => by cases h0⟩
   ·simp only [aElems]
    rw [if_pos hs.2.1, if_neg (by omega)]
    simp only [cellsOf, List.getElem?_set_self hbl, Option.bind_some, List.length_set]
    rw [if_pos h2, k1]
   ·have := hs.2.2.1; rw [ints_len] at this ⊢; omega
  ·exact ⟨xs, hs.same fun x hx hn hxl => by cases hx; exact List.getElem?_set_ne (Ne.symm hb)⟩
theorem Sl.storeK {h : AH} {lim lo hi n c j : Nat} {a : Option Addr} {cs : List Value} {v : Int} (hs : Sl 1 h a n c cs) (hj : j < n) (hw : Within lo hi 1 a n) (hlim : lim ≤ lo) :
  ∃ b p ds, aStore lim 1 h (eptr 1 a j) (.int .i64 v) = some (h.set b (.cells (ds.set p (.int .i64 v)))) ∧ h[b]? = some (.cells ds) ∧ lo ≤ b ∧ b < hi := by
 have hs0 := hs
 obtain ⟨b, o, m, ds, rfl, h1, h2, rfl⟩ := hs.cells (by omega) (by omega)
 have hwb := hw _ rfl (by omega)
 simp only at hwb
 refine ⟨b, o + j, ds, ?_, h1, hwb.1, hwb.2⟩
 simp only [eptr, aStore, Nat.mul_one, Value.cells, List.size_toArray, List.length_cons, List.length_nil, Nat.zero_add, if_true, aWrite, cellOk, List.all_cons, List.all_nil, Bool.and_true, and_true, cellsOf, h1, Option.bind_some]
 rw [if_neg (by simp), if_pos (by omega), if_pos (by omega), over_one _ (by omega)]
theorem OP.storeK {X : Ext} {F : FuncId → Option RFunc} {lim : Nat} {L : Al} {h : AH} {K : Value → AH → Prop} {x y : Operand} {a : Option Addr} {n c j lo hi : Nat} {cs : List Value} {v : Int} (hs : Sl 1 h a n c cs) (hw : Within lo hi 1 a n) (hlim : lim ≤ lo) (hx : lev L x = some (eptr 1 a j)) (hy : lev L y = some (.int .i64 v)) (hj : j < n)
  (hk : ∀ b p ds, h[b]? = some (.cells ds) → lo ≤ b → b < hi → K undef (h.set b (.cells (ds.set p (.int .i64 v))))) : OP X F lim (.store 1 x y) L h K := fun e he => by
 obtain ⟨b, p, ds, h1, h2, h3, h4⟩ := hs.storeK (v := v) hj hw hlim
 exact ⟨0, undef, _, by simp only [aop, he.ev hx, he.ev hy, h1, Option.map_some], hk b p ds h2 h3 h4⟩
section
variable (X : Ext) (F : FuncId → Option RFunc) (g : FuncId)
/-- Numbers stay numbers. -/
def Nums (h h' : AH) : Prop := ∀ {a : Option Addr} {n c : Nat} {xs : List Int}, Sl 1 h a n c (ints xs) → ∃ ys, Sl 1 h' a n c (ints ys)
abbrev S_SpoilInts : Prop := ∀ (lim : Nat) (h : AH) {a : Option Addr} {n c lo hi : Nat} {xs : List Int}, Sl 1 h a n c (ints xs) → Within lo hi 1 a n → lim ≤ lo → n ≤ 2 ^ 44 → Ret X F lim g [.slice a n c] h fun v h' => h'.length = h.length ∧ (∀ b, (b < lo ∨ hi ≤ b) → h'[b]? = h[b]?) ∧ Nums h h'
abbrev S_SpoilState : Prop := ∀ (lim : Nat) (h : AH) {r0 r1 r2 r3 : Row} {lo hi : Nat}, hi ≤ h.length → St h r0 r1 r2 r3 → StIn lo hi r0 r1 r2 r3 → lim ≤ lo → Ret X F lim g [stV r0 r1 r2 r3] h fun v h' => h.length ≤ h'.length ∧ ∀ b, (b < lo ∨ hi ≤ b) → b < h.length → h'[b]? = h[b]?
end
section
variable {X : Ext} {F : FuncId → Option RFunc} {f : FuncId}
theorem s_SpoilInts (hX : X f = none) (hF : F f = some rf_SpoilInts) : S_SpoilInts X F f := by
 intro lim h a n c lo hi xs ha hw hlo hn
 have hL := Loc.start h
 have hxn := ha.ilen
 refine Ret.body hX hF rfl ?_
 simp only [argL, rf_SpoilInts]
 (refine Cs (Co (Wm rfl (Wt ?_))); refine WC.block ?_)
 refine WC.loop (fun q : Nat × AH => q.1 ≤ n ∧ q.2.length = h.length ∧ (∀ b, (b < lo ∨ hi ≤ b) → q.2[b]? = h[b]?) ∧ Nums h q.2) (fun q => [(2, .int .i64 (q.1 : Int)), (0, .slice a n c)]) (fun q => q.2) (fun q => n - q.1) ?_ (0, h) ⟨Nat.zero_le _, rfl, fun _ _ => rfl, fun hs => ⟨_, hs⟩⟩ (by (refine Sub.cons rfl (Sub.cons rfl ?_); exact Sub.nil _)) rfl
 intro ⟨i, h1⟩ ⟨hi1, hlen, hout, hnum⟩
 simp only at hi1 hlen hout hnum ⊢
 have hL := Loc.start h1
 obtain ⟨ys, hys⟩ := hnum ha
 have hyl := hys.ilen
 by_cases hlt : (i : Int) < n
 ·(refine Cs (Cs (Co (Wm rfl (Wm rfl (Wc (OP.lenS rfl (Wc (OP.lssT rfl rfl (by omega) ?_)))))))); refine Wt ?_; refine WC.condT rfl (Ks ?_); refine Cs (WC.block (Co (Wm rfl (Wm rfl (Wm rfl (Wm rfl (Wc (OP.idxS (by assumption) rfl rfl (by omega) ?_)))))))); refine Wc (OP.ldI (by assumption) rfl (by omega) ?_); refine Wc (OP.bin rfl rfl rfl (Wc (OP.idxS (by assumption) rfl rfl (by omega) ?_))))
  (refine WO.cons0 ?_)
  refine OP.storeK hys hw hlo rfl rfl (by omega) (fun b p ds k1 k2 k3 => ?_)
  (refine Wt ?_; refine Co (Wm rfl (Wc (OP.add rfl rfl (by omega) ?_))); refine Wm rfl (Wt ?_))
  refine ⟨(i + 1, _), ⟨by simp only; omega, by simp only [List.length_set]; exact hlen, fun d hd => ?_, fun hs => ?_⟩, by (refine Sub.cons rfl (Sub.cons rfl ?_); exact Sub.nil _), rfl, by simp only; omega⟩
  ·simp only
   rw [List.getElem?_set_ne (by omega)]; exact hout d hd
  ·obtain ⟨zs, hz⟩ := hnum hs
   exact Sl.keep k1 hz
 ·(refine Cs (Cs (Co (Wm rfl (Wm rfl (Wc (OP.lenS rfl (Wc (OP.lssF rfl rfl (by omega) ?_)))))))); refine Wt ?_; refine WC.condF rfl (WC.exit ?_); dsimp only [zn, zr, zx, yn, yr]; rw [yx, if_pos rfl])
  exact Fin.normal rfl ⟨hlen, hout, hnum⟩
theorem s_SpoilState {g0 : Nat} (hX : X f = none) (hF : F f = some (rf_SpoilState g0)) (c0 : S_SpoilInts X F g0) : S_SpoilState X F f := by
 intro lim h r0 r1 r2 r3 lo hi hhi hst hin hlo
 have hL := Loc.start h
 refine Ret.body hX hF rfl ?_
 obtain ⟨⟨s0, l0⟩, ⟨s1, l1⟩, ⟨s2, l2⟩, ⟨s3, l3⟩⟩ := id hst
 simp only [argL, rf_SpoilState]
 (refine Cs (Co (Wc ?_)); refine OL.boxA hL rfl rfl (fun b h' hL => (Wt ?_)); refine Cs (Co (Wm rfl (Wt ?_))); refine WC.block ?_)
 refine WC.unroll ?_
 (refine Cs (Cs (Co (Wm rfl (Wc (OP.lssT rfl rfl (by omega) ?_))))); refine Wt ?_; refine WC.condT rfl (Ks ?_); refine Cs (WC.block (Co (Wm rfl (Wc (OP.fieldAddr0 rfl (Wc (OP.idxArrZ rfl rfl (by decide) (by simp only [Int.reduceToNat, Nat.mul_one, Nat.zero_add, Nat.reduceMul, Nat.reduceAdd]; rfl) ?_))))))); refine Wc (OL.load1 (k := 0) hL rfl rfl rfl ?_))
 have hb0 := hL.cell (k := 0) rfl
 have hbl : h.length ≤ b := hL.lo (k := 0) rfl
 have out0 : ∀ d, (d < lo ∨ hi ≤ d) → d < h.length → h'[d]? = h[d]? := fun d _ hd => hL.pfx.2 d hd
 have len0 := hL.len
 replace s0 := s0.pfx hL.pfx
 replace s1 := s1.pfx hL.pfx
 replace s2 := s2.pfx hL.pfx
 replace s3 := s3.pfx hL.pfx
 clear hL
 (refine Wc ?_)
 refine OP.call rfl rfl ((c0 _ _ s0 hin.1 hlo l0).mono fun v g0 hh => ?_)
 obtain ⟨k1, k2, k3⟩ := hh
 have b1 : g0[b]? = some (.cells [r0.v, r1.v, r2.v, r3.v]) := (k2 b (.inr (by omega))).trans hb0
 have out1 : ∀ d, (d < lo ∨ hi ≤ d) → d < h.length → g0[d]? = h[d]? := fun d hd hd2 => (k2 d hd).trans (out0 d hd hd2)
 have len1 : h.length ≤ g0.length := by omega
 obtain ⟨y01, t01⟩ := k3 s1
 obtain ⟨y02, t02⟩ := k3 s2
 obtain ⟨y03, t03⟩ := k3 s3
 clear k1 k2 k3
 (refine Wt ?_; refine Co (Wm rfl (Wc (OP.addL rfl rfl (by simp only [Int.reduceAdd]; rfl) (by decide) ?_))); refine Wm rfl (Wt ?_))
 refine WC.unroll ?_
 (refine Cs (Cs (Co (Wm rfl (Wc (OP.lssT rfl rfl (by omega) ?_))))); refine Wt ?_; refine WC.condT rfl (Ks ?_); refine Cs (WC.block (Co (Wm rfl (Wc (OP.fieldAddr0 rfl (Wc (OP.idxArrZ rfl rfl (by decide) (by simp only [Int.reduceToNat, Nat.mul_one, Nat.zero_add, Nat.reduceMul, Nat.reduceAdd]; rfl) ?_))))))); refine Wc (OP.load rfl (by assumption) rfl ?_))
 (refine Wc ?_)
 refine OP.call rfl rfl ((c0 _ _ t01 hin.2.1 hlo l1).mono fun v g1 hh => ?_)
 obtain ⟨k1, k2, k3⟩ := hh
 have b2 : g1[b]? = some (.cells [r0.v, r1.v, r2.v, r3.v]) := (k2 b (.inr (by omega))).trans b1
 have out2 : ∀ d, (d < lo ∨ hi ≤ d) → d < h.length → g1[d]? = h[d]? := fun d hd hd2 => (k2 d hd).trans (out1 d hd hd2)
 have len2 : h.length ≤ g1.length := by omega
 obtain ⟨y12, t12⟩ := k3 t02
 obtain ⟨y13, t13⟩ := k3 t03
 clear k1 k2 k3
 (refine Wt ?_; refine Co (Wm rfl (Wc (OP.addL rfl rfl (by simp only [Int.reduceAdd]; rfl) (by decide) ?_))); refine Wm rfl (Wt ?_))
 refine WC.unroll ?_
 (refine Cs (Cs (Co (Wm rfl (Wc (OP.lssT rfl rfl (by omega) ?_))))); refine Wt ?_; refine WC.condT rfl (Ks ?_); refine Cs (WC.block (Co (Wm rfl (Wc (OP.fieldAddr0 rfl (Wc (OP.idxArrZ rfl rfl (by decide) (by simp only [Int.reduceToNat, Nat.mul_one, Nat.zero_add, Nat.reduceMul, Nat.reduceAdd]; rfl) ?_))))))); refine Wc (OP.load rfl (by assumption) rfl ?_))
 (refine Wc ?_)
 refine OP.call rfl rfl ((c0 _ _ t12 hin.2.2.1 hlo l2).mono fun v g2 hh => ?_)
 obtain ⟨k1, k2, k3⟩ := hh
 have b3 : g2[b]? = some (.cells [r0.v, r1.v, r2.v, r3.v]) := (k2 b (.inr (by omega))).trans b2
 have out3 : ∀ d, (d < lo ∨ hi ≤ d) → d < h.length → g2[d]? = h[d]? := fun d hd hd2 => (k2 d hd).trans (out2 d hd hd2)
 have len3 : h.length ≤ g2.length := by omega
 obtain ⟨y23, t23⟩ := k3 t13
 clear k1 k2 k3
 (refine Wt ?_; refine Co (Wm rfl (Wc (OP.addL rfl rfl (by simp only [Int.reduceAdd]; rfl) (by decide) ?_))); refine Wm rfl (Wt ?_))
 refine WC.unroll ?_
 (refine Cs (Cs (Co (Wm rfl (Wc (OP.lssT rfl rfl (by omega) ?_))))); refine Wt ?_; refine WC.condT rfl (Ks ?_); refine Cs (WC.block (Co (Wm rfl (Wc (OP.fieldAddr0 rfl (Wc (OP.idxArrZ rfl rfl (by decide) (by simp only [Int.reduceToNat, Nat.mul_one, Nat.zero_add, Nat.reduceMul, Nat.reduceAdd]; rfl) ?_))))))); refine Wc (OP.load rfl (by assumption) rfl ?_))
 (refine Wc ?_)
 refine OP.call rfl rfl ((c0 _ _ t23 hin.2.2.2 hlo l3).mono fun v g3 hh => ?_)
 obtain ⟨k1, k2, k3⟩ := hh
 have b4 : g3[b]? = some (.cells [r0.v, r1.v, r2.v, r3.v]) := (k2 b (.inr (by omega))).trans b3
 have out4 : ∀ d, (d < lo ∨ hi ≤ d) → d < h.length → g3[d]? = h[d]? := fun d hd hd2 => (k2 d hd).trans (out3 d hd hd2)
 have len4 : h.length ≤ g3.length := by omega
 clear k1 k2 k3
 (refine Wt ?_; refine Co (Wm rfl (Wc (OP.addL rfl rfl (by simp only [Int.reduceAdd]; rfl) (by decide) ?_))); refine Wm rfl (Wt ?_))
 refine WC.unroll ?_
 (refine Cs (Cs (Co (Wm rfl (Wc (OP.lssF rfl rfl (by omega) ?_))))); refine Wt ?_; refine WC.condF rfl (WC.exit ?_); dsimp only [zn, zr, zx, yn, yr]; rw [yx, if_pos rfl])
 exact Fin.normal rfl ⟨len4, out4⟩
end
end Go.Proofs.YtdcpmchhioilpaaW.Ai
