/-
  Cells (chapter 1), as the small machine runs them: the calls that write.
-/
import Derived.Test.YtojkcbcdoljadaaFn3
set_option linter.unusedVariables false
set_option linter.unusedSimpArgs false
set_option maxHeartbeats 2000000
namespace Go.Proofs.YtojkcbcdoljadaaW.Ai

def StoreM (xs : List Int) (k x : Int) : List Int × Int := if There xs k ∧ CellOk x then (xs.set k.toNat x, 0) else ([], 100)
def SwapM (xs : List Int) (k old x : Int) : List Int × Bool × Int := if There xs k ∧ CellOk x then if xs.getD k.toNat 0 = old then (xs.set k.toNat x, true, 0) else (xs, false, 0) else ([], false, 100)
def AddM (xs : List Int) (k y : Int) : List Int × Int × Int := if There xs k ∧ CellOk (xs.getD k.toNat 0 + y) then (xs.set k.toNat (xs.getD k.toNat 0 + y), xs.getD k.toNat 0, 0) else ([], 0, 100)
theorem There.get {xs : List Int} {k : Int} (h : There xs k) : k.toNat < xs.length ∧ CellOk (xs.getD k.toNat 0) := by
  have h1 : k.toNat < xs.length := by have := h.2.2; omega
  refine ⟨h1, ?_⟩
  have : xs.getD k.toNat 0 = xs[k.toNat] := by simp [List.getD, h1]
  rw [this]
  exact h.2.1 _ (List.getElem_mem _)

section
variable {X : Ext} {F : FuncId → Option RFunc} {lim : Nat} {f : FuncId} {h : AH}

/-- A row of numbers that a call has made. -/
def MadeI (h h' : AH) (u : Value) (ys : List Int) : Prop := ∃ a m, u = .slice a m m ∧ Ap h.length h'.length 1 h' a m (ints ys)

theorem cStore_run {g0 g1 g2 : Nat} (hX : X f = none) (hF : F f = some (rf_Store g0 g1 g2)) (hX1 : X g1 = none) (hF1 : F g1 = some rf_Number) (hX2 : X g2 = none) (hF2 : F g2 = some rf_Clone)
    {a : Option Addr} {n c : Nat} {xs : List Int} {k x : Int} (ha : Sl 1 h a n c (ints xs)) (hn : n ≤ 2 ^ 44) (hlim : lim ≤ h.length) (hth : Ret X F lim g0 [.slice a n c, .int .i64 k] h fun v h' => Pfx h h' ∧ v = .bool (decide (There xs k))) :
    Ret X F lim f [.slice a n c, .int .i64 k, .int .i64 x] h fun v h' => Pfx h h' ∧ ∃ u, v = .tuple #[u, .int .i64 (StoreM xs k x).2] ∧ MadeI h h' u (StoreM xs k x).1 := by
  have hxn := ha.ilen
  have hL := Loc.start h
  refine Ret.body hX hF rfl ?_
  simp only [argL, rf_Store]
  (refine WC.seq (WC.ops (WO.cons (OP.mv rfl (WO.cons (OP.mv rfl (WO.nil (WC.seq (WC.seq (WC.ops (WO.cons (OP.mv rfl (WO.cons (OP.mv rfl ?_))))))))))))); dsimp only [thn_normal, thn_ret, thn_exit, blk_normal, blk_ret])
  (refine WO.cons ?_)
  refine OL.call hL rfl rfl hth (fun v h1 hp hL hv => ?_)
  subst hv
  have ha1 := ha.pfx hp
  by_cases ht : There xs k
  · simp only [ht, decide_true]
    have h0 := ht.2.2
    (refine WO.cons (OP.not rfl (WO.cons (OP.mv rfl (WO.yes rfl (WO.cons (OP.mv rfl (WO.yes rfl ?_))))))))
    (refine WO.cons ?_)
    refine OP.call rfl rfl (Ret.mono (Number_run hX1 hF1) fun v h' hv => ?_)
    obtain ⟨rfl, rfl⟩ := hv
    by_cases hx : CellOk x
    · have hx' : 0 ≤ x ∧ x ≤ 1048576 := hx
      simp only [hx', and_self, decide_true]
      (refine WO.yes rfl (WO.cons (OP.not rfl (WO.cons (OP.pickF rfl rfl (WO.nil (WC.condF rfl (WC.skip (WC.seq (WC.ops (WO.cons (OP.mv rfl ?_))))))))))); dsimp only [thn_normal, thn_ret, thn_exit, blk_normal, blk_ret])
      (refine WO.cons ?_)
      refine OL.callAp hL rfl rfl (Clone_run hX2 hF2 ha1 hn) (fun a' h2 hp hL => ?_)
      (refine WO.cons (OP.mv rfl (WO.nil (WC.seq (WC.ops (WO.cons (OP.mv rfl (WO.cons (OP.mv rfl (WO.cons (OP.mv rfl (WO.cons (OP.idxZ (Loc.apAt (k := 0) hL rfl) rfl rfl (by omega) ?_)))))))))))); dsimp only [thn_normal, thn_ret, thn_exit, blk_normal, blk_ret])
      (refine WO.cons0 ?_)
      refine OL.storeAp (k := 0) hL hlim rfl rfl rfl (by omega) rfl (fun h3 hL => ?_)
      rw [ints_set] at hL
      (refine WO.nil (WC.seq (WC.ops (WO.cons (OP.mv rfl (WO.cons (OP.mv rfl (WO.cons (OP.mv rfl (WO.nil (WC.ret ?_)))))))))))
      have hs : StoreM xs k x = (xs.set k.toNat x, 0) := by unfold StoreM; rw [if_pos ⟨ht, hx⟩]
      refine Fin.ret rfl ⟨hL.pfx, .slice a' n n, ?_, ?_⟩
      · rw [hs]; rfl
      · rw [hs]; exact ⟨a', n, rfl, hL.apOut (k := 0) rfl⟩
    · have hx' : ¬ (0 ≤ x ∧ x ≤ 1048576) := hx
      simp only [hx', decide_false]
      (refine WO.yes rfl (WO.cons (OP.not rfl (WO.cons (OP.pickF rfl rfl (WO.nil (WC.condT rfl (WC.seq (WC.ops (WO.cons (OP.mv rfl (WO.cons (OP.mv rfl (WO.nil (WC.ret ?_)))))))))))))); dsimp only [thn_normal, thn_ret, thn_exit, blk_normal, blk_ret])
      have hs : StoreM xs k x = ([], 100) := by unfold StoreM; rw [if_neg (fun h => hx h.2)]
      refine Fin.ret rfl ⟨hL.pfx, .slice none 0 0, ?_, ?_⟩
      · rw [hs]; rfl
      · rw [hs]; exact ⟨none, 0, rfl, Ap.nil _ _ _ _⟩
  · simp only [ht, decide_false]
    (refine WO.cons (OP.not rfl (WO.cons (OP.mv rfl (WO.no rfl (WO.no rfl (WO.no rfl (WO.cons (OP.pickT rfl rfl (WO.nil (WC.condT rfl (WC.seq (WC.ops (WO.cons (OP.mv rfl (WO.cons (OP.mv rfl (WO.nil (WC.ret ?_)))))))))))))))))); dsimp only [thn_normal, thn_ret, thn_exit, blk_normal, blk_ret])
    have hs : StoreM xs k x = ([], 100) := by unfold StoreM; rw [if_neg (fun h => ht h.1)]
    refine Fin.ret rfl ⟨hL.pfx, .slice none 0 0, ?_, ?_⟩
    · rw [hs]; rfl
    · rw [hs]; exact ⟨none, 0, rfl, Ap.nil _ _ _ _⟩

theorem cSwap_run {g0 g1 g2 g3 : Nat} (hX : X f = none) (hF : F f = some (rf_Swap g0 g1 g2 g3)) (hX1 : X g1 = none) (hF1 : F g1 = some rf_Number) (hX2 : X g2 = none) (hF2 : F g2 = some rf_Clone)
    {a : Option Addr} {n c : Nat} {xs : List Int} {k old x : Int} (ha : Sl 1 h a n c (ints xs)) (hn : n ≤ 2 ^ 44) (hlim : lim ≤ h.length)
    (hld : Ret X F lim g0 [.slice a n c, .int .i64 k] h fun v h' => Pfx h h' ∧ v = if There xs k then tupI (xs.getD k.toNat 0) 0 else tupI 0 100)
    (hst : ∀ h1, Pfx h h1 → Ret X F lim g3 [.slice a n c, .int .i64 k, .int .i64 x] h1 fun v h' => Pfx h1 h' ∧ ∃ u, v = .tuple #[u, .int .i64 (StoreM xs k x).2] ∧ MadeI h1 h' u (StoreM xs k x).1) :
    Ret X F lim f [.slice a n c, .int .i64 k, .int .i64 old, .int .i64 x] h fun v h' => Pfx h h' ∧ ∃ u, v = .tuple #[u, .bool (SwapM xs k old x).2.1, .int .i64 (SwapM xs k old x).2.2] ∧ MadeI h h' u (SwapM xs k old x).1 := by
  have hxn := ha.ilen
  have hL := Loc.start h
  refine Ret.body hX hF rfl ?_
  simp only [argL, rf_Swap]
  (refine WC.seq (WC.ops (WO.cons (OP.mv rfl (WO.cons (OP.mv rfl (WO.cons (OP.mv rfl (WO.nil (WC.seq (WC.ops (WO.cons (OP.mv rfl (WO.cons (OP.mv rfl ?_)))))))))))))); dsimp only [thn_normal, thn_ret, thn_exit, blk_normal, blk_ret])
  (refine WO.cons ?_)
  refine OL.call hL rfl rfl hld (fun v h1 hp hL hv => ?_)
  subst hv
  have ha1 := ha.pfx hp
  by_cases ht : There xs k
  · simp only [ht, if_true, tupI]
    (refine WO.cons (OP.mv rfl (WO.cons (OP.extract rfl rfl (WO.cons (OP.extract rfl rfl (WO.cons (OP.mv rfl (WO.cons (OP.mv rfl (WO.nil (WC.seq (WC.seq (WC.ops (WO.cons (OP.mv rfl (WO.cons (OP.neqF rfl rfl (by omega) ?_))))))))))))))))); refine WO.cons (OP.mv rfl (WO.yes rfl (WO.cons (OP.mv rfl (WO.yes rfl ?_))))); dsimp only [thn_normal, thn_ret, thn_exit, blk_normal, blk_ret])
    (refine WO.cons ?_)
    refine OP.call rfl rfl (Ret.mono (Number_run hX1 hF1) fun v h' hv => ?_)
    obtain ⟨rfl, rfl⟩ := hv
    by_cases hx : CellOk x
    · have hx' : 0 ≤ x ∧ x ≤ 1048576 := hx
      simp only [hx', and_self, decide_true]
      by_cases ho : xs.getD k.toNat 0 = old
      · (refine WO.yes rfl (WO.cons (OP.not rfl (WO.cons (OP.pickF rfl rfl (WO.nil (WC.condF rfl (WC.skip (WC.seq (WC.seq (WC.ops (WO.cons (OP.mv rfl (WO.cons (OP.mv rfl (WO.cons (OP.neqF rfl rfl (by omega) ?_)))))))))))))))); refine WO.nil (WC.condF rfl (WC.skip (WC.seq (WC.ops (WO.cons (OP.mv rfl (WO.cons (OP.mv rfl (WO.cons (OP.mv rfl ?_)))))))))); dsimp only [thn_normal, thn_ret, thn_exit, blk_normal, blk_ret])
        (refine WO.cons ?_)
        refine OL.call hL rfl rfl (hst _ hp) (fun v h2 hp2 hL hv => ?_)
        obtain ⟨u, rfl, a', m, rfl, hA⟩ := hv
        (refine WO.cons (OP.mv rfl (WO.cons (OP.extract rfl rfl (WO.cons (OP.extract rfl rfl (WO.cons (OP.mv rfl (WO.cons (OP.mv rfl (WO.nil (WC.seq (WC.ops (WO.cons (OP.mv rfl (WO.cons (OP.mv rfl (WO.cons (OP.mv rfl (WO.cons (OP.mv rfl (WO.cons (OP.mv rfl (WO.nil (WC.ret ?_)))))))))))))))))))))))))
        have hs : SwapM xs k old x = (xs.set k.toNat x, true, 0) := by unfold SwapM; rw [if_pos ⟨ht, hx⟩, if_pos ho]
        have hs2 : StoreM xs k x = (xs.set k.toNat x, 0) := by unfold StoreM; rw [if_pos ⟨ht, hx⟩]
        rw [hs2] at hA
        refine Fin.ret rfl ⟨hL.pfx, .slice a' m m, ?_, ?_⟩
        · rw [hs, hs2]; rfl
        · rw [hs]; exact ⟨a', m, rfl, Ap.widen hA hp.1 (Nat.le_refl _)⟩
      · (refine WO.yes rfl (WO.cons (OP.not rfl (WO.cons (OP.pickF rfl rfl (WO.nil (WC.condF rfl (WC.skip (WC.seq (WC.seq (WC.ops (WO.cons (OP.mv rfl (WO.cons (OP.mv rfl (WO.cons (OP.neqT rfl rfl (by omega) ?_)))))))))))))))); refine WO.nil (WC.condT rfl (WC.seq (WC.ops (WO.cons (OP.mv rfl ?_))))); dsimp only [thn_normal, thn_ret, thn_exit, blk_normal, blk_ret])
        (refine WO.cons ?_)
        refine OL.callAp hL rfl rfl (Clone_run hX2 hF2 ha1 hn) (fun a' h2 hp hL => ?_)
        (refine WO.cons (OP.mv rfl (WO.cons (OP.mv rfl (WO.cons (OP.mv rfl (WO.nil (WC.ret ?_))))))); dsimp only [thn_normal, thn_ret, thn_exit, blk_normal, blk_ret])
        have hs : SwapM xs k old x = (xs, false, 0) := by unfold SwapM; rw [if_pos ⟨ht, hx⟩, if_neg ho]
        refine Fin.ret rfl ⟨hL.pfx, .slice a' n n, ?_, ?_⟩
        · rw [hs]; rfl
        · rw [hs]; exact ⟨a', n, rfl, hL.apOut (k := 0) rfl⟩
    · have hx' : ¬ (0 ≤ x ∧ x ≤ 1048576) := hx
      simp only [hx', decide_false]
      (refine WO.yes rfl (WO.cons (OP.not rfl (WO.cons (OP.pickF rfl rfl (WO.nil (WC.condT rfl (WC.seq (WC.ops (WO.cons (OP.mv rfl (WO.cons (OP.mv rfl (WO.cons (OP.mv rfl (WO.nil (WC.ret ?_)))))))))))))))); dsimp only [thn_normal, thn_ret, thn_exit, blk_normal, blk_ret])
      have hs : SwapM xs k old x = ([], false, 100) := by unfold SwapM; rw [if_neg (fun h => hx h.2)]
      refine Fin.ret rfl ⟨hL.pfx, .slice none 0 0, ?_, ?_⟩
      · rw [hs]; rfl
      · rw [hs]; exact ⟨none, 0, rfl, Ap.nil _ _ _ _⟩
  · simp only [ht, if_false, tupI]
    (refine WO.cons (OP.mv rfl (WO.cons (OP.extract rfl rfl (WO.cons (OP.extract rfl rfl (WO.cons (OP.mv rfl (WO.cons (OP.mv rfl (WO.nil (WC.seq (WC.seq (WC.ops (WO.cons (OP.mv rfl (WO.cons (OP.neqT rfl rfl (by omega) ?_))))))))))))))))); refine WO.cons (OP.mv rfl (WO.no rfl (WO.no rfl (WO.no rfl (WO.cons (OP.pickT rfl rfl (WO.nil (WC.condT rfl (WC.seq (WC.ops (WO.cons (OP.mv rfl (WO.cons (OP.mv rfl (WO.cons (OP.mv rfl (WO.nil (WC.ret ?_)))))))))))))))))); dsimp only [thn_normal, thn_ret, thn_exit, blk_normal, blk_ret])
    have hs : SwapM xs k old x = ([], false, 100) := by unfold SwapM; rw [if_neg (fun h => ht h.1)]
    refine Fin.ret rfl ⟨hL.pfx, .slice none 0 0, ?_, ?_⟩
    · rw [hs]; rfl
    · rw [hs]; exact ⟨none, 0, rfl, Ap.nil _ _ _ _⟩

theorem cAdd_run {g0 g1 : Nat} (hX : X f = none) (hF : F f = some (rf_Add g0 g1))
    {a : Option Addr} {n c : Nat} {xs : List Int} {k y : Int} (hy : -9223372036854775808 ≤ y ∧ y ≤ 9223372036854775807) (ha : Sl 1 h a n c (ints xs)) (hn : n ≤ 2 ^ 44) (hlim : lim ≤ h.length)
    (hld : Ret X F lim g0 [.slice a n c, .int .i64 k] h fun v h' => Pfx h h' ∧ v = if There xs k then tupI (xs.getD k.toNat 0) 0 else tupI 0 100)
    (hst : ∀ h1 x, Pfx h h1 → Ret X F lim g1 [.slice a n c, .int .i64 k, .int .i64 x] h1 fun v h' => Pfx h1 h' ∧ ∃ u, v = .tuple #[u, .int .i64 (StoreM xs k x).2] ∧ MadeI h1 h' u (StoreM xs k x).1) :
    Ret X F lim f [.slice a n c, .int .i64 k, .int .i64 y] h fun v h' => Pfx h h' ∧ ∃ u, v = .tuple #[u, .int .i64 (AddM xs k y).2.1, .int .i64 (AddM xs k y).2.2] ∧ MadeI h h' u (AddM xs k y).1 := by
  have hxn := ha.ilen
  have hL := Loc.start h
  refine Ret.body hX hF rfl ?_
  simp only [argL, rf_Add]
  (refine WC.seq (WC.ops (WO.cons (OP.mv rfl (WO.cons (OP.mv rfl (WO.cons (OP.mv rfl (WO.nil (WC.seq (WC.ops (WO.cons (OP.mv rfl (WO.cons (OP.mv rfl ?_)))))))))))))); dsimp only [thn_normal, thn_ret, thn_exit, blk_normal, blk_ret])
  (refine WO.cons ?_)
  refine OL.call hL rfl rfl hld (fun v h1 hp hL hv => ?_)
  subst hv
  have ha1 := ha.pfx hp
  by_cases ht : There xs k
  · simp only [ht, if_true, tupI]
    obtain ⟨hg1, hg2, hg3⟩ := ht.get
    generalize hw : xs.getD k.toNat 0 = was at hg2 hg3
    by_cases hc1 : y < 0 - was
    · (refine WO.cons (OP.mv rfl (WO.cons (OP.extract rfl rfl (WO.cons (OP.extract rfl rfl (WO.cons (OP.mv rfl (WO.cons (OP.mv rfl (WO.nil (WC.seq (WC.seq (WC.ops (WO.cons (OP.mv rfl (WO.cons (OP.neqF rfl rfl (by omega) ?_))))))))))))))))); refine WO.cons (OP.mv rfl (WO.yes rfl (WO.cons (OP.mv rfl (WO.yes rfl (WO.cons (OP.mv rfl (WO.yes rfl (WO.cons (OP.neg rfl (by omega) ?_)))))))))); refine WO.yes rfl (WO.cons (OP.lssT rfl rfl (by omega) ?_)); refine WO.cons (OP.pickF rfl rfl (WO.cons (OP.mv rfl (WO.no rfl (WO.no rfl (WO.no rfl (WO.no rfl (WO.cons (OP.pickT rfl rfl (WO.nil (WC.condT rfl (WC.seq (WC.ops (WO.cons (OP.mv rfl (WO.cons (OP.mv rfl (WO.cons (OP.mv rfl (WO.nil (WC.ret ?_))))))))))))))))))))); dsimp only [thn_normal, thn_ret, thn_exit, blk_normal, blk_ret])
      have hs : AddM xs k y = ([], 0, 100) := by unfold AddM; rw [if_neg (fun h => by have := h.2.1; rw [hw] at this; omega)]
      refine Fin.ret rfl ⟨hL.pfx, .slice none 0 0, ?_, ?_⟩
      · rw [hs]; rfl
      · rw [hs]; exact ⟨none, 0, rfl, Ap.nil _ _ _ _⟩
    · by_cases hc2 : y > 1048576 - was
      · (refine WO.cons (OP.mv rfl (WO.cons (OP.extract rfl rfl (WO.cons (OP.extract rfl rfl (WO.cons (OP.mv rfl (WO.cons (OP.mv rfl (WO.nil (WC.seq (WC.seq (WC.ops (WO.cons (OP.mv rfl (WO.cons (OP.neqF rfl rfl (by omega) ?_))))))))))))))))); refine WO.cons (OP.mv rfl (WO.yes rfl (WO.cons (OP.mv rfl (WO.yes rfl (WO.cons (OP.mv rfl (WO.yes rfl (WO.cons (OP.neg rfl (by omega) ?_)))))))))); refine WO.yes rfl (WO.cons (OP.lssF rfl rfl (by omega) ?_)); refine WO.cons (OP.pickF rfl rfl (WO.cons (OP.mv rfl (WO.yes rfl (WO.cons (OP.mv rfl (WO.yes rfl (WO.cons (OP.mv rfl (WO.yes rfl (WO.cons (OP.sub rfl rfl (by omega) ?_)))))))))))); refine WO.yes rfl (WO.cons (OP.gtrT rfl rfl (by omega) ?_)); refine WO.cons (OP.pickF rfl rfl (WO.nil (WC.condT rfl (WC.seq (WC.ops (WO.cons (OP.mv rfl (WO.cons (OP.mv rfl (WO.cons (OP.mv rfl (WO.nil (WC.ret ?_))))))))))))); dsimp only [thn_normal, thn_ret, thn_exit, blk_normal, blk_ret])
        have hs : AddM xs k y = ([], 0, 100) := by unfold AddM; rw [if_neg (fun h => by have := h.2.2; rw [hw] at this; omega)]
        refine Fin.ret rfl ⟨hL.pfx, .slice none 0 0, ?_, ?_⟩
        · rw [hs]; rfl
        · rw [hs]; exact ⟨none, 0, rfl, Ap.nil _ _ _ _⟩
      · (refine WO.cons (OP.mv rfl (WO.cons (OP.extract rfl rfl (WO.cons (OP.extract rfl rfl (WO.cons (OP.mv rfl (WO.cons (OP.mv rfl (WO.nil (WC.seq (WC.seq (WC.ops (WO.cons (OP.mv rfl (WO.cons (OP.neqF rfl rfl (by omega) ?_))))))))))))))))); refine WO.cons (OP.mv rfl (WO.yes rfl (WO.cons (OP.mv rfl (WO.yes rfl (WO.cons (OP.mv rfl (WO.yes rfl (WO.cons (OP.neg rfl (by omega) ?_)))))))))); refine WO.yes rfl (WO.cons (OP.lssF rfl rfl (by omega) ?_)); refine WO.cons (OP.pickF rfl rfl (WO.cons (OP.mv rfl (WO.yes rfl (WO.cons (OP.mv rfl (WO.yes rfl (WO.cons (OP.mv rfl (WO.yes rfl (WO.cons (OP.sub rfl rfl (by omega) ?_)))))))))))); refine WO.yes rfl (WO.cons (OP.gtrF rfl rfl (by omega) ?_)); refine WO.cons (OP.pickF rfl rfl (WO.nil (WC.condF rfl (WC.skip (WC.seq (WC.ops (WO.cons (OP.mv rfl (WO.cons (OP.mv rfl (WO.cons (OP.mv rfl (WO.cons (OP.mv rfl (WO.cons (OP.add rfl rfl (by omega) ?_)))))))))))))))); dsimp only [thn_normal, thn_ret, thn_exit, blk_normal, blk_ret])
        (refine WO.cons ?_)
        refine OL.call hL rfl rfl (hst _ _ hp) (fun v h2 hp2 hL hv => ?_)
        obtain ⟨u, rfl, a', m, rfl, hA⟩ := hv
        (refine WO.cons (OP.mv rfl (WO.cons (OP.extract rfl rfl (WO.cons (OP.extract rfl rfl (WO.cons (OP.mv rfl (WO.cons (OP.mv rfl (WO.nil (WC.seq (WC.ops (WO.cons (OP.mv rfl (WO.cons (OP.mv rfl (WO.cons (OP.mv rfl (WO.cons (OP.mv rfl (WO.cons (OP.mv rfl (WO.cons (OP.mv rfl (WO.nil (WC.ret ?_)))))))))))))))))))))))))))
        have hok : CellOk (was + y) := ⟨by omega, by omega⟩
        have hs : AddM xs k y = (xs.set k.toNat (was + y), was, 0) := by unfold AddM; rw [hw, if_pos ⟨ht, hok⟩]
        have hs2 : StoreM xs k (was + y) = (xs.set k.toNat (was + y), 0) := by unfold StoreM; rw [if_pos ⟨ht, hok⟩]
        rw [hs2] at hA
        refine Fin.ret rfl ⟨hL.pfx, .slice a' m m, ?_, ?_⟩
        · rw [hs, hs2]; rfl
        · rw [hs]; exact ⟨a', m, rfl, Ap.widen hA hp.1 (Nat.le_refl _)⟩
  · simp only [ht, if_false, tupI]
    (refine WO.cons (OP.mv rfl (WO.cons (OP.extract rfl rfl (WO.cons (OP.extract rfl rfl (WO.cons (OP.mv rfl (WO.cons (OP.mv rfl (WO.nil (WC.seq (WC.seq (WC.ops (WO.cons (OP.mv rfl (WO.cons (OP.neqT rfl rfl (by omega) ?_))))))))))))))))); refine WO.cons (OP.mv rfl (WO.no rfl (WO.no rfl (WO.no rfl (WO.no rfl (WO.cons (OP.pickT rfl rfl (WO.cons (OP.mv rfl (WO.no rfl (WO.no rfl (WO.no rfl (WO.no rfl (WO.cons (OP.pickT rfl rfl (WO.nil (WC.condT rfl (WC.seq (WC.ops (WO.cons (OP.mv rfl (WO.cons (OP.mv rfl (WO.cons (OP.mv rfl (WO.nil (WC.ret ?_))))))))))))))))))))))))))); dsimp only [thn_normal, thn_ret, thn_exit, blk_normal, blk_ret])
    have hs : AddM xs k y = ([], 0, 100) := by unfold AddM; rw [if_neg (fun h => ht h.1)]
    refine Fin.ret rfl ⟨hL.pfx, .slice none 0 0, ?_, ?_⟩
    · rw [hs]; rfl
    · rw [hs]; exact ⟨none, 0, rfl, Ap.nil _ _ _ _⟩
end
end Go.Proofs.YtojkcbcdoljadaaW.Ai
