/-
  Cells (chapter 1), the document's own answer, as the small machine runs it.
-/
import Derived.Test.YtojkcbcdoljadaaFn4
set_option linter.unusedVariables false
set_option linter.unusedSimpArgs false
set_option maxHeartbeats 2000000
namespace Go.Proofs.YtojkcbcdoljadaaW.Ai
section
variable {X : Ext} {F : FuncId → Option RFunc} {lim : Nat} {f : FuncId} {h : AH}

theorem cellsMay_run {g0 g1 : Nat} (hX : X f = none) (hF : F f = some (rf_cellsMay g0)) (hX0 : X g0 = none) (hF0 : F g0 = some (rf_cellMay g1)) (hX1 : X g1 = none) (hF1 : F g1 = some rf_upTo)
    {a : Option Addr} {n c : Nat} {xs : List Int} {k : Int} (ha : Sl 1 h a n c (ints xs)) (hn : n ≤ 2 ^ 44) : Ret X F lim f [.slice a n c, .int .i64 k] h fun v h' => v = .bool (decide (There xs k)) ∧ h' = h := by
  have hxn := ha.ilen
  refine Ret.body hX hF rfl ?_
  simp only [argL, rf_cellsMay]
  (refine WC.seq (WC.ops (WO.cons (OP.mv rfl (WO.nil (WC.seq (WC.seq (WC.ops (WO.cons (OP.mv rfl (WO.nil (WC.block ?_))))))))))))
  refine WC.loop (fun i : Nat => i ≤ n ∧ ∀ x ∈ xs.take i, CellOk x) (fun i => [(5, .int .i64 (i : Int)), (0, .slice a n c), (1, .int .i64 k)]) (fun _ => h) (fun i => n - i) ?_ 0 ⟨Nat.zero_le _, by simp⟩ (by (refine Sub.cons rfl (Sub.cons rfl (Sub.cons rfl ?_)); exact Sub.nil _)) rfl
  intro i ⟨hi, hall⟩
  by_cases hlt : (i : Int) < n
  · (refine WC.seq (WC.seq (WC.ops (WO.cons (OP.mv rfl (WO.cons (OP.mv rfl (WO.cons (OP.lenS rfl (WO.cons (OP.lssT rfl rfl (by omega) ?_)))))))))); refine WO.nil (WC.condT rfl (WC.skip (WC.seq (WC.block (WC.seq (WC.ops (WO.cons (OP.mv rfl (WO.cons (OP.mv rfl (WO.cons (OP.idxS (by assumption) rfl rfl (by omega) ?_)))))))))))); refine WO.cons (OP.ldI (by assumption) rfl (by omega) ?_); dsimp only [thn_normal, thn_ret, thn_exit, blk_normal, blk_ret])
    (refine WO.cons ?_)
    refine OP.call rfl rfl (Ret.mono (cellMay_run hX0 hF0 hX1 hF1) fun v h' hv => ?_)
    obtain ⟨rfl, rfl⟩ := hv
    have hlt' : i < xs.length := by omega
    by_cases hx : CellOk xs[i]
    · have hx' : 0 ≤ xs[i] ∧ xs[i] ≤ 1048576 := hx
      rw [decide_eq_true hx']
      (refine WO.cons (OP.not rfl (WO.nil (WC.condF rfl (WC.skip (WC.ops (WO.cons (OP.mv rfl (WO.cons (OP.add rfl rfl (by omega) ?_))))))))); refine WO.cons (OP.mv rfl (WO.nil ?_)); dsimp only [thn_normal, thn_ret, thn_exit, blk_normal, blk_ret])
      refine ⟨i + 1, ⟨by omega, ?_⟩, by (refine Sub.cons rfl (Sub.cons rfl (Sub.cons rfl ?_)); exact Sub.nil _), rfl, by omega⟩
      rw [List.take_succ_eq_append_getElem hlt']
      intro x hm
      rcases List.mem_append.1 hm with hm | hm
      · exact hall x hm
      · simp at hm; rw [hm]; exact hx
    · have hx' : ¬ (0 ≤ xs[i] ∧ xs[i] ≤ 1048576) := hx
      rw [decide_eq_false hx']
      (refine WO.cons (OP.not rfl (WO.nil (WC.condT rfl (WC.seq (WC.ops (WO.cons (OP.mv rfl (WO.nil (WC.ret ?_))))))))); dsimp only [thn_normal, thn_ret, thn_exit, blk_normal, blk_ret])
      refine Fin.ret rfl ⟨?_, rfl⟩
      have : ¬ There xs k := fun ht => hx (ht.2.1 _ (List.getElem_mem _))
      simp [resultOf, this]
  · have hall' : ∀ x ∈ xs, CellOk x := by rwa [List.take_of_length_le (by omega)] at hall
    by_cases h16 : (n : Int) ≤ 16
    · by_cases h0 : 0 ≤ k
      · by_cases h2 : k < n
        · (refine WC.seq (WC.seq (WC.ops (WO.cons (OP.mv rfl (WO.cons (OP.mv rfl (WO.cons (OP.lenS rfl (WO.cons (OP.lssF rfl rfl (by omega) ?_)))))))))); refine WO.nil (WC.condF rfl (WC.exit (WC.seq (WC.ops (WO.cons (OP.mv rfl (WO.cons (OP.lenS rfl (WO.cons (OP.leqT rfl rfl (by omega) ?_)))))))))); refine WO.cons (OP.mv rfl (WO.yes rfl (WO.cons (OP.mv rfl (WO.yes rfl (WO.cons (OP.geqT rfl rfl (by omega) ?_))))))); refine WO.cons (OP.pickT rfl rfl (WO.cons (OP.mv rfl (WO.yes rfl (WO.cons (OP.mv rfl (WO.yes rfl (WO.cons (OP.mv rfl (WO.yes rfl (WO.cons (OP.lenS rfl (WO.yes rfl (WO.cons (OP.lssT rfl rfl (by omega) ?_))))))))))))))); refine WO.cons (OP.pickT rfl rfl (WO.cons (OP.mv rfl (WO.nil (WC.ret ?_))))))
          refine Fin.ret rfl ⟨?_, rfl⟩
          have : There xs k := ⟨by omega, hall', h0, by omega⟩
          simp [resultOf, this]
        · (refine WC.seq (WC.seq (WC.ops (WO.cons (OP.mv rfl (WO.cons (OP.mv rfl (WO.cons (OP.lenS rfl (WO.cons (OP.lssF rfl rfl (by omega) ?_)))))))))); refine WO.nil (WC.condF rfl (WC.exit (WC.seq (WC.ops (WO.cons (OP.mv rfl (WO.cons (OP.lenS rfl (WO.cons (OP.leqT rfl rfl (by omega) ?_)))))))))); refine WO.cons (OP.mv rfl (WO.yes rfl (WO.cons (OP.mv rfl (WO.yes rfl (WO.cons (OP.geqT rfl rfl (by omega) ?_))))))); refine WO.cons (OP.pickT rfl rfl (WO.cons (OP.mv rfl (WO.yes rfl (WO.cons (OP.mv rfl (WO.yes rfl (WO.cons (OP.mv rfl (WO.yes rfl (WO.cons (OP.lenS rfl (WO.yes rfl (WO.cons (OP.lssF rfl rfl (by omega) ?_))))))))))))))); refine WO.cons (OP.pickT rfl rfl (WO.cons (OP.mv rfl (WO.nil (WC.ret ?_))))))
          refine Fin.ret rfl ⟨?_, rfl⟩
          have : ¬ There xs k := fun hx => h2 (by have := hx.2.2.2; omega)
          simp [resultOf, this]
      · (refine WC.seq (WC.seq (WC.ops (WO.cons (OP.mv rfl (WO.cons (OP.mv rfl (WO.cons (OP.lenS rfl (WO.cons (OP.lssF rfl rfl (by omega) ?_)))))))))); refine WO.nil (WC.condF rfl (WC.exit (WC.seq (WC.ops (WO.cons (OP.mv rfl (WO.cons (OP.lenS rfl (WO.cons (OP.leqT rfl rfl (by omega) ?_)))))))))); refine WO.cons (OP.mv rfl (WO.yes rfl (WO.cons (OP.mv rfl (WO.yes rfl (WO.cons (OP.geqF rfl rfl (by omega) ?_))))))); refine WO.cons (OP.pickT rfl rfl (WO.cons (OP.mv rfl (WO.no rfl (WO.no rfl (WO.no rfl (WO.no rfl (WO.cons (OP.pickF rfl rfl (WO.cons (OP.mv rfl (WO.nil (WC.ret ?_))))))))))))))
        refine Fin.ret rfl ⟨?_, rfl⟩
        have : ¬ There xs k := fun hx => h0 hx.2.2.1
        simp [resultOf, this]
    · (refine WC.seq (WC.seq (WC.ops (WO.cons (OP.mv rfl (WO.cons (OP.mv rfl (WO.cons (OP.lenS rfl (WO.cons (OP.lssF rfl rfl (by omega) ?_)))))))))); refine WO.nil (WC.condF rfl (WC.exit (WC.seq (WC.ops (WO.cons (OP.mv rfl (WO.cons (OP.lenS rfl (WO.cons (OP.leqF rfl rfl (by omega) ?_)))))))))); refine WO.cons (OP.mv rfl (WO.no rfl (WO.no rfl (WO.cons (OP.pickF rfl rfl (WO.cons (OP.mv rfl (WO.no rfl (WO.no rfl (WO.no rfl (WO.no rfl (WO.cons (OP.pickF rfl rfl (WO.cons (OP.mv rfl (WO.nil (WC.ret ?_))))))))))))))))))
      refine Fin.ret rfl ⟨?_, rfl⟩
      have : ¬ There xs k := fun hx => h16 (by have := hx.1; omega)
      simp [resultOf, this]

theorem rLoad_run {g0 : Nat} (hX : X f = none) (hF : F f = some (rf_rLoad g0)) {a : Option Addr} {n c : Nat} {xs : List Int} {k : Int} (ha : Sl 1 h a n c (ints xs)) (hth : Ret X F lim g0 [.slice a n c, .int .i64 k] h fun v h' => v = .bool (decide (There xs k)) ∧ h' = h) :
    Ret X F lim f [.slice a n c, .int .i64 k] h fun v h' => v = (if There xs k then tupI (xs.getD k.toNat 0) 0 else tupI 0 100) ∧ h' = h := by
  have hxn := ha.ilen
  refine Ret.body hX hF rfl ?_
  simp only [argL, rf_rLoad]
  (refine WC.seq (WC.ops (WO.cons (OP.mv rfl (WO.cons (OP.mv rfl (WO.nil (WC.seq (WC.seq (WC.ops (WO.cons (OP.mv rfl (WO.cons (OP.mv rfl ?_))))))))))))); dsimp only [thn_normal, thn_ret, thn_exit, blk_normal, blk_ret])
  (refine WO.cons ?_)
  refine OP.call rfl rfl (Ret.mono hth fun v h1 hv => ?_)
  obtain ⟨rfl, rfl⟩ := hv
  by_cases ht : There xs k
  · simp only [ht, decide_true]
    have h0 := ht.2.2
    (refine WO.cons (OP.not rfl (WO.nil (WC.condF rfl (WC.skip (WC.seq (WC.ops (WO.cons (OP.mv rfl (WO.cons (OP.mv rfl (WO.cons (OP.idxZ (by assumption) rfl rfl (by omega) ?_)))))))))))); refine WO.cons (OP.ldI (by assumption) rfl (by omega) ?_); refine WO.cons (OP.mv rfl (WO.cons (OP.mv rfl (WO.nil (WC.ret ?_))))))
    refine Fin.ret rfl ⟨?_, rfl⟩
    have : k.toNat < xs.length := by omega
    simp [resultOf, tupI, List.getElem?_eq_getElem this]
  · simp only [ht, decide_false]
    (refine WO.cons (OP.not rfl (WO.nil (WC.condT rfl (WC.seq (WC.ops (WO.cons (OP.mv rfl (WO.cons (OP.mv rfl (WO.nil (WC.ret ?_))))))))))); dsimp only [thn_normal, thn_ret, thn_exit, blk_normal, blk_ret])
    refine Fin.ret rfl ⟨?_, rfl⟩
    simp [resultOf, tupI]

theorem with_run (hX : X f = none) (hF : F f = some rf_with) {a : Option Addr} {n c : Nat} {xs : List Int} {k x : Int} (ha : Sl 1 h a n c (ints xs)) (hn : n ≤ 2 ^ 44) (hlim : lim ≤ h.length) (hk : 0 ≤ k ∧ k < n) :
    Ret X F lim f [.slice a n c, .int .i64 k, .int .i64 x] h fun v h' => Pfx h h' ∧ ∃ a', v = .slice a' n n ∧ Ap h.length h'.length 1 h' a' n (ints (xs.set k.toNat x)) := by
  have hxn := ha.ilen
  have hL := Loc.start h
  refine Ret.body hX hF rfl ?_
  simp only [argL, rf_with]
  (refine WC.seq (WC.ops (WO.cons (OP.mv rfl (WO.nil (WC.seq (WC.ops ?_)))))); dsimp only [thn_normal, thn_ret, thn_exit, blk_normal, blk_ret])
  (refine WO.cons ?_; refine OL.buildSlice hL rfl (by simp [over, Value.cells]; rfl) rfl (fun b h1 hL => ?_))
  (refine WO.cons (OP.mv rfl ?_))
  (refine WO.cons ?_)
  refine OL.copy hL rfl (fun x hx => by injection hx with hx; subst hx; rfl) rfl (by (exact (Sl.pfx (by assumption) (Loc.pfx hL)))) (room8 (by omega)) (ints_ok xs) (fun a' h2 hp hL => ?_)
  (refine WO.cons (OP.mv rfl (WO.nil (WC.seq (WC.ops (WO.cons (OP.mv rfl (WO.cons (OP.mv rfl (WO.cons (OP.mv rfl (WO.cons (OP.idxZ (Loc.apAt (k := 0) hL rfl) rfl rfl (by omega) ?_)))))))))))); dsimp only [thn_normal, thn_ret, thn_exit, blk_normal, blk_ret])
  (refine WO.cons0 ?_)
  refine OL.storeAp (k := 0) hL hlim rfl rfl rfl (by omega) rfl (fun h3 hL => ?_)
  rw [ints_set] at hL
  (refine WO.nil (WC.seq (WC.ops (WO.cons (OP.mv rfl (WO.cons (OP.mv rfl (WO.nil (WC.ret ?_)))))))))
  exact Fin.ret rfl ⟨hL.pfx, a', rfl, hL.apOut (k := 0) rfl⟩

theorem rStore_run {g0 g1 g2 g3 : Nat} (hX : X f = none) (hF : F f = some (rf_rStore g0 g1 g2)) (hX1 : X g1 = none) (hF1 : F g1 = some (rf_cellMay g3)) (hX2 : X g2 = none) (hF2 : F g2 = some rf_with) (hX3 : X g3 = none) (hF3 : F g3 = some rf_upTo)
    {a : Option Addr} {n c : Nat} {xs : List Int} {k x : Int} (ha : Sl 1 h a n c (ints xs)) (hn : n ≤ 2 ^ 44) (hlim : lim ≤ h.length) (hth : Ret X F lim g0 [.slice a n c, .int .i64 k] h fun v h' => v = .bool (decide (There xs k)) ∧ h' = h) :
    Ret X F lim f [.slice a n c, .int .i64 k, .int .i64 x] h fun v h' => Pfx h h' ∧ ∃ u, v = .tuple #[u, .int .i64 (StoreM xs k x).2] ∧ MadeI h h' u (StoreM xs k x).1 := by
  have hxn := ha.ilen
  have hL := Loc.start h
  refine Ret.body hX hF rfl ?_
  simp only [argL, rf_rStore]
  (refine WC.seq (WC.ops (WO.cons (OP.mv rfl (WO.cons (OP.mv rfl (WO.nil (WC.seq (WC.seq (WC.ops (WO.cons (OP.mv rfl (WO.cons (OP.mv rfl ?_))))))))))))); dsimp only [thn_normal, thn_ret, thn_exit, blk_normal, blk_ret])
  (refine WO.cons ?_)
  refine OP.call rfl rfl (Ret.mono hth fun v h1 hv => ?_)
  obtain ⟨rfl, rfl⟩ := hv
  by_cases ht : There xs k
  · simp only [ht, decide_true]
    have h0 := ht.2.2
    (refine WO.cons (OP.not rfl (WO.cons (OP.mv rfl (WO.yes rfl (WO.cons (OP.mv rfl (WO.yes rfl ?_))))))))
    (refine WO.cons ?_)
    refine OP.call rfl rfl (Ret.mono (cellMay_run hX1 hF1 hX3 hF3) fun v h' hv => ?_)
    obtain ⟨rfl, rfl⟩ := hv
    by_cases hx : CellOk x
    · have hx' : 0 ≤ x ∧ x ≤ 1048576 := hx
      rw [decide_eq_true hx']
      (refine WO.yes rfl (WO.cons (OP.not rfl (WO.cons (OP.pickF rfl rfl (WO.nil (WC.condF rfl (WC.skip (WC.seq (WC.ops (WO.cons (OP.mv rfl (WO.cons (OP.mv rfl (WO.cons (OP.mv rfl ?_))))))))))))))); dsimp only [thn_normal, thn_ret, thn_exit, blk_normal, blk_ret])
      (refine WO.cons ?_)
      refine OL.callAp hL rfl rfl (with_run hX2 hF2 ha hn hlim (by omega)) (fun a' h2 hp hL => ?_)
      (refine WO.cons (OP.mv rfl (WO.cons (OP.mv rfl (WO.nil (WC.ret ?_))))))
      have hs : StoreM xs k x = (xs.set k.toNat x, 0) := by unfold StoreM; rw [if_pos ⟨ht, hx⟩]
      refine Fin.ret rfl ⟨hL.pfx, .slice a' n n, ?_, ?_⟩
      · rw [hs]; rfl
      · rw [hs]; exact ⟨a', n, rfl, hL.apOut (k := 0) rfl⟩
    · have hx' : ¬ (0 ≤ x ∧ x ≤ 1048576) := hx
      rw [decide_eq_false hx']
      (refine WO.yes rfl (WO.cons (OP.not rfl (WO.cons (OP.pickF rfl rfl (WO.nil (WC.condT rfl (WC.seq (WC.ops (WO.cons (OP.mv rfl (WO.cons (OP.mv rfl (WO.nil (WC.ret ?_)))))))))))))); dsimp only [thn_normal, thn_ret, thn_exit, blk_normal, blk_ret])
      have hs : StoreM xs k x = ([], 100) := by unfold StoreM; rw [if_neg (fun h => hx h.2)]
      refine Fin.ret rfl ⟨hL.pfx, .slice none 0 0, ?_, ?_⟩
      · rw [hs]; rfl
      · rw [hs]; exact ⟨none, 0, rfl, Ap.nil _ _ _ _⟩
  · simp only [ht, decide_false]
    (refine WO.cons (OP.not rfl (WO.cons (OP.mv rfl (WO.no rfl (WO.no rfl (WO.no rfl (WO.cons (OP.pickT rfl rfl (WO.nil (WC.condT rfl (WC.seq (WC.ops (WO.cons (OP.mv rfl (WO.cons (OP.mv rfl (WO.nil (WC.ret ?_)))))))))))))))))); dsimp only [thn_normal, thn_ret, thn_exit, blk_normal, blk_ret])
    have hs : StoreM xs k x = ([], 100) := by unfold StoreM; rw [if_neg (fun h => ht h.1)]
    refine Fin.ret rfl ⟨hL.pfx, .slice none 0 0, ?_, ?_⟩
    · rw [hs]; rfl
    · rw [hs]; exact ⟨none, 0, rfl, Ap.nil _ _ _ _⟩

theorem rSwap_run {g0 g1 g2 g3 : Nat} (hX : X f = none) (hF : F f = some (rf_rSwap g0 g1 g2)) (hX1 : X g1 = none) (hF1 : F g1 = some (rf_cellMay g3)) (hX2 : X g2 = none) (hF2 : F g2 = some rf_with) (hX3 : X g3 = none) (hF3 : F g3 = some rf_upTo)
    {a : Option Addr} {n c : Nat} {xs : List Int} {k old x : Int} (ha : Sl 1 h a n c (ints xs)) (hn : n ≤ 2 ^ 44) (hlim : lim ≤ h.length) (hth : Ret X F lim g0 [.slice a n c, .int .i64 k] h fun v h' => v = .bool (decide (There xs k)) ∧ h' = h) :
    Ret X F lim f [.slice a n c, .int .i64 k, .int .i64 old, .int .i64 x] h fun v h' => Pfx h h' ∧ ∃ u, v = .tuple #[u, .bool (SwapM xs k old x).2.1, .int .i64 (SwapM xs k old x).2.2] ∧ MadeI h h' u (SwapM xs k old x).1 := by
  have hxn := ha.ilen
  have hL := Loc.start h
  refine Ret.body hX hF rfl ?_
  simp only [argL, rf_rSwap]
  (refine WC.seq (WC.ops (WO.cons (OP.mv rfl (WO.cons (OP.mv rfl (WO.cons (OP.mv rfl (WO.nil (WC.seq (WC.seq (WC.ops (WO.cons (OP.mv rfl (WO.cons (OP.mv rfl ?_))))))))))))))); dsimp only [thn_normal, thn_ret, thn_exit, blk_normal, blk_ret])
  (refine WO.cons ?_)
  refine OP.call rfl rfl (Ret.mono hth fun v h1 hv => ?_)
  obtain ⟨rfl, rfl⟩ := hv
  by_cases ht : There xs k
  · simp only [ht, decide_true]
    have h0 := ht.2.2
    have hkl : k.toNat < xs.length := ht.get.1
    have hgd : xs.getD k.toNat 0 = xs[k.toNat] := by simp [List.getD, hkl]
    (refine WO.cons (OP.not rfl (WO.cons (OP.mv rfl (WO.yes rfl (WO.cons (OP.mv rfl (WO.yes rfl ?_))))))))
    (refine WO.cons ?_)
    refine OP.call rfl rfl (Ret.mono (cellMay_run hX1 hF1 hX3 hF3) fun v h' hv => ?_)
    obtain ⟨rfl, rfl⟩ := hv
    by_cases hx : CellOk x
    · have hx' : 0 ≤ x ∧ x ≤ 1048576 := hx
      rw [decide_eq_true hx']
      by_cases ho : xs[k.toNat] = old
      · (refine WO.yes rfl (WO.cons (OP.not rfl (WO.cons (OP.pickF rfl rfl (WO.nil (WC.condF rfl (WC.skip (WC.seq (WC.seq (WC.ops (WO.cons (OP.mv rfl (WO.cons (OP.mv rfl (WO.cons (OP.idxZ (by assumption) rfl rfl (by omega) ?_)))))))))))))))); refine WO.cons (OP.ldI (by assumption) rfl (by omega) ?_); refine WO.cons (OP.mv rfl (WO.cons (OP.neqF rfl rfl (by omega) ?_))); refine WO.nil (WC.condF rfl (WC.skip (WC.seq (WC.ops (WO.cons (OP.mv rfl (WO.cons (OP.mv rfl (WO.cons (OP.mv rfl ?_)))))))))); dsimp only [thn_normal, thn_ret, thn_exit, blk_normal, blk_ret])
        (refine WO.cons ?_)
        refine OL.callAp hL rfl rfl (with_run hX2 hF2 ha hn hlim (by omega)) (fun a' h2 hp hL => ?_)
        (refine WO.cons (OP.mv rfl (WO.cons (OP.mv rfl (WO.cons (OP.mv rfl (WO.nil (WC.ret ?_))))))))
        have hs : SwapM xs k old x = (xs.set k.toNat x, true, 0) := by unfold SwapM; rw [if_pos ⟨ht, hx⟩, hgd, if_pos ho]
        refine Fin.ret rfl ⟨hL.pfx, .slice a' n n, ?_, ?_⟩
        · rw [hs]; rfl
        · rw [hs]; exact ⟨a', n, rfl, hL.apOut (k := 0) rfl⟩
      · (refine WO.yes rfl (WO.cons (OP.not rfl (WO.cons (OP.pickF rfl rfl (WO.nil (WC.condF rfl (WC.skip (WC.seq (WC.seq (WC.ops (WO.cons (OP.mv rfl (WO.cons (OP.mv rfl (WO.cons (OP.idxZ (by assumption) rfl rfl (by omega) ?_)))))))))))))))); refine WO.cons (OP.ldI (by assumption) rfl (by omega) ?_); refine WO.cons (OP.mv rfl (WO.cons (OP.neqT rfl rfl (by omega) ?_))); refine WO.nil (WC.condT rfl (WC.seq (WC.ops ?_))); dsimp only [thn_normal, thn_ret, thn_exit, blk_normal, blk_ret])
        (refine WO.cons ?_; refine OL.buildSlice hL rfl (by simp [over, Value.cells]; rfl) rfl (fun b h1 hL => ?_))
        (refine WO.cons (OP.mv rfl ?_))
        (refine WO.cons ?_)
        refine OL.copy hL rfl (fun x hx => by injection hx with hx; subst hx; rfl) rfl (by (exact (Sl.pfx (by assumption) (Loc.pfx hL)))) (room8 (by omega)) (ints_ok xs) (fun a' h2 hp hL => ?_)
        (refine WO.cons (OP.mv rfl (WO.cons (OP.mv rfl (WO.cons (OP.mv rfl (WO.nil (WC.ret ?_))))))); dsimp only [thn_normal, thn_ret, thn_exit, blk_normal, blk_ret])
        have hs : SwapM xs k old x = (xs, false, 0) := by unfold SwapM; rw [if_pos ⟨ht, hx⟩, hgd, if_neg ho]
        refine Fin.ret rfl ⟨hL.pfx, .slice a' n n, ?_, ?_⟩
        · rw [hs]; rfl
        · rw [hs]; exact ⟨a', n, rfl, hL.apOut (k := 0) rfl⟩
    · have hx' : ¬ (0 ≤ x ∧ x ≤ 1048576) := hx
      rw [decide_eq_false hx']
      (refine WO.yes rfl (WO.cons (OP.not rfl (WO.cons (OP.pickF rfl rfl (WO.nil (WC.condT rfl (WC.seq (WC.ops (WO.cons (OP.mv rfl (WO.cons (OP.mv rfl (WO.cons (OP.mv rfl (WO.nil (WC.ret ?_)))))))))))))))); dsimp only [thn_normal, thn_ret, thn_exit, blk_normal, blk_ret])
      have hs : SwapM xs k old x = ([], false, 100) := by unfold SwapM; rw [if_neg (fun h => hx h.2)]
      refine Fin.ret rfl ⟨hL.pfx, .slice none 0 0, ?_, ?_⟩
      · rw [hs]; rfl
      · rw [hs]; exact ⟨none, 0, rfl, Ap.nil _ _ _ _⟩
  · simp only [ht, decide_false]
    (refine WO.cons (OP.not rfl (WO.cons (OP.mv rfl (WO.no rfl (WO.no rfl (WO.no rfl (WO.cons (OP.pickT rfl rfl (WO.nil (WC.condT rfl (WC.seq (WC.ops (WO.cons (OP.mv rfl (WO.cons (OP.mv rfl (WO.cons (OP.mv rfl (WO.nil (WC.ret ?_)))))))))))))))))))); dsimp only [thn_normal, thn_ret, thn_exit, blk_normal, blk_ret])
    have hs : SwapM xs k old x = ([], false, 100) := by unfold SwapM; rw [if_neg (fun h => ht h.1)]
    refine Fin.ret rfl ⟨hL.pfx, .slice none 0 0, ?_, ?_⟩
    · rw [hs]; rfl
    · rw [hs]; exact ⟨none, 0, rfl, Ap.nil _ _ _ _⟩

theorem rAdd_run {g0 g1 g2 g3 : Nat} (hX : X f = none) (hF : F f = some (rf_rAdd g0 g1 g2)) (hX1 : X g1 = none) (hF1 : F g1 = some (rf_cellMay g3)) (hX2 : X g2 = none) (hF2 : F g2 = some rf_with) (hX3 : X g3 = none) (hF3 : F g3 = some rf_upTo)
    {a : Option Addr} {n c : Nat} {xs : List Int} {k y : Int} (ha : Sl 1 h a n c (ints xs)) (hn : n ≤ 2 ^ 44) (hlim : lim ≤ h.length) (hth : Ret X F lim g0 [.slice a n c, .int .i64 k] h fun v h' => v = .bool (decide (There xs k)) ∧ h' = h) :
    Ret X F lim f [.slice a n c, .int .i64 k, .int .i64 y] h fun v h' => Pfx h h' ∧ ∃ u, v = .tuple #[u, .int .i64 (AddM xs k y).2.1, .int .i64 (AddM xs k y).2.2] ∧ MadeI h h' u (AddM xs k y).1 := by
  have hxn := ha.ilen
  have hL := Loc.start h
  refine Ret.body hX hF rfl ?_
  simp only [argL, rf_rAdd]
  (refine WC.seq (WC.ops (WO.cons (OP.mv rfl (WO.cons (OP.mv rfl (WO.cons (OP.mv rfl (WO.nil (WC.seq (WC.seq (WC.ops (WO.cons (OP.mv rfl (WO.cons (OP.mv rfl ?_))))))))))))))); dsimp only [thn_normal, thn_ret, thn_exit, blk_normal, blk_ret])
  (refine WO.cons ?_)
  refine OP.call rfl rfl (Ret.mono hth fun v h1 hv => ?_)
  obtain ⟨rfl, rfl⟩ := hv
  by_cases ht : There xs k
  · simp only [ht, decide_true]
    have h0 := ht.2.2
    obtain ⟨hkl, hg2, hg3⟩ := ht.get
    have hgd : xs.getD k.toNat 0 = xs[k.toNat] := by simp [List.getD, hkl]
    have hw := hgd
    rw [hgd] at hg2 hg3
    by_cases hc1 : y < -1048576
    · (refine WO.cons (OP.not rfl (WO.cons (OP.mv rfl (WO.yes rfl (WO.cons (OP.mv rfl (WO.yes rfl (WO.cons (OP.lssT rfl rfl (by omega) ?_))))))))); refine WO.cons (OP.pickF rfl rfl (WO.cons (OP.mv rfl (WO.no rfl (WO.no rfl (WO.cons (OP.pickT rfl rfl (WO.cons (OP.mv rfl (WO.no rfl (WO.no rfl (WO.no rfl (WO.no rfl (WO.no rfl (WO.no rfl (WO.no rfl (WO.no rfl (WO.cons (OP.pickT rfl rfl (WO.nil (WC.condT rfl (WC.seq (WC.ops (WO.cons (OP.mv rfl (WO.cons (OP.mv rfl (WO.cons (OP.mv rfl (WO.nil (WC.ret ?_))))))))))))))))))))))))))))))); dsimp only [thn_normal, thn_ret, thn_exit, blk_normal, blk_ret])
      have hs : AddM xs k y = ([], 0, 100) := by unfold AddM; rw [if_neg (fun h => by have := h.2.1; rw [hw] at this; omega)]
      refine Fin.ret rfl ⟨hL.pfx, .slice none 0 0, ?_, ?_⟩
      · rw [hs]; rfl
      · rw [hs]; exact ⟨none, 0, rfl, Ap.nil _ _ _ _⟩
    · by_cases hc2 : y > 1048576
      · (refine WO.cons (OP.not rfl (WO.cons (OP.mv rfl (WO.yes rfl (WO.cons (OP.mv rfl (WO.yes rfl (WO.cons (OP.lssF rfl rfl (by omega) ?_))))))))); refine WO.cons (OP.pickF rfl rfl (WO.cons (OP.mv rfl (WO.yes rfl (WO.cons (OP.mv rfl (WO.yes rfl (WO.cons (OP.gtrT rfl rfl (by omega) ?_))))))))); refine WO.cons (OP.pickF rfl rfl (WO.cons (OP.mv rfl (WO.no rfl (WO.no rfl (WO.no rfl (WO.no rfl (WO.no rfl (WO.no rfl (WO.no rfl (WO.no rfl (WO.cons (OP.pickT rfl rfl (WO.nil (WC.condT rfl (WC.seq (WC.ops (WO.cons (OP.mv rfl (WO.cons (OP.mv rfl (WO.cons (OP.mv rfl (WO.nil (WC.ret ?_))))))))))))))))))))))))); dsimp only [thn_normal, thn_ret, thn_exit, blk_normal, blk_ret])
        have hs : AddM xs k y = ([], 0, 100) := by unfold AddM; rw [if_neg (fun h => by have := h.2.2; rw [hw] at this; omega)]
        refine Fin.ret rfl ⟨hL.pfx, .slice none 0 0, ?_, ?_⟩
        · rw [hs]; rfl
        · rw [hs]; exact ⟨none, 0, rfl, Ap.nil _ _ _ _⟩
      · (refine WO.cons (OP.not rfl (WO.cons (OP.mv rfl (WO.yes rfl (WO.cons (OP.mv rfl (WO.yes rfl (WO.cons (OP.lssF rfl rfl (by omega) ?_))))))))); refine WO.cons (OP.pickF rfl rfl (WO.cons (OP.mv rfl (WO.yes rfl (WO.cons (OP.mv rfl (WO.yes rfl (WO.cons (OP.gtrF rfl rfl (by omega) ?_))))))))); refine WO.cons (OP.pickF rfl rfl (WO.cons (OP.mv rfl (WO.yes rfl (WO.cons (OP.mv rfl (WO.yes rfl (WO.cons (OP.mv rfl (WO.yes rfl (WO.cons (OP.idxZ (by assumption) rfl rfl (by omega) ?_)))))))))))); refine WO.yes rfl (WO.cons (OP.ldI (by assumption) rfl (by omega) ?_)); refine WO.yes rfl (WO.cons (OP.mv rfl (WO.yes rfl (WO.cons (OP.add rfl rfl (by omega) ?_))))); refine WO.yes rfl ?_)
        (refine WO.cons ?_)
        refine OP.call rfl rfl (Ret.mono (cellMay_run hX1 hF1 hX3 hF3) fun v h' hv => ?_)
        obtain ⟨rfl, rfl⟩ := hv
        by_cases hx : CellOk (xs[k.toNat] + y)
        · have hx' : 0 ≤ xs[k.toNat] + y ∧ xs[k.toNat] + y ≤ 1048576 := hx
          rw [decide_eq_true hx']
          (refine WO.yes rfl (WO.cons (OP.not rfl (WO.cons (OP.pickF rfl rfl (WO.nil (WC.condF rfl (WC.skip (WC.seq (WC.ops (WO.consQ (OP.mv rfl (WO.consQ (OP.mv rfl (WO.consQ (OP.mv rfl (WO.consQ (OP.mv rfl (WO.consQ (OP.idxZ (by assumption) rfl rfl (by omega) ?_))))))))))))))))))); refine WO.consQ (OP.ldI (by assumption) rfl (by omega) ?_); refine WO.consQ (OP.mv rfl (WO.consQ (OP.add rfl rfl (by omega) ?_))); dsimp only [thn_normal, thn_ret, thn_exit, blk_normal, blk_ret])
          (refine WO.consQ ?_)
          refine OL.callAp hL rfl rfl (with_run hX2 hF2 ha hn (Nat.le_refl _) (by omega)) (fun a' h2 hp hL => ?_)
          have ha2 := ha.pfx hp
          (refine WO.consQ (OP.mv rfl (WO.consQ (OP.mv rfl (WO.consQ (OP.idxZ (by assumption) rfl rfl (by omega) ?_))))); refine WO.consQ (OP.ldI (by assumption) rfl (by omega) ?_); refine WO.consQ (OP.mv rfl (WO.cons (OP.mv rfl (WO.cons (OP.mv rfl (WO.nil (WC.ret ?_))))))))
          have hs : AddM xs k y = (xs.set k.toNat (xs[k.toNat] + y), xs[k.toNat], 0) := by unfold AddM; rw [hw, if_pos ⟨ht, hx⟩]
          refine Fin.ret rfl ⟨hL.pfx, .slice a' n n, ?_, ?_⟩
          · rw [hs]; rfl
          · rw [hs]; exact ⟨a', n, rfl, hL.apOut (k := 0) rfl⟩
        · have hx' : ¬ (0 ≤ xs[k.toNat] + y ∧ xs[k.toNat] + y ≤ 1048576) := hx
          rw [decide_eq_false hx']
          (refine WO.yes rfl (WO.cons (OP.not rfl (WO.cons (OP.pickF rfl rfl (WO.nil (WC.condT rfl (WC.seq (WC.ops (WO.cons (OP.mv rfl (WO.cons (OP.mv rfl (WO.cons (OP.mv rfl (WO.nil (WC.ret ?_)))))))))))))))); dsimp only [thn_normal, thn_ret, thn_exit, blk_normal, blk_ret])
          have hs : AddM xs k y = ([], 0, 100) := by unfold AddM; rw [if_neg (fun h => hx (hw ▸ h.2))]
          refine Fin.ret rfl ⟨hL.pfx, .slice none 0 0, ?_, ?_⟩
          · rw [hs]; rfl
          · rw [hs]; exact ⟨none, 0, rfl, Ap.nil _ _ _ _⟩
  · simp only [ht, decide_false]
    (refine WO.cons (OP.not rfl (WO.cons (OP.mv rfl (WO.no rfl (WO.no rfl (WO.cons (OP.pickT rfl rfl (WO.cons (OP.mv rfl (WO.no rfl (WO.no rfl (WO.cons (OP.pickT rfl rfl (WO.cons (OP.mv rfl (WO.no rfl (WO.no rfl (WO.no rfl (WO.no rfl (WO.no rfl (WO.no rfl (WO.no rfl (WO.no rfl (WO.cons (OP.pickT rfl rfl (WO.nil (WC.condT rfl (WC.seq (WC.ops (WO.cons (OP.mv rfl (WO.cons (OP.mv rfl (WO.cons (OP.mv rfl (WO.nil (WC.ret ?_))))))))))))))))))))))))))))))))))))); dsimp only [thn_normal, thn_ret, thn_exit, blk_normal, blk_ret])
    have hs : AddM xs k y = ([], 0, 100) := by unfold AddM; rw [if_neg (fun h => ht h.1)]
    refine Fin.ret rfl ⟨hL.pfx, .slice none 0 0, ?_, ?_⟩
    · rw [hs]; rfl
    · rw [hs]; exact ⟨none, 0, rfl, Ap.nil _ _ _ _⟩
end
end Go.Proofs.YtojkcbcdoljadaaW.Ai
