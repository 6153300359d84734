/-
 The small machine: slices of records. Of no program.
-/
import Derived.Test.YtalknjppnkpmmaaDoorMd
set_option linter.unusedVariables false
set_option linter.unusedSimpArgs false
namespace Go.Proofs.YtalknjppnkpmmaaDoorW.Ai
section
def recs {α : Type} (enc : α → List Value) (ss : List α) : List Value := ss.flatMap enc
section
variable {α : Type} {enc : α → List Value} {sz : Nat}
theorem recs_len (he : ∀ s, (enc s).length = sz) : ∀ ss : List α, (recs enc ss).length = ss.length * sz
 | [] => by simp [recs]
 | s :: ss => by
  have := recs_len he ss
  unfold recs at *
  rw [List.flatMap_cons, List.length_append, this, he, List.length_cons, Nat.succ_mul, Nat.add_comm]
theorem recs_drop (he : ∀ s, (enc s).length = sz) : ∀ (ss : List α) (j : Nat), (recs enc ss).drop (j * sz) = recs enc (ss.drop j)
 | ss, 0 => by simp
 | [], j + 1 => by simp [recs]
 | s :: ss, j + 1 => by
  have := recs_drop he ss j
  unfold recs at *
  rw [List.flatMap_cons, List.drop_succ_cons, ← this, Nat.succ_mul, Nat.add_comm, ← List.drop_drop, List.drop_left' (he s)]
theorem recs_elem (he : ∀ s, (enc s).length = sz) {ss : List α} {j : Nat} (hj : j < ss.length) : ((recs enc ss).drop (j * sz)).take sz = enc ss[j] := by
 rw [recs_drop he, List.drop_eq_getElem_cons hj]
 unfold recs
 rw [List.flatMap_cons, List.take_left' (he _)]
theorem recs_get (he : ∀ s, (enc s).length = sz) {ss : List α} {j f : Nat} (hj : j < ss.length) (hf : f < sz) : (recs enc ss)[j * sz + f]? = (enc ss[j])[f]? := by
 rw [← recs_elem he hj, List.getElem?_take, if_pos hf, List.getElem?_drop]
end
section
variable {X : Ext} {F : FuncId → Option RFunc} {lim : Nat} {L : Al} {h : AH} {K : Value → AH → Prop}
variable {α : Type} {enc : α → List Value} {sz : Nat}
theorem Sl.rlen {a : Option Addr} {n c : Nat} {ss : List α} (hs : Sl sz h a n c (recs enc ss)) (he : ∀ s, (enc s).length = sz) (hz : 0 < sz) : ss.length = n := by
 have := hs.2.2.1
 rw [recs_len he] at this
 exact Nat.eq_of_mul_eq_mul_right hz this
theorem OP.ldR {x : Operand} {a : Option Addr} {n c j : Nat} {ss : List α} (he : ∀ s, (enc s).length = sz) (hz : 0 < sz) (hs : Sl sz h a n c (recs enc ss)) (hx : lev L x = some (eptr sz a j)) (hj : j < ss.length) (hk : K (.agg (enc ss[j]).toArray) h) : OP X F lim (.load (some sz) x) L h K :=
 .loadV hx (by rw [hs.loadN hz (by rw [← hs.rlen he hz]; exact hj), recs_elem he hj]) hk
def fptr (sz : Nat) (a : Option Addr) (j f : Nat) : Value :=
 match a with
 | some x => .pointer (some ⟨x.block, x.off + j * sz + f, none⟩)
 | none => .pointer none
theorem OP.fieldE {x : Operand} {a : Option Addr} {n c j off : Nat} {cs : List Value} (hs : Sl sz h a n c cs) (hx : lev L x = some (eptr sz a j)) (hj : j < n) (hk : K (fptr sz a j off) h) : OP X F lim (.fieldAddr off x) L h K := by
 obtain ⟨b, o, m, rfl⟩ := hs.none_iff (by omega)
 exact .fieldAddr hx hk
theorem OP.ldF {x : Operand} {a : Option Addr} {n c j f : Nat} {ss : List α} {v : Value} (he : ∀ s, (enc s).length = sz) (hs : Sl sz h a n c (recs enc ss)) (hx : lev L x = some (fptr sz a j f)) (hj : j < ss.length) (hf : f < sz) (hv : (enc ss[j])[f]? = some v) (hk : K v h) : OP X F lim (.load none x) L h K := by
 have hn : ss.length = n := hs.rlen he (by omega)
 obtain ⟨b, o, m, rfl⟩ := hs.none_iff (by omega)
 exact .loadV hx (hs.loadF hf (by rw [recs_get he hj hf]; exact hv) rfl) hk
end
structure SlotR where
 c : Int
 r : Int
 a : Int
 t : Int
 b : Int
 deriving DecidableEq
def slotC (s : SlotR) : List Value := [.int .i64 s.c, .int .i64 s.r, .int .i64 s.a, .int .i64 s.t, .int .i64 s.b]
structure OpR where
 c : Int
 r : Int
 a : Int
 deriving DecidableEq
def opC (s : OpR) : List Value := [.int .i64 s.c, .int .i64 s.r, .int .i64 s.a]
theorem opC_len (s : OpR) : (opC s).length = 3 := rfl
end
section
theorem boolT {p : Prop} [Decidable p] (hp : p) : Value.bool true = .bool (decide p) := by simp [hp]
theorem decIff {p q : Prop} [Decidable p] [Decidable q] (h : p ↔ q) : decide p = decide q := by simp [h]
theorem boolF {p : Prop} [Decidable p] (hp : ¬ p) : Value.bool false = .bool (decide p) := by simp [hp]
section
variable {X : Ext} {F : FuncId → Option RFunc} {lim : Nat} {L : Al} {h0 h : AH} {K : Value → AH → Prop} {R : XT → Al → AH → Prop} {l : List Item}
theorem OP.lssC {x y : Operand} {k : IntKind} {a b : Int} (hx : lev L x = some (.int k a)) (hy : lev L y = some (.int k b)) (ht : a < b → K (.bool true) h) (hf : ¬ a < b → K (.bool false) h) : OP X F lim (.bin .lss x y) L h K := by
 by_cases hr : a < b
 ·exact .lssT hx hy hr (ht hr)
 ·exact .lssF hx hy hr (hf hr)
theorem OP.leqC {x y : Operand} {k : IntKind} {a b : Int} (hx : lev L x = some (.int k a)) (hy : lev L y = some (.int k b)) (ht : a ≤ b → K (.bool true) h) (hf : ¬ a ≤ b → K (.bool false) h) : OP X F lim (.bin .leq x y) L h K := by
 by_cases hr : a ≤ b
 ·exact .leqT hx hy hr (ht hr)
 ·exact .leqF hx hy hr (hf hr)
theorem OP.gtrC {x y : Operand} {k : IntKind} {a b : Int} (hx : lev L x = some (.int k a)) (hy : lev L y = some (.int k b)) (ht : a > b → K (.bool true) h) (hf : ¬ a > b → K (.bool false) h) : OP X F lim (.bin .gtr x y) L h K := by
 by_cases hr : a > b
 ·exact .gtrT hx hy hr (ht hr)
 ·exact .gtrF hx hy hr (hf hr)
theorem OP.geqC {x y : Operand} {k : IntKind} {a b : Int} (hx : lev L x = some (.int k a)) (hy : lev L y = some (.int k b)) (ht : a ≥ b → K (.bool true) h) (hf : ¬ a ≥ b → K (.bool false) h) : OP X F lim (.bin .geq x y) L h K := by
 by_cases hr : a ≥ b
 ·exact .geqT hx hy hr (ht hr)
 ·exact .geqF hx hy hr (hf hr)
theorem OP.eqlC {x y : Operand} {k : IntKind} {a b : Int} (hx : lev L x = some (.int k a)) (hy : lev L y = some (.int k b)) (ht : a = b → K (.bool true) h) (hf : ¬ a = b → K (.bool false) h) : OP X F lim (.bin .eql x y) L h K := by
 by_cases hr : a = b
 ·exact .eqlT hx hy hr (ht hr)
 ·exact .eqlF hx hy hr (hf hr)
theorem OP.fieldAddr0 {off : Nat} {x : Operand} {b : Nat} (hx : lev L x = some (.pointer (some ⟨b, 0, none⟩))) (hk : K (.pointer (some ⟨b, off, none⟩)) h) : OP X F lim (.fieldAddr off x) L h K := .fieldAddr hx (by rw [Nat.zero_add]; exact hk)
theorem Loc.lm (hL : Loc h0 h l) (hlim : lim ≤ h0.length) : lim ≤ h.length := Nat.le_trans hlim hL.len
theorem OL.storeAll {n : Nat} {x y : Operand} {b k : Nat} {cs vs : List Value} {l' : List Item} (hL : Loc h0 h l) (hlim : lim ≤ h0.length) (hx : lev L x = some (.pointer (some ⟨b, 0, none⟩))) (hy : lev L y = some (.agg vs.toArray)) (hn : vs.length = n) (hc : l[k]? = some (bx b cs)) (hcs : cs.length = n) (hok : vs.all cellOk = true) (hpos : 0 < n)
  (hl' : l.set k (bx b vs) = l') (hk : ∀ h', Loc h0 h' l' → K undef h') : OP X F lim (.store n x y) L h K :=
 OL.store hL hlim hx hy (by simp [Value.cells]) hn hc hok (by omega) hpos (by unfold over; simp; omega) hl' hk
theorem OL.store1 {x y : Operand} {b o k : Nat} {cs cs' : List Value} {v : Value} {l' : List Item} (hL : Loc h0 h l) (hlim : lim ≤ h0.length) (hx : lev L x = some (.pointer (some ⟨b, o, none⟩))) (hy : lev L y = some v) (hv : cellOk v = true) (hc : l[k]? = some (bx b cs)) (ho : Nat.ble (o + 1) cs.length = true)
  (hcs : cs.set o v = cs') (hl' : l.set k (bx b cs') = l') (hk : ∀ h', Loc h0 h' l' → K undef h') : OP X F lim (.store 1 x y) L h K := by
 have ho' : o + 1 ≤ cs.length := Nat.le_of_ble_eq_true ho
 exact OL.store hL hlim hx hy (cells_one hv) rfl hc (by simp [hv]) ho' (by omega) (by rw [over_one v (by omega)]; exact hcs) hl' hk
theorem OL.mkSlice {z : List Value} {bytes n : Nat} {x y : Operand} (hL : Loc h0 h l) (hx : lev L x = some (.int .i64 (n : Int))) (hy : lev L y = some (.int .i64 (n : Int))) (hb : bytes * n ≤ 2 ^ 48 ∧ n < 2 ^ 62) (hk : ∀ b h', Loc h0 h' (bx b (reps z n) :: l) → K (.slice (some ⟨b, 0, none⟩) n n) h') : OP X F lim (.mkSlice z bytes x y) L h K := fun e he => by
 refine ⟨0, .slice (some ⟨h.length, 0, none⟩) n n, h ++ [.cells (reps z n)], ?_, hk _ _ (hL.new _)⟩
 simp only [aop, he.ev hx, he.ev hy]
 rw [if_pos ⟨by omega, by omega, by have := hb.1; omega, by omega⟩]
 rfl
theorem WO.noU {Q : Al → AH → Prop} {l : List RO} {d : Nat} {p : ROp} {t : Nat} {b : Bool} {q : Bool} {av : List Operand} (ht : look L t = some undef) (W : WO X F lim l ((d, undef) :: L) h Q) : WO X F lim (⟨some d, p, some (t, b), q, av⟩ :: l) L h Q := fun e he => by
 obtain ⟨k, e2, h2, L2, h3, h4, h5⟩ := W _ (he.upd d undef)
 refine ⟨k, e2, h2, L2, ?_, h4, h5⟩
 have hw : wanted e ⟨some d, p, some (t, b), q, av⟩ = false := by simp only [wanted, he t _ ht]; rfl
 simp only [aops]
 rw [if_neg (by rw [hw]; decide)]
 exact h3
theorem OL.callB {f : Operand} {g : FuncId} {xs : List Operand} {vs : List Value} {p : Prop} [Decidable p] (hL : Loc h0 h l) (hf : lev L f = some (.func (.func g) #[] #[])) (ha : levs L xs = some vs) (hr : Ret X F lim g vs h fun v h' => Pfx h h' ∧ v = .bool (decide p))
  (ht : ∀ h', Pfx h h' → Loc h0 h' l → p → K (.bool true) h') (hn : ∀ h', Pfx h h' → Loc h0 h' l → ¬ p → K (.bool false) h') : OP X F lim (.call f xs) L h K := by
 refine OL.call hL hf ha hr (fun v h' hp hL hv => ?_)
 subst hv
 by_cases hq : p
 ·rw [decide_eq_true hq]; exact ht h' hp hL hq
 ·rw [decide_eq_false hq]; exact hn h' hp hL hq
theorem OL.callV {f : Operand} {g : FuncId} {xs : List Operand} {vs : List Value} {V : Value} (hL : Loc h0 h l) (hf : lev L f = some (.func (.func g) #[] #[])) (ha : levs L xs = some vs) (hr : Ret X F lim g vs h fun v h' => Pfx h h' ∧ v = V)
  (hk : ∀ h', Pfx h h' → Loc h0 h' l → K V h') : OP X F lim (.call f xs) L h K := by
 refine OL.call hL hf ha hr (fun v h' hp hL hv => ?_)
 subst hv
 exact hk h' hp hL
theorem WC.unroll {body : RC} (W : WC X F lim body L h (thn (fun L' h' => WC X F lim (.loop body) L' h' R) R)) : WC X F lim (.loop body) L h R := fun e he => by
 obtain ⟨k, x, e2, h2, L2, h3, h4, h5⟩ := W e he
 cases x with
 | normal =>
  obtain ⟨k', x', e3, h3', L3, g1, g2, g3⟩ := h5 e2 h4
  refine ⟨max k k' + 1, x', e3, h3', L3, ?_, g2, g3⟩
  simp only [acode] at g1 ⊢
  simp only [aloop]
  refine Option.bind_eq_some_iff.2 ⟨_, acode_mono (acall_mono (by omega)) (by omega) h3, ?_⟩
  simp only
  exact aloop_mono (fun e h x hx => acode_mono (acall_mono (by omega)) (by omega) hx) (by omega) g1
 | exit id => exact ⟨k + 1, _, e2, h2, L2, by simp only [acode, aloop, acode_mono (acall_mono (Nat.le_succ k)) (Nat.le_succ k) h3, Option.bind_some], h4, h5⟩
 | ret => exact ⟨k + 1, _, e2, h2, L2, by simp only [acode, aloop, acode_mono (acall_mono (Nat.le_succ k)) (Nat.le_succ k) h3, Option.bind_some], h4, h5⟩
theorem Ret.pfx {f : FuncId} {args : List Value} {V : Value} (hr : Ret X F lim f args h fun v h' => v = V ∧ h' = h) : Ret X F lim f args h fun v h' => Pfx h h' ∧ v = V := hr.mono fun v h' ⟨h1, h2⟩ => ⟨h2 ▸ Pfx.refl _, h1⟩
end
/-! ### masks, remainders, unsigned numbers -/
def mask (a b : Int) : Int := IntKind.i64.wrap ((BitVec.ofInt IntKind.i64.bits a &&& BitVec.ofInt IntKind.i64.bits b).toNat : Int)
theorem mask_rng (a : Int) {b : Int} (h0 : 0 ≤ b) (h1 : b < 2 ^ 62) : 0 ≤ mask a b ∧ mask a b ≤ b := by
 have e : (BitVec.ofInt IntKind.i64.bits b).toNat = b.toNat := by
  show (BitVec.ofInt 64 b).toNat = _
  rw [BitVec.toNat_ofInt]
  have : b % ((2 ^ 64 : Nat) : Int) = b := Int.emod_eq_of_lt h0 (by omega)
  rw [this]
 have h2 : (BitVec.ofInt IntKind.i64.bits a &&& BitVec.ofInt IntKind.i64.bits b).toNat ≤ b.toNat := by
  rw [BitVec.toNat_and, e]
  exact Nat.and_le_right
 unfold mask
 generalize (BitVec.ofInt IntKind.i64.bits a &&& BitVec.ofInt IntKind.i64.bits b).toNat = m at h2
 rw [wrap64 (by omega) (by omega)]
 omega
section
variable {X : Ext} {F : FuncId → Option RFunc} {lim : Nat} {L : Al} {h : AH} {K : Value → AH → Prop}
theorem OP.andC {x y : Operand} {a b : Int} (hx : lev L x = some (.int .i64 a)) (hy : lev L y = some (.int .i64 b)) (hb : 0 ≤ b ∧ b < 4611686018427387904) (hk : ∀ m : Int, m = mask a b → 0 ≤ m ∧ m ≤ b → K (.int .i64 m) h) : OP X F lim (.bin .and x y) L h K :=
 .bin hx hy (by simp only [aBin, if_true]; rfl) (hk (mask a b) rfl (mask_rng a hb.1 hb.2))
theorem OP.convI {k' : IntKind} {x : Operand} {a : Int} (hx : lev L x = some (.int k' a)) (hr : -9223372036854775808 ≤ a ∧ a ≤ 9223372036854775807) (hk : K (.int .i64 a) h) : OP X F lim (.conv .i64 x) L h K := .conv hx (by rw [wrap64 hr.1 hr.2]; exact hk)
theorem wrapU (a : Int) : 0 ≤ IntKind.u64.wrap a ∧ IntKind.u64.wrap a < 18446744073709551616 ∧ (0 ≤ a → a < 18446744073709551616 → IntKind.u64.wrap a = a) := by
 have : IntKind.u64.wrap a = a % 18446744073709551616 := by
  first | rfl | (simp [IntKind.wrap, IntKind.bits, IntKind.signed])
 rw [this]
 omega
theorem OP.convU {k' : IntKind} {x : Operand} {a : Int} (hx : lev L x = some (.int k' a)) (hk : ∀ u : Int, 0 ≤ u ∧ u < 18446744073709551616 ∧ (0 ≤ a → a < 18446744073709551616 → u = a) → K (.int .u64 u) h) : OP X F lim (.conv .u64 x) L h K := .conv hx (hk _ (wrapU a))
theorem OP.remP {k : IntKind} {x y : Operand} {a b : Int} (hx : lev L x = some (.int k a)) (hy : lev L y = some (.int k b)) (ha : 0 ≤ a) (hb : 0 < b) (hk : ∀ m : Int, m = a % b → 0 ≤ m ∧ m < b → K (.int k m) h) : OP X F lim (.bin .rem x y) L h K :=
 .bin hx hy (by simp only [aBin, if_true]; rw [if_neg (by omega)]) (by rw [Int.tmod_eq_emod_of_nonneg ha]; exact hk _ rfl ⟨Int.emod_nonneg _ (by omega), Int.emod_lt_of_pos _ hb⟩)
theorem OP.quoP {x y : Operand} {a b : Int} (hx : lev L x = some (.int .i64 a)) (hy : lev L y = some (.int .i64 b)) (ha : 0 ≤ a ∧ a < 9223372036854775807) (hb : 0 < b) (hk : ∀ m : Int, m = a / b → 0 ≤ m ∧ m ≤ a → K (.int .i64 m) h) : OP X F lim (.bin .quo x y) L h K := by
 have h1 : a.tdiv b = a / b := Int.tdiv_eq_ediv_of_nonneg ha.1
 have h2 : 0 ≤ a / b := Int.ediv_nonneg ha.1 (by omega)
 have h3 : a / b ≤ a := Int.ediv_le_self _ ha.1
 refine .bin hx hy (by simp only [aBin, if_true]; rw [if_neg (by omega)]) ?_
 rw [h1, wrap64 (by omega) (by omega)]
 exact hk _ rfl ⟨h2, h3⟩
theorem OP.mulI {x y : Operand} {a b : Int} (hx : lev L x = some (.int .i64 a)) (hy : lev L y = some (.int .i64 b)) (hr : -9223372036854775808 ≤ a * b ∧ a * b ≤ 9223372036854775807) (hk : K (.int .i64 (a * b)) h) : OP X F lim (.bin .mul x y) L h K :=
 .bin hx hy (v := .int .i64 (a * b)) (by simp only [aBin, if_true]; rw [wrap64 hr.1 hr.2]) hk
end
abbrev S_yes (X : Ext) (F : FuncId → Option RFunc) (g : FuncId) : Prop := ∀ (lim : Nat) (h : AH), Ret X F lim g [] h fun v h' => Pfx h h' ∧ v = .bool true
end
end Go.Proofs.YtalknjppnkpmmaaDoorW.Ai
