/-
  The small machine: what one knows of a heap while one walks; the operations' rules. Of no program.
-/
import Derived.Test.YtmikcpgkppkmiaaAi22
set_option linter.unusedVariables false
set_option linter.unusedSimpArgs false
namespace Go.Proofs.YtmikcpgkppkmiaaW.Ai

/-! ### what one knows of a heap -/
/-- Something told of the blocks from a place to a place. -/
structure Item where
  lo : Nat
  hi : Nat
  P : AH → Prop
  dep : ∀ h h', (∀ b, lo ≤ b → b < hi → h'[b]? = h[b]?) → P h → P h'
/-- One block's cells. -/
def bx (b : Nat) (cs : List Value) : Item := ⟨b, b + 1, fun h => h[b]? = some (.cells cs), fun h h' hh hp => by rw [hh b (Nat.le_refl _) (by omega)]; exact hp⟩
/-- A slice's cells: so many elements of so many cells each. -/
def Sl (sz : Nat) (h : AH) (a : Option Addr) (n c : Nat) (cs : List Value) : Prop := aElems sz h n (.slice a n c) = some cs ∧ n ≤ c ∧ cs.length = n * sz ∧ (a = none → c = 0)
/-- It lies there, or is empty. -/
def Within (lo hi : Nat) (sz : Nat) (a : Option Addr) (n : Nat) : Prop := ∀ x, a = some x → 0 < n * sz → lo ≤ x.block ∧ x.block < hi

theorem aElems_at {sz n : Nat} {h h' : AH} {a : Option Addr} {c : Nat} {cs : List Value} (hs : aElems sz h n (.slice a n c) = some cs) (hb : ∀ x, a = some x → 0 < n * sz → x.block < h.length → h'[x.block]? = h[x.block]?) : aElems sz h' n (.slice a n c) = some cs := by
  cases a with
  | none => exact hs
  | some x =>
    obtain ⟨b, o, m⟩ := x
    simp only [aElems] at hs ⊢
    split at hs
    · rename_i hn
      rw [if_pos hn]
      split at hs
      · rename_i h0; rw [if_pos h0]; exact hs
      · rename_i h0
        rw [if_neg h0]
        obtain ⟨ds, h1, h2⟩ := Option.bind_eq_some_iff.1 hs
        refine Option.bind_eq_some_iff.2 ⟨ds, ?_, h2⟩
        unfold cellsOf at h1 ⊢
        have hlt : b < h.length := by
          split at h1
          · rename_i h3; exact (List.getElem?_eq_some_iff.1 h3).1
          · cases h1
        rw [hb ⟨b, o, m⟩ rfl (by omega) hlt]
        exact h1
    · cases hs
theorem Sl.same {sz n c : Nat} {h h' : AH} {a : Option Addr} {cs : List Value} (hs : Sl sz h a n c cs) (hb : ∀ x, a = some x → 0 < n * sz → x.block < h.length → h'[x.block]? = h[x.block]?) : Sl sz h' a n c cs := ⟨aElems_at hs.1 hb, hs.2⟩
theorem Sl.pfx {sz n c : Nat} {h h' : AH} {a : Option Addr} {cs : List Value} (hs : Sl sz h a n c cs) (hp : Pfx h h') : Sl sz h' a n c cs := hs.same fun x _ _ hb => hp.2 _ hb
/-- A slice that lies between. -/
def sl (lo hi sz : Nat) (a : Option Addr) (n c : Nat) (cs : List Value) : Item := ⟨lo, hi, fun h => Sl sz h a n c cs ∧ Within lo hi sz a n, fun h h' hh hp => ⟨hp.1.same fun x hx h0 _ => hh _ (hp.2 x hx h0).1 (hp.2 x hx h0).2, hp.2⟩⟩

/-- The newest first. -/
def LocB (h0 h : AH) : Nat → List Item → Prop
  | top, [] => h0.length ≤ top ∧ Pfx h0 h
  | top, i :: l => i.lo ≤ i.hi ∧ i.hi ≤ top ∧ i.P h ∧ LocB h0 h i.lo l
def Loc (h0 h : AH) (l : List Item) : Prop := LocB h0 h h.length l

theorem LocB.up {h0 h : AH} : ∀ {l : List Item} {t u : Nat}, LocB h0 h t l → t ≤ u → LocB h0 h u l
  | [], t, u, h1, h2 => ⟨Nat.le_trans h1.1 h2, h1.2⟩
  | i :: l, t, u, h1, h2 => ⟨h1.1, Nat.le_trans h1.2.1 h2, h1.2.2⟩
theorem LocB.pfx {h0 h : AH} : ∀ {l : List Item} {t : Nat}, LocB h0 h t l → Pfx h0 h ∧ h0.length ≤ t
  | [], t, h1 => ⟨h1.2, h1.1⟩
  | i :: l, t, h1 => ⟨(LocB.pfx h1.2.2.2).1, by have := (LocB.pfx h1.2.2.2).2; have := h1.1; have := h1.2.1; omega⟩
/-- Heaps that are the same up to a place. -/
theorem LocB.same {h0 h h' : AH} : ∀ {l : List Item} {t : Nat}, LocB h0 h t l → t ≤ h.length → h.length ≤ h'.length → (∀ b, b < t → h'[b]? = h[b]?) → LocB h0 h' t l
  | [], t, h1, ht, hl, hh => ⟨h1.1, Nat.le_trans h1.2.1 hl, fun b hb => by rw [hh b (by have := h1.1; omega)]; exact h1.2.2 b hb⟩
  | i :: l, t, h1, ht, hl, hh => ⟨h1.1, h1.2.1, i.dep h h' (fun b _ hb => hh b (by have := h1.2.1; omega)) h1.2.2.1, LocB.same h1.2.2.2 (by have := h1.1; have := h1.2.1; omega) hl fun b hb => hh b (by have := h1.1; have := h1.2.1; omega)⟩
theorem LocB.get {h0 h : AH} : ∀ {l : List Item} {t : Nat}, LocB h0 h t l → ∀ {k : Nat} {i : Item}, l[k]? = some i → i.P h ∧ h0.length ≤ i.lo ∧ i.lo ≤ i.hi ∧ i.hi ≤ t
  | [], t, h1, k, i, hk => by simp at hk
  | j :: l, t, h1, 0, i, hk => by simp at hk; subst hk; exact ⟨h1.2.2.1, (LocB.pfx h1.2.2.2).2, h1.1, h1.2.1⟩
  | j :: l, t, h1, k + 1, i, hk => by
    obtain ⟨a, b, c, d⟩ := LocB.get h1.2.2.2 (k := k) (by simpa using hk)
    exact ⟨a, b, c, by have := h1.1; have := h1.2.1; omega⟩
/-- One thing changed, nothing else. -/
theorem LocB.put {h0 h h' : AH} : ∀ {l : List Item} {t : Nat}, LocB h0 h t l → t ≤ h.length → h.length ≤ h'.length → ∀ {k : Nat} {i i' : Item}, l[k]? = some i → i'.lo = i.lo → i'.hi = i.hi → i'.P h' → (∀ b, b < i.lo ∨ i.hi ≤ b → b < h.length → h'[b]? = h[b]?) → LocB h0 h' t (l.set k i')
  | [], t, h1, ht, hl, k, i, i', hk, _, _, _, _ => by simp at hk
  | j :: l, t, h1, ht, hl, 0, i, i', hk, e1, e2, hp, hh => by
    simp at hk; subst hk
    refine ⟨by rw [e1, e2]; exact h1.1, by rw [e2]; exact h1.2.1, hp, ?_⟩
    rw [e1]
    have := h1.1; have := h1.2.1
    exact LocB.same h1.2.2.2 (by omega) hl fun b hb => hh b (.inl hb) (by omega)
  | j :: l, t, h1, ht, hl, k + 1, i, i', hk, e1, e2, hp, hh => by
    have g := LocB.get h1.2.2.2 (k := k) (by simpa using hk)
    have := h1.1; have := h1.2.1
    exact ⟨h1.1, h1.2.1, j.dep h h' (fun b hb hb2 => hh b (.inr (by omega)) (by omega)) h1.2.2.1, LocB.put h1.2.2.2 (by omega) hl (k := k) (by simpa using hk) e1 e2 hp hh⟩

/-- One thing forgotten. -/
theorem LocB.erase {h0 h h' : AH} : ∀ {l : List Item} {t : Nat}, LocB h0 h t l → t ≤ h.length → h.length ≤ h'.length → ∀ {k : Nat} {i : Item}, l[k]? = some i → (∀ b, b < i.lo ∨ i.hi ≤ b → h'[b]? = h[b]?) → LocB h0 h' t (l.eraseIdx k)
  | [], t, h1, ht, hl, k, i, hk, _ => by simp at hk
  | j :: l, t, h1, ht, hl, 0, i, hk, hh => by
    simp at hk; subst hk
    have := h1.1; have := h1.2.1
    exact (LocB.same h1.2.2.2 (by omega) hl fun b hb => hh b (.inl hb)).up (by omega)
  | j :: l, t, h1, ht, hl, k + 1, i, hk, hh => by
    have g := LocB.get h1.2.2.2 (k := k) (by simpa using hk)
    have := h1.1; have := h1.2.1
    exact ⟨h1.1, h1.2.1, j.dep h h' (fun b hb hb2 => hh b (.inr (by omega))) h1.2.2.1, LocB.erase h1.2.2.2 (by omega) hl (k := k) (by simpa using hk) hh⟩

section
variable {h0 h h' : AH} {l : List Item}
theorem Loc.start (h : AH) : Loc h h [] := ⟨Nat.le_refl _, Pfx.refl h⟩
theorem Loc.pfx (hl : Loc h0 h l) : Pfx h0 h := (LocB.pfx hl).1
theorem Loc.len (hl : Loc h0 h l) : h0.length ≤ h.length := hl.pfx.1
theorem Loc.grow (hl : Loc h0 h l) (hp : Pfx h h') : Loc h0 h' l := (LocB.same hl (Nat.le_refl _) hp.1 hp.2).up hp.1
theorem Pfx.push (x : Blk) : Pfx h (h ++ [x]) := ⟨by simp, fun b hb => List.getElem?_append_left hb⟩
theorem Loc.new (hl : Loc h0 h l) (cs : List Value) : Loc h0 (h ++ [.cells cs]) (bx h.length cs :: l) :=
  ⟨by simp [bx], by simp [bx], by simp [bx], LocB.same hl (Nat.le_refl _) (by simp) fun b hb => List.getElem?_append_left hb⟩
/-- What a call leaves: something told of its new blocks. -/
theorem Loc.add (hl : Loc h0 h l) (hp : Pfx h h') (i : Item) (h1 : i.lo = h.length) (h2 : i.hi = h'.length) (h3 : i.P h') : Loc h0 h' (i :: l) :=
  ⟨by rw [h1, h2]; exact hp.1, by omega, h3, by rw [h1]; exact LocB.same hl (Nat.le_refl _) hp.1 hp.2⟩
theorem Loc.get (hl : Loc h0 h l) {k : Nat} {i : Item} (hk : l[k]? = some i) : i.P h := (LocB.get hl hk).1
theorem Loc.lo (hl : Loc h0 h l) {k : Nat} {i : Item} (hk : l[k]? = some i) : h0.length ≤ i.lo := (LocB.get hl hk).2.1
theorem Loc.put (hl : Loc h0 h l) (hle : h.length ≤ h'.length) {k : Nat} {i : Item} (hk : l[k]? = some i) (i' : Item) (e1 : i'.lo = i.lo) (e2 : i'.hi = i.hi) (hp : i'.P h') (hh : ∀ b, b < i.lo ∨ i.hi ≤ b → b < h.length → h'[b]? = h[b]?) : Loc h0 h' (l.set k i') :=
  (LocB.put hl (Nat.le_refl _) hle hk e1 e2 hp hh).up hle
theorem Loc.cell (hl : Loc h0 h l) {k b : Nat} {cs : List Value} (hk : l[k]? = some (bx b cs)) : h[b]? = some (.cells cs) := hl.get hk
theorem Loc.set (hl : Loc h0 h l) {k b : Nat} {cs : List Value} (hk : l[k]? = some (bx b cs)) (cs' : List Value) : Loc h0 (h.set b (.cells cs')) (l.set k (bx b cs')) := by
  have hc := hl.cell hk
  have hb := (List.getElem?_eq_some_iff.1 hc).1
  refine hl.put (by simp) hk (bx b cs') rfl rfl ?_ fun c hc _ => ?_
  · show (h.set b (.cells cs'))[b]? = some (.cells cs')
    rw [List.getElem?_set_self hb]
  · have hne : b ≠ c := by
      simp only [bx] at hc
      omega
    exact List.getElem?_set_ne hne
theorem Loc.own (hl : Loc h0 h l) {k b : Nat} {cs : List Value} (hk : l[k]? = some (bx b cs)) {lim : Nat} (hlim : lim ≤ h0.length) : lim ≤ b := Nat.le_trans hlim (hl.lo hk)
theorem Loc.tail {i : Item} (hl : Loc h0 h (i :: l)) : Loc h0 h l := LocB.up hl.2.2.2 (Nat.le_trans hl.1 hl.2.1)
end

/-! ### the operations -/
section
variable {X : Ext} {F : FuncId → Option RFunc} {lim : Nat} {L : Al} {h : AH} {K : Value → AH → Prop}
theorem OP.of {p : ROp} {v : Value} {h' : AH} (hp : ∀ call e, Agr e L → aop call lim e h p = some (v, h')) (hk : K v h') : OP X F lim p L h K := fun e he => ⟨0, v, h', hp _ e he, hk⟩
theorem OP.mv {x : Operand} {v : Value} (hx : lev L x = some v) (hk : K v h) : OP X F lim (.mv x) L h K := .of (fun c e he => by simp only [aop, he.ev hx]) hk
theorem OP.pickT {c x y : Operand} {v : Value} (hc : lev L c = some (.bool true)) (hx : lev L x = some v) (hk : K v h) : OP X F lim (.pick c x y) L h K := .of (fun _ e he => by simp only [aop, he.ev hc, he.ev hx, if_true]) hk
theorem OP.pickF {c x y : Operand} {v : Value} (hc : lev L c = some (.bool false)) (hy : lev L y = some v) (hk : K v h) : OP X F lim (.pick c x y) L h K := .of (fun _ e he => by simp only [aop, he.ev hc, he.ev hy]; rfl) hk
theorem OP.new {cs : List Value} (hk : K (.pointer (some ⟨h.length, 0, none⟩)) (h ++ [.cells cs])) : OP X F lim (.new cs) L h K := .of (fun _ e he => rfl) hk
theorem OP.box {x : Operand} {v : Value} {cs : List Value} (hx : lev L x = some v) (hv : v.cells.toList = cs) (hok : cs.all cellOk = true) (hk : K (.pointer (some ⟨h.length, 0, none⟩)) (h ++ [.cells cs])) : OP X F lim (.box x) L h K := .of (fun _ e he => by simp only [aop, aBox, he.ev hx, hv, if_pos hok]) hk
theorem OP.load {n : Option Nat} {x : Operand} {b o : Nat} {cs : List Value} {v : Value} (hx : lev L x = some (.pointer (some ⟨b, o, none⟩))) (hc : h[b]? = some (.cells cs)) (hv : loadAt n cs o = some v) (hk : K v h) : OP X F lim (.load n x) L h K :=
  .of (fun _ e he => by simp only [aop, he.ev hx, aLoad, cellsOf, hc, Option.bind_some, hv, Option.map_some]) hk
theorem OP.loadAll {n : Nat} {x : Operand} {b : Nat} {cs : List Value} (hx : lev L x = some (.pointer (some ⟨b, 0, none⟩))) (hc : h[b]? = some (.cells cs)) (hn : cs.length = n) (hk : K (.agg cs.toArray) h) : OP X F lim (.load (some n) x) L h K :=
  .load hx hc (by unfold loadAt; simp [hn, List.take_of_length_le]) hk
theorem OP.loadV {n : Option Nat} {x : Operand} {p v : Value} (hx : lev L x = some p) (hv : aLoad n h p = some v) (hk : K v h) : OP X F lim (.load n x) L h K := .of (fun _ e he => by simp only [aop, he.ev hx, hv, Option.map_some]) hk
theorem OP.store {n : Nat} {x y : Operand} {b o : Nat} {cs vs : List Value} {v : Value} (hx : lev L x = some (.pointer (some ⟨b, o, none⟩))) (hy : lev L y = some v) (hvs : v.cells.toList = vs) (hn : vs.length = n) (hc : h[b]? = some (.cells cs)) (hb : lim ≤ b) (hok : vs.all cellOk = true) (ho : o + n ≤ cs.length) (hpos : 0 < n)
    (hk : K undef (h.set b (.cells (over cs o vs)))) : OP X F lim (.store n x y) L h K := .of (fun _ e he => by
  have h1 : v.cells.size = n := by rw [← hn, ← hvs]; simp
  have h2 : vs ≠ [] := by intro h2; rw [h2] at hn; simp at hn; omega
  simp only [aop, aStore, he.ev hx, he.ev hy, if_pos h1, aWrite, hvs, if_neg h2, if_pos (And.intro hb hok), cellsOf, hc, Option.bind_some, hn, if_pos ho, Option.map_some]) hk
theorem OP.nilP {x : Operand} {a : Addr} (hx : lev L x = some (.pointer (some a))) (hk : K (.pointer (some a)) h) : OP X F lim (.nilCheck x) L h K := .of (fun _ e he => by simp only [aop, he.ev hx]) hk
theorem OP.nilF {x : Operand} {f : FuncId} {a b : Array Value} (hx : lev L x = some (.func (.func f) a b)) (hk : K (.func (.func f) a b) h) : OP X F lim (.nilCheck x) L h K := .of (fun _ e he => by simp only [aop, he.ev hx]) hk
theorem OP.bin {op : BinOp} {x y : Operand} {a b v : Value} (hx : lev L x = some a) (hy : lev L y = some b) (hv : aBin op a b = some v) (hk : K v h) : OP X F lim (.bin op x y) L h K := .of (fun _ e he => by simp only [aop, he.ev hx, he.ev hy, hv, Option.map_some]) hk
theorem wrap64 {x : Int} (hl : -9223372036854775808 ≤ x) (hu : x ≤ 9223372036854775807) : IntKind.i64.wrap x = x := by
  simp only [IntKind.wrap]
  simp [IntKind.bits, IntKind.signed]
  omega
theorem OP.add {x y : Operand} {a b : Int} (hx : lev L x = some (.int .i64 a)) (hy : lev L y = some (.int .i64 b)) (hr : -9223372036854775808 ≤ a + b ∧ a + b ≤ 9223372036854775807) (hk : K (.int .i64 (a + b)) h) : OP X F lim (.bin .add x y) L h K :=
  .bin hx hy (by simp only [aBin, if_true]; rw [wrap64 hr.1 hr.2]) hk
theorem OP.sub {x y : Operand} {a b : Int} (hx : lev L x = some (.int .i64 a)) (hy : lev L y = some (.int .i64 b)) (hr : -9223372036854775808 ≤ a - b ∧ a - b ≤ 9223372036854775807) (hk : K (.int .i64 (a - b)) h) : OP X F lim (.bin .sub x y) L h K :=
  .bin hx hy (by simp only [aBin, if_true]; rw [wrap64 hr.1 hr.2]) hk
theorem OP.eql {x y : Operand} {k : IntKind} {a b : Int} (hx : lev L x = some (.int k a)) (hy : lev L y = some (.int k b)) (hk : K (.bool (decide (a = b))) h) : OP X F lim (.bin .eql x y) L h K := .bin hx hy (by simp only [aBin, if_true]; rfl) hk
theorem OP.neq {x y : Operand} {k : IntKind} {a b : Int} (hx : lev L x = some (.int k a)) (hy : lev L y = some (.int k b)) (hk : K (.bool (decide (a ≠ b))) h) : OP X F lim (.bin .neq x y) L h K := .bin hx hy (by
  simp only [aBin, if_true, ne_eq, decide_not, Option.some.injEq, Value.bool.injEq]; rfl) hk
theorem OP.eq {neg : Bool} {ks : Option (List Nat)} {x y : Operand} {a b : Value} {t : Bool} (hx : lev L x = some a) (hy : lev L y = some b) (hv : aEq ks a b = some t) (hk : K (.bool (if neg then !t else t)) h) : OP X F lim (.eq neg ks x y) L h K := .of (fun _ e he => by simp only [aop, he.ev hx, he.ev hy, hv, Option.map_some]) hk
theorem OP.isNil {neg : Bool} {k : Nat} {x : Operand} {a : Value} {t : Bool} (hx : lev L x = some a) (hv : aIsNil k a = some t) (hk : K (.bool (if neg then !t else t)) h) : OP X F lim (.isNil neg k x) L h K := .of (fun _ e he => by simp only [aop, he.ev hx, hv, Option.map_some]) hk
theorem OP.not {x : Operand} {t : Bool} (hx : lev L x = some (.bool t)) (hk : K (.bool (!t)) h) : OP X F lim (.un .not x) L h K := .of (fun _ e he => by simp only [aop, he.ev hx, aUn, Option.map_some]) hk
theorem OP.notP {x : Operand} {p : Prop} [Decidable p] (hx : lev L x = some (.bool (decide p))) (hk : K (.bool (decide (¬ p))) h) : OP X F lim (.un .not x) L h K := .of (fun _ e he => by simp only [aop, he.ev hx, aUn, Option.map_some, decide_not]) hk
theorem OP.neg {x : Operand} {a : Int} (hx : lev L x = some (.int .i64 a)) (hr : -9223372036854775808 ≤ 0 - a ∧ 0 - a ≤ 9223372036854775807) (hk : K (.int .i64 (0 - a)) h) : OP X F lim (.un .neg x) L h K := .of (fun _ e he => by simp only [aop, he.ev hx, aUn, Option.map_some]; rw [wrap64 hr.1 hr.2]) hk
theorem OP.conv {k k' : IntKind} {x : Operand} {a : Int} (hx : lev L x = some (.int k' a)) (hk : K (.int k (k.wrap a)) h) : OP X F lim (.conv k x) L h K := .of (fun _ e he => by simp only [aop, he.ev hx]) hk
theorem OP.iface {t : TypeId} {x : Operand} {v : Value} (hx : lev L x = some v) (hk : K (.iface t v) h) : OP X F lim (.iface t x) L h K := .of (fun _ e he => by simp only [aop, he.ev hx]) hk
theorem OP.func0 {fn : Fn} (hk : K (.func fn #[] #[]) h) : OP X F lim (.func fn [] []) L h K := .of (fun _ e he => rfl) hk
theorem OP.func1 {fn : Fn} {x : Operand} {v : Value} (hx : lev L x = some v) (hk : K (.func fn #[] #[v]) h) : OP X F lim (.func fn [] [x]) L h K := .of (fun _ e he => by simp only [aop, List.map_cons, List.map_nil, he.ev hx]) hk
theorem OP.func2 {fn : Fn} {x y : Operand} {v u : Value} (hx : lev L x = some v) (hy : lev L y = some u) (hk : K (.func fn #[] #[v, u]) h) : OP X F lim (.func fn [] [x, y]) L h K := .of (fun _ e he => by simp only [aop, List.map_cons, List.map_nil, he.ev hx, he.ev hy]) hk
theorem OP.fieldAddr {off : Nat} {x : Operand} {b o : Nat} (hx : lev L x = some (.pointer (some ⟨b, o, none⟩))) (hk : K (.pointer (some ⟨b, o + off, none⟩)) h) : OP X F lim (.fieldAddr off x) L h K := .of (fun _ e he => by simp only [aop, he.ev hx]) hk
theorem OP.field {off : Nat} {n : Option Nat} {x : Operand} {cs : Array Value} {v : Value} (hx : lev L x = some (.agg cs)) (hv : loadAt n cs.toList off = some v) (hk : K v h) : OP X F lim (.field off n x) L h K := .of (fun _ e he => by simp only [aop, he.ev hx, hv, Option.map_some]) hk
theorem OP.idxArrAddr {n sz : Nat} {x i : Operand} {b o j : Nat} {k : IntKind} (hx : lev L x = some (.pointer (some ⟨b, o, none⟩))) (hi : lev L i = some (.int k (j : Int))) (hj : j < n) (hk : K (.pointer (some ⟨b, o + j * sz, none⟩)) h) : OP X F lim (.idxAddrArr n sz x i) L h K :=
  .of (fun _ e he => by simp only [aop, he.ev hx, he.ev hi]; rw [if_pos (by omega)]; simp) hk
/-- The address of an element. -/
def eptr (sz : Nat) (a : Option Addr) (j : Nat) : Value :=
  match a with
  | some x => .pointer (some ⟨x.block, x.off + j * sz, none⟩)
  | none => .pointer none
theorem OP.idx {sz : Nat} {x i : Operand} {a : Option Addr} {n c j : Nat} {k : IntKind} (hx : lev L x = some (.slice a n c)) (hi : lev L i = some (.int k (j : Int))) (hj : j < n) (ha : a = none → c = 0) (hc : n ≤ c) (hk : K (eptr sz a j) h) : OP X F lim (.idxAddr sz x i) L h K :=
  .of (fun _ e he => by
    cases a with
    | none => have := ha rfl; omega
    | some a =>
      obtain ⟨b, o, m⟩ := a
      simp only [aop, he.ev hx, he.ev hi]; rw [if_pos (by omega)]; simp [eptr]) hk
theorem OP.lenS {x : Operand} {a : Option Addr} {n c : Nat} (hx : lev L x = some (.slice a n c)) (hk : K (.int .i64 n) h) : OP X F lim (.len 1 x) L h K := .of (fun _ e he => by simp only [aop, he.ev hx]) hk
theorem OP.lenT {x : Operand} {s : ByteArray} (hx : lev L x = some (.string s)) (hk : K (.int .i64 s.size) h) : OP X F lim (.len 0 x) L h K := .of (fun _ e he => by simp only [aop, he.ev hx]) hk
theorem OP.lenArr {n : Nat} (hk : K (.int .i64 n) h) : OP X F lim (.lenArr n) L h K := .of (fun _ e he => rfl) hk
def nth : List Value → Nat → Option Value
  | [], _ => none
  | v :: _, 0 => some v
  | _ :: l, n + 1 => nth l n
theorem nth_get : ∀ {l : List Value} {i : Nat} {v : Value}, nth l i = some v → l[i]? = some v
  | [], i, v, h => by cases h
  | u :: l, 0, v, h => by simpa [nth] using h
  | u :: l, i + 1, v, h => by simpa using nth_get (l := l) (i := i) h
theorem OP.extract {x : Operand} {i : Nat} {vs : Array Value} {v : Value} (hx : lev L x = some (.tuple vs)) (hv : nth vs.toList i = some v) (hk : K v h) : OP X F lim (.extract x i) L h K := .of (fun _ e he => by
  have := nth_get hv
  rw [Array.getElem?_toList] at this
  simp only [aop, he.ev hx, this, Option.map_some]) hk
theorem OP.sliceS {sz : Nat} {x : Operand} {lo hi : Option Operand} {b o : Nat} {m : Option Nat} {n c : Nat} {i j : Nat} (hx : lev L x = some (.slice (some ⟨b, o, m⟩) n c)) (hm : m = none ∨ m = some sz) (hlo : match lo with | none => i = 0 | some y => ∃ k, lev L y = some (.int k (i : Int))) (hhi : match hi with | none => j = n | some y => ∃ k, lev L y = some (.int k (j : Int))) (hij : i ≤ j) (hjc : j ≤ c)
    (hk : K (.slice (some ⟨b, o + i * sz, m⟩) (j - i) (c - i)) h) : OP X F lim (.slice sz x lo hi none) L h K := .of (fun _ e he => by
  have h1 : bound (hi.map (Ai.ev e)) n c = some j := by
    cases hi with
    | none => simp only at hhi; subst hhi; rfl
    | some y => obtain ⟨k, hk⟩ := hhi; simp only [Option.map_some, he.ev hk, bound]; rw [if_pos (by omega)]; simp
  have h2 : bound (lo.map (Ai.ev e)) 0 j = some i := by
    cases lo with
    | none => simp only at hlo; subst hlo; rfl
    | some y => obtain ⟨k, hk⟩ := hlo; simp only [Option.map_some, he.ev hk, bound]; rw [if_pos (by omega)]; simp
  simp only [aop, he.ev hx, aSlice, if_pos hm, aCut, Option.map_none, h1, Option.bind_some, h2, Option.map_some]) hk
def levs (L : Al) : List Operand → Option (List Value)
  | [] => some []
  | x :: xs => match lev L x, levs L xs with
    | some v, some vs => some (v :: vs)
    | _, _ => none
theorem Agr.evs {e : Env} (he : Agr e L) : ∀ {xs : List Operand} {vs : List Value}, levs L xs = some vs → xs.map (Ai.ev e) = vs
  | [], vs, hx => by simp only [levs, Option.some.injEq] at hx; subst hx; rfl
  | x :: xs, vs, hx => by
    simp only [levs] at hx
    split at hx
    · rename_i v us h1 h2
      injection hx with hx; subst hx
      rw [List.map_cons, he.ev h1, he.evs h2]
    · cases hx
theorem OP.call {f : Operand} {g : FuncId} {xs : List Operand} {vs : List Value} (hf : lev L f = some (.func (.func g) #[] #[])) (ha : levs L xs = some vs) (hr : Ret X F lim g vs h K) : OP X F lim (.call f xs) L h K := fun e he => by
  obtain ⟨k, v, h', h1, h2⟩ := hr
  exact ⟨k, v, h', by simp only [aop, he.ev hf, he.evs ha, List.nil_append, List.append_nil]; exact h1, h2⟩
theorem OP.callC {f : Operand} {g : FuncId} {xs : List Operand} {vs : List Value} {cs : Array Value} (hf : lev L f = some (.func (.func g) #[] cs)) (ha : levs L xs = some vs) (hr : Ret X F lim g (vs ++ cs.toList) h K) : OP X F lim (.call f xs) L h K := fun e he => by
  obtain ⟨k, v, h', h1, h2⟩ := hr
  exact ⟨k, v, h', by simp only [aop, he.ev hf, he.evs ha, List.nil_append]; exact h1, h2⟩
def fillL (L : Al) (cells : List Value) : List (Nat × Nat × Operand) → Option (List Value)
  | [] => some cells
  | (off, size, x) :: rest => match lev L x with
    | some v => if v.cells.size ≠ size ∨ off + size > cells.length then none else fillL L (over cells off v.cells.toList) rest
    | none => none
theorem Agr.fill {e : Env} (he : Agr e L) : ∀ {ps : List (Nat × Nat × Operand)} {z cs : List Value}, fillL L z ps = some cs → aFill e z ps = some cs
  | [], z, cs, hf => hf
  | (off, size, x) :: ps, z, cs, hf => by
    simp only [fillL] at hf
    split at hf
    · rename_i v hv
      simp only [aFill, he.ev hv]
      split at hf
      · cases hf
      · rename_i h1
        rw [if_neg h1]
        exact he.fill hf
    · cases hf
theorem OP.build {z cs : List Value} {ps : List (Nat × Nat × Operand)} (hf : fillL L z ps = some cs) (hk : K (.agg cs.toArray) h) : OP X F lim (.build z ps) L h K := .of (fun _ e he => by simp only [aop, he.fill hf, Option.map_some]) hk
theorem OP.buildSlice {z cs : List Value} {n : Nat} {ps : List (Nat × Nat × Operand)} (hf : fillL L z ps = some cs) (hok : cs.all cellOk = true) (hk : K (.slice (some ⟨h.length, 0, none⟩) n n) (h ++ [.cells cs])) : OP X F lim (.buildSlice z n ps) L h K :=
  .of (fun _ e he => by simp only [aop, he.fill hf, Option.bind_some, if_pos hok]) hk
theorem OP.minI {x y : Operand} {k : IntKind} {a b : Int} (hx : lev L x = some (.int k a)) (hy : lev L y = some (.int k b)) (hk : K (.int k (if b < a then b else a)) h) : OP X F lim (.minmax false [x, y]) L h K := .of (fun _ e he => by
  simp only [aop, List.map_cons, List.map_nil, he.ev hx, he.ev hy, List.foldlM_cons, List.foldlM_nil, minmax2, Option.bind_eq_bind, Option.bind_some, Option.pure_def, Option.map_some]; rfl) hk
theorem OP.maxI {x y : Operand} {k : IntKind} {a b : Int} (hx : lev L x = some (.int k a)) (hy : lev L y = some (.int k b)) (hk : K (.int k (if b > a then b else a)) h) : OP X F lim (.minmax true [x, y]) L h K := .of (fun _ e he => by
  simp only [aop, List.map_cons, List.map_nil, he.ev hx, he.ev hy, List.foldlM_cons, List.foldlM_nil, minmax2, Option.bind_eq_bind, Option.bind_some, Option.pure_def, Option.map_some]; rfl) hk

/-! ### slices -/
/-- Where a whole element, or a cell of it, is read. -/
theorem Sl.none_iff {sz n c : Nat} {a : Option Addr} {cs : List Value} (hs : Sl sz h a n c cs) (hn : 0 < n) : ∃ b o m, a = some ⟨b, o, m⟩ := by
  cases a with
  | none => have := hs.2.2.2 rfl; have := hs.2.1; omega
  | some x => exact ⟨x.block, x.off, x.spot, rfl⟩
theorem Sl.cells {sz n c : Nat} {a : Option Addr} {cs : List Value} (hs : Sl sz h a n c cs) (hz : 0 < sz) (hn : 0 < n) : ∃ b o m ds, a = some ⟨b, o, m⟩ ∧ h[b]? = some (.cells ds) ∧ o + n * sz ≤ ds.length ∧ cs = (ds.drop o).take (n * sz) := by
  obtain ⟨b, o, m, rfl⟩ := hs.none_iff hn
  have h1 := hs.1
  have hpos : 0 < n * sz := Nat.mul_pos hn hz
  simp only [aElems] at h1
  rw [if_pos hs.2.1, if_neg (by omega)] at h1
  obtain ⟨ds, h2, h3⟩ := Option.bind_eq_some_iff.1 h1
  split at h3
  · rename_i h4
    injection h3 with h3
    unfold cellsOf at h2
    split at h2
    · rename_i cs' h5
      injection h2 with h2
      subst h2
      exact ⟨b, o, m, cs', rfl, h5, h4, h3.symm⟩
    · cases h2
  · cases h3
theorem Sl.load1 {n c j : Nat} {a : Option Addr} {cs : List Value} {v : Value} (hs : Sl 1 h a n c cs) (hj : cs[j]? = some v) : aLoad none h (eptr 1 a j) = some v := by
  have hjn : j < n := by have := hs.2.2.1; have := (List.getElem?_eq_some_iff.1 hj).1; omega
  obtain ⟨b, o, m, ds, rfl, h1, h2, rfl⟩ := hs.cells (by omega) (by omega)
  simp only [eptr, aLoad, cellsOf, h1, Option.bind_some, loadAt]
  rw [List.getElem?_take, if_pos (by omega), List.getElem?_drop] at hj
  rw [Nat.mul_one]; exact hj
/-- A cell of an element of several. -/
theorem Sl.loadF {sz n c j f : Nat} {a : Option Addr} {cs : List Value} {v : Value} (hs : Sl sz h a n c cs) (hf : f < sz) (hj : cs[j * sz + f]? = some v) : ∀ {b o : Nat}, eptr sz a j = .pointer (some ⟨b, o, none⟩) → aLoad none h (.pointer (some ⟨b, o + f, none⟩)) = some v := by
  intro b' o' he
  have hlt := (List.getElem?_eq_some_iff.1 hj).1
  have hn : 0 < n := by
    rcases Nat.eq_zero_or_pos n with h0 | h0
    · have := hs.2.2.1; rw [h0] at this; omega
    · exact h0
  obtain ⟨b, o, m, ds, rfl, h1, h2, rfl⟩ := hs.cells (by omega) hn
  simp only [eptr, Value.pointer.injEq, Option.some.injEq, Addr.mk.injEq, and_true] at he
  obtain ⟨rfl, rfl⟩ := he
  simp only [aLoad, cellsOf, h1, Option.bind_some, loadAt]
  have hlen : ((ds.drop o).take (n * sz)).length = n * sz := by simp; omega
  rw [List.getElem?_take, if_pos (by omega), List.getElem?_drop] at hj
  rw [Nat.add_assoc]; exact hj
/-- A whole element of several cells. -/
theorem Sl.loadN {sz n c j : Nat} {a : Option Addr} {cs : List Value} (hs : Sl sz h a n c cs) (hz : 0 < sz) (hj : j < n) : aLoad (some sz) h (eptr sz a j) = some (.agg ((cs.drop (j * sz)).take sz).toArray) := by
  obtain ⟨b, o, m, ds, rfl, h1, h2, rfl⟩ := hs.cells hz (by omega)
  have h3 : (j + 1) * sz ≤ n * sz := Nat.mul_le_mul_right _ hj
  rw [Nat.succ_mul] at h3
  simp only [eptr, aLoad, cellsOf, h1, Option.bind_some, loadAt]
  rw [if_pos (by omega), List.drop_take, List.drop_drop, List.take_take, Nat.min_eq_left (by omega)]

/-- Slices that are appended to: as they come out of an append, or nothing yet. -/
inductive Own (sz : Nat) (h : AH) : Value → Nat → List Value → Prop where
  | nil : Own sz h (.slice none 0 0) 0 []
  | empty (b o : Nat) (m : Option Nat) (hm : m = none ∨ m = some sz) (hl : h[b]? = some (.cells [])) : Own sz h (.slice (some ⟨b, o, m⟩) 0 0) 0 []
  | mk (b n : Nat) (cs : List Value) (hl : h[b]? = some (.cells cs)) (hn : cs.length = n * sz) : Own sz h (.slice (some ⟨b, 0, some sz⟩) n n) n cs
end

end Go.Proofs.YtmikcpgkppkmiaaW.Ai
