/-
  States of four rows. Of no program.
-/
import Derived.Test.YtmikcpgkppkmiaaAi33
set_option linter.unusedVariables false
set_option linter.unusedSimpArgs false
namespace Go.Proofs.YtmikcpgkppkmiaaW.Ai

abbrev stV (r0 r1 r2 r3 : Row) : Value := .agg #[r0.v, r1.v, r2.v, r3.v]
abbrev RowIn (lo hi : Nat) (r : Row) : Prop := Within lo hi 1 r.a r.n
abbrev StIn (lo hi : Nat) (r0 r1 r2 r3 : Row) : Prop := RowIn lo hi r0 ∧ RowIn lo hi r1 ∧ RowIn lo hi r2 ∧ RowIn lo hi r3
theorem St.same {h h' : AH} {lo hi : Nat} {r0 r1 r2 r3 : Row} (hs : St h r0 r1 r2 r3) (hi' : StIn lo hi r0 r1 r2 r3) (hh : ∀ b, lo ≤ b → b < hi → h'[b]? = h[b]?) : St h' r0 r1 r2 r3 := by
  have key : ∀ {r : Row}, RowOk h r → RowIn lo hi r → RowOk h' r := fun {r} h1 h2 => ⟨h1.1.same fun x hx h0 _ => hh _ (h2 x hx h0).1 (h2 x hx h0).2, h1.2⟩
  exact ⟨key hs.1 hi'.1, key hs.2.1 hi'.2.1, key hs.2.2.1 hi'.2.2.1, key hs.2.2.2 hi'.2.2.2⟩
/-- A state that lies between. -/
def st (lo hi : Nat) (r0 r1 r2 r3 : Row) : Item := ⟨lo, hi, fun h => St h r0 r1 r2 r3 ∧ StIn lo hi r0 r1 r2 r3, fun h h' hh hp => ⟨hp.1.same hp.2 hh, hp.2⟩⟩
abbrev nilRow : Row := ⟨none, 0, []⟩
theorem nilRow_ok (h : AH) : RowOk h nilRow := ⟨Sl.nil 1 h, Nat.zero_le _⟩
theorem nilRow_in (lo hi : Nat) : RowIn lo hi nilRow := Within.none lo hi 1
theorem nilSt (h : AH) : St h nilRow nilRow nilRow nilRow := ⟨nilRow_ok h, nilRow_ok h, nilRow_ok h, nilRow_ok h⟩
theorem nilIn (lo hi : Nat) : StIn lo hi nilRow nilRow nilRow nilRow := ⟨nilRow_in lo hi, nilRow_in lo hi, nilRow_in lo hi, nilRow_in lo hi⟩
/-- Four rows. -/
structure S4 where
  x0 : List Int
  x1 : List Int
  x2 : List Int
  x3 : List Int
  deriving DecidableEq
abbrev S4.none : S4 := ⟨[], [], [], []⟩
/-- A value with a state in it that was made. -/
def MadeS (h h' : AH) (W : Row → Row → Row → Row → Value) (s : S4) (v : Value) : Prop := ∃ r0 r1 r2 r3 : Row, v = W r0 r1 r2 r3 ∧ (r0.xs = s.x0 ∧ r1.xs = s.x1 ∧ r2.xs = s.x2 ∧ r3.xs = s.x3) ∧ St h' r0 r1 r2 r3 ∧ StIn h.length h'.length r0 r1 r2 r3
section
variable {X : Ext} {F : FuncId → Option RFunc} {lim : Nat} {L : Al} {h0 h : AH} {K : Value → AH → Prop} {l : List Item}
theorem Loc.stM (hL : Loc h0 h l) {lo hi : Nat} {r0 r1 r2 r3 : Row} (hm : st lo hi r0 r1 r2 r3 ∈ l) : St h r0 r1 r2 r3 := let ⟨k, hk⟩ := List.getElem?_of_mem hm; (hL.get hk).1
theorem Loc.stOut (hL : Loc h0 h l) {lo hi : Nat} {r0 r1 r2 r3 : Row} (hm : st lo hi r0 r1 r2 r3 ∈ l) : St h r0 r1 r2 r3 ∧ StIn h0.length h.length r0 r1 r2 r3 :=
  let ⟨k, hk⟩ := List.getElem?_of_mem hm
  ⟨(hL.get hk).1, (hL.get hk).2.1.le (hL.lo hk) (hL.toEnd hk), (hL.get hk).2.2.1.le (hL.lo hk) (hL.toEnd hk), (hL.get hk).2.2.2.1.le (hL.lo hk) (hL.toEnd hk), (hL.get hk).2.2.2.2.le (hL.lo hk) (hL.toEnd hk)⟩
/-- A row made since the start. -/
theorem Loc.rowAp (hL : Loc h0 h l) {lo hi n : Nat} {a : Option Addr} {xs : List Int} (hm : ap lo hi 1 a n (ints xs) ∈ l) (hn : n ≤ 2 ^ 44) : RowOk h ⟨a, n, xs⟩ ∧ RowIn h0.length h.length ⟨a, n, xs⟩ :=
  let ⟨k, hk⟩ := List.getElem?_of_mem hm
  ⟨⟨(hL.apOut' hk).1, hn⟩, (hL.apOut' hk).2⟩
theorem Loc.rowBx (hL : Loc h0 h l) {b n : Nat} {xs : List Int} (hm : bx b (ints xs) ∈ l) (hl : xs.length = n) (hn : n ≤ 2 ^ 44) : RowOk h ⟨some ⟨b, 0, Option.none⟩, n, xs⟩ ∧ RowIn h0.length h.length ⟨some ⟨b, 0, Option.none⟩, n, xs⟩ :=
  let ⟨k, hk⟩ := List.getElem?_of_mem hm
  ⟨⟨(hL.bxOut (n := n) (sz := 1) hk (by rw [ints_len]; omega)).1, hn⟩, (hL.bxOut (n := n) (sz := 1) hk (by rw [ints_len]; omega)).2⟩
theorem Loc.rowSl (hL : Loc h0 h l) {lo hi n : Nat} {a : Option Addr} {xs : List Int} (hm : sl lo hi 1 a n n (ints xs) ∈ l) (hx : xs.length ≤ 2 ^ 44) : RowOk h ⟨a, n, xs⟩ ∧ RowIn h0.length h.length ⟨a, n, xs⟩ :=
  let ⟨k, hk⟩ := List.getElem?_of_mem hm
  ⟨⟨(hL.slOut hk).1, by have := (hL.slOut hk).1.ilen; show n ≤ 2 ^ 44; omega⟩, (hL.slOut hk).2⟩
/-- A call that makes a state. -/
theorem OL.callSt {f : Operand} {g : FuncId} {xs : List Operand} {vs : List Value} {W : Row → Row → Row → Row → Value} {s : S4} (hL : Loc h0 h l) (hf : lev L f = some (.func (.func g) #[] #[])) (ha : levs L xs = some vs) (hr : Ret X F lim g vs h fun v h' => Pfx h h' ∧ MadeS h h' W s v)
    (hk : ∀ a0 n0 a1 n1 a2 n2 a3 n3 h', s.x0.length = n0 ∧ s.x1.length = n1 ∧ s.x2.length = n2 ∧ s.x3.length = n3 → Pfx h h' → Loc h0 h' (st h.length h'.length ⟨a0, n0, s.x0⟩ ⟨a1, n1, s.x1⟩ ⟨a2, n2, s.x2⟩ ⟨a3, n3, s.x3⟩ :: l) → K (W ⟨a0, n0, s.x0⟩ ⟨a1, n1, s.x1⟩ ⟨a2, n2, s.x2⟩ ⟨a3, n3, s.x3⟩) h') : OP X F lim (.call f xs) L h K :=
  .call hf ha (hr.mono fun v h' ⟨hp, r0, r1, r2, r3, hv, he, hs, hi⟩ => by
    obtain ⟨x0, x1, x2, x3⟩ := s
    obtain ⟨a0, n0, y0⟩ := r0
    obtain ⟨a1, n1, y1⟩ := r1
    obtain ⟨a2, n2, y2⟩ := r2
    obtain ⟨a3, n3, y3⟩ := r3
    obtain ⟨e0, e1, e2, e3⟩ := he
    simp only at e0 e1 e2 e3
    subst e0 e1 e2 e3
    exact hv ▸ hk a0 n0 a1 n1 a2 n2 a3 n3 h' ⟨hs.1.1.ilen, hs.2.1.1.ilen, hs.2.2.1.1.ilen, hs.2.2.2.1.ilen⟩ hp (hL.add hp _ rfl rfl ⟨hs, hi⟩))
/-- A call that writes over a state of one's own. -/
theorem OL.spoilSt {f : Operand} {g : FuncId} {xs : List Operand} {vs : List Value} {k lo hi : Nat} {r0 r1 r2 r3 : Row} (hL : Loc h0 h l) (hk0 : l[k]? = some (st lo hi r0 r1 r2 r3)) (hf : lev L f = some (.func (.func g) #[] #[])) (ha : levs L xs = some vs)
    (hr : hi ≤ h.length → St h r0 r1 r2 r3 → StIn lo hi r0 r1 r2 r3 → h0.length ≤ lo → Ret X F lim g vs h fun v h' => h.length ≤ h'.length ∧ ∀ b, (b < lo ∨ hi ≤ b) → b < h.length → h'[b]? = h[b]?) (hk : ∀ v h', Loc h0 h' (l.set k (junk lo hi)) → K v h') : OP X F lim (.call f xs) L h K :=
  .call hf ha ((hr (hL.toEnd hk0) (hL.get hk0).1 (hL.get hk0).2 (hL.lo hk0)).mono fun v h' hs => hk v h' (hL.put hs.1 hk0 (junk lo hi) rfl rfl trivial fun b hb hbl => hs.2 b hb hbl))
theorem OP.addL {x y : Operand} {a b c : Int} (hx : lev L x = some (.int .i64 a)) (hy : lev L y = some (.int .i64 b)) (hc : a + b = c) (hr : -9223372036854775808 ≤ c ∧ c ≤ 9223372036854775807) (hk : K (.int .i64 c) h) : OP X F lim (.bin .add x y) L h K := .add hx hy (hc ▸ hr) (by rw [hc]; exact hk)
theorem OP.idxArr1 {n sz : Nat} {x i : Operand} {cs : List Value} {z : Int} {k : IntKind} {v : Value} (hx : lev L x = some (.agg cs.toArray)) (hi : lev L i = some (.int k z)) (hj : 0 ≤ z ∧ z < n) (hv : nth cs (z.toNat * sz) = some v) (hk : K v h) : OP X F lim (.idxArr n sz Option.none x i) L h K :=
  .of (fun _ e he => by
    simp only [aop, he.ev hx, he.ev hi]
    rw [if_pos hj]
    simp only [loadAt, nth_get hv, Option.map_some]) hk
theorem OP.idxArrZ {n sz : Nat} {x i : Operand} {b o : Nat} {z : Int} {k : IntKind} {m : Nat} (hx : lev L x = some (.pointer (some ⟨b, o, none⟩))) (hi : lev L i = some (.int k z)) (hj : 0 ≤ z ∧ z < n) (hm : o + z.toNat * sz = m) (hk : K (.pointer (some ⟨b, m, none⟩)) h) : OP X F lim (.idxAddrArr n sz x i) L h K := by
  subst hm
  obtain ⟨j, rfl⟩ : ∃ j : Nat, z = j := ⟨z.toNat, by omega⟩
  exact .idxArrAddr hx hi (by omega) (by simpa using hk)
end
end Go.Proofs.YtmikcpgkppkmiaaW.Ai
