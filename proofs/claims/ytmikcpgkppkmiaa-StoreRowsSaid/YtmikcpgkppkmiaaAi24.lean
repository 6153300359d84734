/-
  The small machine: appends; the operations' rules with what one knows of the heap; tactics. Of no program.
-/
import Derived.Test.YtmikcpgkppkmiaaAi23
set_option linter.unusedVariables false
set_option linter.unusedSimpArgs false
namespace Go.Proofs.YtmikcpgkppkmiaaW.Ai

/-- What comes out of an append, or an empty slice: `.slice a n n`. -/
def Ap (lo hi sz : Nat) (h : AH) (a : Option Addr) (n : Nat) (cs : List Value) : Prop :=
  cs.length = n * sz ∧ ((n = 0 ∧ ∀ x, a = some x → x.spot = none) ∨ 0 < n ∧ ∃ b, a = some ⟨b, 0, some sz⟩ ∧ h[b]? = some (.cells cs) ∧ lo ≤ b ∧ b < hi)
def ap (lo hi sz : Nat) (a : Option Addr) (n : Nat) (cs : List Value) : Item := ⟨lo, hi, fun h => Ap lo hi sz h a n cs, fun h h' hh hp => ⟨hp.1, hp.2.imp id fun ⟨h0, b, h1, h2, h3, h4⟩ => ⟨h0, b, h1, by rw [hh b h3 h4]; exact h2, h3, h4⟩⟩⟩

section
variable {h h' : AH} {lo hi sz n : Nat} {a : Option Addr} {cs : List Value}
theorem Ap.sl (hp : Ap lo hi sz h a n cs) : Sl sz h a n n cs ∧ Within lo hi sz a n := by
  obtain ⟨h1, h2⟩ := hp
  rcases h2 with ⟨rfl, h3⟩ | ⟨hnp, b, rfl, h3, h4, h5⟩
  · have hcs : cs = [] := List.eq_nil_of_length_eq_zero (by simpa using h1)
    subst hcs
    refine ⟨⟨?_, Nat.le_refl _, h1, fun _ => rfl⟩, fun x _ h0 => by simp at h0⟩
    cases a with
    | none => rfl
    | some x => obtain ⟨b, o, m⟩ := x; simp [aElems]
  · refine ⟨⟨?_, Nat.le_refl _, h1, fun h0 => by cases h0⟩, fun x hx _ => by injection hx with hx; subst hx; exact ⟨h4, h5⟩⟩
    simp only [aElems, Nat.le_refl, if_true]
    split
    · rename_i h0
      rw [h0] at h1
      rw [List.eq_nil_of_length_eq_zero h1]
    · simp only [cellsOf, h3, Option.bind_some, List.drop_zero]
      rw [if_pos (by omega), ← h1, List.take_length]
theorem Ap.widen {lo' hi' : Nat} (hp : Ap lo hi sz h a n cs) (h1 : lo' ≤ lo) (h2 : hi ≤ hi') : Ap lo' hi' sz h a n cs := ⟨hp.1, hp.2.imp id fun ⟨g0, b, g1, g2, g3, g4⟩ => ⟨g0, b, g1, g2, by omega, by omega⟩⟩
theorem Ap.nil (lo hi sz : Nat) (h : AH) : Ap lo hi sz h none 0 [] := ⟨by simp, .inl ⟨rfl, fun x hx => by cases hx⟩⟩
theorem Ap.empty (lo hi sz : Nat) (h : AH) (b o : Nat) : Ap lo hi sz h (some ⟨b, o, none⟩) 0 [] := ⟨by simp, .inl ⟨rfl, fun x hx => by injection hx with hx; subst hx; rfl⟩⟩

def Room (k bytes : Nat) : Prop := (k + k / 4 + 768) * bytes ≤ 2 ^ 48 ∧ k < 2 ^ 62 ∧ 0 < bytes

/-- An append of something. -/
theorem append_some {lim bytes m : Nat} {news : List Value} (hp : Ap lo hi sz h a n cs) (hm : 0 < m) (hb : Room (n + m) bytes) (hok : news.all cellOk = true) (hlim : lim ≤ lo ∨ n = 0) :
    ∃ h2, aAppend lim sz bytes h (.slice a n n) m news = some (.slice (some ⟨h.length, 0, some sz⟩) (n + m) (n + m), h2 ++ [.cells (cs ++ news)]) ∧ h2.length = h.length ∧ (∀ b, (b < lo ∨ hi ≤ b) → h2[b]? = h[b]?) ∧ (n = 0 → h2 = h) := by
  have he := hp.sl.1.1
  obtain ⟨h1, h2⟩ := hp
  simp only [aAppend]
  rw [if_neg (by omega), if_pos ⟨hb.1, hb.2.1, hb.2.2, hok⟩, he]
  simp only [Option.bind_some]
  rcases h2 with ⟨rfl, h3⟩ | ⟨hnp, b, rfl, h3, h4, h5⟩
  · refine ⟨h, ?_, rfl, fun _ _ => rfl, fun _ => rfl⟩
    cases a with
    | none => rfl
    | some x =>
      obtain ⟨b, o, m'⟩ := x
      have := h3 _ rfl
      simp only at this
      subst this
      rfl
  · have hlb : lim ≤ b := by omega
    refine ⟨h.set b .dead, ?_, by simp, fun c hc => List.getElem?_set_ne (by omega), fun h0 => by omega⟩
    simp only [hlb, true_and, if_true, cellsOf, h3, Option.bind_some, Nat.zero_add]
    rw [if_pos (by omega)]
/-- An append of nothing. -/
theorem append_none {lim bytes : Nat} (hp : Ap lo hi sz h a n cs) : aAppend lim sz bytes h (.slice a n n) 0 [] = some (.slice a n n, h) := by
  simp only [aAppend, Nat.add_zero, Nat.le_refl, if_true]
  cases a with
  | none =>
    rcases hp.2 with ⟨rfl, _⟩ | ⟨_, b, h1, _⟩
    · rfl
    · cases h1
  | some x => obtain ⟨b, o, m⟩ := x; simp [aWrite]
end

theorem over_one {cs : List Value} {p : Nat} (v : Value) (hp : p < cs.length) : over cs p [v] = cs.set p v := by
  unfold over
  rw [List.set_eq_take_append_cons_drop, if_pos hp]
  simp
theorem cells_one {v : Value} (hv : cellOk v = true) : v.cells.toList = [v] := by cases v <;> first | rfl | (simp [cellOk] at hv)
/-- One cell of a slice written. -/
theorem Sl.store1 {h : AH} {lim lo hi n c j : Nat} {a : Option Addr} {cs : List Value} {v : Value} (hs : Sl 1 h a n c cs) (hj : j < n) (hw : Within lo hi 1 a n) (hlim : lim ≤ lo) (hv : cellOk v = true) :
    ∃ h', aStore lim 1 h (eptr 1 a j) v = some h' ∧ Sl 1 h' a n c (cs.set j v) ∧ h'.length = h.length ∧ ∀ b, (b < lo ∨ hi ≤ b) → h'[b]? = h[b]? := by
  have hs0 := hs
  obtain ⟨b, o, m, ds, rfl, h1, h2, rfl⟩ := hs.cells (by omega) (by omega)
  have hwb := hw _ rfl (by omega)
  simp only at hwb
  have hc := cells_one hv
  have hsz : v.cells.size = 1 := by rw [← Array.length_toList, hc]; rfl
  have hbl := (List.getElem?_eq_some_iff.1 h1).1
  refine ⟨h.set b (.cells (ds.set (o + j) v)), ?_, ⟨?_, hs0.2.1, by simp only [List.length_set]; exact hs0.2.2.1, fun h0 => by cases h0⟩, by simp, fun d hd => List.getElem?_set_ne (by omega)⟩
  · simp only [eptr, aStore, Nat.mul_one, hsz, if_true, hc, aWrite, List.all_cons, List.all_nil, hv, Bool.and_true, and_true, cellsOf, h1, Option.bind_some, List.length_cons, List.length_nil]
    rw [if_neg (by simp), if_pos (by omega), if_pos (by omega), over_one v (by omega)]
  · simp only [aElems]
    rw [if_pos hs0.2.1, if_neg (by omega)]
    simp only [cellsOf, List.getElem?_set_self hbl, Option.bind_some, List.length_set]
    rw [if_pos h2, List.drop_set, if_neg (by omega), List.take_set, show o + j - o = j by omega]

section
variable {X : Ext} {F : FuncId → Option RFunc} {lim : Nat} {L : Al} {h0 h : AH} {K : Value → AH → Prop} {l : List Item}
theorem OP.storeE {x y : Operand} {a : Option Addr} {n c j lo hi : Nat} {cs : List Value} {v : Value} (hs : Sl 1 h a n c cs) (hw : Within lo hi 1 a n) (hlim : lim ≤ lo) (hx : lev L x = some (eptr 1 a j)) (hy : lev L y = some v) (hj : j < n) (hv : cellOk v = true)
    (hk : ∀ h', Sl 1 h' a n c (cs.set j v) → h'.length = h.length → (∀ b, (b < lo ∨ hi ≤ b) → h'[b]? = h[b]?) → K undef h') : OP X F lim (.store 1 x y) L h K := fun e he => by
  obtain ⟨h', h1, h2, h3, h4⟩ := hs.store1 hj hw hlim hv
  exact ⟨0, undef, h', by simp only [aop, he.ev hx, he.ev hy, h1, Option.map_some], hk h' h2 h3 h4⟩
theorem OL.new {cs : List Value} (hL : Loc h0 h l) (hk : ∀ b h', Loc h0 h' (bx b cs :: l) → K (.pointer (some ⟨b, 0, none⟩)) h') : OP X F lim (.new cs) L h K := .new (hk _ _ (hL.new cs))
theorem OL.box {x : Operand} {v : Value} {cs : List Value} (hL : Loc h0 h l) (hx : lev L x = some v) (hv : v.cells.toList = cs) (hok : cs.all cellOk = true) (hk : ∀ b h', Loc h0 h' (bx b cs :: l) → K (.pointer (some ⟨b, 0, none⟩)) h') : OP X F lim (.box x) L h K := .box hx hv hok (hk _ _ (hL.new cs))
theorem OL.boxA {x : Operand} {cs : List Value} (hL : Loc h0 h l) (hx : lev L x = some (.agg cs.toArray)) (hok : cs.all cellOk = true) (hk : ∀ b h', Loc h0 h' (bx b cs :: l) → K (.pointer (some ⟨b, 0, none⟩)) h') : OP X F lim (.box x) L h K := .box hx (by simp [Value.cells]) hok (hk _ _ (hL.new cs))
theorem OL.load1 {x : Operand} {b o k : Nat} {cs : List Value} {v : Value} (hL : Loc h0 h l) (hx : lev L x = some (.pointer (some ⟨b, o, none⟩))) (hc : l[k]? = some (bx b cs)) (hv : nth cs o = some v) (hk : K v h) : OP X F lim (.load none x) L h K := .load hx (hL.cell hc) (by unfold loadAt; exact nth_get hv) hk
theorem OL.buildSlice {z cs cs' : List Value} {n : Nat} {ps : List (Nat × Nat × Operand)} (hL : Loc h0 h l) (hf : fillL L z ps = some cs) (hcs : cs = cs') (hok : cs'.all cellOk = true) (hk : ∀ b h', Loc h0 h' (bx b cs' :: l) → K (.slice (some ⟨b, 0, none⟩) n n) h') : OP X F lim (.buildSlice z n ps) L h K := .buildSlice hf (hcs ▸ hok) (by subst hcs; exact hk _ _ (hL.new cs))
theorem OP.buildN {z cs cs' : List Value} {ps : List (Nat × Nat × Operand)} (hf : fillL L z ps = some cs) (hcs : cs = cs') (hk : K (.agg cs'.toArray) h) : OP X F lim (.build z ps) L h K := .build hf (by subst hcs; exact hk)
theorem OL.load {n : Option Nat} {x : Operand} {b o k : Nat} {cs : List Value} {v : Value} (hL : Loc h0 h l) (hx : lev L x = some (.pointer (some ⟨b, o, none⟩))) (hc : l[k]? = some (bx b cs)) (hv : loadAt n cs o = some v) (hk : K v h) : OP X F lim (.load n x) L h K := .load hx (hL.cell hc) hv hk
theorem OL.loadAll {n : Nat} {x : Operand} {b k : Nat} {cs : List Value} (hL : Loc h0 h l) (hx : lev L x = some (.pointer (some ⟨b, 0, none⟩))) (hc : l[k]? = some (bx b cs)) (hn : cs.length = n) (hk : K (.agg cs.toArray) h) : OP X F lim (.load (some n) x) L h K := .loadAll hx (hL.cell hc) hn hk
theorem OL.store {n : Nat} {x y : Operand} {b o k : Nat} {cs vs cs' : List Value} {v : Value} {l' : List Item} (hL : Loc h0 h l) (hlim : lim ≤ h0.length) (hx : lev L x = some (.pointer (some ⟨b, o, none⟩))) (hy : lev L y = some v) (hvs : v.cells.toList = vs) (hn : vs.length = n) (hc : l[k]? = some (bx b cs)) (hok : vs.all cellOk = true) (ho : o + n ≤ cs.length) (hpos : 0 < n)
    (hcs : over cs o vs = cs') (hl' : l.set k (bx b cs') = l') (hk : ∀ h', Loc h0 h' l' → K undef h') : OP X F lim (.store n x y) L h K :=
  .store hx hy hvs hn (hL.cell hc) (hL.own hc hlim) hok ho hpos (by rw [hcs]; exact hk _ (hl' ▸ hL.set hc cs'))
/-- A call that only makes blocks. -/
theorem OL.call {f : Operand} {g : FuncId} {xs : List Operand} {vs : List Value} {S : Value → AH → Prop} (hL : Loc h0 h l) (hf : lev L f = some (.func (.func g) #[] #[])) (ha : levs L xs = some vs) (hr : Ret X F lim g vs h fun v h' => Pfx h h' ∧ S v h') (hk : ∀ v h', Pfx h h' → Loc h0 h' l → S v h' → K v h') : OP X F lim (.call f xs) L h K :=
  .call hf ha (hr.mono fun v h' hs => hk v h' hs.1 (hL.grow hs.1) hs.2)
theorem Loc.apOut (hL : Loc h0 h l) {k lo hi sz n : Nat} {a : Option Addr} {cs : List Value} (hk : l[k]? = some (ap lo hi sz a n cs)) : Ap h0.length h.length sz h a n cs := Ap.widen (hL.get hk) (hL.lo hk) (LocB.get hL hk).2.2.2
theorem Ap.pos {lo hi sz n : Nat} {a : Option Addr} {cs : List Value} (hp : Ap lo hi sz h a n cs) (hn : 0 < n) : ∃ b, a = some ⟨b, 0, some sz⟩ ∧ h[b]? = some (.cells cs) ∧ lo ≤ b ∧ b < hi := by
  rcases hp.2 with ⟨h1, _⟩ | ⟨_, h1⟩
  · omega
  · exact h1
/-- A call that makes a slice. -/
theorem OL.callAp {f : Operand} {g : FuncId} {xs : List Operand} {vs : List Value} {sz n : Nat} {cs : List Value} (hL : Loc h0 h l) (hf : lev L f = some (.func (.func g) #[] #[])) (ha : levs L xs = some vs) (hr : Ret X F lim g vs h fun v h' => Pfx h h' ∧ ∃ a', v = .slice a' n n ∧ Ap h.length h'.length sz h' a' n cs) (hk : ∀ a' h', Pfx h h' → Loc h0 h' (ap h.length h'.length sz a' n cs :: l) → K (.slice a' n n) h') : OP X F lim (.call f xs) L h K :=
  .call hf ha (hr.mono fun v h' hs => by
    obtain ⟨hp, a', rfl, hA⟩ := hs
    exact hk a' h' hp (hL.add hp (ap h.length h'.length sz a' n cs) rfl rfl hA))
theorem aLen_slice (a : Option Addr) (n c : Nat) : aLen (.slice a n c) = some n := rfl
/-- A copy by append. -/
theorem OL.copy {sz bytes : Nat} {s x : Operand} {a a2 : Option Addr} {m c : Nat} {news : List Value} (hL : Loc h0 h l) (hs : lev L s = some (.slice a 0 0)) (hsp : ∀ x, a = some x → x.spot = none) (hx : lev L x = some (.slice a2 m c)) (hn : Sl sz h a2 m c news) (hb : Room m bytes) (hok : news.all cellOk = true)
    (hk : ∀ a' h', Pfx h h' → Loc h0 h' (ap h.length h'.length sz a' m news :: l) → K (.slice a' m m) h') : OP X F lim (.append sz bytes s x) L h K := fun e he => by
  have hA : Ap 0 0 sz h a 0 [] := ⟨by simp, .inl ⟨rfl, hsp⟩⟩
  simp only [aop, he.ev hx, he.ev hs, aLen_slice, Option.bind_some, hn.1]
  rcases Nat.eq_zero_or_pos m with h1 | h1
  · subst h1
    have : news = [] := List.eq_nil_of_length_eq_zero (by rw [hn.2.2.1]; simp)
    subst this
    refine ⟨0, _, _, append_none hA, hk a h (Pfx.refl h) (hL.add (Pfx.refl h) (ap h.length h.length sz a 0 []) rfl rfl ⟨by simp, .inl ⟨rfl, hsp⟩⟩)⟩
  · obtain ⟨h2, h3, _, _, h4⟩ := append_some (lim := lim) (m := m) hA h1 (by rw [Nat.zero_add]; exact hb) hok (.inr rfl)
    obtain rfl := h4 rfl
    rw [Nat.zero_add, List.nil_append] at h3
    refine ⟨0, _, _, h3, hk _ _ (Pfx.push _) (hL.add (Pfx.push _) (ap h2.length (h2 ++ [Blk.cells news]).length sz _ m news) rfl rfl ⟨hn.2.2.1, .inr ⟨h1, h2.length, rfl, by simp, Nat.le_refl _, by simp⟩⟩)⟩
/-- Something more, at the end. -/
theorem OL.append {sz bytes lo hi k : Nat} {s x : Operand} {a a2 : Option Addr} {n m c : Nat} {cs news : List Value} (hL : Loc h0 h l) (hlim : lim ≤ h0.length) (hs : lev L s = some (.slice a n n)) (hi : l[k]? = some (ap lo hi sz a n cs)) (hx : lev L x = some (.slice a2 m c)) (hn : Sl sz h a2 m c news) (hm : 0 < m) (hb : Room (n + m) bytes) (hok : news.all cellOk = true)
    (hk : ∀ a' h', Loc h0 h' (ap h.length h'.length sz a' (n + m) (cs ++ news) :: l.eraseIdx k) → K (.slice a' (n + m) (n + m)) h') : OP X F lim (.append sz bytes s x) L h K := fun e he => by
  have hA := hL.get hi
  have hlo := hL.lo hi
  obtain ⟨h2, h3, h4, h5, _⟩ := append_some (lim := lim) (m := m) hA hm hb hok (.inl (Nat.le_trans hlim hlo))
  refine ⟨0, _, _, by simp only [aop, he.ev hx, he.ev hs, aLen_slice, Option.bind_some, hn.1]; exact h3, hk _ _ ?_⟩
  have e1 : Loc h0 h2 (l.eraseIdx k) := LocB.erase hL (Nat.le_refl _) (by omega) hi h5 |>.up (by omega)
  have e2 := e1.add (Pfx.push (.cells (cs ++ news))) (ap h2.length (h2 ++ [Blk.cells (cs ++ news)]).length sz (some ⟨h.length, 0, some sz⟩) (n + m) (cs ++ news)) rfl rfl ⟨by rw [List.length_append, hA.1, hn.2.2.1, Nat.add_mul], .inr ⟨by omega, h.length, rfl, by rw [← h4]; simp, by omega, by simp; omega⟩⟩
  rw [h4] at e2
  exact e2
/-- One cell of one's own slice written. -/
theorem Ap.store1 {h : AH} {lim lo hi n j : Nat} {a : Option Addr} {cs : List Value} {v : Value} (hp : Ap lo hi 1 h a n cs) (hj : j < n) (hlim : lim ≤ lo) (hv : cellOk v = true) :
    ∃ h', aStore lim 1 h (eptr 1 a j) v = some h' ∧ Ap lo hi 1 h' a n (cs.set j v) ∧ h'.length = h.length ∧ ∀ b, (b < lo ∨ hi ≤ b) → h'[b]? = h[b]? := by
  obtain ⟨b, rfl, hb, h1, h2⟩ := hp.pos (by omega)
  have hlen := hp.1
  have hbl := (List.getElem?_eq_some_iff.1 hb).1
  have hc := cells_one hv
  have hsz : v.cells.size = 1 := by rw [← Array.length_toList, hc]; rfl
  refine ⟨h.set b (.cells (cs.set j v)), ?_, ⟨by rw [List.length_set]; exact hlen, .inr ⟨by omega, b, rfl, List.getElem?_set_self hbl, h1, h2⟩⟩, by simp, fun d hd => List.getElem?_set_ne (by omega)⟩
  simp only [eptr, aStore, Nat.mul_one, hsz, if_true, hc, aWrite, List.all_cons, List.all_nil, hv, Bool.and_true, and_true, cellsOf, hb, Option.bind_some, List.length_cons, List.length_nil]
  rw [if_neg (by simp), if_pos (by omega), if_pos (by omega), over_one v (by omega), Nat.zero_add]
theorem OL.storeAp {x y : Operand} {a : Option Addr} {n j lo hi k : Nat} {cs : List Value} {v : Value} (hL : Loc h0 h l) (hlim : lim ≤ h0.length) (hk0 : l[k]? = some (ap lo hi 1 a n cs)) (hx : lev L x = some (eptr 1 a j)) (hy : lev L y = some v) (hj : j < n) (hv : cellOk v = true)
    (hk : ∀ h', Loc h0 h' (l.set k (ap lo hi 1 a n (cs.set j v))) → K undef h') : OP X F lim (.store 1 x y) L h K := fun e he => by
  obtain ⟨h', h1, h2, h3, h4⟩ := Ap.store1 (hL.get hk0) hj (Nat.le_trans hlim (hL.lo hk0)) hv
  exact ⟨0, undef, h', by simp only [aop, he.ev hx, he.ev hy, h1, Option.map_some], hk h' (hL.put (by omega) hk0 (ap lo hi 1 a n (cs.set j v)) rfl rfl h2 fun b hb _ => h4 b hb)⟩
def junk (lo hi : Nat) : Item := ⟨lo, hi, fun _ => True, fun _ _ _ _ => trivial⟩
/-- A block somewhere between. -/
def bk (lo hi b : Nat) (cs : List Value) : Item := ⟨lo, hi, fun h => h[b]? = some (.cells cs) ∧ lo ≤ b ∧ b < hi, fun h h' hh hp => ⟨by rw [hh b hp.2.1 hp.2.2]; exact hp.1, hp.2⟩⟩
theorem Loc.bkAt (hL : Loc h0 h l) {k lo hi b : Nat} {cs : List Value} (hk : l[k]? = some (bk lo hi b cs)) : h[b]? = some (.cells cs) := (hL.get hk).1
theorem Sl.front {h : AH} {b n c sz : Nat} {m : Option Nat} {cs ds : List Value} (hb : h[b]? = some (.cells (cs ++ ds))) (hn : cs.length = n * sz) (hc : n ≤ c) : Sl sz h (some ⟨b, 0, m⟩) n c cs := by
  refine ⟨?_, hc, hn, fun h => by cases h⟩
  simp only [aElems]
  rw [if_pos hc]
  split
  · rename_i h0; rw [h0] at hn; rw [List.eq_nil_of_length_eq_zero hn]
  · simp only [cellsOf, hb, Option.bind_some, List.drop_zero]
    rw [if_pos (by simp; omega), List.take_append_of_le_length (by omega), ← hn, List.take_length]
/-- A call that writes over a slice of one's own. -/
theorem OL.callSpoil {f : Operand} {g : FuncId} {xs : List Operand} {vs : List Value} {k lo hi sz n : Nat} {a : Option Addr} {cs : List Value} (hL : Loc h0 h l) (hk0 : l[k]? = some (ap lo hi sz a n cs)) (hf : lev L f = some (.func (.func g) #[] #[])) (ha : levs L xs = some vs)
    (hr : Ret X F lim g vs h fun v h' => h'.length = h.length ∧ ∀ b, (b < lo ∨ hi ≤ b) → h'[b]? = h[b]?) (hk : ∀ v h', Loc h0 h' (l.set k (junk lo hi)) → K v h') : OP X F lim (.call f xs) L h K :=
  .call hf ha (hr.mono fun v h' hs => hk v h' (hL.put (by omega) hk0 (junk lo hi) rfl rfl trivial fun b hb _ => hs.2 b hb))
end

end Go.Proofs.YtmikcpgkppkmiaaW.Ai
