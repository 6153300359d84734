/-
 The arguments' words: operations, states, rings. Of no program.
-/
import Derived.Test.YtalknjppnkpmmaaDoorMg
import Derived.Test.YtalknjppnkpmmaaDoorMe
set_option linter.unusedVariables false
set_option linter.unusedSimpArgs false
namespace Go.Proofs.YtalknjppnkpmmaaDoorW.Ai
section
abbrev R64 (x : Int) : Prop := -9223372036854775808 ≤ x ∧ x ≤ 9223372036854775807
theorem wf64 {x : Int} (h : (Lit.int IntKind.i64 x).wf = true) : R64 x := by
 simp [Lit.wf, IntKind.min, IntKind.max, IntKind.signed, IntKind.bits] at h
 exact ⟨by omega, by omega⟩
structure Row where
 a : Option Addr
 n : Nat
 xs : List Int
abbrev Row.v (r : Row) : Value := .slice r.a r.n r.n
abbrev RowOk (h : AH) (r : Row) : Prop := Sl 1 h r.a r.n r.n (ints r.xs) ∧ r.n ≤ 2 ^ 44
abbrev St (h : AH) (r0 r1 r2 r3 : Row) : Prop := RowOk h r0 ∧ RowOk h r1 ∧ RowOk h r2 ∧ RowOk h r3
theorem RowOk.pfx {h h' : AH} {r : Row} (hr : RowOk h r) (hp : Pfx h h') : RowOk h' r := ⟨hr.1.pfx hp, hr.2⟩
theorem St.pfx {h h' : AH} {r0 r1 r2 r3 : Row} (hr : St h r0 r1 r2 r3) (hp : Pfx h h') : St h' r0 r1 r2 r3 := ⟨RowOk.pfx hr.1 hp, RowOk.pfx hr.2.1 hp, RowOk.pfx hr.2.2.1 hp, RowOk.pfx hr.2.2.2 hp⟩
section
variable {h : AH}
theorem AOk.i64 {ks : List CK} {cs : List Value} (ha : AOk h ks cs) {i : Nat} (hi : ks[i]? = some (.f (.int .i64))) {c : Value} (hc : cs[i]? = some c) : ∃ x : Int, c = .int .i64 x ∧ R64 x := by
 obtain ⟨x, h1, h2⟩ := ha.2 i _ _ hi hc
 exact ⟨x, h1, wf64 h2⟩
theorem AIs.row {v : Value} (ha : AIs h (.sl [.int .i64] 8) v) : ∃ r : Row, v = r.v ∧ RowOk h r ∧ Fits r.xs := by
 obtain ⟨a, n, xs, h1, h2, h3, h4⟩ := ha.ints
 exact ⟨⟨a, n, xs⟩, h1, ⟨h2, h4⟩, h3⟩
theorem AArg.op {v : Value} (ha : AArg h (true, [.f (.int .i64), .f (.int .i64), .f (.int .i64)]) v) : ∃ c r a : Int, v = .agg #[.int .i64 c, .int .i64 r, .int .i64 a] ∧ R64 c ∧ R64 r ∧ R64 a := by
 obtain ⟨cs, rfl, hA⟩ := ha
 have hl : cs.length = 3 := hA.1
 match cs, hl with
 | [c0, c1, c2], _ =>
  obtain ⟨c, rfl, hc⟩ := hA.i64 (i := 0) rfl rfl
  obtain ⟨r, rfl, hr⟩ := hA.i64 (i := 1) rfl rfl
  obtain ⟨a, rfl, ha⟩ := hA.i64 (i := 2) rfl rfl
  exact ⟨c, r, a, rfl, hc, hr, ha⟩
theorem AArg.state {v : Value} (ha : AArg h (true, [.sl [.int .i64] 8, .sl [.int .i64] 8, .sl [.int .i64] 8, .sl [.int .i64] 8]) v) : ∃ r0 r1 r2 r3 : Row, v = .agg #[r0.v, r1.v, r2.v, r3.v] ∧ St h r0 r1 r2 r3 := by
 obtain ⟨cs, rfl, hA⟩ := ha
 have hl : cs.length = 4 := hA.1
 match cs, hl with
 | [c0, c1, c2, c3], _ =>
  obtain ⟨r0, rfl, h0, _⟩ := AIs.row (hA.2 0 _ _ rfl rfl)
  obtain ⟨r1, rfl, h1, _⟩ := AIs.row (hA.2 1 _ _ rfl rfl)
  obtain ⟨r2, rfl, h2, _⟩ := AIs.row (hA.2 2 _ _ rfl rfl)
  obtain ⟨r3, rfl, h3, _⟩ := AIs.row (hA.2 3 _ _ rfl rfl)
  exact ⟨r0, r1, r2, r3, rfl, h0, h1, h2, h3⟩
theorem FRow.recs {α : Type} {enc : α → List Value} {P : α → Prop} {es : List FK} (hes : ∀ (j : Nat) k, es[j]? = some k → k = .int .i64) (hdec : ∀ cs : List Value, cs.length = es.length → (∀ (j : Nat) c, cs[j]? = some c → ∃ x : Int, c = .int .i64 x ∧ R64 x) → ∃ s, enc s = cs ∧ P s) :
  ∀ (n : Nat) (cs : List Value), FRow es n cs → ∃ ss : List α, cs = Ai.recs enc ss ∧ ∀ s ∈ ss, P s
 | 0, cs, hf => ⟨[], List.length_eq_zero_iff.1 (by have := hf.1; simpa using this), fun s hs => by cases hs⟩
 | n + 1, cs, hf => by
  have hlen : cs.length = n * es.length + es.length := by rw [hf.1, Nat.succ_mul]
  obtain ⟨s, hs, hP⟩ := hdec (cs.take es.length) (by rw [List.length_take]; omega) (fun j c hc => by
   have hj : j < es.length := by
    have := (List.getElem?_eq_some_iff.1 hc).1
    rw [List.length_take] at this
    omega
   rw [List.getElem?_take_of_lt hj] at hc
   have := hf.2 0 (by omega) j es[j] c (List.getElem?_eq_getElem hj) (by rw [Nat.zero_mul, Nat.zero_add]; exact hc)
   rw [hes j _ (List.getElem?_eq_getElem hj)] at this
   obtain ⟨x, h1, h2⟩ := this
   exact ⟨x, h1, wf64 h2⟩)
  obtain ⟨ss, hss, hPs⟩ := FRow.recs hes hdec n (cs.drop es.length) ⟨by rw [List.length_drop]; omega, fun i hi j k v hk hv => by
   rw [List.getElem?_drop] at hv
   exact hf.2 (i + 1) (by omega) j k v hk (by rw [Nat.succ_mul]; rw [← hv]; congr 1; omega)⟩
  refine ⟨s :: ss, ?_, fun t ht => ?_⟩
  ·show cs = enc s ++ Ai.recs enc ss
   rw [hs, ← hss, List.take_append_drop]
  ·rcases List.mem_cons.1 ht with rfl | ht
   ·exact hP
   ·exact hPs t ht
abbrev SlotFits (s : SlotR) : Prop := R64 s.c ∧ R64 s.r ∧ R64 s.a ∧ R64 s.t ∧ R64 s.b
theorem AIs.slots {v : Value} (ha : AIs h (.sl [.int .i64, .int .i64, .int .i64, .int .i64, .int .i64] 40) v) : ∃ a n ss, v = .slice a n n ∧ Sl 5 h a n n (recs slotC ss) ∧ (∀ s ∈ ss, SlotFits s) ∧ n ≤ 2 ^ 42 := by
 obtain ⟨a, n, cs, h1, h2, h3, h4, h5⟩ := ha
 obtain ⟨ss, rfl, hP⟩ := FRow.recs (enc := slotC) (P := SlotFits) (fun j k hk => by match j, hk with | 0, hk => simpa using hk.symm | 1, hk => simpa using hk.symm | 2, hk => simpa using hk.symm | 3, hk => simpa using hk.symm | 4, hk => simpa using hk.symm) (fun cs hl hc => by
  have hl : cs.length = 5 := hl
  match cs, hl with
  | [c0, c1, c2, c3, c4], _ =>
   obtain ⟨x0, rfl, r0⟩ := hc 0 _ rfl
   obtain ⟨x1, rfl, r1⟩ := hc 1 _ rfl
   obtain ⟨x2, rfl, r2⟩ := hc 2 _ rfl
   obtain ⟨x3, rfl, r3⟩ := hc 3 _ rfl
   obtain ⟨x4, rfl, r4⟩ := hc 4 _ rfl
   exact ⟨⟨x0, x1, x2, x3, x4⟩, rfl, r0, r1, r2, r3, r4⟩) n cs h3
 exact ⟨a, n, ss, h1, h2, hP, by omega⟩
abbrev OpFits (s : OpR) : Prop := R64 s.c ∧ R64 s.r ∧ R64 s.a
theorem AIs.opsS {v : Value} (ha : AIs h (.sl [.int .i64, .int .i64, .int .i64] 24) v) : ∃ a n ss, v = .slice a n n ∧ Sl 3 h a n n (recs opC ss) ∧ (∀ s ∈ ss, OpFits s) ∧ n ≤ 2 ^ 43 ∧ (a = none ∨ ∃ b, a = some ⟨b, 0, some 3⟩) := by
 obtain ⟨a, n, cs, h1, h2, h3, h4, h5⟩ := ha
 obtain ⟨ss, rfl, hP⟩ := FRow.recs (enc := opC) (P := OpFits) (fun j k hk => by match j, hk with | 0, hk => simpa using hk.symm | 1, hk => simpa using hk.symm | 2, hk => simpa using hk.symm) (fun cs hl hc => by
  have hl : cs.length = 3 := hl
  match cs, hl with
  | [c0, c1, c2], _ =>
   obtain ⟨x0, rfl, r0⟩ := hc 0 _ rfl
   obtain ⟨x1, rfl, r1⟩ := hc 1 _ rfl
   obtain ⟨x2, rfl, r2⟩ := hc 2 _ rfl
   exact ⟨⟨x0, x1, x2⟩, rfl, r0, r1, r2⟩) n cs h3
 exact ⟨a, n, ss, h1, h2, hP, by omega, h5.2⟩
theorem AIs.ops {v : Value} (ha : AIs h (.sl [.int .i64, .int .i64, .int .i64] 24) v) : ∃ a n ss, v = .slice a n n ∧ Sl 3 h a n n (recs opC ss) ∧ (∀ s ∈ ss, OpFits s) ∧ n ≤ 2 ^ 43 := by
 obtain ⟨a, n, ss, h1, h2, h3, h4, -⟩ := ha.opsS
 exact ⟨a, n, ss, h1, h2, h3, h4⟩
theorem AArg.ops {v : Value} (ha : AArg h (false, [.sl [.int .i64, .int .i64, .int .i64] 24]) v) : ∃ a n ss, v = .slice a n n ∧ Sl 3 h a n n (recs opC ss) ∧ (∀ s ∈ ss, OpFits s) ∧ n ≤ 2 ^ 43 := AIs.ops (ha.2 0 _ _ rfl rfl)
theorem AArg.opsS {v : Value} (ha : AArg h (false, [.sl [.int .i64, .int .i64, .int .i64] 24]) v) : ∃ a n ss, v = .slice a n n ∧ Sl 3 h a n n (recs opC ss) ∧ (∀ s ∈ ss, OpFits s) ∧ n ≤ 2 ^ 43 ∧ (a = none ∨ ∃ b, a = some ⟨b, 0, some 3⟩) := AIs.opsS (ha.2 0 _ _ rfl rfl)
theorem AArg.ring {v : Value} (ha : AArg h (true, [.f (.int .i64), .f (.int .i64), .f (.int .i64), .sl [.int .i64, .int .i64, .int .i64, .int .i64, .int .i64] 40]) v) : ∃ p q e a n ss, v = .agg #[.int .i64 p, .int .i64 q, .int .i64 e, .slice a n n] ∧ (R64 p ∧ R64 q ∧ R64 e ∧ ∀ s ∈ ss, SlotFits s) ∧ Sl 5 h a n n (recs slotC ss) ∧ n ≤ 2 ^ 42 := by
 obtain ⟨cs, rfl, hA⟩ := ha
 have hl : cs.length = 4 := hA.1
 match cs, hl with
 | [c0, c1, c2, c3], _ =>
  obtain ⟨p, rfl, hp⟩ := hA.i64 (i := 0) rfl rfl
  obtain ⟨q, rfl, hq⟩ := hA.i64 (i := 1) rfl rfl
  obtain ⟨e, rfl, he⟩ := hA.i64 (i := 2) rfl rfl
  obtain ⟨a, n, ss, rfl, h1, h2, h3⟩ := AIs.slots (hA.2 3 _ _ rfl rfl)
  exact ⟨p, q, e, a, n, ss, rfl, ⟨hp, hq, he, h2⟩, h1, h3⟩
end
end
section
section
variable {L : Al} {h : AH}
theorem resL_cell {t n b : Nat} {cs : List Value} {r : List RRes} {vs : List Value} (ht : look L t = some (.pointer (some ⟨b, 0, none⟩))) (hc : h[b]? = some (.cells cs)) (hn : cs.length = n) (hr : resL L h r = some vs) : resL L h (.cell t (some n) :: r) = some (.agg cs.toArray :: vs) := by
 have h1 : aLoad (some n) h (.pointer (some ⟨b, 0, none⟩)) = some (.agg cs.toArray) := by
  simp only [aLoad, cellsOf, hc, Option.bind_some, loadAt]
  rw [if_pos (by omega), ← hn]
  simp
 simp only [resL, ht, Option.bind_some, h1, hr, Option.map_some]
end
def Made (sz : Nat) (h h' : AH) (W : Option Addr → Nat → Value) (cs : List Value) (v : Value) : Prop := ∃ a n, v = W a n ∧ Sl sz h' a n n cs ∧ Within h.length h'.length sz a n
theorem Within.none (lo hi sz : Nat) : Within lo hi sz none 0 := fun x hx => by cases hx
theorem Sl.nil (sz : Nat) (h : AH) : Sl sz h none 0 0 [] := ⟨rfl, Nat.le_refl _, by simp, fun _ => rfl⟩
theorem Within.le {lo hi lo' hi' sz n : Nat} {a : Option Addr} (h : Within lo hi sz a n) (h1 : lo' ≤ lo) (h2 : hi ≤ hi') : Within lo' hi' sz a n := fun x hx hn => ⟨Nat.le_trans h1 (h x hx hn).1, Nat.lt_of_lt_of_le (h x hx hn).2 h2⟩
section
variable {X : Ext} {F : FuncId → Option RFunc} {lim : Nat} {L : Al} {h0 h : AH} {K : Value → AH → Prop} {l : List Item}
theorem Loc.toEnd (hL : Loc h0 h l) {k : Nat} {i : Item} (hk : l[k]? = some i) : i.hi ≤ h.length := (LocB.get hL hk).2.2.2
theorem Loc.less (hL : Loc h0 h l) {k : Nat} {i : Item} (hk : l[k]? = some i) : Loc h0 h (l.eraseIdx k) := LocB.erase hL (Nat.le_refl _) (Nat.le_refl _) hk (fun _ _ => rfl)
theorem Loc.slOut (hL : Loc h0 h l) {k lo hi sz n c : Nat} {a : Option Addr} {cs : List Value} (hk : l[k]? = some (sl lo hi sz a n c cs)) : Sl sz h a n c cs ∧ Within h0.length h.length sz a n := ⟨(hL.get hk).1, (hL.get hk).2.le (hL.lo hk) (hL.toEnd hk)⟩
theorem Loc.apOut' (hL : Loc h0 h l) {k lo hi sz n : Nat} {a : Option Addr} {cs : List Value} (hk : l[k]? = some (ap lo hi sz a n cs)) : Sl sz h a n n cs ∧ Within h0.length h.length sz a n := (hL.apOut hk).sl
theorem Loc.bxOut (hL : Loc h0 h l) {k b n sz : Nat} {cs : List Value} (hk : l[k]? = some (bx b cs)) (hn : cs.length = n * sz) : Sl sz h (some ⟨b, 0, Option.none⟩) n n cs ∧ Within h0.length h.length sz (some ⟨b, 0, Option.none⟩) n :=
 ⟨hL.bxAt hk hn, fun x hx _ => by cases hx; exact ⟨hL.lo hk, hL.toEnd hk⟩⟩
theorem OL.callSl {f : Operand} {g : FuncId} {xs : List Operand} {vs : List Value} {sz : Nat} {W : Option Addr → Nat → Value} {cs : List Value} (hL : Loc h0 h l) (hf : lev L f = some (.func (.func g) #[] #[])) (ha : levs L xs = some vs) (hr : Ret X F lim g vs h fun v h' => Pfx h h' ∧ Made sz h h' W cs v)
  (hk : ∀ a n h', Pfx h h' → Loc h0 h' (sl h.length h'.length sz a n n cs :: l) → K (W a n) h') : OP X F lim (.call f xs) L h K :=
 .call hf ha (hr.mono fun v h' ⟨hp, a, n, hv, hs, hw⟩ => hv ▸ hk a n h' hp (hL.add hp _ rfl rfl ⟨hs, hw⟩))
end
end
section
theorem overC_get {cs vs : List Value} {f : Nat} (hf : f + vs.length ≤ cs.length) (i : Nat) : (over cs f vs)[i]? = if i < f then cs[i]? else if i < f + vs.length then vs[i - f]? else cs[i]? := by
 unfold over
 rw [List.append_assoc, List.getElem?_append, List.length_take, List.getElem?_append, List.getElem?_take, List.getElem?_drop, Nat.min_eq_left (by omega)]
 by_cases h1 : i < f
 ·simp only [h1, if_true]
 ·simp only [h1, if_false]
  by_cases h2 : i < f + vs.length
  ·rw [if_pos (by omega), if_pos h2]
  ·rw [if_neg (by omega), if_neg h2]
   congr 1; omega
theorem overC_len {cs vs : List Value} {f : Nat} (hf : f + vs.length ≤ cs.length) : (over cs f vs).length = cs.length := by
 unfold over; simp; omega
theorem Sl.storeC {h : AH} {lim lo hi sz n c f : Nat} {a : Option Addr} {cs vs : List Value} (hs : Sl sz h a n c cs) (hz : 0 < sz) (hpos : 0 < vs.length) (hf : f + vs.length ≤ n * sz) (hw : Within lo hi sz a n) (hlim : lim ≤ lo) (hok : vs.all cellOk = true) :
  ∃ b o m h', a = some ⟨b, o, m⟩ ∧ aWrite lim h b (o + f) vs = some h' ∧ Sl sz h' a n c (over cs f vs) ∧ h'.length = h.length ∧ ∀ b, (b < lo ∨ hi ≤ b) → h'[b]? = h[b]? := by
 have hs0 := hs
 have hn : 0 < n := by
  rcases Nat.eq_zero_or_pos n with h0 | h0
  ·subst h0; rw [Nat.zero_mul] at hf; omega
  ·exact h0
 obtain ⟨b, o, m, ds, rfl, h1, h2, rfl⟩ := hs.cells hz hn
 have hwb := hw _ rfl (Nat.mul_pos hn hz)
 simp only at hwb
 have hbl := (List.getElem?_eq_some_iff.1 h1).1
 have hdl : (over ds (o + f) vs).length = ds.length := overC_len (by omega)
 refine ⟨b, o, m, h.set b (.cells (over ds (o + f) vs)), rfl, ?_, ⟨?_, hs0.2.1, ?_, fun h0 => by cases h0⟩, by simp, fun d hd => List.getElem?_set_ne (by omega)⟩
 ·unfold aWrite
  rw [if_neg (by intro h0; rw [h0] at hpos; simp at hpos), if_pos ⟨by omega, hok⟩]
  simp only [cellsOf, h1, Option.bind_some]
  rw [if_pos (by omega)]
 ·simp only [aElems]
  rw [if_pos hs0.2.1, if_neg (by have := Nat.mul_pos hn hz; omega)]
  simp only [cellsOf, List.getElem?_set_self hbl, Option.bind_some]
  rw [if_pos (by omega)]
  congr 1
  apply List.ext_getElem?
  intro i
  rw [overC_get (by rw [List.length_take, List.length_drop]; omega), List.getElem?_take, List.getElem?_drop, overC_get (by omega), List.getElem?_take, List.getElem?_drop]
  by_cases h3 : i < n * sz
  ·simp only [h3, if_true]
   by_cases h4 : i < f
   ·rw [if_pos (by omega), if_pos h4]
   ·rw [if_neg (by omega), if_neg h4]
    by_cases h5 : i < f + vs.length
    ·rw [if_pos (by omega), if_pos h5]; congr 1; omega
    ·rw [if_neg (by omega), if_neg h5]
  ·simp only [h3, if_false]
   rw [if_neg (by omega), if_neg (by omega)]
 ·rw [overC_len (by rw [hs0.2.2.1]; exact hf)]; exact hs0.2.2.1
section
variable {α : Type} {enc : α → List Value} {sz : Nat}
theorem over_recs (he : ∀ s, (enc s).length = sz) : ∀ (ss : List α) (j : Nat) (t : α), j < ss.length → over (recs enc ss) (j * sz) (enc t) = recs enc (ss.set j t)
 | [], j, t, hj => by simp at hj
 | s :: ss, 0, t, hj => by
  show over (enc s ++ recs enc ss) (0 * sz) (enc t) = enc t ++ recs enc ss
  unfold over
  rw [Nat.zero_mul, List.take_zero, List.nil_append, Nat.zero_add, he t, ← he s, List.drop_left]
 | s :: ss, j + 1, t, hj => by
  show over (enc s ++ recs enc ss) ((j + 1) * sz) (enc t) = enc s ++ recs enc (ss.set j t)
  rw [← over_recs he ss j t (by simpa using hj)]
  unfold over
  have e1 : (j + 1) * sz = (enc s).length + j * sz := by rw [he s, Nat.succ_mul]; omega
  rw [e1, List.take_length_add_append, Nat.add_assoc, List.drop_length_add_append]
  simp
end
section
variable {X : Ext} {F : FuncId → Option RFunc} {lim : Nat} {L : Al} {h0 h : AH} {K : Value → AH → Prop} {Q : Al → AH → Prop} {l : List Item}
variable {α : Type} {enc : α → List Value} {sz : Nat}
theorem OP.storeF {x y : Operand} {a : Option Addr} {n c j f lo hi : Nat} {cs : List Value} {v : Value} (hz : 0 < sz) (hs : Sl sz h a n c cs) (hw : Within lo hi sz a n) (hlim : lim ≤ lo) (hx : lev L x = some (fptr sz a j f)) (hy : lev L y = some v) (hj : j < n) (hf : f < sz) (hv : cellOk v = true)
  (hk : ∀ h', Sl sz h' a n c (over cs (j * sz + f) [v]) → h'.length = h.length → (∀ b, (b < lo ∨ hi ≤ b) → h'[b]? = h[b]?) → K undef h') : OP X F lim (.store 1 x y) L h K := fun e hE => by
 have h1 : (j + 1) * sz ≤ n * sz := Nat.mul_le_mul_right _ hj
 rw [Nat.succ_mul] at h1
 obtain ⟨b, o, m, h', rfl, g1, g2, g3, g4⟩ := hs.storeC (f := j * sz + f) (vs := [v]) hz (by simp) (by simp; omega) hw hlim (by simp [hv])
 have hc := cells_one hv
 have hsz : v.cells.size = 1 := by rw [← Array.length_toList, hc]; rfl
 refine ⟨0, undef, h', ?_, hk h' g2 g3 g4⟩
 simp only [aop, hE.ev hx, hE.ev hy, fptr, aStore, hsz, if_true, hc]
 rw [show o + j * sz + f = o + (j * sz + f) by omega, g1]; rfl
theorem Loc.slM (hL : Loc h0 h l) {lo hi n c : Nat} {a : Option Addr} {cs : List Value} (hm : sl lo hi sz a n c cs ∈ l) : Sl sz h a n c cs := let ⟨k, hk⟩ := List.getElem?_of_mem hm; hL.slAt hk
theorem Loc.apM (hL : Loc h0 h l) {lo hi n : Nat} {a : Option Addr} {cs : List Value} (hm : ap lo hi sz a n cs ∈ l) : Sl sz h a n n cs := let ⟨k, hk⟩ := List.getElem?_of_mem hm; hL.apAt hk
theorem WO.cons0A {r : List RO} {n : Nat} {y z : Operand} {av : List Operand} {b o : Nat} (hy : lev L y = some (.pointer (some ⟨b, o, none⟩))) (hav : ∀ x ∈ av, ∃ c p m, lev L x = some (.pointer (some ⟨c, p, m⟩)) ∧ b ≠ c) (W : OP X F lim (.store n y z) L h fun v h' => WO X F lim r L h' Q) : WO X F lim (⟨none, .store n y z, none, false, av⟩ :: r) L h Q := fun e he => by
 obtain ⟨k, v, h', h1, h2⟩ := W e he
 refine wo_run ?_ rfl h1 (agr_dst he none v) h2
 rw [List.all_eq_true]
 intro x hx
 obtain ⟨c, p, m, g1, g2⟩ := hav x hx
 simp only [apart, he.ev g1, he.ev hy]
 simpa using g2
theorem OP.eqOp {neg : Bool} {x y : Operand} {s t : OpR} (hx : lev L x = some (.agg (opC s).toArray)) (hy : lev L y = some (.agg (opC t).toArray)) (ht : s = t → K (.bool (!neg)) h) (hf : s ≠ t → K (.bool neg) h) : OP X F lim (.eq neg (some [1, 1, 1]) x y) L h K := by
 have e : aEq (some [1, 1, 1]) (.agg (opC s).toArray) (.agg (opC t).toArray) = some (decide (s = t)) := by
  simp only [aEq, opC, eqKs, eqK, if_true, Option.bind_some, Option.map_some, Bool.and_true]
  congr 1
  by_cases hst : s = t
  ·subst hst; simp
  ·rw [decide_eq_false hst]
   cases s; cases t
   simp only [OpR.mk.injEq] at hst
   simp only [Bool.and_eq_false_iff, beq_eq_false_iff_ne, ne_eq]
   grind
 by_cases hst : s = t
 ·exact .eq hx hy (e.trans (by rw [decide_eq_true hst])) (by cases neg <;> exact ht hst)
 ·exact .eq hx hy (e.trans (by rw [decide_eq_false hst])) (by cases neg <;> exact hf hst)
theorem OP.andN {x y : Operand} {a b : Int} (hx : lev L x = some (.int .i64 a)) (hy : lev L y = some (.int .i64 b)) (hb : 0 ≤ b ∧ b < 4611686018427387904) (hk : 0 ≤ mask a b ∧ mask a b ≤ b → K (.int .i64 (mask a b)) h) : OP X F lim (.bin .and x y) L h K := .andC hx hy hb fun m hm h2 => hm ▸ hk (hm ▸ h2)
def MadeN (sz : Nat) (h h' : AH) (W : Option Addr → Nat → Value) (cs : List Value) (v : Value) : Prop := ∃ a n, v = W a n ∧ (Sl sz h' a n n cs ∧ Within h.length h'.length sz a n) ∧ n ≤ 4398046511104
theorem Made.short {enc : α → List Value} {h h' : AH} {W : Option Addr → Nat → Value} {ss : List α} {v : Value} (hm : Made sz h h' W (recs enc ss) v) (he : ∀ s, (enc s).length = sz) (hz : 0 < sz) (hs : ss.length ≤ 4398046511104) : MadeN sz h h' W (recs enc ss) v :=
 let ⟨a, n, h1, h2, h3⟩ := hm
 ⟨a, n, h1, ⟨h2, h3⟩, by have := h2.rlen he hz; omega⟩
end
end
section
abbrev stV (r0 r1 r2 r3 : Row) : Value := .agg #[r0.v, r1.v, r2.v, r3.v]
abbrev RowIn (lo hi : Nat) (r : Row) : Prop := Within lo hi 1 r.a r.n
abbrev StIn (lo hi : Nat) (r0 r1 r2 r3 : Row) : Prop := RowIn lo hi r0 ∧ RowIn lo hi r1 ∧ RowIn lo hi r2 ∧ RowIn lo hi r3
theorem St.same {h h' : AH} {lo hi : Nat} {r0 r1 r2 r3 : Row} (hs : St h r0 r1 r2 r3) (hi' : StIn lo hi r0 r1 r2 r3) (hh : ∀ b, lo ≤ b → b < hi → h'[b]? = h[b]?) : St h' r0 r1 r2 r3 := by
 have key : ∀ {r : Row}, RowOk h r → RowIn lo hi r → RowOk h' r := fun {r} h1 h2 => ⟨h1.1.same fun x hx h0 _ => hh _ (h2 x hx h0).1 (h2 x hx h0).2, h1.2⟩
 exact ⟨key hs.1 hi'.1, key hs.2.1 hi'.2.1, key hs.2.2.1 hi'.2.2.1, key hs.2.2.2 hi'.2.2.2⟩
def st (lo hi : Nat) (r0 r1 r2 r3 : Row) : Item := ⟨lo, hi, fun h => St h r0 r1 r2 r3 ∧ StIn lo hi r0 r1 r2 r3, fun h h' hh hp => ⟨hp.1.same hp.2 hh, hp.2⟩⟩
abbrev nilRow : Row := ⟨none, 0, []⟩
theorem nilRow_ok (h : AH) : RowOk h nilRow := ⟨Sl.nil 1 h, Nat.zero_le _⟩
theorem nilRow_in (lo hi : Nat) : RowIn lo hi nilRow := Within.none lo hi 1
theorem nilSt (h : AH) : St h nilRow nilRow nilRow nilRow := ⟨nilRow_ok h, nilRow_ok h, nilRow_ok h, nilRow_ok h⟩
theorem nilIn (lo hi : Nat) : StIn lo hi nilRow nilRow nilRow nilRow := ⟨nilRow_in lo hi, nilRow_in lo hi, nilRow_in lo hi, nilRow_in lo hi⟩
structure S4 where
 x0 : List Int
 x1 : List Int
 x2 : List Int
 x3 : List Int
 deriving DecidableEq
abbrev S4.none : S4 := ⟨[], [], [], []⟩
def MadeS (h h' : AH) (W : Row → Row → Row → Row → Value) (s : S4) (v : Value) : Prop := ∃ r0 r1 r2 r3 : Row, v = W r0 r1 r2 r3 ∧ (r0.xs = s.x0 ∧ r1.xs = s.x1 ∧ r2.xs = s.x2 ∧ r3.xs = s.x3) ∧ St h' r0 r1 r2 r3 ∧ StIn h.length h'.length r0 r1 r2 r3
section
variable {X : Ext} {F : FuncId → Option RFunc} {lim : Nat} {L : Al} {h0 h : AH} {K : Value → AH → Prop} {l : List Item}
theorem Loc.stM (hL : Loc h0 h l) {lo hi : Nat} {r0 r1 r2 r3 : Row} (hm : st lo hi r0 r1 r2 r3 ∈ l) : St h r0 r1 r2 r3 := let ⟨k, hk⟩ := List.getElem?_of_mem hm; (hL.get hk).1
theorem Loc.stOut (hL : Loc h0 h l) {lo hi : Nat} {r0 r1 r2 r3 : Row} (hm : st lo hi r0 r1 r2 r3 ∈ l) : St h r0 r1 r2 r3 ∧ StIn h0.length h.length r0 r1 r2 r3 :=
 let ⟨k, hk⟩ := List.getElem?_of_mem hm
 ⟨(hL.get hk).1, (hL.get hk).2.1.le (hL.lo hk) (hL.toEnd hk), (hL.get hk).2.2.1.le (hL.lo hk) (hL.toEnd hk), (hL.get hk).2.2.2.1.le (hL.lo hk) (hL.toEnd hk), (hL.get hk).2.2.2.2.le (hL.lo hk) (hL.toEnd hk)⟩
theorem Loc.rowAp (hL : Loc h0 h l) {lo hi n : Nat} {a : Option Addr} {xs : List Int} (hm : ap lo hi 1 a n (ints xs) ∈ l) (hn : n ≤ 2 ^ 44) : RowOk h ⟨a, n, xs⟩ ∧ RowIn h0.length h.length ⟨a, n, xs⟩ :=
 let ⟨k, hk⟩ := List.getElem?_of_mem hm
 ⟨⟨(hL.apOut' hk).1, hn⟩, (hL.apOut' hk).2⟩
theorem Loc.rA (hL : Loc h0 h l) {lo hi n : Nat} {a : Option Addr} {xs : List Int} (hm : ap lo hi 1 a n (ints xs) ∈ l := by repeat (first | exact mh | apply mt)) (hn : n ≤ 2 ^ 44 := by omega) : RowOk h ⟨a, n, xs⟩ ∧ RowIn h0.length h.length ⟨a, n, xs⟩ := hL.rowAp hm hn
theorem Loc.rowBx (hL : Loc h0 h l) {b n : Nat} {xs : List Int} (hm : bx b (ints xs) ∈ l) (hl : xs.length = n) (hn : n ≤ 2 ^ 44) : RowOk h ⟨some ⟨b, 0, Option.none⟩, n, xs⟩ ∧ RowIn h0.length h.length ⟨some ⟨b, 0, Option.none⟩, n, xs⟩ :=
 let ⟨k, hk⟩ := List.getElem?_of_mem hm
 ⟨⟨(hL.bxOut (n := n) (sz := 1) hk (by rw [ints_len]; omega)).1, hn⟩, (hL.bxOut (n := n) (sz := 1) hk (by rw [ints_len]; omega)).2⟩
theorem Loc.rowSl (hL : Loc h0 h l) {lo hi n : Nat} {a : Option Addr} {xs : List Int} (hm : sl lo hi 1 a n n (ints xs) ∈ l) (hx : xs.length ≤ 2 ^ 44) : RowOk h ⟨a, n, xs⟩ ∧ RowIn h0.length h.length ⟨a, n, xs⟩ :=
 let ⟨k, hk⟩ := List.getElem?_of_mem hm
 ⟨⟨(hL.slOut hk).1, by have := (hL.slOut hk).1.ilen; show n ≤ 2 ^ 44; omega⟩, (hL.slOut hk).2⟩
theorem OL.callSt {f : Operand} {g : FuncId} {xs : List Operand} {vs : List Value} {W : Row → Row → Row → Row → Value} {s : S4} (hL : Loc h0 h l) (hf : lev L f = some (.func (.func g) #[] #[])) (ha : levs L xs = some vs) (hr : Ret X F lim g vs h fun v h' => Pfx h h' ∧ MadeS h h' W s v)
  (hk : ∀ a0 n0 a1 n1 a2 n2 a3 n3 h', s.x0.length = n0 ∧ s.x1.length = n1 ∧ s.x2.length = n2 ∧ s.x3.length = n3 → Pfx h h' → Loc h0 h' (st h.length h'.length ⟨a0, n0, s.x0⟩ ⟨a1, n1, s.x1⟩ ⟨a2, n2, s.x2⟩ ⟨a3, n3, s.x3⟩ :: l) → K (W ⟨a0, n0, s.x0⟩ ⟨a1, n1, s.x1⟩ ⟨a2, n2, s.x2⟩ ⟨a3, n3, s.x3⟩) h') : OP X F lim (.call f xs) L h K :=
 .call hf ha (hr.mono fun v h' ⟨hp, r0, r1, r2, r3, hv, he, hs, hi⟩ => by
  obtain ⟨x0, x1, x2, x3⟩ := s
  obtain ⟨a0, n0, y0⟩ := r0
  obtain ⟨a1, n1, y1⟩ := r1
  obtain ⟨a2, n2, y2⟩ := r2
  obtain ⟨a3, n3, y3⟩ := r3
  obtain ⟨e0, e1, e2, e3⟩ := he
  simp only at e0 e1 e2 e3
  subst e0 e1 e2 e3
  exact hv ▸ hk a0 n0 a1 n1 a2 n2 a3 n3 h' ⟨hs.1.1.ilen, hs.2.1.1.ilen, hs.2.2.1.1.ilen, hs.2.2.2.1.ilen⟩ hp (hL.add hp _ rfl rfl ⟨hs, hi⟩))
theorem OP.addL {x y : Operand} {a b c : Int} (hx : lev L x = some (.int .i64 a)) (hy : lev L y = some (.int .i64 b)) (hc : a + b = c) (hr : -9223372036854775808 ≤ c ∧ c ≤ 9223372036854775807) (hk : K (.int .i64 c) h) : OP X F lim (.bin .add x y) L h K := .add hx hy (hc ▸ hr) (by rw [hc]; exact hk)
theorem OP.idxArr1 {n sz : Nat} {x i : Operand} {cs : List Value} {z : Int} {k : IntKind} {v : Value} (hx : lev L x = some (.agg cs.toArray)) (hi : lev L i = some (.int k z)) (hj : 0 ≤ z ∧ z < n) (hv : nth cs (z.toNat * sz) = some v) (hk : K v h) : OP X F lim (.idxArr n sz Option.none x i) L h K :=
 .of (fun _ e he => by
  simp only [aop, he.ev hx, he.ev hi]
  rw [if_pos hj]
  simp only [loadAt, nth_get hv, Option.map_some]) hk
theorem OP.idxArrZ {n sz : Nat} {x i : Operand} {b o : Nat} {z : Int} {k : IntKind} {m : Nat} (hx : lev L x = some (.pointer (some ⟨b, o, none⟩))) (hi : lev L i = some (.int k z)) (hj : 0 ≤ z ∧ z < n) (hm : o + z.toNat * sz = m) (hk : K (.pointer (some ⟨b, m, none⟩)) h) : OP X F lim (.idxAddrArr n sz x i) L h K := by
 subst hm
 obtain ⟨j, rfl⟩ : ∃ j : Nat, z = j := ⟨z.toNat, by omega⟩
 exact .idxArrAddr hx hi (by omega) (by simpa using hk)
end
end
section
theorem set_same {α : Type} {l : List α} {k : Nat} {x : α} (h : l[k]? = some x) : l.set k x = l := by
 obtain ⟨hk, rfl⟩ := List.getElem?_eq_some_iff.1 h
 exact List.set_getElem_self hk
section
variable {X : Ext} {F : FuncId → Option RFunc} {lim : Nat} {L : Al} {h0 h : AH} {K : Value → AH → Prop} {l : List Item}
theorem OP.minC {x y : Operand} {k : IntKind} {a b : Int} (hx : lev L x = some (.int k a)) (hy : lev L y = some (.int k b)) (hk : ∀ m : Int, m ≤ a ∧ m ≤ b ∧ (m = a ∨ m = b) → K (.int k m) h) : OP X F lim (.minmax false [x, y]) L h K := .minI hx hy (hk _ (by split <;> omega))
theorem OP.sliceArr0 {n sz : Nat} {x : Operand} {b o : Nat} (hx : lev L x = some (.pointer (some ⟨b, o, Option.none⟩))) (hk : K (.slice (some ⟨b, o, Option.none⟩) n n) h) : OP X F lim (.sliceArr n sz x Option.none Option.none Option.none) L h K :=
 .of (fun _ e he => by simp [aop, he.ev hx, aCut, bound]) hk
theorem OP.capNil {x : Operand} {n c : Nat} (hx : lev L x = some (.slice Option.none n c)) (hk : K (.int .i64 0) h) : OP X F lim (.cap x) L h K := .of (fun _ e he => by simp only [aop, he.ev hx]) hk
theorem OP.sliceNil {sz : Nat} {x y : Operand} (hx : lev L x = some (.slice Option.none 0 0)) (hy : lev L y = some (.int .i64 0)) (hk : K (.slice Option.none 0 0) h) : OP X F lim (.slice sz x Option.none (some y) Option.none) L h K :=
 .of (fun _ e he => by simp [aop, he.ev hx, he.ev hy, aSlice, aCut, bound]) hk
theorem OP.sliceNone {sz : Nat} {x y : Operand} {b o : Nat} {m : Option Nat} {n c : Nat} (hx : lev L x = some (.slice (some ⟨b, o, m⟩) n c)) (hm : m = Option.none ∨ m = some sz) (hy : lev L y = some (.int .i64 0)) (hk : K (.slice (some ⟨b, o, m⟩) 0 c) h) : OP X F lim (.slice sz x Option.none (some y) Option.none) L h K :=
 .of (fun _ e he => by simp [aop, he.ev hx, he.ev hy, aSlice, if_pos hm, aCut, bound]) hk
theorem OL.growNil {z : List Value} {bytes n : Nat} {s x : Operand} (hL : Loc h0 h l) (hs : lev L s = some (.slice Option.none 0 0)) (hx : lev L x = some (.int .i64 (n : Int))) (hn : 0 < n) (hb : n * bytes ≤ 2 ^ 48 ∧ Room n bytes) (hz : z.all cellOk = true) (hk : ∀ b h', Loc h0 h' (bx b (reps z n) :: l) → K (.slice (some ⟨b, 0, some z.length⟩) n n) h') : OP X F lim (.appendZeros z bytes s x) L h K := fun e he => by
 refine ⟨0, .slice (some ⟨h.length, 0, some z.length⟩) n n, h ++ [.cells (reps z n)], ?_, hk _ _ (hL.new _)⟩
 have hok : (reps z n).all cellOk = true := by
  clear hx hn hb hk
  induction n with
  | zero => rfl
  | succ n ih => simp only [reps, List.all_append, hz, ih, Bool.and_self]
 simp only [aop, he.ev hs, he.ev hx]
 rw [if_pos ⟨by omega, by have := hb.2.2.1; omega, by exact_mod_cast hb.1⟩]
 unfold aAppend
 simp only [Int.toNat_natCast, Nat.zero_add]
 rw [if_neg (by omega), if_pos ⟨hb.2.1, hb.2.2.1, hb.2.2.2, hok⟩]
 simp [aElems]
theorem OL.appendIn {sz bytes : Nat} {s x : Operand} {b k : Nat} {M : Option Nat} {len cap m c : Nat} {a2 : Option Addr} {pre rest news : List Value} (hL : Loc h0 h l) (hlim : lim ≤ h0.length) (hs : lev L s = some (.slice (some ⟨b, 0, M⟩) len cap)) (hc : l[k]? = some (bx b (pre ++ rest))) (hpre : pre.length = len * sz) (hx : lev L x = some (.slice a2 m c)) (hn : Sl sz h a2 m c news) (hroom : len + m ≤ cap) (hrest : news.length ≤ rest.length) (hok : news.all cellOk = true)
  (hk : ∀ h', Loc h0 h' (l.set k (bx b ((pre ++ news) ++ rest.drop news.length))) → K (.slice (some ⟨b, 0, M⟩) (len + m) cap) h') : OP X F lim (.append sz bytes s x) L h K := fun e he => by
 have hcell := hL.cell hc
 have hbl := (List.getElem?_eq_some_iff.1 hcell).1
 have hover : over (pre ++ rest) (len * sz) news = (pre ++ news) ++ rest.drop news.length := by
  unfold over
  rw [← hpre, List.take_left, List.drop_append, List.drop_of_length_le (by omega), List.nil_append, Nat.add_sub_cancel_left]
 rcases List.eq_nil_or_concat news with h0' | ⟨ns, y, h0'⟩
 ·subst h0'
  have e1 : (pre ++ []) ++ rest.drop ([] : List Value).length = pre ++ rest := by simp
  rw [e1] at hk
  refine ⟨0, .slice (some ⟨b, 0, M⟩) (len + m) cap, h, ?_, hk h (by rw [set_same hc]; exact hL)⟩
  simp only [aop, he.ev hx, he.ev hs, aLen_slice, Option.bind_some, hn.1, aAppend]
  rw [if_pos hroom]
  simp [aWrite]
 ·have hne : news ≠ [] := by rw [h0']; simp
  refine ⟨0, .slice (some ⟨b, 0, M⟩) (len + m) cap, h.set b (.cells ((pre ++ news) ++ rest.drop news.length)), ?_, hk _ (hL.set hc _)⟩
  simp only [aop, he.ev hx, he.ev hs, aLen_slice, Option.bind_some, hn.1, aAppend]
  rw [if_pos hroom]
  simp only [aWrite]
  rw [if_neg hne, if_pos ⟨hL.own hc hlim, hok⟩]
  simp only [cellsOf, hcell, Option.bind_some, Nat.zero_add]
  rw [if_pos (by rw [List.length_append]; omega), hover]
  rfl
theorem OP.appendNil {sz bytes : Nat} {s x : Operand} {m c : Nat} {a2 : Option Addr} {news : List Value} (hs : lev L s = some (.slice Option.none 0 0)) (hx : lev L x = some (.slice a2 m c)) (hn : Sl sz h a2 m c news) (hm : m = 0) (hk : K (.slice Option.none 0 0) h) : OP X F lim (.append sz bytes s x) L h K :=
 .of (fun call e he => by
  subst hm
  simp only [aop, he.ev hx, he.ev hs, aLen_slice, Option.bind_some, hn.1, aAppend]
  rfl) hk
end
end
section
def MadeP (h h' : AH) (W : Row → Row → Row → Row → Value) (s : S4) (v : Value) : Prop := ∃ a0 n0 a1 n1 a2 n2 a3 n3, v = W ⟨a0, n0, s.x0⟩ ⟨a1, n1, s.x1⟩ ⟨a2, n2, s.x2⟩ ⟨a3, n3, s.x3⟩ ∧ ∃ l1 l2 l3, (h.length ≤ l1 ∧ l1 ≤ l2 ∧ l2 ≤ l3 ∧ l3 ≤ h'.length) ∧ Ap h.length l1 1 h' a0 n0 (ints s.x0) ∧ Ap l1 l2 1 h' a1 n1 (ints s.x1) ∧ Ap l2 l3 1 h' a2 n2 (ints s.x2) ∧ Ap l3 h'.length 1 h' a3 n3 (ints s.x3)
section
variable {X : Ext} {F : FuncId → Option RFunc} {lim : Nat} {L : Al} {h0 h : AH} {K : Value → AH → Prop} {l : List Item}
theorem Loc.add4 (hL : Loc h0 h l) {h' : AH} (hp : Pfx h h') {i0 i1 i2 i3 : Item} (e0 : i0.lo = h.length) (e1 : i0.hi = i1.lo) (e2 : i1.hi = i2.lo) (e3 : i2.hi = i3.lo) (e4 : i3.hi = h'.length) (g0 : i0.lo ≤ i0.hi) (g1 : i1.lo ≤ i1.hi) (g2 : i2.lo ≤ i2.hi) (g3 : i3.lo ≤ i3.hi) (p0 : i0.P h') (p1 : i1.P h') (p2 : i2.P h') (p3 : i3.P h') : Loc h0 h' (i3 :: i2 :: i1 :: i0 :: l) := by
 have hb : LocB h0 h' h.length l := LocB.same hL (Nat.le_refl _) hp.1 hp.2
 exact ⟨g3, by omega, p3, g2, by omega, p2, g1, by omega, p1, g0, by omega, p0, LocB.up hb (by omega)⟩
theorem OL.callS4 {f : Operand} {g : FuncId} {xs : List Operand} {vs : List Value} {W : Row → Row → Row → Row → Value} {s : S4} (hL : Loc h0 h l) (hf : lev L f = some (.func (.func g) #[] #[])) (ha : levs L xs = some vs) (hr : Ret X F lim g vs h fun v h' => Pfx h h' ∧ MadeP h h' W s v)
  (hk : ∀ a0 n0 a1 n1 a2 n2 a3 n3 l1 l2 l3 h', s.x0.length = n0 ∧ s.x1.length = n1 ∧ s.x2.length = n2 ∧ s.x3.length = n3 → Pfx h h' → Loc h0 h' (ap l3 h'.length 1 a3 n3 (ints s.x3) :: ap l2 l3 1 a2 n2 (ints s.x2) :: ap l1 l2 1 a1 n1 (ints s.x1) :: ap h.length l1 1 a0 n0 (ints s.x0) :: l) → K (W ⟨a0, n0, s.x0⟩ ⟨a1, n1, s.x1⟩ ⟨a2, n2, s.x2⟩ ⟨a3, n3, s.x3⟩) h') : OP X F lim (.call f xs) L h K :=
 .call hf ha (hr.mono fun v h' ⟨hp, a0, n0, a1, n1, a2, n2, a3, n3, hv, l1, l2, l3, hl, p0, p1, p2, p3⟩ => hv ▸ hk a0 n0 a1 n1 a2 n2 a3 n3 l1 l2 l3 h' ⟨p0.sl.1.ilen, p1.sl.1.ilen, p2.sl.1.ilen, p3.sl.1.ilen⟩ hp
  (hL.add4 hp (i0 := ap h.length l1 1 a0 n0 (ints s.x0)) (i1 := ap l1 l2 1 a1 n1 (ints s.x1)) (i2 := ap l2 l3 1 a2 n2 (ints s.x2)) (i3 := ap l3 h'.length 1 a3 n3 (ints s.x3)) rfl rfl rfl rfl rfl hl.1 hl.2.1 hl.2.2.1 hl.2.2.2 p0 p1 p2 p3))
theorem OL.callGrow {f : Operand} {g : FuncId} {xs : List Operand} {vs : List Value} {k lo hi sz n m : Nat} {a : Option Addr} {cs cs' : List Value} {W : Option Addr → Value} (hL : Loc h0 h l) (hk0 : l[k]? = some (ap lo hi sz a n cs)) (hf : lev L f = some (.func (.func g) #[] #[])) (ha : levs L xs = some vs)
  (hr : Ret X F lim g vs h fun v h' => h.length ≤ h'.length ∧ (∀ b, (b < lo ∨ hi ≤ b) → b < h.length → h'[b]? = h[b]?) ∧ ∃ a', v = W a' ∧ Ap h.length h'.length sz h' a' m cs') (hk : ∀ a' h', Loc h0 h' (ap h.length h'.length sz a' m cs' :: l.set k (junk lo hi)) → K (W a') h') : OP X F lim (.call f xs) L h K :=
 .call hf ha (hr.mono fun v h' ⟨h1, h2, a', hv, hA⟩ => hv ▸ hk a' h' (by
  have hset : LocB h0 h' h.length (l.set k (junk lo hi)) := LocB.put hL (Nat.le_refl _) h1 hk0 rfl rfl trivial fun b hb hbl => h2 b hb hbl
  exact ⟨h1, Nat.le_refl _, hA, hset⟩))
theorem Loc.below (hL : Loc h0 h l) {i j : Nat} {x y : Item} (hi : l[i]? = some x) (hj : l[j]? = some y) (hij : i < j) : y.hi ≤ x.lo := by
 have key : ∀ {l : List Item} {t : Nat}, LocB h0 h t l → ∀ {i j : Nat} {x y : Item}, l[i]? = some x → l[j]? = some y → i < j → y.hi ≤ x.lo := by
  intro l
  induction l with
  | nil => intro t _ i j x y hx; simp at hx
  | cons z l ih =>
   intro t hl i j x y hx hy hij
   cases i with
   | zero =>
    cases j with
    | zero => omega
    | succ j =>
     simp at hx hy
     subst hx
     exact (LocB.get hl.2.2.2 hy).2.2.2
   | succ i =>
    cases j with
    | zero => omega
    | succ j =>
     simp at hx hy
     exact ih hl.2.2.2 hx hy (by omega)
 exact key hL hi hj hij
theorem Loc.mid (hL : Loc h0 h l) {i : Nat} {x : Item} (hi : l[i]? = some x) : x.lo ≤ x.hi := (LocB.get hL hi).2.2.1
theorem Loc.made4 {h h' : AH} {l : List Item} (hL : Loc h h' l) {k0 k1 k2 k3 : Nat} {lo0 hi0 lo1 hi1 lo2 hi2 lo3 hi3 n0 n1 n2 n3 : Nat} {a0 a1 a2 a3 : Option Addr} {x0 x1 x2 x3 : List Int} (g0 : l[k0]? = some (ap lo0 hi0 1 a0 n0 (ints x0))) (g1 : l[k1]? = some (ap lo1 hi1 1 a1 n1 (ints x1))) (g2 : l[k2]? = some (ap lo2 hi2 1 a2 n2 (ints x2))) (g3 : l[k3]? = some (ap lo3 hi3 1 a3 n3 (ints x3))) (h1 : k1 < k0) (h2 : k2 < k1) (h3 : k3 < k2) :
  ∃ l1 l2 l3, (h.length ≤ l1 ∧ l1 ≤ l2 ∧ l2 ≤ l3 ∧ l3 ≤ h'.length) ∧ Ap h.length l1 1 h' a0 n0 (ints x0) ∧ Ap l1 l2 1 h' a1 n1 (ints x1) ∧ Ap l2 l3 1 h' a2 n2 (ints x2) ∧ Ap l3 h'.length 1 h' a3 n3 (ints x3) := by
 have e1 : hi0 ≤ lo1 := hL.below g1 g0 h1
 have e2 : hi1 ≤ lo2 := hL.below g2 g1 h2
 have e3 : hi2 ≤ lo3 := hL.below g3 g2 h3
 have m0 : lo0 ≤ hi0 := hL.mid g0
 have m1 : lo1 ≤ hi1 := hL.mid g1
 have m2 : lo2 ≤ hi2 := hL.mid g2
 have m3 : lo3 ≤ hi3 := hL.mid g3
 have b0 : h.length ≤ lo0 := hL.lo g0
 have b3 : hi3 ≤ h'.length := hL.toEnd g3
 exact ⟨hi0, hi1, hi2, ⟨by omega, by omega, by omega, by omega⟩, Ap.widen (hL.get g0) b0 (Nat.le_refl _), Ap.widen (hL.get g1) e1 (Nat.le_refl _), Ap.widen (hL.get g2) e2 (Nat.le_refl _), Ap.widen (hL.get g3) e3 b3⟩
def fz (lo hi : Nat) (g : AH) : Item := ⟨lo, hi, fun h => ∀ b, lo ≤ b → b < hi → h[b]? = g[b]?, fun h h' hh hp b h1 h2 => (hh b h1 h2).trans (hp b h1 h2)⟩
theorem Loc.frame {h : AH} {lo hi n : Nat} {a : Option Addr} {cs : List Value} (hA : Ap lo hi 1 h a n cs) (h1 : lo ≤ hi) (h2 : hi ≤ h.length) : Loc (h.take lo) h [fz hi h.length h, ap lo hi 1 a n cs] :=
 ⟨h2, Nat.le_refl _, fun _ _ _ => rfl, h1, Nat.le_refl _, hA, (by show (h.take lo).length ≤ lo; rw [List.length_take]; omega), ⟨by rw [List.length_take]; omega, fun b hb => by rw [List.length_take] at hb; rw [List.getElem?_take_of_lt (by omega)]⟩⟩
theorem Ap.row {lo hi n : Nat} {a : Option Addr} {xs : List Int} (hA : Ap lo hi 1 h a n (ints xs)) (hn : n ≤ 2 ^ 44) : RowOk h ⟨a, n, xs⟩ := ⟨hA.sl.1, hn⟩
theorem OP.half {x y : Operand} {a : Int} (hx : lev L x = some (.int .u64 a)) (hy : lev L y = some (.int .u64 1)) (h0 : 0 ≤ a) (hk : ∀ m : Nat, 2 * (m : Int) ≤ a → a ≤ 2 * (m : Int) + 1 → K (.int .u64 (m : Int)) h) : OP X F lim (.bin .shr x y) L h K := by
 obtain ⟨m, hm⟩ : ∃ m : Nat, a / 2 = (m : Int) := ⟨(a / 2).toNat, by omega⟩
 refine .of (v := .int .u64 (m : Int)) (fun _ e he => ?_) (hk m (by omega) (by omega))
 simp only [aop, he.ev hx, he.ev hy, aBin]
 have e1 : a.fdiv (2 ^ (min 1 IntKind.u64.bits)) = (m : Int) := by
  have : (2 : Int) ^ (min 1 IntKind.u64.bits) = 2 := by decide
  rw [this, ← hm, Int.fdiv_eq_ediv_of_nonneg _ (by decide)]
 simp
 exact e1
end
end
end Go.Proofs.YtalknjppnkpmmaaDoorW.Ai
