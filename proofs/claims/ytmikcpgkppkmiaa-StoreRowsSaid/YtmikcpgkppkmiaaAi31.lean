/-
  The arguments' words: operations, states, rings. Of no program.
-/
import Derived.Test.YtmikcpgkppkmiaaAi28
import Derived.Test.YtmikcpgkppkmiaaAi30
set_option linter.unusedVariables false
set_option linter.unusedSimpArgs false
namespace Go.Proofs.YtmikcpgkppkmiaaW.Ai

/-- A number of 64 bits. -/
abbrev R64 (x : Int) : Prop := -9223372036854775808 ≤ x ∧ x ≤ 9223372036854775807
theorem wf64 {x : Int} (h : (Lit.int IntKind.i64 x).wf = true) : R64 x := by
  simp [Lit.wf, IntKind.min, IntKind.max, IntKind.signed, IntKind.bits] at h
  exact ⟨by omega, by omega⟩

/-- A row of numbers, and where it lies. -/
structure Row where
  a : Option Addr
  n : Nat
  xs : List Int
abbrev Row.v (r : Row) : Value := .slice r.a r.n r.n
abbrev RowOk (h : AH) (r : Row) : Prop := Sl 1 h r.a r.n r.n (ints r.xs) ∧ r.n ≤ 2 ^ 44
abbrev St (h : AH) (r0 r1 r2 r3 : Row) : Prop := RowOk h r0 ∧ RowOk h r1 ∧ RowOk h r2 ∧ RowOk h r3
theorem RowOk.pfx {h h' : AH} {r : Row} (hr : RowOk h r) (hp : Pfx h h') : RowOk h' r := ⟨hr.1.pfx hp, hr.2⟩
theorem St.pfx {h h' : AH} {r0 r1 r2 r3 : Row} (hr : St h r0 r1 r2 r3) (hp : Pfx h h') : St h' r0 r1 r2 r3 := ⟨RowOk.pfx hr.1 hp, RowOk.pfx hr.2.1 hp, RowOk.pfx hr.2.2.1 hp, RowOk.pfx hr.2.2.2 hp⟩

section
variable {h : AH}
theorem AOk.i64 {ks : List CK} {cs : List Value} (ha : AOk h ks cs) {i : Nat} (hi : ks[i]? = some (.f (.int .i64))) {c : Value} (hc : cs[i]? = some c) : ∃ x : Int, c = .int .i64 x ∧ R64 x := by
  obtain ⟨x, h1, h2⟩ := ha.2 i _ _ hi hc
  exact ⟨x, h1, wf64 h2⟩
theorem AIs.row {v : Value} (ha : AIs h (.sl [.int .i64] 8) v) : ∃ r : Row, v = r.v ∧ RowOk h r ∧ Fits r.xs := by
  obtain ⟨a, n, xs, h1, h2, h3, h4⟩ := ha.ints
  exact ⟨⟨a, n, xs⟩, h1, ⟨h2, h4⟩, h3⟩
theorem AArg.op {v : Value} (ha : AArg h (true, [.f (.int .i64), .f (.int .i64), .f (.int .i64)]) v) : ∃ c r a : Int, v = .agg #[.int .i64 c, .int .i64 r, .int .i64 a] ∧ R64 c ∧ R64 r ∧ R64 a := by
  obtain ⟨cs, rfl, hA⟩ := ha
  have hl : cs.length = 3 := hA.1
  match cs, hl with
  | [c0, c1, c2], _ =>
    obtain ⟨c, rfl, hc⟩ := hA.i64 (i := 0) rfl rfl
    obtain ⟨r, rfl, hr⟩ := hA.i64 (i := 1) rfl rfl
    obtain ⟨a, rfl, ha⟩ := hA.i64 (i := 2) rfl rfl
    exact ⟨c, r, a, rfl, hc, hr, ha⟩
theorem AArg.state {v : Value} (ha : AArg h (true, [.sl [.int .i64] 8, .sl [.int .i64] 8, .sl [.int .i64] 8, .sl [.int .i64] 8]) v) : ∃ r0 r1 r2 r3 : Row, v = .agg #[r0.v, r1.v, r2.v, r3.v] ∧ St h r0 r1 r2 r3 := by
  obtain ⟨cs, rfl, hA⟩ := ha
  have hl : cs.length = 4 := hA.1
  match cs, hl with
  | [c0, c1, c2, c3], _ =>
    obtain ⟨r0, rfl, h0, _⟩ := AIs.row (hA.2 0 _ _ rfl rfl)
    obtain ⟨r1, rfl, h1, _⟩ := AIs.row (hA.2 1 _ _ rfl rfl)
    obtain ⟨r2, rfl, h2, _⟩ := AIs.row (hA.2 2 _ _ rfl rfl)
    obtain ⟨r3, rfl, h3, _⟩ := AIs.row (hA.2 3 _ _ rfl rfl)
    exact ⟨r0, r1, r2, r3, rfl, h0, h1, h2, h3⟩

theorem FRow.recs {α : Type} {enc : α → List Value} {P : α → Prop} {es : List FK} (hes : ∀ (j : Nat) k, es[j]? = some k → k = .int .i64) (hdec : ∀ cs : List Value, cs.length = es.length → (∀ (j : Nat) c, cs[j]? = some c → ∃ x : Int, c = .int .i64 x ∧ R64 x) → ∃ s, enc s = cs ∧ P s) :
    ∀ (n : Nat) (cs : List Value), FRow es n cs → ∃ ss : List α, cs = Ai.recs enc ss ∧ ∀ s ∈ ss, P s
  | 0, cs, hf => ⟨[], List.length_eq_zero_iff.1 (by have := hf.1; simpa using this), fun s hs => by cases hs⟩
  | n + 1, cs, hf => by
    have hlen : cs.length = n * es.length + es.length := by rw [hf.1, Nat.succ_mul]
    obtain ⟨s, hs, hP⟩ := hdec (cs.take es.length) (by rw [List.length_take]; omega) (fun j c hc => by
      have hj : j < es.length := by
        have := (List.getElem?_eq_some_iff.1 hc).1
        rw [List.length_take] at this
        omega
      rw [List.getElem?_take_of_lt hj] at hc
      have := hf.2 0 (by omega) j es[j] c (List.getElem?_eq_getElem hj) (by rw [Nat.zero_mul, Nat.zero_add]; exact hc)
      rw [hes j _ (List.getElem?_eq_getElem hj)] at this
      obtain ⟨x, h1, h2⟩ := this
      exact ⟨x, h1, wf64 h2⟩)
    obtain ⟨ss, hss, hPs⟩ := FRow.recs hes hdec n (cs.drop es.length) ⟨by rw [List.length_drop]; omega, fun i hi j k v hk hv => by
      rw [List.getElem?_drop] at hv
      exact hf.2 (i + 1) (by omega) j k v hk (by rw [Nat.succ_mul]; rw [← hv]; congr 1; omega)⟩
    refine ⟨s :: ss, ?_, fun t ht => ?_⟩
    · show cs = enc s ++ Ai.recs enc ss
      rw [hs, ← hss, List.take_append_drop]
    · rcases List.mem_cons.1 ht with rfl | ht
      · exact hP
      · exact hPs t ht
abbrev SlotFits (s : SlotR) : Prop := R64 s.c ∧ R64 s.r ∧ R64 s.a ∧ R64 s.t ∧ R64 s.b
theorem AIs.slots {v : Value} (ha : AIs h (.sl [.int .i64, .int .i64, .int .i64, .int .i64, .int .i64] 40) v) : ∃ a n ss, v = .slice a n n ∧ Sl 5 h a n n (recs slotC ss) ∧ (∀ s ∈ ss, SlotFits s) ∧ n ≤ 2 ^ 42 := by
  obtain ⟨a, n, cs, h1, h2, h3, h4, h5⟩ := ha
  obtain ⟨ss, rfl, hP⟩ := FRow.recs (enc := slotC) (P := SlotFits) (fun j k hk => by match j, hk with | 0, hk => simpa using hk.symm | 1, hk => simpa using hk.symm | 2, hk => simpa using hk.symm | 3, hk => simpa using hk.symm | 4, hk => simpa using hk.symm) (fun cs hl hc => by
    have hl : cs.length = 5 := hl
    match cs, hl with
    | [c0, c1, c2, c3, c4], _ =>
      obtain ⟨x0, rfl, r0⟩ := hc 0 _ rfl
      obtain ⟨x1, rfl, r1⟩ := hc 1 _ rfl
      obtain ⟨x2, rfl, r2⟩ := hc 2 _ rfl
      obtain ⟨x3, rfl, r3⟩ := hc 3 _ rfl
      obtain ⟨x4, rfl, r4⟩ := hc 4 _ rfl
      exact ⟨⟨x0, x1, x2, x3, x4⟩, rfl, r0, r1, r2, r3, r4⟩) n cs h3
  exact ⟨a, n, ss, h1, h2, hP, by omega⟩
abbrev OpFits (s : OpR) : Prop := R64 s.c ∧ R64 s.r ∧ R64 s.a
theorem AIs.ops {v : Value} (ha : AIs h (.sl [.int .i64, .int .i64, .int .i64] 24) v) : ∃ a n ss, v = .slice a n n ∧ Sl 3 h a n n (recs opC ss) ∧ (∀ s ∈ ss, OpFits s) ∧ n ≤ 2 ^ 43 := by
  obtain ⟨a, n, cs, h1, h2, h3, h4, h5⟩ := ha
  obtain ⟨ss, rfl, hP⟩ := FRow.recs (enc := opC) (P := OpFits) (fun j k hk => by match j, hk with | 0, hk => simpa using hk.symm | 1, hk => simpa using hk.symm | 2, hk => simpa using hk.symm) (fun cs hl hc => by
    have hl : cs.length = 3 := hl
    match cs, hl with
    | [c0, c1, c2], _ =>
      obtain ⟨x0, rfl, r0⟩ := hc 0 _ rfl
      obtain ⟨x1, rfl, r1⟩ := hc 1 _ rfl
      obtain ⟨x2, rfl, r2⟩ := hc 2 _ rfl
      exact ⟨⟨x0, x1, x2⟩, rfl, r0, r1, r2⟩) n cs h3
  exact ⟨a, n, ss, h1, h2, hP, by omega⟩
theorem AArg.ops {v : Value} (ha : AArg h (false, [.sl [.int .i64, .int .i64, .int .i64] 24]) v) : ∃ a n ss, v = .slice a n n ∧ Sl 3 h a n n (recs opC ss) ∧ (∀ s ∈ ss, OpFits s) ∧ n ≤ 2 ^ 43 := AIs.ops (ha.2 0 _ _ rfl rfl)
theorem AArg.ring {v : Value} (ha : AArg h (true, [.f (.int .i64), .f (.int .i64), .f (.int .i64), .sl [.int .i64, .int .i64, .int .i64, .int .i64, .int .i64] 40]) v) : ∃ p q e a n ss, v = .agg #[.int .i64 p, .int .i64 q, .int .i64 e, .slice a n n] ∧ (R64 p ∧ R64 q ∧ R64 e ∧ ∀ s ∈ ss, SlotFits s) ∧ Sl 5 h a n n (recs slotC ss) ∧ n ≤ 2 ^ 42 := by
  obtain ⟨cs, rfl, hA⟩ := ha
  have hl : cs.length = 4 := hA.1
  match cs, hl with
  | [c0, c1, c2, c3], _ =>
    obtain ⟨p, rfl, hp⟩ := hA.i64 (i := 0) rfl rfl
    obtain ⟨q, rfl, hq⟩ := hA.i64 (i := 1) rfl rfl
    obtain ⟨e, rfl, he⟩ := hA.i64 (i := 2) rfl rfl
    obtain ⟨a, n, ss, rfl, h1, h2, h3⟩ := AIs.slots (hA.2 3 _ _ rfl rfl)
    exact ⟨p, q, e, a, n, ss, rfl, ⟨hp, hq, he, h2⟩, h1, h3⟩
end
end Go.Proofs.YtmikcpgkppkmiaaW.Ai
