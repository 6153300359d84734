/-
 A place and a state as a text, as linear.name has it; what the small machine makes of linear.name. Of no program.
-/
import Derived.Test.YtalknjppnkpmmaaDoorMf
import Derived.Lib.ItoaNum
set_option linter.unusedVariables false
set_option linter.unusedSimpArgs false
namespace Go.Proofs.YtalknjppnkpmmaaDoorW.Ai
section
def dig : Nat → Nat → List UInt8
 | 0, u => [UInt8.ofNat (48 + u)]
 | f + 1, u => if u < 10 then [UInt8.ofNat (48 + u)] else dig f (u / 10) ++ [UInt8.ofNat (48 + u % 10)]
theorem dig_eq : ∀ (f u : Nat), u < 10 ^ (f + 1) → dig f u = Lib.decDigits u
 | 0, u, h => by
  rw [Lib.decDigits, dif_pos (by simpa using h)]; rfl
 | f + 1, u, h => by
  rw [Lib.decDigits]
  simp only [dig]
  split
  ·rfl
  ·rw [dig_eq f (u / 10) (by rw [Nat.pow_succ] at h; omega)]
def num7 (n : Int) : List UInt8 := dig 7 n.toNat
theorem num7_eq {n : Int} (h : 0 ≤ n ∧ n ≤ 1000000) : num7 n = Lib.itoa n := by
 unfold num7 Lib.itoa
 rw [if_neg (by omega), dig_eq 7 _ (by omega)]
def row7 : List Int → List UInt8
 | [] => []
 | x :: xs => num7 x ++ 44 :: row7 xs
def key7 (n0 : Int) (x0 : List Int) (n1 : Int) (x1 : List Int) (n2 : Int) (x2 : List Int) (n3 : Int) (x3 : List Int) : List UInt8 :=
 num7 n0 ++ 58 :: row7 x0 ++ (num7 n1 ++ 58 :: row7 x1) ++ (num7 n2 ++ 58 :: row7 x2) ++ (num7 n3 ++ 58 :: row7 x3)
def intsOf : List Value → Option (List Int)
 | [] => some []
 | .int .i64 x :: r => (intsOf r).map (x :: ·)
 | _ => none
theorem intsOf_get : ∀ {vs : List Value} {xs : List Int}, intsOf vs = some xs → vs.length = xs.length ∧ ∀ (j : Nat) (hj : j < xs.length), vs[j]? = some (.int .i64 xs[j])
 | [], xs, h => by
  simp only [intsOf, Option.some.injEq] at h
  subst h
  exact ⟨rfl, fun j hj => absurd hj (by simp)⟩
 | v :: vs, xs, h => by
  unfold intsOf at h
  split at h
  ·rename_i e; cases e
  ·rename_i x r e
   injection e with e1 e2
   subst e1; subst e2
   obtain ⟨ys, h1, rfl⟩ := Option.map_eq_some_iff.1 h
   obtain ⟨h2, h3⟩ := intsOf_get h1
   refine ⟨by simp [h2], fun j hj => ?_⟩
   cases j with
   | zero => rfl
   | succ j => simpa using h3 j (by simpa using hj)
  ·cases h
def rowOf (h : AH) : Value → Option (List Int)
 | .slice a n c => ((aElems 1 h n (.slice a n c)).bind intsOf).bind fun xs => if xs.length = n ∧ n ≤ 1000 ∧ xs.all (fun x => decide (0 ≤ x ∧ x ≤ 1000000)) = true then some xs else none
 | _ => none
def num64 : Value → Option Int
 | .int .i64 n => if 0 ≤ n ∧ n ≤ 1000000 then some n else none
 | _ => none
def nameA (lim : Nat) (args : List Value) (h : AH) : Option (Value × AH) :=
 match args with
 | [.agg cs, .pointer (some ⟨sb, so, none⟩)] =>
  match cs.toList, (cellsOf h sb).map fun ds => (ds.drop so).take 4 with
  | [v0, v1, v2, v3], some [s0, s1, s2, s3] =>
   match num64 v0, num64 v1, num64 v2, num64 v3, rowOf h s0, rowOf h s1, rowOf h s2, rowOf h s3 with
   | some n0, some n1, some n2, some n3, some x0, some x1, some x2, some x3 => some (.string ⟨(key7 n0 x0 n1 x1 n2 x2 n3 x3).toArray⟩, h)
   | _, _, _, _, _, _, _, _ => none
  | _, _ => none
 | _ => none
theorem num64_inv {v : Value} {n : Int} (h : num64 v = some n) : v = .int .i64 n ∧ 0 ≤ n ∧ n ≤ 1000000 := by
 unfold num64 at h
 split at h
 ·split at h
  ·injection h with h; subst h; exact ⟨rfl, by assumption⟩
  ·cases h
 ·cases h
theorem rowOf_inv {h : AH} {v : Value} {xs : List Int} (hr : rowOf h v = some xs) : ∃ a c, v = .slice a xs.length c ∧ xs.length ≤ 1000 ∧ (∀ x ∈ xs, 0 ≤ x ∧ x ≤ 1000000) ∧ ∃ vs, aElems 1 h xs.length (.slice a xs.length c) = some vs ∧ intsOf vs = some xs := by
 unfold rowOf at hr
 split at hr
 ·rename_i a n c
  obtain ⟨ys, h1, h2⟩ := Option.bind_eq_some_iff.1 hr
  obtain ⟨vs, h3, h4⟩ := Option.bind_eq_some_iff.1 h1
  split at h2
  ·rename_i h5
   injection h2 with h2
   subst h2
   obtain ⟨rfl, h6, h7⟩ := h5
   refine ⟨a, c, rfl, h6, fun x hx => ?_, vs, h3, h4⟩
   rw [List.all_eq_true] at h7
   exact of_decide_eq_true (h7 x hx)
  ·cases h2
 ·cases hr
theorem nameA_inv {lim : Nat} {args : List Value} {h h' : AH} {v : Value} (ha : nameA lim args h = some (v, h')) :
  ∃ n0 n1 n2 n3 sb so s0 s1 s2 s3 x0 x1 x2 x3 ds, args = [.agg #[.int .i64 n0, .int .i64 n1, .int .i64 n2, .int .i64 n3], .pointer (some ⟨sb, so, none⟩)] ∧ (0 ≤ n0 ∧ n0 ≤ 1000000) ∧ (0 ≤ n1 ∧ n1 ≤ 1000000) ∧ (0 ≤ n2 ∧ n2 ≤ 1000000) ∧ (0 ≤ n3 ∧ n3 ≤ 1000000) ∧
   h[sb]? = some (.cells ds) ∧ ds[so]? = some s0 ∧ ds[so + 1]? = some s1 ∧ ds[so + 2]? = some s2 ∧ ds[so + 3]? = some s3 ∧ rowOf h s0 = some x0 ∧ rowOf h s1 = some x1 ∧ rowOf h s2 = some x2 ∧ rowOf h s3 = some x3 ∧ v = .string ⟨(key7 n0 x0 n1 x1 n2 x2 n3 x3).toArray⟩ ∧ h' = h := by
 unfold nameA at ha
 split at ha
 case h_2 => cases ha
 rename_i cs sb so
 split at ha
 case h_2 => cases ha
 rename_i v0 v1 v2 v3 s0 s1 s2 s3 e1 e2
 split at ha
 case h_2 => cases ha
 rename_i n0 n1 n2 n3 x0 x1 x2 x3 q0 q1 q2 q3 r0 r1 r2 r3
 injection ha with ha
 injection ha with ha1 ha2
 obtain ⟨rfl, p0⟩ := num64_inv q0
 obtain ⟨rfl, p1⟩ := num64_inv q1
 obtain ⟨rfl, p2⟩ := num64_inv q2
 obtain ⟨rfl, p3⟩ := num64_inv q3
 obtain ⟨ds, hd, he⟩ := Option.map_eq_some_iff.1 e2
 have hcs : cs = #[.int .i64 n0, .int .i64 n1, .int .i64 n2, .int .i64 n3] := by
  rw [← Array.toArray_toList (xs := cs), e1]
 have g : ∀ k, k < 4 → ds[so + k]? = [s0, s1, s2, s3][k]? := fun k hk => by
  rw [← he, List.getElem?_take_of_lt hk, List.getElem?_drop]
 exact ⟨n0, n1, n2, n3, sb, so, s0, s1, s2, s3, x0, x1, x2, x3, ds, by rw [hcs], p0, p1, p2, p3, cellsOf_iff.1 hd, g 0 (by decide), g 1 (by decide), g 2 (by decide), g 3 (by decide), r0, r1, r2, r3, ha1.symm, ha2.symm⟩
theorem intsOf_ints : ∀ xs : List Int, intsOf (ints xs) = some xs
 | [] => rfl
 | x :: xs => by
  show (intsOf (ints xs)).map (x :: ·) = _
  rw [intsOf_ints xs]; rfl
theorem rowOf_row {h : AH} {r : Row} (hr : RowOk h r) (hx : ∀ x ∈ r.xs, 0 ≤ x ∧ x ≤ 1000000) (hn : r.xs.length ≤ 1000) : rowOf h r.v = some r.xs := by
 have hl := hr.1.ilen
 unfold rowOf Row.v
 simp only [hr.1.1, Option.bind_some, intsOf_ints]
 rw [if_pos ⟨hl, by omega, by rw [List.all_eq_true]; exact fun x hx' => decide_eq_true (hx x hx')⟩]
theorem num64_of {n : Int} (h : 0 ≤ n ∧ n ≤ 1000000) : num64 (.int .i64 n) = some n := if_pos h
theorem nameA_run {lim sb : Nat} {h : AH} {n0 n1 n2 n3 : Int} {r0 r1 r2 r3 : Row} (hb : h[sb]? = some (.cells [r0.v, r1.v, r2.v, r3.v])) (hst : St h r0 r1 r2 r3) (hn : (0 ≤ n0 ∧ n0 ≤ 1000000) ∧ (0 ≤ n1 ∧ n1 ≤ 1000000) ∧ (0 ≤ n2 ∧ n2 ≤ 1000000) ∧ (0 ≤ n3 ∧ n3 ≤ 1000000))
  (hx : ∀ r, r = r0 ∨ r = r1 ∨ r = r2 ∨ r = r3 → (∀ x ∈ r.xs, 0 ≤ x ∧ x ≤ 1000000) ∧ r.xs.length ≤ 1000) : nameA lim [.agg #[.int .i64 n0, .int .i64 n1, .int .i64 n2, .int .i64 n3], .pointer (some ⟨sb, 0, none⟩)] h = some (.string ⟨(key7 n0 r0.xs n1 r1.xs n2 r2.xs n3 r3.xs).toArray⟩, h) := by
 have e0 := rowOf_row hst.1 (hx r0 (.inl rfl)).1 (hx r0 (.inl rfl)).2
 have e1 := rowOf_row hst.2.1 (hx r1 (.inr (.inl rfl))).1 (hx r1 (.inr (.inl rfl))).2
 have e2 := rowOf_row hst.2.2.1 (hx r2 (.inr (.inr (.inl rfl)))).1 (hx r2 (.inr (.inr (.inl rfl)))).2
 have e3 := rowOf_row hst.2.2.2 (hx r3 (.inr (.inr (.inr rfl)))).1 (hx r3 (.inr (.inr (.inr rfl)))).2
 have hc : (cellsOf h sb).map (fun ds => (ds.drop 0).take 4) = some [r0.v, r1.v, r2.v, r3.v] := by simp [cellsOf, hb]
 unfold nameA
 simp only [hc, num64_of hn.1, num64_of hn.2.1, num64_of hn.2.2.1, num64_of hn.2.2.2, e0, e1, e2, e3]
theorem Ret.ext {X : Ext} {F : FuncId → Option RFunc} {lim : Nat} {f : FuncId} {g : Nat → List Value → AH → Option (Value × AH)} {vs : List Value} {h h' : AH} {v : Value} (hX : X f = some g) (hg : g lim vs h = some (v, h')) {Q : Value → AH → Prop} (hQ : Q v h') : Ret X F lim f vs h Q :=
 ⟨1, v, h', by simp only [acall, hX]; exact hg, hQ⟩
end
section
def mpv (S : List ByteArray) : List (Value × Value) := S.map fun s => (.string s, .bool true)
theorem eqK_str (s t : ByteArray) : eqK 2 (.string s) (.string t) = some (s == t) := rfl
theorem beq_no {s t : ByteArray} (h : s ≠ t) : (s == t) = false := by
 cases hb : (s == t) with
 | false => rfl
 | true => exact absurd (bytes_beq.1 hb) h
theorem mapFind_in {s : ByteArray} : ∀ {S : List ByteArray}, s ∈ S → mapFind 2 (.string s) (mpv S) = some (some (.bool true))
 | t :: S, h => by
  show (match eqK 2 (.string s) (.string t) with | some true => some (some (Value.bool true)) | some false => mapFind 2 (.string s) (mpv S) | none => none) = _
  by_cases hs : s = t
  ·rw [eqK_str, bytes_beq.2 hs]
  ·rw [eqK_str, beq_no hs]
   exact mapFind_in ((List.mem_cons.1 h).resolve_left hs)
theorem mapFind_out {s : ByteArray} : ∀ {S : List ByteArray}, s ∉ S → mapFind 2 (.string s) (mpv S) = some none
 | [], _ => rfl
 | t :: S, h => by
  show (match eqK 2 (.string s) (.string t) with | some true => some (some (Value.bool true)) | some false => mapFind 2 (.string s) (mpv S) | none => none) = _
  rw [eqK_str, beq_no (fun e => h (by simp [e]))]
  exact mapFind_out fun hm => h (by simp [hm])
theorem mapPut_mpv (s : ByteArray) : ∀ S : List ByteArray, s ∉ S → mapPut 2 (.string s) (.bool true) (mpv S) = mpv (S ++ [s])
 | [], _ => rfl
 | t :: S, h => by
  have hne : s ≠ t := fun e => h (by simp [e])
  have ih := mapPut_mpv s S fun hm => h (by simp [hm])
  show (if eqK 2 (.string s) (.string t) = some true then (Value.string s, Value.bool true) :: mpv S else (Value.string t, Value.bool true) :: mapPut 2 (.string s) (.bool true) (mpv S)) = _
  rw [if_neg (by rw [eqK_str, beq_no hne]; simp), ih]
  rfl
def mp (b : Nat) (S : List ByteArray) : Item := ⟨b, b + 1, fun h => h[b]? = some (.map (mpv S)), fun h h' hh hp => (hh b (Nat.le_refl _) (Nat.lt_succ_self _)).trans hp⟩
def Kx (mb : Nat) (h h' : AH) : Prop := h.length ≤ h'.length ∧ ∀ b, b ≠ mb → b < h.length → h'[b]? = h[b]?
theorem Kx.refl (mb : Nat) (h : AH) : Kx mb h h := ⟨Nat.le_refl _, fun _ _ _ => rfl⟩
theorem Kx.trans {mb : Nat} {h1 h2 h3 : AH} (p : Kx mb h1 h2) (q : Kx mb h2 h3) : Kx mb h1 h3 := ⟨Nat.le_trans p.1 q.1, fun b hb hl => (q.2 b hb (Nat.lt_of_lt_of_le hl p.1)).trans (p.2 b hb hl)⟩
section
variable {X : Ext} {F : FuncId → Option RFunc} {lim : Nat} {L : Al} {h0 h h' : AH} {K : Value → AH → Prop} {l : List Item}
theorem Kx.sl {mb sz n c : Nat} {es : List (Value × Value)} {a : Option Addr} {cs : List Value} (hk : Kx mb h h') (hm : h[mb]? = some (.map es)) (hs : Sl sz h a n c cs) : Sl sz h' a n c cs := hs.same fun x hx h0 hl => hk.2 _ (fun e => by
 subst hx
 obtain ⟨b, o, m⟩ := x
 have h1 := hs.1
 simp only at h0 e
 simp only [aElems] at h1
 rw [if_pos hs.2.1, if_neg (by omega)] at h1
 obtain ⟨ds, h2, _⟩ := Option.bind_eq_some_iff.1 h1
 have h3 := cellsOf_iff.1 h2
 rw [e, hm] at h3
 cases h3) hl
theorem Kx.cells {mb b : Nat} {es : List (Value × Value)} {cs : List Value} (hk : Kx mb h h') (hm : h[mb]? = some (.map es)) (hb : h[b]? = some (.cells cs)) : h'[b]? = some (.cells cs) := (hk.2 b (fun e => by rw [e, hm] at hb; cases hb) (List.getElem?_eq_some_iff.1 hb).1).trans hb
theorem Kx.row {mb : Nat} {es : List (Value × Value)} {r : Row} (hk : Kx mb h h') (hm : h[mb]? = some (.map es)) (hs : RowOk h r) : RowOk h' r := ⟨hk.sl hm hs.1, hs.2⟩
theorem Kx.st {mb : Nat} {es : List (Value × Value)} {r0 r1 r2 r3 : Row} (hk : Kx mb h h') (hm : h[mb]? = some (.map es)) (hs : St h r0 r1 r2 r3) : St h' r0 r1 r2 r3 := ⟨hk.row hm hs.1, hk.row hm hs.2.1, hk.row hm hs.2.2.1, hk.row hm hs.2.2.2⟩
theorem Loc.frameM {mb : Nat} {S : List ByteArray} (hm : h[mb]? = some (.map (mpv S))) : Loc (h.take mb) h [fz (mb + 1) h.length h, mp mb S] := by
 have hl := (List.getElem?_eq_some_iff.1 hm).1
 exact ⟨hl, Nat.le_refl _, fun _ _ _ => rfl, Nat.le_succ _, Nat.le_refl _, hm, (by rw [List.length_take]; show min mb h.length ≤ mb; omega), ⟨by rw [List.length_take]; omega, fun b hb => by rw [List.length_take] at hb; rw [List.getElem?_take_of_lt (by omega)]⟩⟩
theorem Loc.kx {mb k : Nat} (hm : mb ≤ h.length) (hL : Loc (h.take mb) h' l) (hk : l[k]? = some (fz (mb + 1) h.length h)) : Kx mb h h' :=
 ⟨hL.toEnd hk, fun b hb hl => by
  by_cases h1 : b < mb
  ·have := hL.pfx.2 b (by rw [List.length_take]; omega)
   rw [this, List.getElem?_take_of_lt h1]
  ·exact hL.get hk b (by omega) hl⟩
theorem OL.lookS {m x : Operand} {mb k : Nat} {S : List ByteArray} {s : ByteArray} (hL : Loc h0 h l) (hc : l[k]? = some (mp mb S)) (hm : lev L m = some (.map (some mb))) (hx : lev L x = some (.string s)) (h1 : s ∈ S → K (.bool true) h) (h2 : s ∉ S → K (.bool false) h) : OP X F lim (.lookup 2 (.bool false) false m x) L h K := by
 have hb : h[mb]? = some (.map (mpv S)) := hL.get hc
 by_cases hs : s ∈ S
 ·exact .of (v := .bool true) (fun _ e he => by simp only [aop, he.ev hm, he.ev hx, hb, mapFind_in hs]; rfl) (h1 hs)
 ·exact .of (v := .bool false) (fun _ e he => by simp only [aop, he.ev hm, he.ev hx, hb, mapFind_out hs]; rfl) (h2 hs)
theorem OL.setS {m x y : Operand} {mb k : Nat} {S : List ByteArray} {s : ByteArray} (hL : Loc h0 h l) (hlim : lim ≤ h0.length) (hc : l[k]? = some (mp mb S)) (hm : lev L m = some (.map (some mb))) (hx : lev L x = some (.string s)) (hy : lev L y = some (.bool true)) (hs : s ∉ S) (hk : ∀ h', Loc h0 h' (l.set k (mp mb (S ++ [s]))) → K undef h') : OP X F lim (.mapSet 2 m x y) L h K := fun e he => by
 have hb : h[mb]? = some (.map (mpv S)) := hL.get hc
 have hlt := (List.getElem?_eq_some_iff.1 hb).1
 have hlo : h0.length ≤ mb := hL.lo hc
 refine ⟨0, undef, h.set mb (.map (mpv (S ++ [s]))), ?_, hk _ (hL.put (by simp) hc (mp mb (S ++ [s])) rfl rfl ?_ fun b hb _ => List.getElem?_set_ne (by show mb ≠ b; have h1 : b < mb ∨ mb + 1 ≤ b := hb; omega))⟩
 ·simp only [aop, he.ev hm, he.ev hx, he.ev hy, hb]
  rw [if_pos ⟨by omega, by rw [eqK_str]; rfl, by decide⟩, mapFind_out hs, mapPut_mpv s S hs]
  rfl
 ·show (h.set mb _)[mb]? = _
  rw [List.getElem?_set_self hlt]
theorem Loc.newMap (hL : Loc h0 h l) : Loc h0 (h ++ [.map []]) (mp h.length [] :: l) :=
 hL.add (Pfx.push _) (mp h.length []) rfl (by simp [mp]) (by show (h ++ [Blk.map []])[h.length]? = _; simp [mpv])
theorem OL.mkMap (hL : Loc h0 h l) (hk : ∀ b h', Loc h0 h' (mp b [] :: l) → K (.map (some b)) h') : OP X F lim .mkMap L h K := fun e he => ⟨0, _, _, rfl, hk _ _ hL.newMap⟩
theorem OL.callMp {f : Operand} {g : FuncId} {xs : List Operand} {vs : List Value} {k mb : Nat} {S : List ByteArray} {Q : Value → List ByteArray → Prop} (hL : Loc h0 h l) (hk0 : l[k]? = some (mp mb S)) (hf : lev L f = some (.func (.func g) #[] #[])) (ha : levs L xs = some vs)
  (hr : Ret X F lim g vs h fun v h' => Kx mb h h' ∧ ∃ S', h'[mb]? = some (.map (mpv S')) ∧ Q v S') (hk : ∀ v h' S', Loc h0 h' (l.set k (mp mb S')) → Q v S' → K v h') : OP X F lim (.call f xs) L h K :=
 .call hf ha (hr.mono fun v h' ⟨h1, S', h2, h3⟩ => hk v h' S' (hL.put h1.1 hk0 (mp mb S') rfl rfl h2 fun b hb hl => h1.2 b (by have h4 : b < mb ∨ mb + 1 ≤ b := hb; omega) hl) h3)
end
end
end Go.Proofs.YtalknjppnkpmmaaDoorW.Ai
