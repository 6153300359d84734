/- The contracts of strings.Builder and strconv.Itoa, at this program; written by wip/tools/gen_lays.py. -/
import Derived.Test.YtalknjppnkpmmaaDoorProg
import Derived.Shelf.Strings.Builder1
import Derived.Shelf.Strconv.Itoa3
import Derived.WalkKit
import Derived.KernelRfl
import Derived.BigCall
import Derived.ProofKit
import Derived.RowKit
import Derived.Test.YtalknjppnkpmmaaDoorMj
namespace Go.Proofs.YtalknjppnkpmmaaDoor.Nm
open Go.RowKit Go.Shelf
def ren : Ren := ⟨fun x => if x = 166 then 45 else if x = 240 then 51 else if x = 276 then 56 else if x = 169 then 47 else if x = 171 then 46 else if x = 243 then 52 else if x = 246 then 57 else if x = 283 then 69 else if x = 284 then 70 else if x = 285 then 71 else if x = 286 then 72 else if x = 129 then 80 else if x = 317 then 79 else if x = 318 then 81 else if x = 319 then 82 else if x = 320 then 83 else if x = 337 then 90 else if x = 338 then 91 else x, fun x => if x = 3 then 3 else if x = 9 then 9 else if x = 2 then 2 else if x = 4 then 4 else if x = 171 then 118 else if x = 0 then 0 else if x = 53 then 119 else if x = 37 then 90 else if x = 5 then 5 else if x = 173 then 122 else if x = 212 then 131 else if x = 51 then 132 else if x = 20 then 20 else if x = 213 then 133 else if x = 46 then 34 else if x = 232 then 140 else if x = 233 then 141 else if x = 70 then 92 else if x = 72 then 94 else if x = 127 then 106 else if x = 75 then 96 else if x = 80 then 100 else if x = 164 then 108 else x, fun x => if x = 17 then 0 else if x = 18 then 1 else if x = 19 then 2 else x⟩
theorem mixed24 : Tryd.prog.follows .mixedOrders = true := by kernel_rfl
set_option maxRecDepth 100000 in
theorem lays166 : Lays.n166 Tryd.prog ren where
 mixed := mixed24
 f166 := Tryd.func45.trans (congrArg some (by kernel_rfl))
 f240 := Tryd.func51.trans (congrArg some (by kernel_rfl))
 f276 := Tryd.func56.trans (congrArg some (by kernel_rfl))
 t0 := Tryd.underlying0
 a0 := Tryd.isAgg0
 z0 := Tryd.sizeOf0
 v0 := Tryd.zeroValue0
 t3 := Tryd.underlying3
 a3 := Tryd.isAgg3
 z3 := Tryd.sizeOf3
 v3 := Tryd.zeroValue3
 t4 := Tryd.underlying4
 a4 := Tryd.isAgg4
 z4 := Tryd.sizeOf4
 v4 := Tryd.zeroValue4
 t9 := Tryd.underlying9
 a9 := Tryd.isAgg9
 z9 := Tryd.sizeOf9
 v9 := Tryd.zeroValue9
 t20 := Tryd.underlying20
 a20 := Tryd.isAgg20
 z20 := Tryd.sizeOf20
 v20 := Tryd.zeroValue20
 t37 := Tryd.underlying90
 a37 := Tryd.isAgg90
 z37 := Tryd.sizeOf90
 v37 := Tryd.zeroValue90
 t70 := Tryd.underlying92
 a70 := Tryd.isAgg92
 z70 := Tryd.sizeOf92
 v70 := Tryd.zeroValue92
 t72 := Tryd.underlying94
 a72 := Tryd.isAgg94
 z72 := Tryd.sizeOf94
 v72 := Tryd.zeroValue94
 t75 := Tryd.underlying96
 a75 := Tryd.isAgg96
 z75 := Tryd.sizeOf96
 v75 := Tryd.zeroValue96
 t164 := Tryd.underlying108
 a164 := Tryd.isAgg108
 z164 := Tryd.sizeOf108
 v164 := Tryd.zeroValue108
set_option maxRecDepth 100000 in
theorem lays169 : Lays.n169 Tryd.prog ren where
 mixed := mixed24
 f169 := Tryd.func47.trans (congrArg some (by kernel_rfl))
 t0 := Tryd.underlying0
 a0 := Tryd.isAgg0
 z0 := Tryd.sizeOf0
 v0 := Tryd.zeroValue0
 t3 := Tryd.underlying3
 a3 := Tryd.isAgg3
 z3 := Tryd.sizeOf3
 v3 := Tryd.zeroValue3
 t9 := Tryd.underlying9
 a9 := Tryd.isAgg9
 z9 := Tryd.sizeOf9
 v9 := Tryd.zeroValue9
 t37 := Tryd.underlying90
 a37 := Tryd.isAgg90
 z37 := Tryd.sizeOf90
 v37 := Tryd.zeroValue90
 t70 := Tryd.underlying92
 a70 := Tryd.isAgg92
 z70 := Tryd.sizeOf92
 v70 := Tryd.zeroValue92
 t72 := Tryd.underlying94
 a72 := Tryd.isAgg94
 z72 := Tryd.sizeOf94
 v72 := Tryd.zeroValue94
 t127 := Tryd.underlying106
 a127 := Tryd.isAgg106
 z127 := Tryd.sizeOf106
 v127 := Tryd.zeroValue106
set_option maxRecDepth 100000 in
theorem lays171a : Lays.n171 Tryd.prog ren where
 mixed := mixed24
 f129 := Tryd.func80.trans (congrArg some (by kernel_rfl))
 f171 := Tryd.func46.trans (congrArg some (by kernel_rfl))
 f243 := Tryd.func52.trans (congrArg some (by kernel_rfl))
 f246 := Tryd.func57.trans (congrArg some (by kernel_rfl))
 f283 := Tryd.func69.trans (congrArg some (by kernel_rfl))
 f284 := Tryd.func70.trans (congrArg some (by kernel_rfl))
 f285 := Tryd.func71.trans (congrArg some (by kernel_rfl))
 f286 := Tryd.func72.trans (congrArg some (by kernel_rfl))
 f317 := Tryd.func79.trans (congrArg some (by kernel_rfl))
 f318 := Tryd.func81.trans (congrArg some (by kernel_rfl))
 f319 := Tryd.func82.trans (congrArg some (by kernel_rfl))
 f320 := Tryd.func83.trans (congrArg some (by kernel_rfl))
 f337 := Tryd.func90.trans (congrArg some (by kernel_rfl))
 f338 := Tryd.func91.trans (congrArg some (by kernel_rfl))
 t0 := Tryd.underlying0
 a0 := Tryd.isAgg0
 z0 := Tryd.sizeOf0
 v0 := Tryd.zeroValue0
 t2 := Tryd.underlying2
 a2 := Tryd.isAgg2
 z2 := Tryd.sizeOf2
 v2 := Tryd.zeroValue2
 t3 := Tryd.underlying3
 a3 := Tryd.isAgg3
 z3 := Tryd.sizeOf3
 v3 := Tryd.zeroValue3
 t4 := Tryd.underlying4
 a4 := Tryd.isAgg4
 z4 := Tryd.sizeOf4
 v4 := Tryd.zeroValue4
 t5 := Tryd.underlying5
 a5 := Tryd.isAgg5
 z5 := Tryd.sizeOf5
 v5 := Tryd.zeroValue5
 t9 := Tryd.underlying9
 a9 := Tryd.isAgg9
 z9 := Tryd.sizeOf9
 v9 := Tryd.zeroValue9
 t20 := Tryd.underlying20
 a20 := Tryd.isAgg20
 z20 := Tryd.sizeOf20
 v20 := Tryd.zeroValue20
 t37 := Tryd.underlying90
 a37 := Tryd.isAgg90
 z37 := Tryd.sizeOf90
 v37 := Tryd.zeroValue90
 t46 := Tryd.underlying34
 a46 := Tryd.isAgg34
 z46 := Tryd.sizeOf34
 v46 := Tryd.zeroValue34
 t51 := Tryd.underlying132
 a51 := Tryd.isAgg132
 z51 := Tryd.sizeOf132
 v51 := Tryd.zeroValue132
 t53 := Tryd.underlying119
 a53 := Tryd.isAgg119
 z53 := Tryd.sizeOf119
 v53 := Tryd.zeroValue119
 t171 := Tryd.underlying118
 a171 := Tryd.isAgg118
 z171 := Tryd.sizeOf118
 v171 := Tryd.zeroValue118
 t173 := Tryd.underlying122
 a173 := Tryd.isAgg122
 z173 := Tryd.sizeOf122
 v173 := Tryd.zeroValue122
 t212 := Tryd.underlying131
 a212 := Tryd.isAgg131
 z212 := Tryd.sizeOf131
 v212 := Tryd.zeroValue131
 t213 := Tryd.underlying133
 a213 := Tryd.isAgg133
 z213 := Tryd.sizeOf133
 t232 := Tryd.underlying140
 a232 := Tryd.isAgg140
 z232 := Tryd.sizeOf140
 v232 := Tryd.zeroValue140
 t233 := Tryd.underlying141
 a233 := Tryd.isAgg141
 z233 := Tryd.sizeOf141
 v233 := Tryd.zeroValue141
 g17 := by kernel_rfl
 g18 := by kernel_rfl
 g19 := by kernel_rfl
set_option maxRecDepth 100000 in
theorem lays171 : LaysM.n171 Tryd.prog ren where
 ton171 := lays171a
 i0 := by kernel_rfl
 i2 := by kernel_rfl
 i3 := by kernel_rfl
 i4 := by kernel_rfl
 i5 := by kernel_rfl
 i9 := by kernel_rfl
 i20 := by kernel_rfl
 i37 := by kernel_rfl
 i46 := by kernel_rfl
 i51 := by kernel_rfl
 i53 := by kernel_rfl
 i171 := by kernel_rfl
 i173 := by kernel_rfl
 i212 := by kernel_rfl
 i232 := by kernel_rfl
 i233 := by kernel_rfl
 m17 := by kernel_rfl
 m18 := by kernel_rfl
 m19 := by kernel_rfl
set_option maxRecDepth 100000 in
theorem extra : Builder.Extra Tryd.prog ren where
 sizeBuilder := by kernel_rfl
 liesBuilder := by kernel_rfl
 t5 := Tryd.underlying5
 a5 := Tryd.isAgg5
 z5 := Tryd.sizeOf5
 v5 := Tryd.zeroValue5
 infoByte := by kernel_rfl
 cellsByte := by kernel_rfl
 sizeByte := by kernel_rfl
 neB5 := by decide
end Go.Proofs.YtalknjppnkpmmaaDoor.Nm
/- linear.name, walked at this program: what it writes is the text of a place and a state. -/
namespace Go.Proofs.YtalknjppnkpmmaaDoor.Nm
open Go.RowKit Go.Shelf Go.Sort
theorem isB_keep {T e : TypeId} {B b : Nat} {bs : List Value} {w w' : World} (h : Lib.IsBuilder T e B b bs w) (hk : ∀ c, c < w.heap.size → w'.heap[c]? = w.heap[c]?) : Lib.IsBuilder T e B b bs w' := by
 have one : ∀ p, Lib.BuilderAt T e B b p bs w → Lib.BuilderAt T e B b p bs w' := fun p hp => by
  obtain ⟨hB, v, hb, ⟨h1, h2⟩, hne⟩ := hp
  refine ⟨hB, v, (hk _ (Array.getElem?_eq_some_iff.1 hb).1).trans hb, ⟨h1, ?_⟩, hne⟩
  rcases h2 with h2 | ⟨g, cap, cur, q1, q2, q3, q4⟩
  ·exact .inl h2
  ·exact .inr ⟨g, cap, cur, q1, q2, (hk _ (Array.getElem?_eq_some_iff.1 q3).1).trans q3, q4⟩
 exact h.imp (one _) (one _)
theorem grow_keep (w : World) (k : Nat) (os : Array Obj) : ∀ c, c < w.heap.size → (grow (w.drewN k) os).heap[c]? = w.heap[c]? := fun c hc => by
 show (w.heap ++ os)[c]? = _
 rw [Array.getElem?_append_left hc]
theorem tab_keep {w w' : World} {zs : List Int} (h : Lib.TabIs Tryd.prog w "internal/strconv.uint64pow10" .u64 zs) (hk : ∀ c, c < w.heap.size → w'.heap[c]? = w.heap[c]?) : Lib.TabIs Tryd.prog w' "internal/strconv.uint64pow10" .u64 zs := by
 unfold Lib.TabIs World.var? at *
 cases hg : Tryd.prog.globalNamed "internal/strconv.uint64pow10" with
 | none => rw [hg] at h; cases h
 | some g =>
  rw [hg] at h
  simp only [Option.bind_some] at h ⊢
  cases ho : w.heap[g]? with
  | none => rw [ho] at h; cases h
  | some o => rw [hk g (Array.getElem?_eq_some_iff.1 ho).1, ho]; rw [ho] at h; exact h
theorem itoa46 (n : Int) (h : -9223372036854775808 ≤ n ∧ n ≤ 9223372036854775807) (w : World) (htab : Lib.TabIs Tryd.prog w "internal/strconv.uint64pow10" .u64 Lib.pow10Tab) : Calls Tryd.prog 46 #[.int .i64 n] w fun e w' => e = .returned (.string ⟨(Lib.itoa n).toArray⟩) ∧ ∃ k os, w' = grow (w.drewN k) os := Any.strconv_Itoa lays171 n h.1 h.2 w htab
theorem write45 (B b : Nat) (bs : List Value) (s : ByteArray) (w : World) (h : Lib.IsBuilder 94 5 B b bs w) (hlen : bs.length + s.size ≤ 140737488355328) (hBw : B ≤ w.heap.size) :
  Calls Tryd.prog 45 #[.pointer (some ⟨b, 0, none⟩), .string s] w fun e w' => e = .returned (.tuple #[.int .i64 s.size, .nilIface]) ∧ (Lib.BuilderAt 94 5 B b (.pointer (some ⟨b, 0, none⟩)) (bs ++ Lib.strCells s) w' ∧ Below B w w') := Any.Builder_WriteString lays166 extra B b bs s w h hlen hBw
theorem string47 (B b : Nat) (l : List UInt8) (w : World) (h : Lib.IsBuilder 94 5 B b (Lib.byteCells l) w) (hBw : B ≤ w.heap.size) :
  Calls Tryd.prog 47 #[.pointer (some ⟨b, 0, none⟩)] w fun e w' => e = .returned (.string ⟨l.toArray⟩) ∧ Below B w w' := Any.Builder_String_any lays169 extra B b l w h hBw
theorem ix0 (n0 n1 n2 n3 : Int) (w : World) : (Instr.index 69 (.agg #[.int .i64 n0, .int .i64 n1, .int .i64 n2, .int .i64 n3]) (.int .i64 0)).run Tryd.prog w = .ok (.int .i64 n0) w := by kernel_rfl
theorem ix1 (n0 n1 n2 n3 : Int) (w : World) : (Instr.index 69 (.agg #[.int .i64 n0, .int .i64 n1, .int .i64 n2, .int .i64 n3]) (.int .i64 1)).run Tryd.prog w = .ok (.int .i64 n1) w := by kernel_rfl
theorem ix2 (n0 n1 n2 n3 : Int) (w : World) : (Instr.index 69 (.agg #[.int .i64 n0, .int .i64 n1, .int .i64 n2, .int .i64 n3]) (.int .i64 2)).run Tryd.prog w = .ok (.int .i64 n2) w := by kernel_rfl
theorem ix3 (n0 n1 n2 n3 : Int) (w : World) : (Instr.index 69 (.agg #[.int .i64 n0, .int .i64 n1, .int .i64 n2, .int .i64 n3]) (.int .i64 3)).run Tryd.prog w = .ok (.int .i64 n3) w := by kernel_rfl
def rowK : List Int → List UInt8
 | [] => []
 | x :: xs => Lib.itoa x ++ 44 :: rowK xs
theorem decDigits_le : ∀ u : Nat, (Lib.decDigits u).length ≤ u + 1 := by
 intro u
 induction u using Nat.strongRecOn with
 | _ u ih =>
  rw [Lib.decDigits]
  split
  ·simp
  ·rename_i h
   have := ih (u / 10) (by omega)
   rw [List.length_append, List.length_singleton]
   omega
theorem itoa_le {n : Int} (h : 0 ≤ n ∧ n ≤ 1000000) : (Lib.itoa n).length ≤ 1000001 := by
 unfold Lib.itoa
 rw [if_neg (by omega)]
 have := decDigits_le n.toNat
 omega
theorem ia (g o n c j : Nat) (hj : j < n) (W : World) : (Instr.indexAt 35 (.slice (some ⟨g, o, none⟩) n c) (.int .i64 j)).run Tryd.prog W = .ok (.pointer (some ⟨g, o + j, none⟩)) W := by
 simp [Instr.indexAt, run_underlying Tryd.underlying35, asIntOf, Tryd.sizeOf3, Addr.add, hj]
theorem cell_keep {w w' : World} {a : Addr} {v : Value} (h : w.cell? a = some v) (hk : ∀ c, c < w.heap.size → w'.heap[c]? = w.heap[c]?) : w'.cell? a = some v := by
 unfold World.cell? at *
 cases ho : w.heap[a.block]? with
 | none => rw [ho] at h; simp at h
 | some o => rw [hk _ (Array.getElem?_eq_some_iff.1 ho).1]; exact h
theorem below_grow (B : Nat) (w : World) (k : Nat) (os : Array Obj) (hB : B ≤ w.heap.size) : Below B w (grow (w.drewN k) os) := ⟨rfl, rfl, rfl, by show _ ≤ (w.heap ++ os).size; simp, fun c hc => grow_keep w k os c (by omega)⟩
theorem str_app (l : List UInt8) (b : UInt8) : Lib.strCells ((⟨l.toArray⟩ : ByteArray) ++ ⟨#[b]⟩) = Lib.byteCells (l ++ [b]) := by
 rw [Lib.strCells_eq]
 congr 1
theorem str_size (l : List UInt8) (b : UInt8) : ((⟨l.toArray⟩ : ByteArray) ++ ⟨#[b]⟩).size = l.length + 1 := by
 simp [ByteArray.size, ByteArray.append]
theorem wrap_one {j : Nat} (h : j ≤ 1000) : wrap64 ((j : Int) + 1) = ((j + 1 : Nat) : Int) := by
 unfold wrap64; omega
theorem rowK_len : ∀ {xs : List Int}, (∀ x ∈ xs, 0 ≤ x ∧ x ≤ 1000000) → (rowK xs).length ≤ xs.length * 1000002
 | [], _ => Nat.zero_le _
 | x :: xs, h => by
  have h1 := itoa_le (h x (by simp))
  have h2 := rowK_len (xs := xs) fun y hy => h y (by simp [hy])
  simp only [rowK, List.length_append, List.length_cons, Nat.succ_mul]
  omega
theorem rowK_snoc (xs : List Int) (x : Int) : rowK (xs ++ [x]) = rowK xs ++ (Lib.itoa x ++ [44]) := by
 induction xs with
 | nil => simp [rowK]
 | cons y ys ih => simp [rowK, ih]
set_option maxHeartbeats 40000000 in
set_option maxRecDepth 1000000 in
theorem name_walk (n0 n1 n2 n3 : Int) (sb so : Nat) (ra : Nat → Option Addr) (rc : Nat → Nat) (xs : Nat → List Int) (w : World)
  (hrow : ∀ i, i < 4 → w.cell? ⟨sb, so + i, none⟩ = some (.slice (ra i) (xs i).length (rc i)))
  (hcell : ∀ i, i < 4 → ∀ j (hj : j < (xs i).length), ∃ g o, ra i = some ⟨g, o, none⟩ ∧ w.cell? ⟨g, o + j, none⟩ = some (.int .i64 (xs i)[j]))
  (hn : ∀ n ∈ [n0, n1, n2, n3], 0 ≤ n ∧ n ≤ 1000000) (hx : ∀ i, i < 4 → ∀ x ∈ xs i, 0 ≤ x ∧ x ≤ 1000000)
  (hlen : ∀ i, i < 4 → (xs i).length ≤ 1000) (htab : Lib.TabIs Tryd.prog w "internal/strconv.uint64pow10" .u64 Lib.pow10Tab) :
  Calls Tryd.prog 38 #[.agg #[.int .i64 n0, .int .i64 n1, .int .i64 n2, .int .i64 n3], .pointer (some ⟨sb, so, none⟩)] w fun e w' => e = .returned (.string ⟨(Lib.itoa n0 ++ 58 :: rowK (xs 0) ++ (Lib.itoa n1 ++ 58 :: rowK (xs 1)) ++ (Lib.itoa n2 ++ 58 :: rowK (xs 2)) ++ (Lib.itoa n3 ++ 58 :: rowK (xs 3))).toArray⟩) ∧ Below w.heap.size w w' := by
 have c0 : w.cell? ⟨sb, so, none⟩ = _ := hrow 0 (by decide)
 have c1 := hrow 1 (by decide)
 have c2 := hrow 2 (by decide)
 have c3 := hrow 3 (by decide)
 have hKl : ∀ i (n : Int), i < 4 → 0 ≤ n ∧ n ≤ 1000000 → (Lib.itoa n ++ 58 :: rowK (xs i)).length ≤ 2000000000 := fun i n hi hn => by
  have h1 := itoa_le hn
  have h2 := rowK_len (hx i hi)
  have h3 := hlen i hi
  have h4 : (xs i).length * 1000002 ≤ 1000 * 1000002 := Nat.mul_le_mul_right _ h3
  simp only [List.length_append, List.length_cons]
  omega
 have l0 := hKl 0 n0 (by decide) (hn n0 (by simp))
 have l1 := hKl 1 n1 (by decide) (hn n1 (by simp))
 have l2 := hKl 2 n2 (by decide) (hn n2 (by simp))
 have l3 := hKl 3 n3 (by decide) (hn n3 (by simp))
 generalize hK0 : Lib.itoa n0 ++ 58 :: rowK (xs 0) = K0 at l0
 generalize hK1 : Lib.itoa n1 ++ 58 :: rowK (xs 1) = K1 at l1
 generalize hK2 : Lib.itoa n2 ++ 58 :: rowK (xs 2) = K2 at l2
 generalize hK3 : Lib.itoa n3 ++ 58 :: rowK (xs 3) = K3 at l3
 go_enter Tryd.func38, Tryd.ntmps38
 go_wp2
 go_loopw [11] (fun iv wr => ∃ (i : Int) (acc : List UInt8), iv = .int .i64 i ∧ ((i = 0 ∧ acc = []) ∨ (i = 1 ∧ acc = K0) ∨ (i = 2 ∧ acc = K0 ++ K1) ∨ (i = 3 ∧ acc = K0 ++ K1 ++ K2) ∨ (i = 4 ∧ acc = K0 ++ K1 ++ K2 ++ K3)) ∧ Lib.IsBuilder 94 5 w.heap.size (w.heap.size + 1) (Lib.byteCells acc) wr ∧ Below w.heap.size w wr) (fun iv wr => match iv with | .int _ i => 4 - i.toNat | _ => 0)
 case atStart =>
  refine ⟨0, [], rfl, .inl ⟨rfl, rfl⟩, ?_, ((Below.refl _ w).alloc (Nat.le_refl _) _).alloc (by simp) _⟩
  refine .inl ⟨by omega, .slice none 0 0, ?_, ⟨rfl, .inl ⟨rfl, rfl⟩⟩, by simp [Value.ownBlock]⟩
  have : ∀ (w : World) (o1 o2 : Obj), ((w.alloc o1).alloc o2).heap[w.heap.size + 1]? = some o2 := fun w o1 o2 => by
   show ((w.heap.push o1).push o2)[w.heap.size + 1]? = _
   rw [Array.getElem?_push, if_pos (by simp)]
  exact this _ _ _
 case round =>
  obtain ⟨i, acc, rfl, hi, hB, hbw⟩ := hrel
  have hkeep : ∀ c, c < w.heap.size → wr.heap[c]? = w.heap[c]? := fun c hc => hbw.block c hc
  rcases hi with ⟨rfl, hacc⟩ | ⟨rfl, hacc⟩ | ⟨rfl, hacc⟩ | ⟨rfl, hacc⟩ | ⟨rfl, hacc⟩
  all_goals (rw [hacc] at hB; clear hacc)
  ·have hix := ix0 n0 n1 n2 n3
   have hli := itoa_le (hn n0 (by simp))
   go_wp2_with (go_at_call 46; refine (itoa46 n0 (by have := hn n0 (by simp); omega) _ (tab_keep htab hkeep)).mono ?_)
   rintro e W1 ⟨rfl, k1, os1, rfl⟩
   have hB1 := isB_keep hB (grow_keep wr k1 os1)
   have hbw1 := hbw.trans (below_grow w.heap.size wr k1 os1 hbw.size)
   have hcat : ¬ 9223372036854775807 < (Lib.itoa n0).length + 1 := by omega
   go_wp2_with (go_at_call 45; refine (write45 w.heap.size (w.heap.size + 1) _ _ _ hB1 (by rw [Lib.byteCells_length, str_size]; (try simp only [List.length_append, List.length_nil]); omega) hbw1.size).mono ?_)
   rintro e W2 ⟨rfl, h2, b2⟩
   have hbw2 := hbw1.trans b2
   rw [str_app, ← Lib.byteCells_append] at h2
   have hB2 : Lib.IsBuilder 94 5 w.heap.size (w.heap.size + 1) _ W2 := .inr h2
   have d0 := cell_keep c0 (fun c hc => hbw2.block c hc)
   clear hB hB1 h2 b2 hbw1 hkeep
   go_wp2
   go_loopw [26] (fun jv W => ∃ (j : Nat), jv = .int .i64 j ∧ j ≤ (xs 0).length ∧ Lib.IsBuilder 94 5 w.heap.size (w.heap.size + 1) (Lib.byteCells ([] ++ (Lib.itoa n0 ++ [58]) ++ rowK ((xs 0).take j))) W ∧ Below w.heap.size w W) (fun jv W => match jv with | .int _ j => (xs 0).length - j.toNat | _ => 0)
   case atStart =>
    exact ⟨0, rfl, Nat.zero_le _, by simpa [rowK] using hB2, hbw2⟩
   case round =>
    obtain ⟨j, rfl, hj, hB3, hbw3⟩ := hrel
    by_cases hjl : j < (xs 0).length
    ·obtain ⟨g, o, hra, hc⟩ := hcell 0 (by decide) j hjl
     have hxj := hx 0 (by decide) _ (List.getElem_mem hjl)
     have hlx := itoa_le hxj
     have hia : ∀ W, (Instr.indexAt 35 (.slice (ra 0) (xs 0).length (rc 0)) (.int .i64 j)).run Tryd.prog W = .ok (.pointer (some ⟨g, o + j, none⟩)) W := fun W => by rw [hra]; exact ia g o _ _ j hjl W
     have hc' := cell_keep hc (fun c hc => hbw3.block c hc)
     clear hra hc
     have hrl := rowK_len (xs := (xs 0).take j) (fun x hx' => hx 0 (by decide) x (List.mem_of_mem_take hx'))
     have hr2 : ((xs 0).take j).length * 1000002 ≤ 1000 * 1000002 := Nat.mul_le_mul_right _ (by rw [List.length_take]; have := hlen 0 (by decide); omega)
     go_wp2_with (go_at_call 46; refine (itoa46 (xs 0)[j] (by omega) _ (tab_keep htab (fun c hc => hbw3.block c hc))).mono ?_)
     rintro e W4 ⟨rfl, k2, os2, rfl⟩
     have hB4 := isB_keep hB3 (grow_keep _ k2 os2)
     have hbw4 := hbw3.trans (below_grow w.heap.size _ k2 os2 hbw3.size)
     have hcat2 : ¬ 9223372036854775807 < (Lib.itoa (xs 0)[j]).length + 1 := by omega
     go_wp2_with (go_at_call 45; refine (write45 w.heap.size (w.heap.size + 1) _ _ _ hB4 (by rw [Lib.byteCells_length, str_size]; (try simp only [List.length_append, List.length_nil, List.length_singleton]); omega) hbw4.size).mono ?_)
     rintro e W5 ⟨rfl, h5, b5⟩
     rw [str_app, ← Lib.byteCells_append] at h5
     have h6 := hbw4.trans b5
     clear hB3 hbw3 hB4 hbw4 b5 hia hc' hcat2 hrl hr2 hlx hxj
     go_wp2
     have hwr : wrap64 ((j : Int) + 1) = ((j + 1 : Nat) : Int) := wrap_one (by have := hlen 0 (by decide); omega)
     go_roundw
     case rel =>
      refine ⟨j + 1, by rw [hwr], by omega, .inr ?_, h6⟩
      rw [List.take_succ_eq_append_getElem hjl, rowK_snoc]
      simpa only [List.append_assoc] using h5
     case measure =>
      rw [hwr]
      show (xs 0).length - ((j + 1 : Nat) : Int).toNat < (xs 0).length - ((j : Nat) : Int).toNat
      omega
    ·obtain rfl : j = (xs 0).length := by omega
     go_wp2
     rw [List.take_length] at hB3
     refine ⟨⟨1, K0, rfl, .inr (.inl ⟨rfl, rfl⟩), ?_, hbw3⟩, by decide⟩
     rw [← hK0]
     simpa only [List.append_assoc, List.nil_append, List.singleton_append, List.cons_append] using hB3
  ·have hix := ix1 n0 n1 n2 n3
   have hli := itoa_le (hn n1 (by simp))
   go_wp2_with (go_at_call 46; refine (itoa46 n1 (by have := hn n1 (by simp); omega) _ (tab_keep htab hkeep)).mono ?_)
   rintro e W1 ⟨rfl, k1, os1, rfl⟩
   have hB1 := isB_keep hB (grow_keep wr k1 os1)
   have hbw1 := hbw.trans (below_grow w.heap.size wr k1 os1 hbw.size)
   have hcat : ¬ 9223372036854775807 < (Lib.itoa n1).length + 1 := by omega
   go_wp2_with (go_at_call 45; refine (write45 w.heap.size (w.heap.size + 1) _ _ _ hB1 (by rw [Lib.byteCells_length, str_size]; (try simp only [List.length_append, List.length_nil]); omega) hbw1.size).mono ?_)
   rintro e W2 ⟨rfl, h2, b2⟩
   have hbw2 := hbw1.trans b2
   rw [str_app, ← Lib.byteCells_append] at h2
   have hB2 : Lib.IsBuilder 94 5 w.heap.size (w.heap.size + 1) _ W2 := .inr h2
   have d1 := cell_keep c1 (fun c hc => hbw2.block c hc)
   clear hB hB1 h2 b2 hbw1 hkeep
   go_wp2
   go_loopw [26] (fun jv W => ∃ (j : Nat), jv = .int .i64 j ∧ j ≤ (xs 1).length ∧ Lib.IsBuilder 94 5 w.heap.size (w.heap.size + 1) (Lib.byteCells (K0 ++ (Lib.itoa n1 ++ [58]) ++ rowK ((xs 1).take j))) W ∧ Below w.heap.size w W) (fun jv W => match jv with | .int _ j => (xs 1).length - j.toNat | _ => 0)
   case atStart =>
    exact ⟨0, rfl, Nat.zero_le _, by simpa [rowK] using hB2, hbw2⟩
   case round =>
    obtain ⟨j, rfl, hj, hB3, hbw3⟩ := hrel
    by_cases hjl : j < (xs 1).length
    ·obtain ⟨g, o, hra, hc⟩ := hcell 1 (by decide) j hjl
     have hxj := hx 1 (by decide) _ (List.getElem_mem hjl)
     have hlx := itoa_le hxj
     have hia : ∀ W, (Instr.indexAt 35 (.slice (ra 1) (xs 1).length (rc 1)) (.int .i64 j)).run Tryd.prog W = .ok (.pointer (some ⟨g, o + j, none⟩)) W := fun W => by rw [hra]; exact ia g o _ _ j hjl W
     have hc' := cell_keep hc (fun c hc => hbw3.block c hc)
     clear hra hc
     have hrl := rowK_len (xs := (xs 1).take j) (fun x hx' => hx 1 (by decide) x (List.mem_of_mem_take hx'))
     have hr2 : ((xs 1).take j).length * 1000002 ≤ 1000 * 1000002 := Nat.mul_le_mul_right _ (by rw [List.length_take]; have := hlen 1 (by decide); omega)
     go_wp2_with (go_at_call 46; refine (itoa46 (xs 1)[j] (by omega) _ (tab_keep htab (fun c hc => hbw3.block c hc))).mono ?_)
     rintro e W4 ⟨rfl, k2, os2, rfl⟩
     have hB4 := isB_keep hB3 (grow_keep _ k2 os2)
     have hbw4 := hbw3.trans (below_grow w.heap.size _ k2 os2 hbw3.size)
     have hcat2 : ¬ 9223372036854775807 < (Lib.itoa (xs 1)[j]).length + 1 := by omega
     go_wp2_with (go_at_call 45; refine (write45 w.heap.size (w.heap.size + 1) _ _ _ hB4 (by rw [Lib.byteCells_length, str_size]; (try simp only [List.length_append, List.length_nil, List.length_singleton]); omega) hbw4.size).mono ?_)
     rintro e W5 ⟨rfl, h5, b5⟩
     rw [str_app, ← Lib.byteCells_append] at h5
     have h6 := hbw4.trans b5
     clear hB3 hbw3 hB4 hbw4 b5 hia hc' hcat2 hrl hr2 hlx hxj
     go_wp2
     have hwr : wrap64 ((j : Int) + 1) = ((j + 1 : Nat) : Int) := wrap_one (by have := hlen 1 (by decide); omega)
     go_roundw
     case rel =>
      refine ⟨j + 1, by rw [hwr], by omega, .inr ?_, h6⟩
      rw [List.take_succ_eq_append_getElem hjl, rowK_snoc]
      simpa only [List.append_assoc] using h5
     case measure =>
      rw [hwr]
      show (xs 1).length - ((j + 1 : Nat) : Int).toNat < (xs 1).length - ((j : Nat) : Int).toNat
      omega
    ·obtain rfl : j = (xs 1).length := by omega
     go_wp2
     rw [List.take_length] at hB3
     refine ⟨⟨2, (K0 ++ K1), rfl, .inr (.inr (.inl ⟨rfl, rfl⟩)), ?_, hbw3⟩, by decide⟩
     rw [← hK1]
     simpa only [List.append_assoc, List.nil_append, List.singleton_append, List.cons_append] using hB3
  ·have hix := ix2 n0 n1 n2 n3
   have hli := itoa_le (hn n2 (by simp))
   go_wp2_with (go_at_call 46; refine (itoa46 n2 (by have := hn n2 (by simp); omega) _ (tab_keep htab hkeep)).mono ?_)
   rintro e W1 ⟨rfl, k1, os1, rfl⟩
   have hB1 := isB_keep hB (grow_keep wr k1 os1)
   have hbw1 := hbw.trans (below_grow w.heap.size wr k1 os1 hbw.size)
   have hcat : ¬ 9223372036854775807 < (Lib.itoa n2).length + 1 := by omega
   go_wp2_with (go_at_call 45; refine (write45 w.heap.size (w.heap.size + 1) _ _ _ hB1 (by rw [Lib.byteCells_length, str_size]; (try simp only [List.length_append, List.length_nil]); omega) hbw1.size).mono ?_)
   rintro e W2 ⟨rfl, h2, b2⟩
   have hbw2 := hbw1.trans b2
   rw [str_app, ← Lib.byteCells_append] at h2
   have hB2 : Lib.IsBuilder 94 5 w.heap.size (w.heap.size + 1) _ W2 := .inr h2
   have d2 := cell_keep c2 (fun c hc => hbw2.block c hc)
   clear hB hB1 h2 b2 hbw1 hkeep
   go_wp2
   go_loopw [26] (fun jv W => ∃ (j : Nat), jv = .int .i64 j ∧ j ≤ (xs 2).length ∧ Lib.IsBuilder 94 5 w.heap.size (w.heap.size + 1) (Lib.byteCells ((K0 ++ K1) ++ (Lib.itoa n2 ++ [58]) ++ rowK ((xs 2).take j))) W ∧ Below w.heap.size w W) (fun jv W => match jv with | .int _ j => (xs 2).length - j.toNat | _ => 0)
   case atStart =>
    exact ⟨0, rfl, Nat.zero_le _, by simpa [rowK] using hB2, hbw2⟩
   case round =>
    obtain ⟨j, rfl, hj, hB3, hbw3⟩ := hrel
    by_cases hjl : j < (xs 2).length
    ·obtain ⟨g, o, hra, hc⟩ := hcell 2 (by decide) j hjl
     have hxj := hx 2 (by decide) _ (List.getElem_mem hjl)
     have hlx := itoa_le hxj
     have hia : ∀ W, (Instr.indexAt 35 (.slice (ra 2) (xs 2).length (rc 2)) (.int .i64 j)).run Tryd.prog W = .ok (.pointer (some ⟨g, o + j, none⟩)) W := fun W => by rw [hra]; exact ia g o _ _ j hjl W
     have hc' := cell_keep hc (fun c hc => hbw3.block c hc)
     clear hra hc
     have hrl := rowK_len (xs := (xs 2).take j) (fun x hx' => hx 2 (by decide) x (List.mem_of_mem_take hx'))
     have hr2 : ((xs 2).take j).length * 1000002 ≤ 1000 * 1000002 := Nat.mul_le_mul_right _ (by rw [List.length_take]; have := hlen 2 (by decide); omega)
     go_wp2_with (go_at_call 46; refine (itoa46 (xs 2)[j] (by omega) _ (tab_keep htab (fun c hc => hbw3.block c hc))).mono ?_)
     rintro e W4 ⟨rfl, k2, os2, rfl⟩
     have hB4 := isB_keep hB3 (grow_keep _ k2 os2)
     have hbw4 := hbw3.trans (below_grow w.heap.size _ k2 os2 hbw3.size)
     have hcat2 : ¬ 9223372036854775807 < (Lib.itoa (xs 2)[j]).length + 1 := by omega
     go_wp2_with (go_at_call 45; refine (write45 w.heap.size (w.heap.size + 1) _ _ _ hB4 (by rw [Lib.byteCells_length, str_size]; (try simp only [List.length_append, List.length_nil, List.length_singleton]); omega) hbw4.size).mono ?_)
     rintro e W5 ⟨rfl, h5, b5⟩
     rw [str_app, ← Lib.byteCells_append] at h5
     have h6 := hbw4.trans b5
     clear hB3 hbw3 hB4 hbw4 b5 hia hc' hcat2 hrl hr2 hlx hxj
     go_wp2
     have hwr : wrap64 ((j : Int) + 1) = ((j + 1 : Nat) : Int) := wrap_one (by have := hlen 2 (by decide); omega)
     go_roundw
     case rel =>
      refine ⟨j + 1, by rw [hwr], by omega, .inr ?_, h6⟩
      rw [List.take_succ_eq_append_getElem hjl, rowK_snoc]
      simpa only [List.append_assoc] using h5
     case measure =>
      rw [hwr]
      show (xs 2).length - ((j + 1 : Nat) : Int).toNat < (xs 2).length - ((j : Nat) : Int).toNat
      omega
    ·obtain rfl : j = (xs 2).length := by omega
     go_wp2
     rw [List.take_length] at hB3
     refine ⟨⟨3, (K0 ++ K1 ++ K2), rfl, .inr (.inr (.inr (.inl ⟨rfl, rfl⟩))), ?_, hbw3⟩, by decide⟩
     rw [← hK2]
     simpa only [List.append_assoc, List.nil_append, List.singleton_append, List.cons_append] using hB3
  ·have hix := ix3 n0 n1 n2 n3
   have hli := itoa_le (hn n3 (by simp))
   go_wp2_with (go_at_call 46; refine (itoa46 n3 (by have := hn n3 (by simp); omega) _ (tab_keep htab hkeep)).mono ?_)
   rintro e W1 ⟨rfl, k1, os1, rfl⟩
   have hB1 := isB_keep hB (grow_keep wr k1 os1)
   have hbw1 := hbw.trans (below_grow w.heap.size wr k1 os1 hbw.size)
   have hcat : ¬ 9223372036854775807 < (Lib.itoa n3).length + 1 := by omega
   go_wp2_with (go_at_call 45; refine (write45 w.heap.size (w.heap.size + 1) _ _ _ hB1 (by rw [Lib.byteCells_length, str_size]; (try simp only [List.length_append, List.length_nil]); omega) hbw1.size).mono ?_)
   rintro e W2 ⟨rfl, h2, b2⟩
   have hbw2 := hbw1.trans b2
   rw [str_app, ← Lib.byteCells_append] at h2
   have hB2 : Lib.IsBuilder 94 5 w.heap.size (w.heap.size + 1) _ W2 := .inr h2
   have d3 := cell_keep c3 (fun c hc => hbw2.block c hc)
   clear hB hB1 h2 b2 hbw1 hkeep
   go_wp2
   go_loopw [26] (fun jv W => ∃ (j : Nat), jv = .int .i64 j ∧ j ≤ (xs 3).length ∧ Lib.IsBuilder 94 5 w.heap.size (w.heap.size + 1) (Lib.byteCells ((K0 ++ K1 ++ K2) ++ (Lib.itoa n3 ++ [58]) ++ rowK ((xs 3).take j))) W ∧ Below w.heap.size w W) (fun jv W => match jv with | .int _ j => (xs 3).length - j.toNat | _ => 0)
   case atStart =>
    exact ⟨0, rfl, Nat.zero_le _, by simpa [rowK] using hB2, hbw2⟩
   case round =>
    obtain ⟨j, rfl, hj, hB3, hbw3⟩ := hrel
    by_cases hjl : j < (xs 3).length
    ·obtain ⟨g, o, hra, hc⟩ := hcell 3 (by decide) j hjl
     have hxj := hx 3 (by decide) _ (List.getElem_mem hjl)
     have hlx := itoa_le hxj
     have hia : ∀ W, (Instr.indexAt 35 (.slice (ra 3) (xs 3).length (rc 3)) (.int .i64 j)).run Tryd.prog W = .ok (.pointer (some ⟨g, o + j, none⟩)) W := fun W => by rw [hra]; exact ia g o _ _ j hjl W
     have hc' := cell_keep hc (fun c hc => hbw3.block c hc)
     clear hra hc
     have hrl := rowK_len (xs := (xs 3).take j) (fun x hx' => hx 3 (by decide) x (List.mem_of_mem_take hx'))
     have hr2 : ((xs 3).take j).length * 1000002 ≤ 1000 * 1000002 := Nat.mul_le_mul_right _ (by rw [List.length_take]; have := hlen 3 (by decide); omega)
     go_wp2_with (go_at_call 46; refine (itoa46 (xs 3)[j] (by omega) _ (tab_keep htab (fun c hc => hbw3.block c hc))).mono ?_)
     rintro e W4 ⟨rfl, k2, os2, rfl⟩
     have hB4 := isB_keep hB3 (grow_keep _ k2 os2)
     have hbw4 := hbw3.trans (below_grow w.heap.size _ k2 os2 hbw3.size)
     have hcat2 : ¬ 9223372036854775807 < (Lib.itoa (xs 3)[j]).length + 1 := by omega
     go_wp2_with (go_at_call 45; refine (write45 w.heap.size (w.heap.size + 1) _ _ _ hB4 (by rw [Lib.byteCells_length, str_size]; (try simp only [List.length_append, List.length_nil, List.length_singleton]); omega) hbw4.size).mono ?_)
     rintro e W5 ⟨rfl, h5, b5⟩
     rw [str_app, ← Lib.byteCells_append] at h5
     have h6 := hbw4.trans b5
     clear hB3 hbw3 hB4 hbw4 b5 hia hc' hcat2 hrl hr2 hlx hxj
     go_wp2
     have hwr : wrap64 ((j : Int) + 1) = ((j + 1 : Nat) : Int) := wrap_one (by have := hlen 3 (by decide); omega)
     go_roundw
     case rel =>
      refine ⟨j + 1, by rw [hwr], by omega, .inr ?_, h6⟩
      rw [List.take_succ_eq_append_getElem hjl, rowK_snoc]
      simpa only [List.append_assoc] using h5
     case measure =>
      rw [hwr]
      show (xs 3).length - ((j + 1 : Nat) : Int).toNat < (xs 3).length - ((j : Nat) : Int).toNat
      omega
    ·obtain rfl : j = (xs 3).length := by omega
     go_wp2
     rw [List.take_length] at hB3
     refine ⟨⟨4, (K0 ++ K1 ++ K2 ++ K3), rfl, .inr (.inr (.inr (.inr ⟨rfl, rfl⟩))), ?_, hbw3⟩, by decide⟩
     rw [← hK3]
     simpa only [List.append_assoc, List.nil_append, List.singleton_append, List.cons_append] using hB3
  ·go_wp2_with (go_at_call 47; refine (string47 w.heap.size (w.heap.size + 1) _ _ hB hbw.size).mono ?_)
   rintro e W1 ⟨rfl, b1⟩
   go_wp2
   go_ret
   refine ⟨?_, hbw.trans b1⟩
   show Ending.returned (Value.string ⟨(K0 ++ (K1 ++ (K2 ++ K3))).toArray⟩) = _
   simp only [List.append_assoc]
end Go.Proofs.YtalknjppnkpmmaaDoor.Nm
/-
 The small machine and linear.name, a function outside it (it goes over strings.Builder and strconv.Itoa), by the library's contracts.
-/
namespace Go.Proofs.YtalknjppnkpmmaaDoorW.Ai
open Go.RowKit
theorem row7_eq : ∀ {xs : List Int}, (∀ x ∈ xs, 0 ≤ x ∧ x ≤ 1000000) → row7 xs = Go.Proofs.YtalknjppnkpmmaaDoor.Nm.rowK xs
 | [], _ => rfl
 | x :: xs, h => by
  simp only [row7, Go.Proofs.YtalknjppnkpmmaaDoor.Nm.rowK]
  rw [num7_eq (h x (by simp)), row7_eq fun y hy => h y (by simp [hy])]
section
variable {nb lim : Nat} {r : Rho} {h h' : AH} {w : World}
theorem row_world (hr : HR nb r h w) {v v' : Value} {xs : List Int} (hv : rowOf h v = some xs) (hx : VR r v v') : ∃ B d, v' = .slice B xs.length d ∧ xs.length ≤ 1000 ∧ (∀ x ∈ xs, 0 ≤ x ∧ x ≤ 1000000) ∧
  ∀ j (hj : j < xs.length), ∃ g o, B = some ⟨g, o, none⟩ ∧ w.cell? ⟨g, o + j, none⟩ = some (.int .i64 xs[j]) := by
 obtain ⟨a, c, rfl, h1, h2, vs, h3, h4⟩ := rowOf_inv hv
 obtain ⟨B, d, rfl, h5, h6, h7⟩ := hx.slice_inv
 refine ⟨B, d, rfl, h1, h2, fun j hj => ?_⟩
 obtain ⟨h8, h9⟩ := intsOf_get h4
 cases a with
 | none =>
  simp only [aElems, Option.some.injEq] at h3
  subst h3
  simp at h8
  omega
 | some ad =>
  obtain ⟨b, o, m⟩ := ad
  obtain ⟨h10, i, y, rfl, h11, h12, h13⟩ := h7 b o m rfl
  obtain ⟨h14, h15⟩ := h13 (by omega)
  obtain ⟨yb, yo, ys⟩ := y
  simp only at h12 h14 h15
  subst h12; subst h14; subst h15
  simp only [aElems] at h3
  rw [if_pos h10, if_neg (by omega)] at h3
  obtain ⟨cs, h16, h17⟩ := Option.bind_eq_some_iff.1 h3
  split at h17
  case isFalse => cases h17
  injection h17 with h17
  have h18 := h9 j hj
  rw [← h17, List.getElem?_take_of_lt (by omega), List.getElem?_drop] at h18
  obtain ⟨u, hu, hk⟩ := hr.cells h11 (cellsOf_iff.1 h16) (o + j) _ h18
  obtain rfl := hk.int_inv
  exact ⟨i.blk, i.base + o, rfl, by rw [Nat.add_assoc]; exact hu⟩
theorem tab_of (hr : HR nb r h w) : Lib.TabIs Tryd.prog w "internal/strconv.uint64pow10" .u64 Lib.pow10Tab := by
 obtain ⟨⟨t, z, h1⟩, _⟩ := hr.glob _ (List.mem_singleton.2 rfl)
 unfold Lib.TabIs World.var?
 rw [show Tryd.prog.globalNamed "internal/strconv.uint64pow10" = some 0 by kernel_rfl]
 simp only [Option.bind_some]
 simp only at h1
 rw [h1]
 rfl
theorem keep_post (hr : HR nb r h w) {w' : World} (hb : Below w.heap.size w w') : Post nb lim r h w r h w' :=
 ⟨hr.keep (fun c hc => hb.block c hc) hb.size, Rho.Le.refl r, fun h => .inl h, Nat.le_refl _, hb.os, hb.tape, hb.output, hb.size, fun c hc _ => hb.block c hc⟩
theorem nameA_sound {args args' : List Value} {v : Value} (ha : nameA lim args h = some (v, h')) (hr : HR nb r h w) (hv : VL r args args') :
  Enters Tryd.prog 38 ∧ Calls Tryd.prog 38 args'.toArray w (fun e w' => ∃ r' v', e = .returned v' ∧ Post nb lim r h w r' h' w' ∧ VR r' v v') := by
 obtain ⟨n0, n1, n2, n3, sb, so, s0, s1, s2, s3, x0, x1, x2, x3, ds, rfl, p0, p1, p2, p3, hd, g0, g1, g2, g3, q0, q1, q2, q3, rfl, rfl⟩ := nameA_inv ha
 refine ⟨enters_of Tryd.func38 (by kernel_rfl) rfl, ?_⟩
 obtain ⟨V0, l1, rfl, e0, hv1⟩ := hv.cons_inv
 obtain ⟨V1, l2, rfl, e1, hv2⟩ := hv1.cons_inv
 obtain rfl := hv2.nil_inv
 obtain ⟨cs, rfl, hc⟩ := e0.agg_inv
 obtain ⟨i, hi, rfl⟩ := e1.ptr_inv
 have hcs : cs = #[.int .i64 n0, .int .i64 n1, .int .i64 n2, .int .i64 n3] := by
  obtain ⟨y0, m1, hm, k0, hc1⟩ := hc.cons_inv
  obtain ⟨y1, m2, rfl, k1, hc2⟩ := hc1.cons_inv
  obtain ⟨y2, m3, rfl, k2, hc3⟩ := hc2.cons_inv
  obtain ⟨y3, m4, rfl, k3, hc4⟩ := hc3.cons_inv
  obtain rfl := hc4.nil_inv
  obtain rfl := k0.int_inv
  obtain rfl := k1.int_inv
  obtain rfl := k2.int_inv
  obtain rfl := k3.int_inv
  rw [← Array.toArray_toList (xs := cs), hm]
 subst hcs
 obtain ⟨u0, hu0, k0⟩ := hr.cells hi hd so _ g0
 obtain ⟨u1, hu1, k1⟩ := hr.cells hi hd (so + 1) _ g1
 obtain ⟨u2, hu2, k2⟩ := hr.cells hi hd (so + 2) _ g2
 obtain ⟨u3, hu3, k3⟩ := hr.cells hi hd (so + 3) _ g3
 obtain ⟨B0, d0, rfl, t0, o0, c0⟩ := row_world hr q0 k0
 obtain ⟨B1, d1, rfl, t1, o1, c1⟩ := row_world hr q1 k1
 obtain ⟨B2, d2, rfl, t2, o2, c2⟩ := row_world hr q2 k2
 obtain ⟨B3, d3, rfl, t3, o3, c3⟩ := row_world hr q3 k3
 have four : ∀ {p : Nat → Prop}, p 0 → p 1 → p 2 → p 3 → ∀ i, i < 4 → p i := fun {p} a0 a1 a2 a3 i hi => by
  obtain h | h | h | h : i = 0 ∨ i = 1 ∨ i = 2 ∨ i = 3 := by omega
  ·subst h; exact a0
  ·subst h; exact a1
  ·subst h; exact a2
  ·subst h; exact a3
 refine (Go.Proofs.YtalknjppnkpmmaaDoor.Nm.name_walk n0 n1 n2 n3 i.blk (i.base + so) (fun k => match k with | 0 => B0 | 1 => B1 | 2 => B2 | _ => B3) (fun k => match k with | 0 => d0 | 1 => d1 | 2 => d2 | _ => d3) (fun k => match k with | 0 => x0 | 1 => x1 | 2 => x2 | _ => x3) w ?_ ?_ ?_ ?_ ?_ (tab_of hr)).mono fun e w' ⟨he, hb⟩ => ?_
 ·exact four hu0 (by rw [Nat.add_assoc]; exact hu1) (by rw [Nat.add_assoc]; exact hu2) (by rw [Nat.add_assoc]; exact hu3)
 ·exact four c0 c1 c2 c3
 ·intro n hn
  simp only [List.mem_cons, List.mem_nil_iff, or_false] at hn
  rcases hn with rfl | rfl | rfl | rfl <;> assumption
 ·exact four o0 o1 o2 o3
 ·exact four t0 t1 t2 t3
 ·refine ⟨r, _, he, keep_post hr hb, ?_⟩
  have hk : key7 n0 x0 n1 x1 n2 x2 n3 x3 = Lib.itoa n0 ++ 58 :: Go.Proofs.YtalknjppnkpmmaaDoor.Nm.rowK x0 ++ (Lib.itoa n1 ++ 58 :: Go.Proofs.YtalknjppnkpmmaaDoor.Nm.rowK x1) ++ (Lib.itoa n2 ++ 58 :: Go.Proofs.YtalknjppnkpmmaaDoor.Nm.rowK x2) ++ (Lib.itoa n3 ++ 58 :: Go.Proofs.YtalknjppnkpmmaaDoor.Nm.rowK x3) := by
   unfold key7
   rw [num7_eq p0, num7_eq p1, num7_eq p2, num7_eq p3, row7_eq o0, row7_eq o1, row7_eq o2, row7_eq o3]
  rw [hk]
  exact VR.string _
end
def nameX : Ext := fun f => if f = 38 then some nameA else none
theorem nameA_pre {lim : Nat} {args : List Value} {h h' : AH} {v : Value} (ha : nameA lim args h = some (v, h')) : Pre lim h h' := by
 obtain ⟨n0, n1, n2, n3, sb, so, s0, s1, s2, s3, x0, x1, x2, x3, ds, rfl, p0, p1, p2, p3, hd, g0, g1, g2, g3, q0, q1, q2, q3, rfl, rfl⟩ := nameA_inv ha
 exact Pre.refl _ _
theorem nameX_ok {nb : Nat} : XOk Tryd.prog nb nameX := by
 refine ⟨fun f g hg lim args h v h' hl ha => ?_, fun f g hg lim args h v h' r w args' hnb hlim ha hh hf hv => ?_⟩
 ·unfold nameX at hg
  split at hg
  ·injection hg with hg; subst hg; exact nameA_pre ha
  ·cases hg
 ·unfold nameX at hg
  split at hg
  ·rename_i hf38; subst hf38; injection hg with hg; subst hg; exact nameA_sound ha hh hv
  ·cases hg
def orX (X Y : Ext) : Ext := fun f => match X f with | some g => some g | none => Y f
theorem orX_ok {P : Program} {nb : Nat} {X Y : Ext} (hX : XOk P nb X) (hY : XOk P nb Y) : XOk P nb (orX X Y) := by
 have inv : ∀ f g, orX X Y f = some g → X f = some g ∨ Y f = some g := fun f g hg => by
  unfold orX at hg
  split at hg
  ·rename_i g' hx; injection hg with hg; subst hg; exact .inl hx
  ·exact .inr hg
 refine ⟨fun f g hg lim args h v h' hl ha => ?_, fun f g hg lim args h v h' r w args' hnb hlim ha hh hf hv => ?_⟩
 ·rcases inv f g hg with hg | hg
  ·exact hX.pre f g hg lim args h v h' hl ha
  ·exact hY.pre f g hg lim args h v h' hl ha
 ·rcases inv f g hg with hg | hg
  ·exact hX.sound f g hg lim args h v h' r w args' hnb hlim ha hh hf hv
  ·exact hY.sound f g hg lim args h v h' r w args' hnb hlim ha hh hf hv
end Go.Proofs.YtalknjppnkpmmaaDoorW.Ai
set_option linter.unusedVariables false
set_option linter.unusedSimpArgs false
