/-
  The small machine: slices of records. Of no program.
-/
import Derived.Test.YtmikcpgkppkmiaaAi25
set_option linter.unusedVariables false
set_option linter.unusedSimpArgs false
namespace Go.Proofs.YtmikcpgkppkmiaaW.Ai

/-- Records, one behind the other. -/
def recs {α : Type} (enc : α → List Value) (ss : List α) : List Value := ss.flatMap enc
section
variable {α : Type} {enc : α → List Value} {sz : Nat}
theorem recs_len (he : ∀ s, (enc s).length = sz) : ∀ ss : List α, (recs enc ss).length = ss.length * sz
  | [] => by simp [recs]
  | s :: ss => by
    have := recs_len he ss
    unfold recs at *
    rw [List.flatMap_cons, List.length_append, this, he, List.length_cons, Nat.succ_mul, Nat.add_comm]
theorem recs_drop (he : ∀ s, (enc s).length = sz) : ∀ (ss : List α) (j : Nat), (recs enc ss).drop (j * sz) = recs enc (ss.drop j)
  | ss, 0 => by simp
  | [], j + 1 => by simp [recs]
  | s :: ss, j + 1 => by
    have := recs_drop he ss j
    unfold recs at *
    rw [List.flatMap_cons, List.drop_succ_cons, ← this, Nat.succ_mul, Nat.add_comm, ← List.drop_drop, List.drop_left' (he s)]
theorem recs_elem (he : ∀ s, (enc s).length = sz) {ss : List α} {j : Nat} (hj : j < ss.length) : ((recs enc ss).drop (j * sz)).take sz = enc ss[j] := by
  rw [recs_drop he, List.drop_eq_getElem_cons hj]
  unfold recs
  rw [List.flatMap_cons, List.take_left' (he _)]
theorem recs_get (he : ∀ s, (enc s).length = sz) {ss : List α} {j f : Nat} (hj : j < ss.length) (hf : f < sz) : (recs enc ss)[j * sz + f]? = (enc ss[j])[f]? := by
  rw [← recs_elem he hj, List.getElem?_take, if_pos hf, List.getElem?_drop]
end
section
variable {X : Ext} {F : FuncId → Option RFunc} {lim : Nat} {L : Al} {h : AH} {K : Value → AH → Prop}
variable {α : Type} {enc : α → List Value} {sz : Nat}
theorem Sl.rlen {a : Option Addr} {n c : Nat} {ss : List α} (hs : Sl sz h a n c (recs enc ss)) (he : ∀ s, (enc s).length = sz) (hz : 0 < sz) : ss.length = n := by
  have := hs.2.2.1
  rw [recs_len he] at this
  exact Nat.eq_of_mul_eq_mul_right hz this
/-- A whole record read. -/
theorem OP.ldR {x : Operand} {a : Option Addr} {n c j : Nat} {ss : List α} (he : ∀ s, (enc s).length = sz) (hz : 0 < sz) (hs : Sl sz h a n c (recs enc ss)) (hx : lev L x = some (eptr sz a j)) (hj : j < ss.length) (hk : K (.agg (enc ss[j]).toArray) h) : OP X F lim (.load (some sz) x) L h K :=
  .loadV hx (by rw [hs.loadN hz (by rw [← hs.rlen he hz]; exact hj), recs_elem he hj]) hk
/-- A field's address in a record of a slice. -/
def fptr (sz : Nat) (a : Option Addr) (j f : Nat) : Value :=
  match a with
  | some x => .pointer (some ⟨x.block, x.off + j * sz + f, none⟩)
  | none => .pointer none
theorem OP.fieldE {x : Operand} {a : Option Addr} {n c j off : Nat} {cs : List Value} (hs : Sl sz h a n c cs) (hx : lev L x = some (eptr sz a j)) (hj : j < n) (hk : K (fptr sz a j off) h) : OP X F lim (.fieldAddr off x) L h K := by
  obtain ⟨b, o, m, rfl⟩ := hs.none_iff (by omega)
  exact .fieldAddr hx hk
theorem OP.ldF {x : Operand} {a : Option Addr} {n c j f : Nat} {ss : List α} {v : Value} (he : ∀ s, (enc s).length = sz) (hs : Sl sz h a n c (recs enc ss)) (hx : lev L x = some (fptr sz a j f)) (hj : j < ss.length) (hf : f < sz) (hv : (enc ss[j])[f]? = some v) (hk : K v h) : OP X F lim (.load none x) L h K := by
  have hn : ss.length = n := hs.rlen he (by omega)
  obtain ⟨b, o, m, rfl⟩ := hs.none_iff (by omega)
  exact .loadV hx (hs.loadF hf (by rw [recs_get he hj hf]; exact hv) rfl) hk
end

/-- An entry of a ring; an operation. -/
structure SlotR where
  c : Int
  r : Int
  a : Int
  t : Int
  b : Int
  deriving DecidableEq
def slotC (s : SlotR) : List Value := [.int .i64 s.c, .int .i64 s.r, .int .i64 s.a, .int .i64 s.t, .int .i64 s.b]
theorem slotC_len (s : SlotR) : (slotC s).length = 5 := rfl
structure OpR where
  c : Int
  r : Int
  a : Int
  deriving DecidableEq
def opC (s : OpR) : List Value := [.int .i64 s.c, .int .i64 s.r, .int .i64 s.a]
theorem opC_len (s : OpR) : (opC s).length = 3 := rfl
end Go.Proofs.YtmikcpgkppkmiaaW.Ai
