/-
  The small machine and Go's: append. Of no program.
-/
import Derived.Test.YtmikcpgkppkmiaaAi11
set_option linter.unusedVariables false
set_option linter.unusedSimpArgs false
namespace Go.Proofs.YtmikcpgkppkmiaaW.Ai
variable {P : Program} {nb lim : Nat} {r : Rho} {h h' : AH} {w : World} {e : Env} {a : Act} {v : Value} {o : Oper}

theorem growBy_le (n : Nat) : ∀ (k c : Nat), c ≤ n + n / 4 + 192 → Builtin.growBy n k c ≤ n + n / 4 + 192
  | 0, c, h => h
  | k + 1, c, h => by
    unfold Builtin.growBy
    split
    · exact h
    · exact growBy_le n k _ (by omega)
theorem nextslicecap_le {n d : Nat} (h : d < n) : Builtin.nextslicecap n d ≤ n + n / 4 + 768 := by
  unfold Builtin.nextslicecap
  split
  · omega
  · split
    · omega
    · have := growBy_le n 4 d (by omega)
      omega

/-- What is appended: n elements, their cells. -/
structure App (P : Program) (w : World) (T : Array TypeId) (x' : Value) (el : TypeId) (size bytes n : Nat) (vs : List Value) : Prop where
  t0 : ∃ t, T[0]? = some t ∧ P.underlying t = some (.slice el)
  sizeOf : Rs.size P el = some size
  bytesOf : Rs.bytes P el = some bytes
  zero : ∃ z, Rs.zero P el = some z
  tail : (∃ u d, T[1]? = some u ∧ P.underlying u = some d ∧ (d = .string ∨ ∃ q, d = .slice q) ∧ (Builtin.lenOf x').run P w = .ok n w ∧ ∀ w', w'.heap = w.heap → (Builtin.firstCells size n x').run P w' = .ok vs.toArray w') ∨
    (∃ u k z, T[1]? = some u ∧ P.underlying u = some (.int k) ∧ x' = .int .i64 n ∧ (n : Int) < 2 ^ 62 ∧ n * bytes ≤ 2 ^ 48 ∧ Rs.zero P el = some z ∧ vs = reps z n)

theorem append_in {T : Array TypeId} {ty : TypeId} {B : Option Addr} {len d n size bytes : Nat} {x' : Value} {el : TypeId} {vs : List Value} (A : App P w T x' el size bytes n vs) (hn : len + n ≤ d) :
    (Builtin.append_ T ty #[.slice B len d, x']).run P w = ((match B with | some b => storeCells (b.add (len * size)) vs | none => pure () : Sem Unit).run P w).andThen fun _ w' => .ok (.slice B (len + n) d) w' := by
  obtain ⟨t, ht, hu⟩ := A.t0
  obtain ⟨bi, b1, b2⟩ := run_bytes (w := w) A.bytesOf
  obtain ⟨z, hz⟩ := A.zero
  obtain ⟨zv, z1, z2, z3, z4⟩ := run_zero (w := w) hz
  rcases A.tail with ⟨u, du, hu1, hu2, hu3, hl, hf⟩ | ⟨u, k, z', hu1, hu2, rfl, h62, hb, hz', rfl⟩
  · have hf' := hf w rfl
    rcases hu3 with rfl | ⟨q, rfl⟩ <;> (cases B <;> simp [Builtin.append_, ht, hu1, run_underlying hu, run_underlying hu2, run_size A.sizeOf, hl, hn, hf'])
  · rw [hz] at hz'
    injection hz' with hz'
    subst hz'
    have hw : IntKind.i64.wrap (n : Int) = n := by rw [IntKind.wrap_i64]; omega
    have hbb : ¬ ((n : Int) * (bytes : Int) > 2 ^ 48) := by have : ((n * bytes : Nat) : Int) ≤ 2 ^ 48 := by exact_mod_cast hb
                                                            rw [Int.natCast_mul] at this; omega
    have hbb' : ¬ (281474976710656 < (n : Int) * (bytes : Int)) := by omega
    have hsz : Rs.size P el = some z.length := z3
    have hsize : size = z.length := by rw [A.sizeOf] at hsz; injection hsz
    have hn0 : ¬ ((n : Int) < 0) := by omega
    by_cases h0 : n * size = 0
    · have hr0 : reps z n = [] := List.eq_nil_of_length_eq_zero (by rw [reps_length, ← hsize]; exact h0)
      cases B <;> simp [Builtin.append_, ht, hu1, run_underlying hu, run_underlying hu2, run_size A.sizeOf, asInt, asIntOf, hw, hn0, b1, b2, hbb', hn, h0, hr0, storeCells]
    · have hzc : (Builtin.zeroCells zv.cells n).toList = reps z n := by
        unfold Builtin.zeroCells
        rw [← z2]
        refine reps_array zv.cells ?_ n
        have : zv.cells.size = z.length := by rw [← z2]; simp
        rw [this, ← hsize]
        exact Nat.pos_of_ne_zero fun h => h0 (by rw [h, Nat.mul_zero])
      cases B <;> simp [Builtin.append_, ht, hu1, run_underlying hu, run_underlying hu2, run_size A.sizeOf, asInt, asIntOf, hw, hn0, b1, b2, hbb', hn, h0, z1, hzc]


theorem append_new {T : Array TypeId} {ty : TypeId} {B : Option Addr} {len d n size bytes : Nat} {x' : Value} {el : TypeId} {vs old : List Value} (A : App P w T x' el size bytes n vs) (hn : ¬ len + n ≤ d) (hlim : (len + n + (len + n) / 4 + 768) * bytes ≤ 2 ^ 48) (h62 : len + n < 2 ^ 62) (hb0 : 0 < bytes)
    (hold : ∀ w' : World, w'.heap = w.heap → (Builtin.firstCells size len (.slice B len d)).run P w' = .ok old.toArray w') :
    ∃ (cap : Nat) (rest : Array Value), len + n ≤ cap ∧ rest.size = (cap - (len + n)) * size ∧
      (Builtin.append_ T ty #[.slice B len d, x']).run P w = .ok (.slice (some ⟨w.heap.size, 0, none⟩) (len + n) cap) (w.drew.alloc (.cells (old.toArray ++ (vs.toArray ++ rest)) el)) := by
  obtain ⟨t, ht, hu⟩ := A.t0
  obtain ⟨bi, b1, b2⟩ := run_bytes (w := w) A.bytesOf
  obtain ⟨bi', b1', b2'⟩ := run_bytes (w := w.drew) A.bytesOf
  obtain ⟨z, hz⟩ := A.zero
  obtain ⟨zv, z1, z2, z3, z4⟩ := run_zero (w := w) hz
  obtain ⟨zv', z1', z2', _, _⟩ := run_zero (w := w.drew) hz
  have hsize : size = z.length := by have := A.sizeOf; rw [z3] at this; injection this with this; exact this.symm
  have hzs' : zv'.cells.size = size := by rw [hsize, ← z2']; simp
  have hbig : ¬ (Builtin.nextslicecap (len + n) d * bytes > 2 ^ 48) := by
    have := nextslicecap_le (n := len + n) (d := d) (by omega)
    have := Nat.mul_le_mul_right bytes this
    omega
  have hbig' : ¬ (281474976710656 < Builtin.nextslicecap (len + n) d * bytes) := by omega
  have hmax : ¬ (((len + n : Nat) : Int) > IntKind.i64.max) := by
    have : IntKind.i64.max = 9223372036854775807 := by decide
    omega
  have hmax' : ¬ (IntKind.i64.max < (len : Int) + (n : Int)) := by
    have : IntKind.i64.max = 9223372036854775807 := by decide
    omega
  have hm3 : ¬ (9223372036854775807 < (len : Int) + (n : Int)) := by omega
  have hforced : (Question.appendCap (len + n) d el).forced = false := rfl
  let cap := (Question.appendCap (len + n) d el).cut (w.tape w.drawn (.appendCap (len + n) d el))
  have hcap : len + n ≤ cap := by show len + n ≤ len + n + _ % _; omega
  have hq := hold w.drew rfl
  have hzc : ∀ m, (Builtin.zeroCells zv'.cells m).size = m * size := fun m => by simp [Builtin.zeroCells, hzs']
  refine ⟨cap, Builtin.zeroCells zv'.cells (cap - (len + n)), hcap, hzc _, ?_⟩
  rcases A.tail with ⟨u, du, hu1, hu2, hu3, hl, hf⟩ | ⟨u, k, z', hu1, hu2, rfl, h62', hb, hz', rfl⟩
  · have hf' := hf w.drew rfl
    rcases hu3 with rfl | ⟨q, rfl⟩ <;> (simp [Builtin.append_, ht, hu1, run_underlying hu, run_underlying hu2, run_size A.sizeOf, hl, hn, b1, b2, hbig', hforced, b1', b2', hq, hf', z1', newRow, cap, Nat.ne_of_gt hb0, hmax', hm3])
  · rw [hz] at hz'
    injection hz' with hz'
    subst hz'
    have hw : IntKind.i64.wrap (n : Int) = n := by rw [IntKind.wrap_i64]; omega
    have hbb' : ¬ (281474976710656 < (n : Int) * (bytes : Int)) := by
      have : ((n * bytes : Nat) : Int) ≤ 2 ^ 48 := by exact_mod_cast hb
      rw [Int.natCast_mul] at this
      omega
    have hn0 : ¬ ((n : Int) < 0) := by omega
    by_cases h0 : n * size = 0
    · have hr0 : reps z n = [] := List.eq_nil_of_length_eq_zero (by rw [reps_length, ← hsize]; exact h0)
      simp [Builtin.append_, ht, hu1, run_underlying hu, run_underlying hu2, run_size A.sizeOf, asInt, asIntOf, hw, hn0, b1, b2, hbb', hn, h0, hr0, hbig', hforced, b1', b2', hq, z1', newRow, cap, Nat.ne_of_gt hb0, hmax', hm3]
    · have hzc' : Builtin.zeroCells zv'.cells n = (reps z n).toArray := by
        apply Array.ext'
        unfold Builtin.zeroCells
        rw [← z2']
        have := reps_array zv'.cells (by rw [hzs']; exact Nat.pos_of_ne_zero fun h => h0 (by rw [h, Nat.mul_zero])) n
        simpa using this
      simp [Builtin.append_, ht, hu1, run_underlying hu, run_underlying hu2, run_size A.sizeOf, asInt, asIntOf, hw, hn0, b1, b2, hbb', hn, h0, hbig', hforced, b1', b2', hq, z1', hzc', newRow, cap, Nat.ne_of_gt hb0, hmax', hm3]

end Go.Proofs.YtmikcpgkppkmiaaW.Ai
