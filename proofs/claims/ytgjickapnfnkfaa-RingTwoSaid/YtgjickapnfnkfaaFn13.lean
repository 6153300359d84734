/-
 Rings by the document; rings that are written over (chapter 10), as the small machine runs them.
-/
import Derived.Test.YtgjickapnfnkfaaFn12
set_option linter.unusedVariables false
set_option linter.unusedSimpArgs false
set_option maxHeartbeats 4000000
set_option maxRecDepth 100000
namespace Go.Proofs.YtgjickapnfnkfaaW.Ai
section
variable (X : Ext) (F : FuncId → Option RFunc) (g : FuncId)
abbrev S_SpoilRing : Prop := ∀ (lim : Nat) (h : AH) {r : RingR} {a : Option Addr} {n lo hi : Nat}, hi ≤ h.length → Sl 5 h a n n (recs slotC r.ss) → Within lo hi 5 a n → lim ≤ lo → n ≤ 4398046511104 → Ret X F lim g [ringV r a n] h fun v h' => h.length ≤ h'.length ∧ ∀ b, (b < lo ∨ hi ≤ b) → b < h.length → h'[b]? = h[b]?
end
theorem newN {X : Ext} {F : FuncId → Option RFunc} {g : FuncId} (c : S_NewRing X F g) : S_New X F g := fun lim h x hl => (c lim h hl).mono fun v h' hh => ⟨hh.1, hh.2.short slotC_len (by decide) (by unfold NewM; split <;> simp <;> omega)⟩
theorem freeN {X : Ext} {F : FuncId → Option RFunc} {g : FuncId} (c : S_FreeTo X F g) : S_FreeD X F g := fun lim h r a n x hl ha hn => (c lim h hl ha (by omega)).mono fun v h' hh => ⟨hh.1, hh.2.short slotC_len (by decide) (by have := ha.rlen slotC_len (by decide); unfold FreeM; split <;> simp; omega)⟩
structure SS where
 i : Nat
 h : AH
 ss : List SlotR
section
variable {X : Ext} {F : FuncId → Option RFunc} {f : FuncId}
end
end Go.Proofs.YtgjickapnfnkfaaW.Ai
