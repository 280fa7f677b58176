/- What a call touches: blocks that F names, and new ones. Cells, ranges, frames. -/
import Derived.Test.YtmgcbiejnifhpaaBytes
import Derived.Deep.MidRow
namespace Go.Proofs.Ytmgcbiejnifhpaa
open Go.RowKit

/-- of the blocks that were there only those that F names may have changed; nothing else has -/
def Touch (F : Nat → Prop) (w w' : World) : Prop := Below 0 w w' ∧ Later F w w'
theorem Touch.refl (F : Nat → Prop) (w : World) : Touch F w w := ⟨Below.refl _ _, later_refl F w⟩
theorem Touch.trans {F : Nat → Prop} {a b c : World} (h : Touch F a b) (k : Touch F b c) : Touch F a c := ⟨h.1.trans k.1, later_trans F _ _ _ h.2 k.2⟩
theorem Touch.mono {F G : Nat → Prop} {a b : World} (h : Touch F a b) (hG : ∀ k, k < a.heap.size → F k → G k) : Touch G a b := ⟨h.1, h.2.1, fun k hk hg => h.2.2 k hk fun hf => hg (hG k hk hf)⟩
theorem Touch.size {F : Nat → Prop} {a b : World} (h : Touch F a b) : a.heap.size ≤ b.heap.size := h.2.1
theorem Touch.ofBelow {F : Nat → Prop} {a b : World} (h : Below a.heap.size a b) : Touch F a b := ⟨h.mono (Nat.zero_le _), h.size, fun k hk _ => h.block k hk⟩
theorem Touch.below {F : Nat → Prop} {a b : World} {B : Nat} (h : Touch F a b) (hB : B ≤ a.heap.size) (hF : ∀ k, k < B → ¬ F k) : Below B a b :=
  ⟨h.1.os, h.1.tape, h.1.output, h.1.size, fun k hk => h.2.2 k (Nat.lt_of_lt_of_le hk hB) (hF k hk)⟩
theorem Touch.setCell {F : Nat → Prop} {a b : World} (h : Touch F a b) {p : Addr} (hp : F p.block) (u : Value) : Touch F a (b.setCell p u) := h.trans ⟨(Below.refl _ _).setCell (Nat.zero_le _) u, later_setCell _ u hp⟩
theorem Touch.alloc {F : Nat → Prop} {a b : World} (h : Touch F a b) (o : Obj) : Touch F a (b.alloc o) := h.trans ⟨(Below.refl _ _).alloc (Nat.zero_le _) o, later_alloc _ o⟩
theorem Touch.drew {F : Nat → Prop} {a b : World} (h : Touch F a b) : Touch F a b.drew := ⟨h.1.drew, h.2⟩
theorem Touch.q {F : Nat → Prop} {a b c : World} (h : Touch F a b) (hq : Q b c) : Touch F a c := h.trans ⟨hq.below 0, by rw [hq.size]; exact Nat.le_refl _, fun k hk _ => (hq.below (k + 1)).block k (by omega)⟩
theorem Touch.setCells {F : Nat → Prop} {g : Nat} (hg : F g) : ∀ (vs : List Value) (o : Nat) {a b : World}, Touch F a b → Touch F a (b.setCells g o vs)
  | [], _, _, _, h => h
  | v :: r, o, _, _, h => Touch.setCells hg r (o + 1) (h.setCell (p := ⟨g, o, none⟩) hg v)

/-- a cell of a block that was there and isn't named -/
theorem Later.cell {F : Nat → Prop} {a b : World} (h : Later F a b) {g o : Nat} (hg : g < a.heap.size) (hf : ¬ F g) : b.cell? ⟨g, o, none⟩ = a.cell? ⟨g, o, none⟩ ∧ b.frozen? ⟨g, o, none⟩ = a.frozen? ⟨g, o, none⟩ := by
  have := h.2 g hg hf
  constructor
  · simp only [World.cell?, this]
  · simp only [World.frozen?, this]

end Go.Proofs.Ytmgcbiejnifhpaa
