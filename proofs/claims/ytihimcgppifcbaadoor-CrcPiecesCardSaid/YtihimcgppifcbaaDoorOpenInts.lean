/- A slice of ints as an argument. -/
import Derived.Test.YtihimcgppifcbaaDoorOpen
namespace Go.Proofs.YtihimcgppifcbaaDoor
open Go.RowKit Go.WideShapes Go.ChangeShapes Go.ChangeAt

/-- a slice of ints -/
def IntsAt (w : World) (A : Option Addr) (n : Nat) (G : Nat → Int) : Prop :=
  (0 < n → ∃ b off, A = some ⟨b, off, none⟩ ∧ b < w.heap.size ∧ ∀ i, i < n → w.cell? ⟨b, off + i, none⟩ = some (.int .i64 (G i))) ∧ ∀ i, I64 (G i)


theorem cells_of_slice {P : Program} {w : World} {t e : TypeId} {v : Value} {b0 : Nat} (ht : P.underlying t = some (.slice e)) (hv : Value.okWide P w .any b0 t v) : v.cells.toList = [v] := by
  have : Cell.okWide P w .any b0 t v := by simpa [Value.okWide, ht] using hv
  cases v <;> first | rfl | (simp [Cell.okWide, Cell.ok, ht] at this)

theorem open_ints_at {H : Type} {enc : TypeId × Value → H} {P : Program} {w : World} {base b0 : Nat} {spare : Nat → Bool} {held : Bool} {t e : TypeId} {v : Value} {d : DataW H} {p : List MemPlace} (ht : P.underlying t = some (.slice e)) (he : P.underlying e = some (.int .i64)) (hc : P.cellsOf e = 1)
    (hv : Value.okWide P w .any b0 t v) (h : DataW.Trod enc P w base spare held t v d p) :
    ∃ A n c G, v = .slice A n c ∧ n ≤ c ∧ c ≤ 9223372036854775807 ∧ IntsAt w A n G := by
  obtain ⟨fuel, h⟩ := h
  rw [cells_of_slice ht hv] at h
  rcases open_ints ht he hc h with ⟨h0, hx⟩ | ⟨a, len, cap, zs, hv', _, hl, hm, hzl, hx, hcell, hwf⟩
  · obtain rfl : v = .slice none 0 0 := by simpa using h0
    exact ⟨none, 0, 0, fun _ => 0, rfl, Nat.le_refl _, by omega, fun h => absurd h (by omega), fun _ => (show I64 0 by unfold I64; omega)⟩
  · obtain rfl : v = .slice (some a) len cap := by simpa using hv'
    have hlz : len ≤ zs.length := by rw [hzl]; split <;> omega
    refine ⟨some a, len, cap, fun i => zs.getD i 0, rfl, hl, by unfold maxLen at hm; exact hm, fun hp => ?_, fun i => ?_⟩
    · have h0 := hcell 0 (by omega)
      have ha : a = ⟨a.block, a.off, none⟩ := addr_of_cell (by simpa [Addr.add] using h0)
      refine ⟨a.block, a.off, by rw [← ha], World.block_lt_of_cell? w a (by simpa [Addr.add] using h0), fun i hi => ?_⟩
      have h1 := hcell i (by omega)
      rw [ha, Addr.add_lit] at h1
      exact h1
    · have := range_i64 hwf i
      show I64 (zs.getD i 0)
      rw [List.getD_eq_getElem?_getD]
      exact this
end Go.Proofs.YtihimcgppifcbaaDoor
