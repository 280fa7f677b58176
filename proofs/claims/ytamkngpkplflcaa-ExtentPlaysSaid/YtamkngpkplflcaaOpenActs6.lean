/- law 06's acts as an argument. -/
import Derived.Test.YtamkngpkplflcaaOpenActs
namespace Go.Proofs.Ytamkngpkplflcaa
open Go.RowKit Go.WideShapes Go.ChangeShapes Go.ChangeAt Go.Deep
set_option maxRecDepth 100000 in
theorem open_dacts6 {H : Type} {enc : TypeId × Value → H} {w : World} {base b0 : Nat} {spare : Nat → Bool} {held : Bool} {v : Value} {d : DataW H} {p : List MemPlace}
    (hv : Value.okWide Try.prog w .any b0 61 v) (h : DataW.Trod enc Try.prog w base spare held 61 v d p) :
    ∃ (A : Option Addr) (b off n c : Nat) (G : Nat → DAct), v = .slice A n c ∧ n ≤ 9223372036854775807 ∧ (0 < n → A = some ⟨b, off, none⟩) ∧ DActs w w.heap.size b off n G := by
  obtain ⟨fuel, h⟩ := h
  rw [cells_slice Try.underlying61 hv] at h
  exact open_dacts5 Try.underlying61 Try.underlying66 (by kernel_rfl) (by kernel_rfl) Try.underlying3 Try.underlying3 Try.underlying3 Try.underlying5 Try.underlying48 Try.underlying4 (by kernel_rfl) h
end Go.Proofs.Ytamkngpkplflcaa
