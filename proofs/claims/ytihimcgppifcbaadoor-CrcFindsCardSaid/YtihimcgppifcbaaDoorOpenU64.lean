/- An unsigned word of 64 bits, read off what the caller handed. -/
import Derived.Test.YtihimcgppifcbaaDoorCrcRow
namespace Go.Proofs.YtihimcgppifcbaaDoor
open Go.RowKit Go.WideShapes Go.ChangeShapes Go.ChangeAt
theorem open_u64 {H : Type} {enc : TypeId × Value → H} {P : Program} {w : World} {base b0 : Nat} {spare : Nat → Bool} {held : Bool} {t : TypeId} {v : Value} {d : DataW H} {p : List MemPlace} (ht : P.underlying t = some (.int .u64))
    (hv : Value.okWide P w .any b0 t v) (h : DataW.Trod enc P w base spare held t v d p) : ∃ n : Nat, v = .int .u64 n ∧ n < 18446744073709551616 := by
  obtain ⟨n, hv, _, _, hw⟩ := open_int ht hv h
  have hb : 0 ≤ n ∧ n < 18446744073709551616 := by
    simp [Lit.wf, IntKind.min, IntKind.max, IntKind.signed, IntKind.bits] at hw
    omega
  exact ⟨n.toNat, by rw [hv, Int.toNat_of_nonneg hb.1], by omega⟩
end Go.Proofs.YtihimcgppifcbaaDoor
