/- A slice of puts as an argument. -/
import Derived.Test.YtihimcgppifcbaaDoorOpenBytes
import Derived.Test.YtihimcgppifcbaaDoorOctetBack
namespace Go.Proofs.YtihimcgppifcbaaDoor
open Go.RowKit Go.WideShapes Go.ChangeShapes Go.ChangeAt Go.Deep

theorem trod_strV {H : Type} {enc : TypeId × Value → H} {P : Program} {w : World} {base : Nat} {spare : Nat → Bool} {held : Bool} {t : TypeId} {fuel : Nat} {v : Value} {x : DataW H × List MemPlace} (ht : P.underlying t = some .string) (h : DataW.trod enc P w base spare held fuel t [v] = some x) : ∃ l : List UInt8, v = .string ⟨l.toArray⟩ ∧ l.length ≤ 9223372036854775807 := by
  obtain ⟨s, hv, _, hs⟩ := DataW.trod_string ht h
  refine ⟨s.data.toList, by simpa using hv, ?_⟩
  unfold maxLen at hs
  simpa using hs

theorem open_puts4 {H : Type} {enc : TypeId × Value → H} {P : Program} {w : World} {base : Nat} {spare : Nat → Bool} {held : Bool} {t e : TypeId} {f0 f1 f2 f3 : Field} {v : Value} {fuel : Nat} {x : DataW H × List MemPlace} (ht : P.underlying t = some (.slice e)) (he : P.underlying e = some (.struct #[f0, f1, f2, f3]))
    (hone : oneCellFields P #[f0, f1, f2, f3] = true) (hC : P.cellsOf e = 4) (h0 : P.underlying f0.type = some (.int .u64)) (h1 : P.underlying f1.type = some (.int .i64)) (h2 : P.underlying f2.type = some .string) (h3 : P.underlying f3.type = some .bool)
    (h : DataW.trod enc P w base spare held fuel t [v] = some x) :
    ∃ (A : Option Addr) (b off n c : Nat) (F : Nat → PutD), v = .slice A n c ∧ n ≤ 9223372036854775807 ∧ (0 < n → A = some ⟨b, off, none⟩) ∧ PutsAt w b off n F ∧ ∀ i, i < n → (F i).Ok := by
  obtain ⟨A, n, c, rfl, hn, hc, hx⟩ := trod_rows ht he hone hC (by simp) h
  unfold maxLen at hc
  by_cases hpos : 0 < n
  · obtain ⟨b, off, rfl, hlt, hcells⟩ := hx hpos
    have k : ∀ i, ∃ p : PutD, i < n → p.Ok ∧ w.cell? ⟨b, off + i*4, none⟩ = some (.int .u64 p.n) ∧ w.cell? ⟨b, off + i*4 + 1, none⟩ = some (.int .i64 p.z) ∧ w.cell? ⟨b, off + i*4 + 2, none⟩ = some (.string ⟨p.s.toArray⟩) ∧ w.cell? ⟨b, off + i*4 + 3, none⟩ = some (.bool p.t) := by
      intro i
      by_cases hi : i < n
      · obtain ⟨u0, _, _, hu0, hy0⟩ := hcells i hi 0 f0 rfl
        obtain ⟨a, rfl, ha⟩ := trod_u64 h0 hy0
        obtain ⟨u1, _, _, hu1, hy1⟩ := hcells i hi 1 f1 rfl
        obtain ⟨z, rfl, hz⟩ := trod_i64 h1 hy1
        obtain ⟨u2, _, _, hu2, hy2⟩ := hcells i hi 2 f2 rfl
        obtain ⟨s, rfl, hs⟩ := trod_strV h2 hy2
        obtain ⟨u3, _, _, hu3, hy3⟩ := hcells i hi 3 f3 rfl
        obtain ⟨t, rfl⟩ := trod_boolV h3 hy3
        exact ⟨⟨a, z, s, t⟩, fun _ => ⟨⟨ha, hz, hs⟩, hu0, hu1, hu2, hu3⟩⟩
      · exact ⟨⟨0, 0, [], false⟩, fun h => absurd h hi⟩
    refine ⟨some ⟨b, off, none⟩, b, off, n, c, fun i => Classical.choose (k i), rfl, by omega, fun _ => rfl, ⟨fun _ => hlt, ?_, ?_, ?_, ?_⟩, ?_⟩
    all_goals intro i hi; have := Classical.choose_spec (k i) hi
    · exact this.2.1
    · exact this.2.2.1
    · exact this.2.2.2.1
    · exact this.2.2.2.2
    · exact this.1
  · exact ⟨A, 0, 0, n, c, fun _ => ⟨0, 0, [], false⟩, rfl, by omega, fun h => absurd h hpos, ⟨fun h => absurd h hpos, fun i hi => by omega, fun i hi => by omega, fun i hi => by omega, fun i hi => by omega⟩, fun i hi => by omega⟩

set_option maxRecDepth 100000 in
theorem open_puts {H : Type} {enc : TypeId × Value → H} {w : World} {base b0 : Nat} {spare : Nat → Bool} {held : Bool} {v : Value} {d : DataW H} {p : List MemPlace}
    (hv : Value.okWide Tryd.prog w .any b0 60 v) (h : DataW.Trod enc Tryd.prog w base spare held 60 v d p) :
    ∃ (A : Option Addr) (b off n c : Nat) (F : Nat → PutD), v = .slice A n c ∧ n ≤ 9223372036854775807 ∧ (0 < n → A = some ⟨b, off, none⟩) ∧ PutsAt w b off n F ∧ ∀ i, i < n → (F i).Ok := by
  obtain ⟨fuel, h⟩ := h
  rw [cells_slice Tryd.underlying60 hv] at h
  exact open_puts4 Tryd.underlying60 Tryd.underlying62 (by kernel_rfl) (by kernel_rfl) Tryd.underlying40 Tryd.underlying3 Tryd.underlying9 Tryd.underlying4 h
end Go.Proofs.YtihimcgppifcbaaDoor
