/- A table, read off what the caller handed. -/
import Derived.Test.YtkcjjogekkldkaaDoorOpenBytes
import Derived.Test.YtkcjjogekkldkaaDoorTabWalk
namespace Go.Proofs.YtkcjjogekkldkaaDoor
open Go.RowKit Go.WideShapes Go.ChangeShapes Go.ChangeAt Go.Deep

theorem open_rows3 {H : Type} {enc : TypeId × Value → H} {P : Program} {w : World} {base : Nat} {spare : Nat → Bool} {held : Bool} {t e : TypeId} {f0 f1 f2 : Field} {v : Value} {fuel : Nat} {x : DataW H × List MemPlace} (ht : P.underlying t = some (.slice e)) (he : P.underlying e = some (.struct #[f0, f1, f2]))
    (hone : oneCellFields P #[f0, f1, f2] = true) (hC : P.cellsOf e = 3) (h0 : P.underlying f0.type = some (.int .i64)) (h1 : P.underlying f1.type = some (.int .i64)) (h2 : P.underlying f2.type = some (.int .i64))
    (h : DataW.trod enc P w base spare held fuel t [v] = some x) (T : Int) (hT : I64 T) :
    ∃ (A : Option Addr) (c : Nat) (t : Tab), v = .slice A t.n c ∧ t.T = T ∧ TabV w A c t := by
  obtain ⟨A, n, c, rfl, hn, hc, hx⟩ := trod_rows ht he hone hC (by simp) h
  by_cases hpos : 0 < n
  · obtain ⟨b, off, rfl, hlt, hcells⟩ := hx hpos
    have k : ∀ i, ∃ p f q : Int, i < n → (w.cell? ⟨b, off + i*3, none⟩ = some (.int .i64 p) ∧ I64 p) ∧ (w.cell? ⟨b, off + i*3 + 1, none⟩ = some (.int .i64 f) ∧ I64 f) ∧ (w.cell? ⟨b, off + i*3 + 2, none⟩ = some (.int .i64 q) ∧ I64 q) := by
      intro i
      by_cases hi : i < n
      · obtain ⟨u0, _, _, hu0, hy0⟩ := hcells i hi 0 f0 rfl
        obtain ⟨p, rfl, hp⟩ := trod_i64 h0 hy0
        obtain ⟨u1, _, _, hu1, hy1⟩ := hcells i hi 1 f1 rfl
        obtain ⟨f, rfl, hf⟩ := trod_i64 h1 hy1
        obtain ⟨u2, _, _, hu2, hy2⟩ := hcells i hi 2 f2 rfl
        obtain ⟨q, rfl, hq⟩ := trod_i64 h2 hy2
        exact ⟨p, f, q, fun _ => ⟨⟨hu0, hp⟩, ⟨hu1, hf⟩, ⟨hu2, hq⟩⟩⟩
      · exact ⟨0, 0, 0, fun h => absurd h hi⟩
    refine ⟨some ⟨b, off, none⟩, c, ⟨T, n, fun i => Classical.choose (k i), fun i => Classical.choose (Classical.choose_spec (k i)), fun i => Classical.choose (Classical.choose_spec (Classical.choose_spec (k i)))⟩, rfl, rfl, ⟨fun _ => ⟨b, off, rfl, hlt, ?_, ?_, ?_⟩, hn, by unfold maxLen at hc; exact hc, hT, ?_, ?_, ?_⟩⟩
    all_goals intro i hi; have := Classical.choose_spec (Classical.choose_spec (Classical.choose_spec (k i))) hi
    · exact this.1.1
    · exact this.2.1.1
    · exact this.2.2.1
    · exact this.1.2
    · exact this.2.1.2
    · exact this.2.2.2
  · have hn0 : n = 0 := by omega
    subst hn0
    exact ⟨A, c, ⟨T, 0, fun _ => 0, fun _ => 0, fun _ => 0⟩, rfl, rfl, ⟨fun h => absurd h (Nat.lt_irrefl _), hn, by unfold maxLen at hc; exact hc, hT, fun i hi => absurd hi (Nat.not_lt_zero _), fun i hi => absurd hi (Nat.not_lt_zero _), fun i hi => absurd hi (Nat.not_lt_zero _)⟩⟩

set_option maxRecDepth 100000 in
theorem open_tab {H : Type} {enc : TypeId × Value → H} {w : World} {base b0 : Nat} {spare : Nat → Bool} {held : Bool} {v : Value} {d : DataW H} {p : List MemPlace}
    (hv : Value.okWide Tryd.prog w .any b0 24 v) (h : DataW.Trod enc Tryd.prog w base spare held 24 v d p) :
    ∃ (A : Option Addr) (c : Nat) (t : Tab), v = .agg #[.int .i64 t.T, .slice A t.n c] ∧ TabV w A c t := by
  obtain ⟨cs, rfl, hsz⟩ := okWide_struct Tryd.underlying24 hv
  obtain ⟨l⟩ := cs
  have hC : Tryd.prog.cellsOf 24 = 2 := by kernel_rfl
  have hC1 : Tryd.prog.cellsOf 3 = 1 := by kernel_rfl
  have hC2 : Tryd.prog.cellsOf 22 = 1 := by kernel_rfl
  obtain ⟨fuel, hf⟩ := h
  obtain ⟨xs, n, _, _, _, hlen, hg⟩ := DataW.trod_struct Tryd.underlying24 hf
  obtain ⟨c0, c1, rfl⟩ : ∃ c0 c1, l = [c0, c1] := by
    have hsz' : l.length = 2 := hsz.trans hC
    match l, hsz' with
    | [c0, c1], _ => exact ⟨c0, c1, rfl⟩
  obtain ⟨y0, y1, rfl⟩ : ∃ y0 y1, xs = [y0, y1] := by
    match xs, hlen with
    | [y0, y1], _ => exact ⟨y0, y1, rfl⟩
  have g0 := part hg 0 3 0 1 rfl hC1
  have g1 := part hg 1 22 1 1 rfl hC2
  obtain ⟨T, rfl, iT⟩ := trod_i64 (v := c0) Tryd.underlying3 (by simpa [Value.cells] using g0)
  obtain ⟨A, c, t, rfl, rfl, hV⟩ := open_rows3 (v := c1) Tryd.underlying22 Tryd.underlying39 (by kernel_rfl) (by kernel_rfl) Tryd.underlying3 Tryd.underlying3 Tryd.underlying3 (by simpa [Value.cells] using g1) T iT
  exact ⟨A, c, t, rfl, hV⟩
end Go.Proofs.YtkcjjogekkldkaaDoor
