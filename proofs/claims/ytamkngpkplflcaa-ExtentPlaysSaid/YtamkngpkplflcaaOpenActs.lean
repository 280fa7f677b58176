/- law 05's acts as an argument. -/
import Derived.Test.YtamkngpkplflcaaOpenBytes
import Derived.Test.YtamkngpkplflcaaDiskActs
namespace Go.Proofs.Ytamkngpkplflcaa
open Go.RowKit Go.WideShapes Go.ChangeShapes Go.ChangeAt Go.Deep

/-- a cell that reads as a slice of bools -/
theorem trod_bools {H : Type} {enc : TypeId × Value → H} {P : Program} {w : World} {base : Nat} {spare : Nat → Bool} {held : Bool} {t e : TypeId} {fuel : Nat} {v : Value} {x : DataW H × List MemPlace} (ht : P.underlying t = some (.slice e)) (he : P.underlying e = some .bool) (hc : P.cellsOf e = 1)
    (h : DataW.trod enc P w base spare held fuel t [v] = some x) :
    ∃ l : List Bool, BoolsB w w.heap.size v l ∧ (x.1 = .nil ∧ l.length = 0 ∨ ∃ es sp, x.1 = .slice es sp ∧ l.length = es.length) := by
  rcases open_slice1 ht hc h with ⟨h0, hx⟩ | ⟨a, len, cap, m, n, V, D, Pl, hv', _, hl, hm, hmm, hx, hi⟩
  · obtain rfl : v = .slice none 0 0 := by simpa using h0
    exact ⟨[], ⟨Sl.nil _ _, fun h => absurd rfl h⟩, .inl ⟨congrArg Prod.fst hx, rfl⟩⟩
  · obtain rfl : v = .slice (some a) len cap := by simpa using hv'
    have hlm : len ≤ m := by rw [hmm]; split <;> omega
    have key : ∀ i, ∃ b : Bool, i < len → w.cell? (a.add i) = some (.bool b) := by
      intro i
      by_cases hil : i < len
      · obtain ⟨h1, h2⟩ := hi i (by omega)
        obtain ⟨b, hb⟩ := trod_boolV he h2
        exact ⟨b, fun _ => by rw [h1, hb]⟩
      · exact ⟨false, fun h => absurd h hil⟩
    obtain ⟨G, hG⟩ : ∃ G : Nat → Bool, ∀ i, i < len → w.cell? (a.add i) = some (.bool (G i)) := ⟨fun i => Classical.choose (key i), fun i hi => Classical.choose_spec (key i) hi⟩
    clear key
    have hlen : ((List.range len).map G).length = len := by simp
    refine ⟨(List.range len).map G, ⟨?_, ?_⟩, .inr ⟨_, _, congrArg Prod.fst hx, by simp⟩⟩
    · unfold Bools
      rw [hlen]
      refine ⟨some a, cap, rfl, hl, hm, by simp [boolsV], fun hp => ?_⟩
      have h0 := hG 0 hp
      have ha : a = ⟨a.block, a.off, none⟩ := addr_of_cell (by simpa [Addr.add] using h0)
      refine ⟨a.block, a.off, by rw [← ha], World.block_lt_of_cell? w a (by simpa [Addr.add] using h0), fun j u hu => ?_⟩
      have hj : j < len := by have := (List.getElem?_eq_some_iff.1 hu).1; simpa [boolsV] using this
      have h1 := hG j hj
      rw [ha, Addr.add_lit] at h1
      rw [h1]
      simpa [boolsV, hj] using hu
    · intro hne b hb
      have hp : 0 < len := by
        rcases Nat.eq_zero_or_pos len with h | h
        · subst h; exact absurd rfl hne
        · exact h
      have h0 := hG 0 hp
      have := World.block_lt_of_cell? w a (by simpa [Addr.add] using h0)
      cases hb
      exact this
/-- a slice of bools as an argument -/
theorem open_bools {H : Type} {enc : TypeId × Value → H} {P : Program} {w : World} {base b0 : Nat} {spare : Nat → Bool} {held : Bool} {t e : TypeId} {v : Value} {d : DataW H} {p : List MemPlace} (ht : P.underlying t = some (.slice e)) (he : P.underlying e = some .bool) (hc : P.cellsOf e = 1)
    (hv : Value.okWide P w .any b0 t v) (h : DataW.Trod enc P w base spare held t v d p) :
    ∃ l : List Bool, BoolsB w w.heap.size v l ∧ (d = .nil ∧ l.length = 0 ∨ ∃ es sp, d = .slice es sp ∧ l.length = es.length) := by
  obtain ⟨fuel, h⟩ := h
  rw [cells_slice ht hv] at h
  exact trod_bools ht he hc h
theorem reach_bools {H : Type} {P : Program} {ts : List TypeId} {ds : List (DataW H)} {t e : TypeId} {d : DataW H} {l : List Bool} {j : Nat} (ht : P.underlying t = some (.slice e)) (hb : P.bytesOf e = 1)
    (hsz : (DataW.weightsEach P ts ds).all (· ≤ reachBytes) = true) (htj : ts[j]? = some t) (hdj : ds[j]? = some d) (hd : d = .nil ∧ l.length = 0 ∨ ∃ es sp, d = .slice es sp ∧ l.length = es.length) : l.length ≤ 140737488351232 := by
  rcases hd with ⟨_, h⟩ | ⟨es, sp, rfl, h⟩
  · omega
  · have := sized_slice hsz htj hdj ht
    rw [hb] at this
    unfold reachBytes at this
    omega

theorem open_dacts5 {H : Type} {enc : TypeId × Value → H} {P : Program} {w : World} {base : Nat} {spare : Nat → Bool} {held : Bool} {t e eb : TypeId} {f0 f1 f2 f3 f4 : Field} {v : Value} {fuel : Nat} {x : DataW H × List MemPlace} (ht : P.underlying t = some (.slice e)) (he : P.underlying e = some (.struct #[f0, f1, f2, f3, f4]))
    (hone : oneCellFields P #[f0, f1, f2, f3, f4] = true) (hC : P.cellsOf e = 5) (h0 : P.underlying f0.type = some (.int .i64)) (h1 : P.underlying f1.type = some (.int .i64)) (h2 : P.underlying f2.type = some (.int .i64)) (h3 : P.underlying f3.type = some (.int .u8)) (h4 : P.underlying f4.type = some (.slice eb)) (hb : P.underlying eb = some .bool) (hcb : P.cellsOf eb = 1)
    (h : DataW.trod enc P w base spare held fuel t [v] = some x) :
    ∃ (A : Option Addr) (b off n c : Nat) (G : Nat → DAct), v = .slice A n c ∧ n ≤ 9223372036854775807 ∧ (0 < n → A = some ⟨b, off, none⟩) ∧ DActs w w.heap.size b off n G := by
  obtain ⟨A, n, c, rfl, hn, hc, hx⟩ := trod_rows ht he hone hC (by simp) h
  unfold maxLen at hc
  by_cases hpos : 0 < n
  · obtain ⟨b, off, rfl, hlt, hcells⟩ := hx hpos
    have k : ∀ i, ∃ a : DAct, i < n → w.cell? ⟨b, off + i*5, none⟩ = some (.int .i64 a.do_) ∧ w.cell? ⟨b, off + i*5 + 1, none⟩ = some (.int .i64 a.at_) ∧ w.cell? ⟨b, off + i*5 + 2, none⟩ = some (.int .i64 a.off) ∧ w.cell? ⟨b, off + i*5 + 3, none⟩ = some (.int .u8 (a.fill.toNat : Int)) ∧ w.cell? ⟨b, off + i*5 + 4, none⟩ = some a.kv ∧ BoolsB w w.heap.size a.kv a.kl ∧ I64 a.do_ ∧ I64 a.at_ ∧ I64 a.off := by
      intro i
      by_cases hi : i < n
      · obtain ⟨u0, _, _, hu0, hy0⟩ := hcells i hi 0 f0 rfl
        obtain ⟨a0, rfl, i0⟩ := trod_i64 h0 hy0
        obtain ⟨u1, _, _, hu1, hy1⟩ := hcells i hi 1 f1 rfl
        obtain ⟨a1, rfl, i1⟩ := trod_i64 h1 hy1
        obtain ⟨u2, _, _, hu2, hy2⟩ := hcells i hi 2 f2 rfl
        obtain ⟨a2, rfl, i2⟩ := trod_i64 h2 hy2
        obtain ⟨u3, _, _, hu3, hy3⟩ := hcells i hi 3 f3 rfl
        obtain ⟨a3, rfl, i3, i3'⟩ := trod_u8 h3 hy3
        obtain ⟨u4, _, _, hu4, hy4⟩ := hcells i hi 4 f4 rfl
        obtain ⟨l, hl, _⟩ := trod_bools h4 hb hcb hy4
        have hu3' : w.cell? ⟨b, off + i*5 + 3, none⟩ = some (.int .u8 a3) := hu3
        exact ⟨⟨a0, a1, a2, UInt8.ofNat a3.toNat, u4, l⟩, fun _ => ⟨hu0, hu1, hu2, by rw [hu3']; congr 2; simp only [UInt8.toNat_ofNat']; omega, hu4, hl, i0, i1, i2⟩⟩
      · exact ⟨⟨0, 0, 0, 0, undef, []⟩, fun h => absurd h hi⟩
    refine ⟨some ⟨b, off, none⟩, b, off, n, c, fun i => Classical.choose (k i), rfl, by omega, fun _ => rfl, ⟨fun _ => hlt, ?_, ?_, ?_, ?_, ?_, ?_, ?_⟩⟩
    all_goals intro i hi; have := Classical.choose_spec (k i) hi
    · exact this.1
    · exact this.2.1
    · exact this.2.2.1
    · exact this.2.2.2.1
    · exact this.2.2.2.2.1
    · exact this.2.2.2.2.2.1
    · exact this.2.2.2.2.2.2
  · exact ⟨A, 0, 0, n, c, fun _ => ⟨0, 0, 0, 0, undef, []⟩, rfl, by omega, fun h => absurd h hpos, ⟨fun h => absurd h hpos, fun i hi => by omega, fun i hi => by omega, fun i hi => by omega, fun i hi => by omega, fun i hi => by omega, fun i hi => by omega, fun i hi => by omega⟩⟩

set_option maxRecDepth 100000 in
theorem open_dacts {H : Type} {enc : TypeId × Value → H} {w : World} {base b0 : Nat} {spare : Nat → Bool} {held : Bool} {v : Value} {d : DataW H} {p : List MemPlace}
    (hv : Value.okWide Try.prog w .any b0 47 v) (h : DataW.Trod enc Try.prog w base spare held 47 v d p) :
    ∃ (A : Option Addr) (b off n c : Nat) (G : Nat → DAct), v = .slice A n c ∧ n ≤ 9223372036854775807 ∧ (0 < n → A = some ⟨b, off, none⟩) ∧ DActs w w.heap.size b off n G := by
  obtain ⟨fuel, h⟩ := h
  rw [cells_slice Try.underlying47 hv] at h
  exact open_dacts5 Try.underlying47 Try.underlying51 (by kernel_rfl) (by kernel_rfl) Try.underlying3 Try.underlying3 Try.underlying3 Try.underlying5 Try.underlying48 Try.underlying4 (by kernel_rfl) h
end Go.Proofs.Ytamkngpkplflcaa
