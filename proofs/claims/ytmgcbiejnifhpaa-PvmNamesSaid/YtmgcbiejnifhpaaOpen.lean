/- How arguments of a few kinds are read: what the form's reading gives, as facts on cells for the walks. -/
import Derived.Test.YtmgcbiejnifhpaaClose
import Derived.Deep.Slices
import Derived.Deep.Fields
namespace Go.Proofs.Ytmgcbiejnifhpaa
open Go.RowKit Go.WideShapes Go.ChangeShapes Go.ChangeAt Go.Deep

section
variable {H : Type} {enc : TypeId × Value → H} {P : Program} {w : World} {base b0 : Nat} {spare : Nat → Bool} {held : Bool}

theorem addr_of_cell {a : Addr} {v : Value} (h : w.cell? a = some v) : a = ⟨a.block, a.off, none⟩ := by
  obtain ⟨b, o, s⟩ := a
  cases s with
  | none => rfl
  | some x =>
    unfold World.cell? at h
    split at h
    · simp at h
    · cases h

/-- One field of a struct's reading: its type, its first cell, how many cells it has. -/
theorem part {n : Nat} {fs : Array Field} {cs : List Value} {xs : List (DataW H × List MemPlace)}
    (hg : ∀ (i : Nat) (f : Field), fs[i]? = some f → DataW.trod enc P w base spare held n f.type ((cs.drop f.offset).take (P.cellsOf f.type)) = xs[i]?) (i T off k : Nat)
    (hf : (fs[i]?).map (fun f => (f.type, f.offset)) = some (T, off)) (hk : P.cellsOf T = k) : DataW.trod enc P w base spare held n T ((cs.drop off).take k) = xs[i]? := by
  obtain ⟨f, h1, h2⟩ := Option.map_eq_some_iff.1 hf
  simp only [Prod.mk.injEq] at h2
  obtain ⟨rfl, rfl⟩ := h2
  rw [← hk]
  exact hg i f h1

/-- a cell that reads as an int -/
theorem trod_i64 {t : TypeId} {fuel : Nat} {v : Value} {x : DataW H × List MemPlace} (ht : P.underlying t = some (.int .i64)) (h : DataW.trod enc P w base spare held fuel t [v] = some x) : ∃ n, v = .int .i64 n ∧ I64 n := by
  obtain ⟨n, hv, _, hw⟩ := DataW.trod_int ht h
  exact ⟨n, by simpa using hv, bounds_i64 hw⟩
theorem trod_u8 {t : TypeId} {fuel : Nat} {v : Value} {x : DataW H × List MemPlace} (ht : P.underlying t = some (.int .u8)) (h : DataW.trod enc P w base spare held fuel t [v] = some x) : ∃ n, v = .int .u8 n ∧ 0 ≤ n ∧ n ≤ 255 := by
  obtain ⟨n, hv, _, hw⟩ := DataW.trod_int ht h
  exact ⟨n, by simpa using hv, bounds_u8 hw⟩

/-- A slice whose elements are structs of one-cell fields, as cells: row i, field j. -/
theorem trod_rows {t e : TypeId} {fs : Array Field} {v : Value} {fuel : Nat} {x : DataW H × List MemPlace} (ht : P.underlying t = some (.slice e)) (he : P.underlying e = some (.struct fs))
    (hone : oneCellFields P fs = true) (hC : P.cellsOf e = fs.size) (hf : 0 < fs.size) (h : DataW.trod enc P w base spare held fuel t [v] = some x) :
    ∃ (A : Option Addr) (n c : Nat), v = .slice A n c ∧ n ≤ c ∧ c ≤ maxLen ∧
      (0 < n → ∃ b off, A = some ⟨b, off, none⟩ ∧ b < w.heap.size ∧ ∀ i, i < n → ∀ (j : Nat) (f : Field), fs[j]? = some f → ∃ (u : Value) (m : Nat) (y : DataW H × List MemPlace), w.cell? ⟨b, off + i * fs.size + j, none⟩ = some u ∧ DataW.trod enc P w base spare held m f.type [u] = some y) := by
  rcases open_slice ht h with ⟨h0, _⟩ | ⟨a, len, cap, m, n, D, Pl, hv', _, hl, hm, hmm, _, hi⟩
  · refine ⟨none, 0, 0, by simpa using h0, Nat.le_refl _, Nat.zero_le _, fun h => absurd h (by omega)⟩
  · refine ⟨some a, len, cap, by simpa using hv', hl, hm, fun hpos => ?_⟩
    have hlen : len ≤ m := by rw [hmm]; split <;> omega
    have key : ∀ i, i < len → ∀ (j : Nat) (f : Field), fs[j]? = some f → ∃ (u : Value) (m : Nat) (y : DataW H × List MemPlace), w.cell? (a.add (i * fs.size + j)) = some u ∧ DataW.trod enc P w base spare held m f.type [u] = some y := by
      intro i hil j f hj
      obtain ⟨cs', hc, ht'⟩ := hi i (by omega)
      rw [hC] at hc
      obtain ⟨ys, n', _, _, hlen', hyl, hff⟩ := DataW.trod_struct he ht'
      obtain ⟨_, hcl, hat⟩ := World.cells?_some hc
      obtain ⟨ho, hk⟩ := hone_of hone j f hj
      have hjl : j < fs.size := (Array.getElem?_eq_some_iff.1 hj).1
      have hcell := hat j hjl
      have hv : cs'[j]? = some (cs'[j]'(by omega)) := List.getElem?_eq_getElem (by omega)
      have h1 := hff j f hj
      rw [ho, hk] at h1
      have hone' : (cs'.drop j).take 1 = [cs'[j]'(by omega)] := by
        rw [List.drop_eq_getElem_cons (by omega)]
        rfl
      rw [hone'] at h1
      have hys : ys[j]? = some (ys[j]'(by omega)) := List.getElem?_eq_getElem (by omega)
      exact ⟨_, n', _, by rw [← Go.Deep.add_add, hcell, hv], h1.trans hys⟩
    obtain ⟨f0, hf0⟩ : ∃ f0, fs[0]? = some f0 := ⟨fs[0], Array.getElem?_eq_getElem hf⟩
    obtain ⟨u0, _, _, hu0, _⟩ := key 0 hpos 0 f0 hf0
    rw [show 0 * fs.size + 0 = 0 by omega] at hu0
    have ha : a = ⟨a.block, a.off, none⟩ := addr_of_cell (by simpa [Addr.add] using hu0)
    refine ⟨a.block, a.off, by rw [← ha], World.block_lt_of_cell? w a (by simpa [Addr.add] using hu0), fun i hil j f hj => ?_⟩
    obtain ⟨u, k, y, hu, hy⟩ := key i hil j f hj
    refine ⟨u, k, y, ?_, hy⟩
    rw [ha, Addr.add_lit, ← Nat.add_assoc] at hu
    exact hu
theorem open_rows {t e : TypeId} {fs : Array Field} {v : Value} {d : DataW H} {p : List MemPlace} (ht : P.underlying t = some (.slice e)) (he : P.underlying e = some (.struct fs))
    (hone : oneCellFields P fs = true) (hC : P.cellsOf e = fs.size) (hf : 0 < fs.size) (hv : Value.okWide P w .any b0 t v) (h : DataW.Trod enc P w base spare held t v d p) :
    ∃ (A : Option Addr) (n c : Nat), v = .slice A n c ∧ n ≤ c ∧ c ≤ maxLen ∧
      (0 < n → ∃ b off, A = some ⟨b, off, none⟩ ∧ b < w.heap.size ∧ ∀ i, i < n → ∀ (j : Nat) (f : Field), fs[j]? = some f → ∃ (u : Value) (m : Nat) (y : DataW H × List MemPlace), w.cell? ⟨b, off + i * fs.size + j, none⟩ = some u ∧ DataW.trod enc P w base spare held m f.type [u] = some y) := by
  obtain ⟨fuel, h⟩ := h
  have hcs : v.cells.toList = [v] := by
    have : Cell.okWide P w .any b0 t v := by simpa [Value.okWide, ht] using hv
    cases v <;> first | rfl | (simp [Cell.okWide, Cell.ok, ht] at this)
  rw [hcs] at h
  exact trod_rows ht he hone hC hf h

/-- A slice of structs of two ints. -/
theorem open_pairs {t e : TypeId} {f0 f1 : Field} {v : Value} {d : DataW H} {p : List MemPlace} (ht : P.underlying t = some (.slice e)) (he : P.underlying e = some (.struct #[f0, f1]))
    (hone : oneCellFields P #[f0, f1] = true) (hC : P.cellsOf e = 2) (h0 : P.underlying f0.type = some (.int .i64)) (h1 : P.underlying f1.type = some (.int .i64))
    (hv : Value.okWide P w .any b0 t v) (h : DataW.Trod enc P w base spare held t v d p) :
    ∃ (A : Option Addr) (n c : Nat), v = .slice A n c ∧ n ≤ c ∧ c ≤ maxLen ∧ (0 < n → ∃ b off F G, A = some ⟨b, off, none⟩ ∧ Pairs w w.heap.size b off n F G) := by
  obtain ⟨A, n, c, rfl, hn, hc, hx⟩ := open_rows ht he hone hC (by simp) hv h
  refine ⟨A, n, c, rfl, hn, hc, fun hpos => ?_⟩
  obtain ⟨b, off, rfl, hb, hcells⟩ := hx hpos
  have k0 : ∀ i, ∃ z : Int, i < n → w.cell? ⟨b, off + i*2, none⟩ = some (.int .i64 z) ∧ I64 z := by
    intro i
    by_cases hi : i < n
    · obtain ⟨u, _, _, hu, hy⟩ := hcells i hi 0 f0 rfl
      obtain ⟨z, rfl, hz⟩ := trod_i64 h0 hy
      exact ⟨z, fun _ => ⟨hu, hz⟩⟩
    · exact ⟨0, fun h => absurd h hi⟩
  have k1 : ∀ i, ∃ z : Int, i < n → w.cell? ⟨b, off + i*2 + 1, none⟩ = some (.int .i64 z) ∧ I64 z := by
    intro i
    by_cases hi : i < n
    · obtain ⟨u, _, _, hu, hy⟩ := hcells i hi 1 f1 rfl
      obtain ⟨z, rfl, hz⟩ := trod_i64 h1 hy
      exact ⟨z, fun _ => ⟨hu, hz⟩⟩
    · exact ⟨0, fun h => absurd h hi⟩
  exact ⟨b, off, fun i => Classical.choose (k0 i), fun i => Classical.choose (k1 i), rfl, fun _ => hb, fun i hi => (Classical.choose_spec (k0 i) hi).1, fun i hi => (Classical.choose_spec (k1 i) hi).1,
    fun i hi => ⟨(Classical.choose_spec (k0 i) hi).2, (Classical.choose_spec (k1 i) hi).2⟩⟩
end
end Go.Proofs.Ytmgcbiejnifhpaa
