/- law 05's acts as an argument, with the bound on what each keeps. -/
import Derived.Test.YtamkngpkplflcaaOpenActs
import Derived.SizedLaws
namespace Go.Proofs.Ytamkngpkplflcaa
open Go.RowKit Go.WideShapes Go.ChangeShapes Go.ChangeAt Go.Deep

theorem mem_weightsAll {H : Type} {P : Program} {e : TypeId} : ∀ {l : List (DataW H)} {d : DataW H}, d ∈ l → ∀ {z : Nat}, z ∈ d.weights P e → z ∈ DataW.weightsAll P e l
  | [], _, h, _, _ => by cases h
  | d0 :: l, d, h, z, hz => by
    simp only [DataW.weightsAll, List.mem_append]
    rcases List.mem_cons.1 h with h | h
    · subst h; exact .inl hz
    · exact .inr (mem_weightsAll h hz)
section
variable {H : Type} {enc : TypeId × Value → H} {P : Program} {w : World} {base b0 : Nat} {spare : Nat → Bool} {held : Bool}
theorem trod_rows_w {t e : TypeId} {fs : Array Field} {v : Value} {fuel : Nat} {x : DataW H × List MemPlace} (ht : P.underlying t = some (.slice e)) (he : P.underlying e = some (.struct fs))
    (hone : oneCellFields P fs = true) (hC : P.cellsOf e = fs.size) (hf : 0 < fs.size) (h : DataW.trod enc P w base spare held fuel t [v] = some x) :
    ∃ (A : Option Addr) (n c : Nat), v = .slice A n c ∧ n ≤ c ∧ c ≤ maxLen ∧
      (0 < n → ∃ b off, A = some ⟨b, off, none⟩ ∧ b < w.heap.size ∧ ∀ i, i < n → ∀ (j : Nat) (f : Field), fs[j]? = some f → ∃ (u : Value) (m : Nat) (y : DataW H × List MemPlace), w.cell? ⟨b, off + i * fs.size + j, none⟩ = some u ∧ DataW.trod enc P w base spare held m f.type [u] = some y ∧ ∀ z ∈ y.1.weights P f.type, z ∈ x.1.weights P t) := by
  rcases open_slice ht h with ⟨h0, _⟩ | ⟨a, len, cap, m, n, D, Pl, hv', _, hl, hm, hmm, hxe, hi⟩
  · refine ⟨none, 0, 0, by simpa using h0, Nat.le_refl _, Nat.zero_le _, fun h => absurd h (by omega)⟩
  · refine ⟨some a, len, cap, by simpa using hv', hl, hm, fun hpos => ?_⟩
    have hlen : len ≤ m := by rw [hmm]; split <;> omega
    have key : ∀ i, i < len → ∀ (j : Nat) (f : Field), fs[j]? = some f → ∃ (u : Value) (m : Nat) (y : DataW H × List MemPlace), w.cell? (a.add (i * fs.size + j)) = some u ∧ DataW.trod enc P w base spare held m f.type [u] = some y ∧ ∀ z ∈ y.1.weights P f.type, z ∈ x.1.weights P t := by
      intro i hil j f hj
      obtain ⟨cs', hc, ht'⟩ := hi i (by omega)
      rw [hC] at hc
      obtain ⟨ys, n', _, hxd, hlen', hyl, hff⟩ := DataW.trod_struct he ht'
      obtain ⟨_, hcl, hat⟩ := World.cells?_some hc
      obtain ⟨ho, hk⟩ := hone_of hone j f hj
      have hjl : j < fs.size := (Array.getElem?_eq_some_iff.1 hj).1
      have hcell := hat j hjl
      have hv : cs'[j]? = some (cs'[j]'(by omega)) := List.getElem?_eq_getElem (by omega)
      have h1 := hff j f hj
      rw [ho, hk] at h1
      have hone' : (cs'.drop j).take 1 = [cs'[j]'(by omega)] := by
        rw [List.drop_eq_getElem_cons (by omega)]
        rfl
      rw [hone'] at h1
      have hys : ys[j]? = some (ys[j]'(by omega)) := List.getElem?_eq_getElem (by omega)
      exact ⟨_, n', _, by rw [← Go.Deep.add_add, hcell, hv], h1.trans hys, fun z hz => by
        rw [hxe]
        simp only [DataW.weights, ht, List.mem_cons, List.mem_append]
        refine .inr (.inl (mem_weightsAll (d := D i) (List.mem_map.2 ⟨i, List.mem_range.2 hil, rfl⟩) ?_))
        have hD : D i = .agg (ys.map (·.1)) := congrArg Prod.fst hxd
        rw [hD]
        simp only [DataW.weights, he]
        exact DataW.weights_mem_each (j := j) (t := f.type) (d := (ys[j]'(by omega)).1) (by rw [List.getElem?_map, Array.getElem?_toList, hj]; rfl) (by rw [List.getElem?_map, hys]; rfl) z hz⟩
    obtain ⟨f0, hf0⟩ : ∃ f0, fs[0]? = some f0 := ⟨fs[0], Array.getElem?_eq_getElem hf⟩
    obtain ⟨u0, _, _, hu0, _, _⟩ := key 0 hpos 0 f0 hf0
    rw [show 0 * fs.size + 0 = 0 by omega] at hu0
    have ha : a = ⟨a.block, a.off, none⟩ := addr_of_cell (by simpa [Addr.add] using hu0)
    refine ⟨a.block, a.off, by rw [← ha], World.block_lt_of_cell? w a (by simpa [Addr.add] using hu0), fun i hil j f hj => ?_⟩
    obtain ⟨u, k, y, hu, hy, hz⟩ := key i hil j f hj
    refine ⟨u, k, y, ?_, hy, hz⟩
    rw [ha, Addr.add_lit, ← Nat.add_assoc] at hu
    exact hu
end
theorem open_dacts5r {H : Type} {enc : TypeId × Value → H} {P : Program} {w : World} {base : Nat} {spare : Nat → Bool} {held : Bool} {t e eb : TypeId} {f0 f1 f2 f3 f4 : Field} {v : Value} {fuel : Nat} {x : DataW H × List MemPlace} (ht : P.underlying t = some (.slice e)) (he : P.underlying e = some (.struct #[f0, f1, f2, f3, f4]))
    (hone : oneCellFields P #[f0, f1, f2, f3, f4] = true) (hC : P.cellsOf e = 5) (h0 : P.underlying f0.type = some (.int .i64)) (h1 : P.underlying f1.type = some (.int .i64)) (h2 : P.underlying f2.type = some (.int .i64)) (h3 : P.underlying f3.type = some (.int .u8)) (h4 : P.underlying f4.type = some (.slice eb)) (hb : P.underlying eb = some .bool) (hcb : P.cellsOf eb = 1) (hbb : P.bytesOf eb = 1) (hsz : ∀ z ∈ x.1.weights P t, z ≤ reachBytes)
    (h : DataW.trod enc P w base spare held fuel t [v] = some x) :
    ∃ (A : Option Addr) (b off n c : Nat) (G : Nat → DAct), v = .slice A n c ∧ n ≤ 9223372036854775807 ∧ (0 < n → A = some ⟨b, off, none⟩) ∧ DActs w w.heap.size b off n G ∧ ∀ i, i < n → (G i).kl.length ≤ 140737488351232 := by
  obtain ⟨A, n, c, rfl, hn, hc, hx⟩ := trod_rows_w ht he hone hC (by simp) h
  unfold maxLen at hc
  by_cases hpos : 0 < n
  · obtain ⟨b, off, rfl, hlt, hcells⟩ := hx hpos
    have k : ∀ i, ∃ a : DAct, i < n → w.cell? ⟨b, off + i*5, none⟩ = some (.int .i64 a.do_) ∧ w.cell? ⟨b, off + i*5 + 1, none⟩ = some (.int .i64 a.at_) ∧ w.cell? ⟨b, off + i*5 + 2, none⟩ = some (.int .i64 a.off) ∧ w.cell? ⟨b, off + i*5 + 3, none⟩ = some (.int .u8 (a.fill.toNat : Int)) ∧ w.cell? ⟨b, off + i*5 + 4, none⟩ = some a.kv ∧ BoolsB w w.heap.size a.kv a.kl ∧ I64 a.do_ ∧ I64 a.at_ ∧ I64 a.off ∧ a.kl.length ≤ 140737488351232 := by
      intro i
      by_cases hi : i < n
      · obtain ⟨u0, _, _, hu0, hy0, _⟩ := hcells i hi 0 f0 rfl
        obtain ⟨a0, rfl, i0⟩ := trod_i64 h0 hy0
        obtain ⟨u1, _, _, hu1, hy1, _⟩ := hcells i hi 1 f1 rfl
        obtain ⟨a1, rfl, i1⟩ := trod_i64 h1 hy1
        obtain ⟨u2, _, _, hu2, hy2, _⟩ := hcells i hi 2 f2 rfl
        obtain ⟨a2, rfl, i2⟩ := trod_i64 h2 hy2
        obtain ⟨u3, _, _, hu3, hy3, _⟩ := hcells i hi 3 f3 rfl
        obtain ⟨a3, rfl, i3, i3'⟩ := trod_u8 h3 hy3
        obtain ⟨u4, _, _, hu4, hy4, hw4⟩ := hcells i hi 4 f4 rfl
        obtain ⟨l, hl, hd4⟩ := trod_bools h4 hb hcb hy4
        have hrl : l.length ≤ 140737488351232 := by
          rcases hd4 with ⟨_, h⟩ | ⟨es, sp, e, h⟩
          · omega
          · have := hsz _ (hw4 ((es.length + sp.length) * P.bytesOf eb) (by rw [e]; simp [DataW.weights, h4]))
            rw [hbb] at this
            unfold reachBytes at this
            omega
        have hu3' : w.cell? ⟨b, off + i*5 + 3, none⟩ = some (.int .u8 a3) := hu3
        exact ⟨⟨a0, a1, a2, UInt8.ofNat a3.toNat, u4, l⟩, fun _ => ⟨hu0, hu1, hu2, by rw [hu3']; congr 2; simp only [UInt8.toNat_ofNat']; omega, hu4, hl, i0, i1, i2, hrl⟩⟩
      · exact ⟨⟨0, 0, 0, 0, undef, []⟩, fun h => absurd h hi⟩
    refine ⟨some ⟨b, off, none⟩, b, off, n, c, fun i => Classical.choose (k i), rfl, by omega, fun _ => rfl, ⟨fun _ => hlt, ?_, ?_, ?_, ?_, ?_, ?_, ?_⟩, ?_⟩
    all_goals intro i hi; have := Classical.choose_spec (k i) hi
    · exact this.1
    · exact this.2.1
    · exact this.2.2.1
    · exact this.2.2.2.1
    · exact this.2.2.2.2.1
    · exact this.2.2.2.2.2.1
    · exact ⟨this.2.2.2.2.2.2.1, this.2.2.2.2.2.2.2.1, this.2.2.2.2.2.2.2.2.1⟩
    · exact this.2.2.2.2.2.2.2.2.2
  · exact ⟨A, 0, 0, n, c, fun _ => ⟨0, 0, 0, 0, undef, []⟩, rfl, by omega, fun h => absurd h hpos, ⟨fun h => absurd h hpos, fun i hi => by omega, fun i hi => by omega, fun i hi => by omega, fun i hi => by omega, fun i hi => by omega, fun i hi => by omega, fun i hi => by omega⟩, fun i hi => by omega⟩

set_option maxRecDepth 100000 in
theorem open_dacts_r {H : Type} {enc : TypeId × Value → H} {w : World} {base b0 : Nat} {spare : Nat → Bool} {held : Bool} {v : Value} {d : DataW H} {p : List MemPlace} (hsz : ∀ z ∈ d.weights Try.prog 47, z ≤ reachBytes)
    (hv : Value.okWide Try.prog w .any b0 47 v) (h : DataW.Trod enc Try.prog w base spare held 47 v d p) :
    ∃ (A : Option Addr) (b off n c : Nat) (G : Nat → DAct), v = .slice A n c ∧ n ≤ 9223372036854775807 ∧ (0 < n → A = some ⟨b, off, none⟩) ∧ DActs w w.heap.size b off n G ∧ ∀ i, i < n → (G i).kl.length ≤ 140737488351232 := by
  obtain ⟨fuel, h⟩ := h
  rw [cells_slice Try.underlying47 hv] at h
  exact open_dacts5r (x := (d, p)) Try.underlying47 Try.underlying51 (by kernel_rfl) (by kernel_rfl) Try.underlying3 Try.underlying3 Try.underlying3 Try.underlying5 Try.underlying48 Try.underlying4 (by kernel_rfl) (by kernel_rfl) hsz h
end Go.Proofs.Ytamkngpkplflcaa
