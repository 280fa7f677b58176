/- Byte slices and plain words, read off what the caller handed: as arguments, and as cells of a struct. -/
import Derived.Test.YtmgcbiejnifhpaaOpen
import Derived.Test.YtmgcbiejnifhpaaBytes
namespace Go.Proofs.Ytmgcbiejnifhpaa
open Go.RowKit Go.WideShapes Go.ChangeShapes Go.ChangeAt

section
variable {H : Type} {enc : TypeId × Value → H} {w : World} {base b0 : Nat} {spare : Nat → Bool} {held : Bool}
theorem cells_slice {P : Program} {t e : TypeId} {v : Value} {b0 : Nat} (ht : P.underlying t = some (.slice e)) (hv : Value.okWide P w .any b0 t v) : v.cells.toList = [v] := by
  have : Cell.okWide P w .any b0 t v := by simpa [Value.okWide, ht] using hv
  cases v <;> first | rfl | (simp [Cell.okWide, Cell.ok, ht] at this)
/-- a cell that reads as a byte slice -/
theorem trod_bytes {P : Program} {t e : TypeId} {fuel : Nat} {v : Value} {x : DataW H × List MemPlace} (ht : P.underlying t = some (.slice e)) (he : P.underlying e = some (.int .u8)) (hc : P.cellsOf e = 1)
    (h : DataW.trod enc P w base spare held fuel t [v] = some x) :
    ∃ l : List UInt8, Bs w v l ∧ (x.1 = .nil ∧ l.length = 0 ∨ ∃ es sp, x.1 = .slice es sp ∧ l.length = es.length) := by
  rcases open_ints ht he hc h with ⟨h0, hx⟩ | ⟨a, len, cap, zs, hv', _, hl, hm, hzl, hx, hcell, hwf⟩
  · obtain rfl : v = .slice none 0 0 := by simpa using h0
    exact ⟨[], Sl.nil _ _, .inl ⟨congrArg Prod.fst hx, rfl⟩⟩
  · obtain rfl : v = .slice (some a) len cap := by simpa using hv'
    have hlz : len ≤ zs.length := by rw [hzl]; split <;> omega
    obtain ⟨l, hl1, hl2⟩ : ∃ l : List UInt8, l.length = len ∧ ∀ i (h : i < l.length), (zs.getD i 0) = (l[i].toNat : Int) := by
      refine ⟨(zs.take len).map fun z => UInt8.ofNat z.toNat, by simp; omega, fun i hi => ?_⟩
      have hi' : i < len := by simp at hi; omega
      have hz : i < zs.length := by omega
      have hw := hwf zs[i] (List.getElem_mem hz)
      have := bounds_u8 hw
      simp only [List.getElem_map, List.getElem_take, List.getD_eq_getElem?_getD, List.getElem?_eq_getElem hz, Option.getD_some]
      rw [UInt8.toNat_ofNat']
      omega
    refine ⟨l, ?_, .inr ⟨_, _, congrArg Prod.fst hx, ?_⟩⟩
    · rw [← hl1]
      refine Bs.mk_ (by omega) (by unfold maxLen at hm; exact hm) (fun hp => ?_)
      have h0 := hcell 0 (by omega)
      have ha : a = ⟨a.block, a.off, none⟩ := addr_of_cell (by simpa [Addr.add] using h0)
      refine ⟨a.block, a.off, by rw [← ha], World.block_lt_of_cell? w a (by simpa [Addr.add] using h0), fun i hi => ?_⟩
      have h1 := hcell i (by omega)
      rw [hl2 i hi] at h1
      rw [ha, Addr.add_lit] at h1
      exact h1
    · rw [hl1]
      simp [lits]
      omega
/-- A byte slice argument, with the reach's bound. -/
theorem open_bytes {P : Program} {t e : TypeId} {v : Value} {d : DataW H} {p : List MemPlace} (ht : P.underlying t = some (.slice e)) (he : P.underlying e = some (.int .u8)) (hc : P.cellsOf e = 1)
    (hv : Value.okWide P w .any b0 t v) (h : DataW.Trod enc P w base spare held t v d p) :
    ∃ l : List UInt8, Bs w v l ∧ (d = .nil ∧ l.length = 0 ∨ ∃ es sp, d = .slice es sp ∧ l.length = es.length) := by
  obtain ⟨fuel, h⟩ := h
  rw [cells_slice ht hv] at h
  exact trod_bytes ht he hc h
theorem trod_u64 {P : Program} {t : TypeId} {fuel : Nat} {v : Value} {x : DataW H × List MemPlace} (ht : P.underlying t = some (.int .u64)) (h : DataW.trod enc P w base spare held fuel t [v] = some x) : ∃ n : Nat, v = .int .u64 n ∧ n < 18446744073709551616 := by
  obtain ⟨n, hv, _, hw⟩ := DataW.trod_int ht h
  have hb : 0 ≤ n ∧ n < 18446744073709551616 := by
    simp [Lit.wf, IntKind.min, IntKind.max, IntKind.signed, IntKind.bits] at hw
    omega
  exact ⟨n.toNat, by rw [Int.toNat_of_nonneg hb.1]; simpa using hv, by omega⟩
/-- a cell that reads as a bool -/
theorem trod_boolV {P : Program} {t : TypeId} {fuel : Nat} {v : Value} {x : DataW H × List MemPlace} (ht : P.underlying t = some .bool) (h : DataW.trod enc P w base spare held fuel t [v] = some x) : ∃ b, v = .bool b := by
  obtain ⟨b, hv, _⟩ := DataW.trod_bool ht h
  exact ⟨b, by simpa using hv⟩
end


/-- an unsigned 32 bit argument -/
theorem open_u32 {H : Type} {enc : TypeId × Value → H} {P : Program} {w : World} {base b0 : Nat} {spare : Nat → Bool} {held : Bool} {t : TypeId} {v : Value} {d : DataW H} {p : List MemPlace} (ht : P.underlying t = some (.int .u32))
    (hv : Value.okWide P w .any b0 t v) (h : DataW.Trod enc P w base spare held t v d p) : ∃ n : Nat, v = .int .u32 n ∧ n < 4294967296 := by
  obtain ⟨n, hv, _, _, hw⟩ := open_int ht hv h
  have hb : 0 ≤ n ∧ n < 4294967296 := by
    simp [Lit.wf, IntKind.min, IntKind.max, IntKind.signed, IntKind.bits] at hw
    omega
  exact ⟨n.toNat, by rw [hv, Int.toNat_of_nonneg hb.1], by omega⟩

/-- the form's reach, of a byte slice -/
theorem reach_bytes {H : Type} {P : Program} {ts : List TypeId} {ds : List (DataW H)} {t e : TypeId} {d : DataW H} {l : List UInt8} {j : Nat} (ht : P.underlying t = some (.slice e)) (hb : P.bytesOf e = 1)
    (hsz : (DataW.weightsEach P ts ds).all (· ≤ reachBytes) = true) (htj : ts[j]? = some t) (hdj : ds[j]? = some d) (hd : d = .nil ∧ l.length = 0 ∨ ∃ es sp, d = .slice es sp ∧ l.length = es.length) : l.length ≤ 140737488351232 := by
  rcases hd with ⟨_, h⟩ | ⟨es, sp, rfl, h⟩
  · omega
  · have := sized_slice hsz htj hdj ht
    rw [hb] at this
    unfold reachBytes at this
    omega
/-- an unsigned 64 bit argument -/
theorem open_u64 {H : Type} {enc : TypeId × Value → H} {P : Program} {w : World} {base b0 : Nat} {spare : Nat → Bool} {held : Bool} {t : TypeId} {v : Value} {d : DataW H} {p : List MemPlace} (ht : P.underlying t = some (.int .u64))
    (hv : Value.okWide P w .any b0 t v) (h : DataW.Trod enc P w base spare held t v d p) : ∃ n : Nat, v = .int .u64 n ∧ n < 18446744073709551616 := by
  obtain ⟨n, hv, _, _, hw⟩ := open_int ht hv h
  have hb : 0 ≤ n ∧ n < 18446744073709551616 := by
    simp [Lit.wf, IntKind.min, IntKind.max, IntKind.signed, IntKind.bits] at hw
    omega
  exact ⟨n.toNat, by rw [hv, Int.toNat_of_nonneg hb.1], by omega⟩
/-- an int argument -/
theorem open_i64 {H : Type} {enc : TypeId × Value → H} {P : Program} {w : World} {base b0 : Nat} {spare : Nat → Bool} {held : Bool} {t : TypeId} {v : Value} {d : DataW H} {p : List MemPlace} (ht : P.underlying t = some (.int .i64))
    (hv : Value.okWide P w .any b0 t v) (h : DataW.Trod enc P w base spare held t v d p) : ∃ n : Int, v = .int .i64 n ∧ I64 n := by
  obtain ⟨n, hv, _, _, hw⟩ := open_int ht hv h
  exact ⟨n, hv, bounds_i64 hw⟩
end Go.Proofs.Ytmgcbiejnifhpaa
