/- What the rows over crc's table share: the list gives the table's cells; a world for the witness; byte slices opened. -/
import Derived.Test.YtihimcgppifcbaaDoorOpen
import Derived.Test.YtihimcgppifcbaaDoorCrcOn
import Derived.Lib.LaidTab
namespace Go.Proofs.YtihimcgppifcbaaDoor
open Go.RowKit Go.WideShapes Go.ChangeShapes Go.ChangeAt

theorem gHalf : Tryd.prog.globalNamed "nacelle/crc.half" = some 0 := by kernel_rfl
theorem gHalfType : (Tryd.prog.globals[0]?).map (·.type) = some 66 := by kernel_rfl
theorem cellsHalf : Tryd.prog.cellsOf 66 = 16 := by kernel_rfl
theorem cellsU32 : Tryd.prog.cellsOf 22 = 1 := by kernel_rfl

theorem table_of {W : World} (h : laidMetH Tryd.prog [("nacelle/crc.half", Rows.laid_nacelle_crc_half)] W) : Table W := by
  have ht : Lib.TabIs Tryd.prog W "nacelle/crc.half" .u32 [0, 274646895, 549293790, 820201905, 1098587580, 1361435347, 1640403810, 1905808397, 2197175160, 2460548119, 2722870694, 2987750089, 3280807620, 3553878443, 3811616794, 4084100981] :=
    Lib.tabIs_of_head (rest := []) gHalf gHalfType Tryd.underlying66 Tryd.underlying22 cellsU32 cellsHalf h
  intro i hi
  have hc := ht.cell gHalf i hi
  rw [hc]
  have : ∀ i, i < 16 → ([0, 274646895, 549293790, 820201905, 1098587580, 1361435347, 1640403810, 1905808397, 2197175160, 2460548119, 2722870694, 2987750089, 3280807620, 3553878443, 3811616794, 4084100981] : List Int).getD i 0 = (Crc.half i : Int) := by decide
  rw [this i hi]

/-- A world for the witness: the settled one, the table holding what its initialiser lays. -/
noncomputable def crcWorld (os : Os) : World :=
  { World.holding Tryd.prog os ⟨#[], #[], []⟩ with heap := (World.holding Tryd.prog os ⟨#[], #[], []⟩).heap.modify 0 fun
      | .cells _ t frozen => .cells #[.int .u32 0, .int .u32 274646895, .int .u32 549293790, .int .u32 820201905, .int .u32 1098587580, .int .u32 1361435347, .int .u32 1640403810, .int .u32 1905808397, .int .u32 2197175160, .int .u32 2460548119, .int .u32 2722870694, .int .u32 2987750089, .int .u32 3280807620, .int .u32 3553878443, .int .u32 3811616794, .int .u32 4084100981] t frozen
      | o => o }

section
variable {H : Type} {enc : TypeId × Value → H} {w : World} {base b0 : Nat} {spare : Nat → Bool} {held : Bool}
theorem cells_slice {P : Program} {t e : TypeId} {v : Value} {b0 : Nat} (ht : P.underlying t = some (.slice e)) (hv : Value.okWide P w .any b0 t v) : v.cells.toList = [v] := by
  have : Cell.okWide P w .any b0 t v := by simpa [Value.okWide, ht] using hv
  cases v <;> first | rfl | (simp [Cell.okWide, Cell.ok, ht] at this)
/-- A byte slice argument, with the reach's bound. -/
theorem open_bytes {P : Program} {t e : TypeId} {v : Value} {d : DataW H} {p : List MemPlace} (ht : P.underlying t = some (.slice e)) (he : P.underlying e = some (.int .u8)) (hc : P.cellsOf e = 1)
    (hv : Value.okWide P w .any b0 t v) (h : DataW.Trod enc P w base spare held t v d p) :
    ∃ l : List UInt8, Bs w v l ∧ (d = .nil ∧ l.length = 0 ∨ ∃ es sp, d = .slice es sp ∧ l.length = es.length) := by
  obtain ⟨fuel, h⟩ := h
  rw [cells_slice ht hv] at h
  rcases open_ints ht he hc h with ⟨h0, hx⟩ | ⟨a, len, cap, zs, hv', _, hl, hm, hzl, hx, hcell, hwf⟩
  · obtain rfl : v = .slice none 0 0 := by simpa using h0
    exact ⟨[], Sl.nil _ _, .inl ⟨congrArg Prod.fst hx, rfl⟩⟩
  · obtain rfl : v = .slice (some a) len cap := by simpa using hv'
    have hlz : len ≤ zs.length := by rw [hzl]; split <;> omega
    obtain ⟨l, hl1, hl2⟩ : ∃ l : List UInt8, l.length = len ∧ ∀ i (h : i < l.length), (zs.getD i 0) = (l[i].toNat : Int) := by
      refine ⟨(zs.take len).map fun z => UInt8.ofNat z.toNat, by simp; omega, fun i hi => ?_⟩
      have hi' : i < len := by simp at hi; omega
      have hz : i < zs.length := by omega
      have hw := hwf zs[i] (List.getElem_mem hz)
      have := bounds_u8 hw
      simp only [List.getElem_map, List.getElem_take, List.getD_eq_getElem?_getD, List.getElem?_eq_getElem hz, Option.getD_some]
      rw [UInt8.toNat_ofNat']
      omega
    refine ⟨l, ?_, .inr ⟨_, _, congrArg Prod.fst hx, ?_⟩⟩
    · rw [← hl1]
      refine Bs.mk_ (by omega) (by unfold maxLen at hm; exact hm) (fun hp => ?_)
      have h0 := hcell 0 (by omega)
      have ha : a = ⟨a.block, a.off, none⟩ := addr_of_cell (by simpa [Addr.add] using h0)
      refine ⟨a.block, a.off, by rw [← ha], World.block_lt_of_cell? w a (by simpa [Addr.add] using h0), fun i hi => ?_⟩
      have h1 := hcell i (by omega)
      rw [hl2 i hi] at h1
      rw [ha, Addr.add_lit] at h1
      exact h1
    · rw [hl1]
      simp [lits]
      omega
end


/-- an unsigned 32 bit argument -/
theorem open_u32 {H : Type} {enc : TypeId × Value → H} {P : Program} {w : World} {base b0 : Nat} {spare : Nat → Bool} {held : Bool} {t : TypeId} {v : Value} {d : DataW H} {p : List MemPlace} (ht : P.underlying t = some (.int .u32))
    (hv : Value.okWide P w .any b0 t v) (h : DataW.Trod enc P w base spare held t v d p) : ∃ n : Nat, v = .int .u32 n ∧ n < 4294967296 := by
  obtain ⟨n, hv, _, _, hw⟩ := open_int ht hv h
  have hb : 0 ≤ n ∧ n < 4294967296 := by
    simp [Lit.wf, IntKind.min, IntKind.max, IntKind.signed, IntKind.bits] at hw
    omega
  exact ⟨n.toNat, by rw [hv, Int.toNat_of_nonneg hb.1], by omega⟩

/-- the form's reach, of a byte slice -/
theorem reach_bytes {H : Type} {P : Program} {ts : List TypeId} {ds : List (DataW H)} {t e : TypeId} {d : DataW H} {l : List UInt8} {j : Nat} (ht : P.underlying t = some (.slice e)) (hb : P.bytesOf e = 1)
    (hsz : (DataW.weightsEach P ts ds).all (· ≤ reachBytes) = true) (htj : ts[j]? = some t) (hdj : ds[j]? = some d) (hd : d = .nil ∧ l.length = 0 ∨ ∃ es sp, d = .slice es sp ∧ l.length = es.length) : l.length ≤ 140737488351232 := by
  rcases hd with ⟨_, h⟩ | ⟨es, sp, rfl, h⟩
  · omega
  · have := sized_slice hsz htj hdj ht
    rw [hb] at this
    unfold reachBytes at this
    omega
end Go.Proofs.YtihimcgppifcbaaDoor
