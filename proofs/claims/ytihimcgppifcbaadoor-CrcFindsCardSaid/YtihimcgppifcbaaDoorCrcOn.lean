/- crc.On and Of walked, and the document's beside them: they compute, and leave the memory as it was. -/
import Derived.Test.YtihimcgppifcbaaDoorBytes
import Derived.Test.YtihimcgppifcbaaDoorCrcMath
namespace Go.Proofs.YtihimcgppifcbaaDoor
open Go.RowKit

/-- the package's table is laid -/
def Table (w : World) : Prop := ∀ i, i < 16 → w.cell? ⟨0, i, none⟩ = some (.int .u32 (Crc.half i))
theorem Table.below {w w' : World} (h : Table w) (hb : Below w.heap.size w w') : Table w' := fun i hi =>
  (hb.cell (p := ⟨0, i, none⟩) (World.block_lt_of_cell? w _ (h i hi))).trans (h i hi)

theorem not32 (r : Nat) (hr : r < 4294967296) : bits .xor .u32 IntKind.u32.max (r : Int) = ((Crc.M ^^^ r : Nat) : Int) := by
  have := u32_xor_nat 4294967295 r (by omega) hr
  exact this
theorem fold_take {l : List UInt8} {k : Nat} (r : Nat) (h : k < l.length) : Crc.fold r (l.take (k + 1)) = Crc.byte (Crc.fold r (l.take k)) l[k].toNat := by
  rw [List.take_succ_eq_append_getElem h, Crc.fold_append]
  rfl

set_option maxRecDepth 100000 in
theorem on_any (r : Nat) (hr : r < 4294967296) (v : Value) (l : List UInt8) (w : World) (h : Bs w v l) (ht : Table w) :
    Calls Tryd.prog 16 #[.int .u32 r, v] w fun e w' => e = .returned (.int .u32 (Crc.on r l)) ∧ w' = w := by
  obtain ⟨A, cp, rfl, h1, h2, h3⟩ := h.open_
  have hn := not32 r hr
  go_enter Tryd.func16, Tryd.ntmps16
  go_wp2
  have hn' := hide hn
  clear hn
  go_loop [5, 12] (fun x i => ∃ k : Nat, k ≤ l.length ∧ i = .int .i64 k ∧ x = .int .u32 (Crc.fold (Crc.M ^^^ r) (l.take k))) (fun _ i => l.length - (intOf i).toNat)
  case atStart => exact ⟨0, by omega, rfl, rfl⟩
  case round =>
    obtain ⟨k, hk, rfl, rfl⟩ := hrel
    have hx := Crc.fold_lt (l.take k) (Crc.M ^^^ r) (Crc.lt32 _ _ (by decide) hr)
    by_cases hlt : k < l.length
    · obtain ⟨b, off, rfl, hb, hc⟩ := h3 (by omega)
      have hc0 := hc k hlt
      have hft := hide (fold_take (Crc.M ^^^ r) hlt)
      clear hc h3 h
      have hc1 := UInt8.toNat_lt l[k]
      generalize l[k].toNat = c at *
      generalize Crc.fold (Crc.M ^^^ r) (l.take k) = x at *
      obtain ⟨y, hy⟩ : ∃ y, y = x ^^^ c := ⟨_, rfl⟩
      have hy1 : y < 4294967296 := hy ▸ Crc.lt32 _ _ hx (by omega)
      have f1 : bits .xor .u32 (x : Int) (c : Int) = y := by
        rw [u32_xor_nat x c hx (by omega), hy]
      have f2 : bits .and .u32 (y : Int) 15 = ((y % 16 : Nat) : Int) := by
        have := u32_and_nat y 15 hy1 (by omega)
        rw [nat_mask4] at this
        exact this
      have f3 := ht (y % 16) (Nat.mod_lt _ (by omega))
      obtain ⟨z, hz⟩ : ∃ z, z = Crc.nib y := ⟨_, rfl⟩
      have hz1 : z < 4294967296 := hz ▸ Crc.nib_lt _ hy1
      have f4 : bits .xor .u32 ((y : Int) / 16) (Crc.half (y % 16) : Int) = z := by
        rw [show ((y : Int) / 16) = ((y / 16 : Nat) : Int) by omega, u32_xor_nat _ _ (by omega) (Crc.half_lt _), hz]
        rfl
      have f5 : bits .and .u32 (z : Int) 15 = ((z % 16 : Nat) : Int) := by
        have := u32_and_nat z 15 hz1 (by omega)
        rw [nat_mask4] at this
        exact this
      have f6 := ht (z % 16) (Nat.mod_lt _ (by omega))
      obtain ⟨u, hu⟩ : ∃ u, u = Crc.nib z := ⟨_, rfl⟩
      have f7 : bits .xor .u32 ((z : Int) / 16) (Crc.half (z % 16) : Int) = u := by
        rw [show ((z : Int) / 16) = ((z / 16 : Nat) : Int) by omega, u32_xor_nat _ _ (by omega) (Crc.half_lt _), hu]
        rfl
      have hyi : y % 16 < 16 := Nat.mod_lt _ (by omega)
      have hzi : z % 16 < 16 := Nat.mod_lt _ (by omega)
      have hfin := hide (show u = Crc.byte x c by rw [hu, hz, hy]; rfl)
      clear hu hz hy
      generalize Crc.half (y % 16) = m1 at *
      generalize Crc.half (z % 16) = m2 at *
      generalize y % 16 = i1 at *
      generalize z % 16 = i2 at *
      go_wp2
      go_round
      case rel => exact ⟨k + 1, by omega, by go_num, by rw [hft.out, hfin.out]⟩
      case measure => simp [intOf]; omega
    · have hl : l.take k = l := List.take_of_length_le (by omega)
      rw [hl] at hx ⊢
      have hfin := not32 _ hx
      go_wp2
      go_ret
      exact ⟨rfl, rfl⟩

theorem of_any (v : Value) (l : List UInt8) (w : World) (h : Bs w v l) (ht : Table w) :
    Calls Tryd.prog 18 #[v] w fun e w' => e = .returned (.int .u32 (Crc.of_ l)) ∧ w' = w := by
  go_enter Tryd.func18, Tryd.ntmps18
  go_wp2_with fail
  refine (on_any 0 (by omega) v l w h ht).mono ?_
  rintro e w' ⟨rfl, rfl⟩
  go_wp2_with fail
  go_ret
  exact ⟨rfl, rfl⟩

theorem gs_succ (k r c : Nat) : Crc.gs (k + 1) r c = Crc.g (Crc.gs k r c) (c / 2 ^ k % 2) := by
  induction k generalizing r c with
  | zero => show Crc.g r (c % 2) = Crc.g r (c / 1 % 2); rw [Nat.div_one]
  | succ k ih =>
    show Crc.gs (k + 1) (Crc.g r (c % 2)) (c / 2) = _
    rw [ih]
    show _ = Crc.g (Crc.gs k (Crc.g r (c % 2)) (c / 2)) _
    rw [Nat.div_div_eq_div_mul, Nat.pow_succ, Nat.mul_comm 2]
theorem g_lt (r b : Nat) (h : r < 4294967296) : Crc.g r b < 4294967296 := by
  unfold Crc.g Crc.P
  apply Crc.lt32
  · omega
  · split <;> omega
theorem gs_lt (k r c : Nat) (h : r < 4294967296) : Crc.gs k r c < 4294967296 := by
  induction k generalizing r c with
  | zero => exact h
  | succ k ih => exact ih _ _ (g_lt _ _ h)

set_option maxRecDepth 100000 in
set_option maxHeartbeats 1000000 in
theorem refOn_any (r : Nat) (hr : r < 4294967296) (v : Value) (l : List UInt8) (w : World) (h : Bs w v l) :
    Calls Tryd.prog 17 #[.int .u32 r, v] w fun e w' => e = .returned (.int .u32 (Crc.on r l)) ∧ w' = w := by
  obtain ⟨A, cp, rfl, h1, h2, h3⟩ := h.open_
  have hn : (4294967295 - (r : Int)) = ((Crc.M ^^^ r : Nat) : Int) := by
    rw [← Crc.sub_eq r hr]; unfold Crc.M; omega
  go_enter Tryd.func17, Tryd.ntmps17
  go_wp2
  have hn' := hide hn
  clear hn
  go_loop [5, 6] (fun x i => ∃ k : Nat, k ≤ l.length ∧ i = .int .i64 k ∧ x = .int .u32 (Crc.fold (Crc.M ^^^ r) (l.take k))) (fun _ i => l.length - (intOf i).toNat)
  case atStart => exact ⟨0, by omega, rfl, rfl⟩
  case round =>
    obtain ⟨k, hk, rfl, rfl⟩ := hrel
    have hx := Crc.fold_lt (l.take k) (Crc.M ^^^ r) (Crc.lt32 _ _ (by decide) hr)
    by_cases hlt : k < l.length
    · obtain ⟨b, off, rfl, hb, hc⟩ := h3 (by omega)
      have hc0 := hc k hlt
      have hft := hide (fold_take (Crc.M ^^^ r) hlt)
      clear hc h3 h
      have hc1 := UInt8.toNat_lt l[k]
      generalize l[k].toNat = c at *
      generalize Crc.fold (Crc.M ^^^ r) (l.take k) = x at *
      go_wp2
      go_loop [5, 7] (fun x' j => ∃ q : Nat, q ≤ 8 ∧ j = .int .i64 q ∧ x' = .int .u32 (Crc.gs q x c)) (fun _ j => 8 - (intOf j).toNat)
      case atStart => exact ⟨0, by omega, rfl, rfl⟩
      case round =>
        obtain ⟨q, hq, rfl, rfl⟩ := hrel
        have hgq := gs_lt q x c hx
        have hgs := hide (gs_succ q x c)
        by_cases hlt2 : q < 8
        · have hgl := gs_lt (q + 1) x c hx
          have hzz : ∃ z, Crc.gs (q + 1) x c = z := ⟨_, rfl⟩
          obtain ⟨z, hz⟩ := hzz
          rw [hz] at hgl hgs
          have hzz := hide hz
          clear hz
          generalize Crc.gs q x c = y at *
          have hyz : ((((y : Int) + (c : Int) / 2 ^ q) % 2 == 1) = true → bits .xor .u32 ((y : Int) / 2) 2197175160 = (z : Int)) ∧ ((((y : Int) + (c : Int) / 2 ^ q) % 2 == 1) = false → ((y : Int) / 2) = (z : Int)) := by
            have e1 : ((y : Int) + (c : Int) / 2 ^ q) % 2 = (((y % 2 + c / 2 ^ q % 2) % 2 : Nat) : Int) := by
              have e2 : (c : Int) / 2 ^ q = ((c / 2 ^ q : Nat) : Int) := by
                rw [Int.natCast_ediv, Int.natCast_pow]; rfl
              rw [e2]
              omega
            have e3 := hgs.out
            unfold Crc.g at e3
            rw [e1]
            refine ⟨fun hh => ?_, fun hh => ?_⟩
            · have e4 : (y % 2 + c / 2 ^ q % 2) % 2 = 1 := by have := beq_iff_eq.1 hh; omega
              rw [if_pos e4] at e3
              rw [show ((y : Int) / 2) = ((y / 2 : Nat) : Int) by omega, e3]
              exact u32_xor_nat (y / 2) 2197175160 (by omega) (by omega)
            · have e4 : ¬ (y % 2 + c / 2 ^ q % 2) % 2 = 1 := by have := beq_eq_false_iff_ne.1 hh; omega
              rw [if_neg e4, Nat.xor_zero] at e3
              rw [e3]
              omega
          have hyz' := hide hyz
          clear hyz
          cases ht : (((y : Int) + (c : Int) / 2 ^ q) % 2 == 1)
          · have he := hyz'.out.2 ht
            have he' := hide he
            clear he
            go_wp2_with fail
            refine ⟨⟨q + 1, by omega, by go_num, ?_⟩, by simp [intOf]; omega⟩
            rw [he'.out, hzz.out]
          · have he := hyz'.out.1 ht
            have he' := hide he
            clear he
            go_wp2_with fail
            refine ⟨⟨q + 1, by omega, by go_num, ?_⟩, by simp [intOf]; omega⟩
            rw [he'.out, hzz.out]
        · obtain rfl : q = 8 := by omega
          have h8 := Crc.gs8 x c hc1
          rw [h8]
          have hft' := hft.out
          rw [← hft']
          clear hft hft' h8 hgs hgq
          go_wp2
          go_round
          case rel => exact ⟨k + 1, by omega, by go_num, rfl⟩
          case measure => simp [intOf]; omega
    · have hl : l.take k = l := List.take_of_length_le (by omega)
      rw [hl] at hx ⊢
      have hfin : (4294967295 - (Crc.fold (Crc.M ^^^ r) l : Int)) = ((Crc.on r l : Nat) : Int) := by
        unfold Crc.on
        rw [← Crc.sub_eq _ hx]
        have hM : Crc.M = 4294967295 := rfl
        generalize Crc.fold (Crc.M ^^^ r) l = z at *
        omega
      go_wp2
      go_ret
      exact ⟨rfl, rfl⟩

theorem refOf_any (v : Value) (l : List UInt8) (w : World) (h : Bs w v l) :
    Calls Tryd.prog 19 #[v] w fun e w' => e = .returned (.int .u32 (Crc.of_ l)) ∧ w' = w := by
  go_enter Tryd.func19, Tryd.ntmps19
  go_wp2_with fail
  refine (refOn_any 0 (by omega) v l w h).mono ?_
  rintro e w' ⟨rfl, rfl⟩
  go_wp2_with fail
  go_ret
  exact ⟨rfl, rfl⟩
end Go.Proofs.YtihimcgppifcbaaDoor
