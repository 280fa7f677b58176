/- octet.Put and Get walked, and the document's Put and Number beside them. -/
import Derived.Test.YtihimcgppifcbaaDoorBytes
namespace Go.Proofs.YtihimcgppifcbaaDoor
open Go.RowKit

/-- n's lowest bytes, k of them, the lowest first -/
def le (n : Nat) (k : Nat) : List UInt8 := (List.range k).map fun i => UInt8.ofNat (n / 256 ^ i)
theorem le_length (n k : Nat) : (le n k).length = k := by simp [le]
theorem le_succ (n k : Nat) : le n (k + 1) = le n k ++ [UInt8.ofNat (n / 256 ^ k)] := by
  unfold le; rw [List.range_succ, List.map_append]; rfl
/-- Put's bytes -/
def putV (n : Nat) (size : Int) : List UInt8 := if 1 ≤ size ∧ size ≤ 8 then le n size.toNat else []

theorem toNat_ofNat8 (n : Nat) : (UInt8.ofNat n).toNat = n % 256 := UInt8.toNat_ofNat'

/-- the row behind k rounds: k bytes of n, then noughts -/
def rowV (n m k : Nat) : List Value := bytesV (le n k) ++ List.replicate (m - k) (.int .u8 0)
theorem rowV_set (n m k : Nat) (h : k < m) : (rowV n m k).set k (.int .u8 ((UInt8.ofNat (n / 256 ^ k)).toNat)) = rowV n m (k + 1) := by
  unfold rowV
  rw [List.set_append_right _ _ (by rw [bytesV_length, le_length]; omega), bytesV_length, le_length, Nat.sub_self, le_succ, bytesV_append, List.append_assoc,
    show m - k = (m - (k + 1)) + 1 by omega, List.replicate_succ]
  rfl
theorem rowV_length (n m k : Nat) (h : k ≤ m) : (rowV n m k).length = m := by
  unfold rowV
  rw [List.length_append, bytesV_length, le_length, List.length_replicate]
  omega

set_option maxRecDepth 100000 in
theorem put_in (n : Nat) (hn : n < 18446744073709551616) (m : Nat) (h1 : 1 ≤ m) (h2 : m ≤ 8) (w : World) :
    Calls Tryd.prog 29 #[.int .u64 n, .int .i64 m] w fun e w' => ∃ v, e = .returned v ∧ OwnB w' w.heap.size 5 v (le n m) ∧ Below w.heap.size w w' := by
  have hm1 : ¬ (m : Int) < 1 := by omega
  have hm2 : ¬ (8 : Int) < (m : Int) := by omega
  go_enter Tryd.func29, Tryd.ntmps29
  go_wp2_with ((at_make; refine list_make Tryd.underlying23 (z := .int .u8 0) (bytes := 1) (by kernel_rfl) rfl rfl _ _ rfl w.heap.size .i64 .i64 m m m rfl rfl rfl rfl (by omega) (by simp only [maxLen]; omega) (Nat.le_refl _) ?_))
  intro w1 hown hg hlt
  have hb : Below w.heap.size w w1 := (Below.refl _ _).grown hg (Nat.le_refl _) (by simp)
  have hown' := hide hown
  clear hown hg
  go_wp2
  go_loopw [0, 17] (fun x i wr => ∃ k : Nat, k ≤ m ∧ i = .int .i64 k ∧ x = .int .u64 ((n / 256 ^ k : Nat) : Int) ∧ wr.ownsRow w.heap.size 5 1 (.slice (some ⟨w.heap.size, 0, none⟩) m m) m (rowV n m k) ∧ Below w.heap.size w wr) (fun _ i _ => m - (intOf i).toNat)
  case atStart => exact ⟨0, by omega, rfl, by rw [Nat.pow_zero, Nat.div_one], hown'.out, hb⟩
  case round =>
    obtain ⟨k, hk, rfl, rfl, hown, hbr⟩ := hrel
    have hnk : n / 256 ^ k < 18446744073709551616 := Nat.lt_of_le_of_lt (Nat.div_le_self _ _) hn
    have hs := hide (Nat.div_div_eq_div_mul n (256 ^ k) 256)
    by_cases hlt2 : k < m
    · obtain ⟨u, hc⟩ : ∃ u, wr.cell? ⟨w.heap.size, k, none⟩ = some u := ⟨_, (hown.cellAt k (by omega)).trans (List.getElem?_eq_getElem (by rw [rowV_length _ _ _ hk]; exact hlt2))⟩
      have hf := hown.frozenAt k
      have hst := (hown.stored k (.int .u8 ((UInt8.ofNat (n / 256 ^ k)).toNat))).1
      rw [rowV_set n m k hlt2, toNat_ofNat8] at hst
      have hst' := hide hst
      have hs2 : n / 256 ^ k / 256 = n / 256 ^ (k + 1) := by rw [Nat.div_div_eq_div_mul, Nat.pow_succ]
      have hs' := hide hs2
      clear hst hs hown hs2
      generalize n / 256 ^ k = x at *
      go_wp2
      go_roundw
      case rel =>
        refine ⟨k + 1, by omega, by go_num, ?_, ?_, hbr.setCell (Nat.le_refl _) _⟩
        · rw [← hs'.out]; congr 1
        · have := hst'.out
          rw [show ((x % 256 : Nat) : Int) = (x : Int) % 256 by omega] at this
          exact this
      case measure => simp [intOf]; omega
    · obtain rfl : k = m := by omega
      go_wp2
      go_ret
      refine ⟨_, rfl, ?_, hbr⟩
      have := hown
      unfold rowV at this
      rw [Nat.sub_self, List.replicate_zero, List.append_nil] at this
      unfold OwnB
      rw [le_length]
      exact this

/-- octet.Put, whatever the size -/
theorem put_any (n : Nat) (hn : n < 18446744073709551616) (size : Int) (hs : I64 size) (w : World) :
    Calls Tryd.prog 29 #[.int .u64 n, .int .i64 size] w fun e w' => ∃ v, e = .returned v ∧ OwnB w' w.heap.size 5 v (putV n size) ∧ Below w.heap.size w w' := by
  by_cases h : 1 ≤ size ∧ size ≤ 8
  · obtain ⟨m, rfl⟩ : ∃ m : Nat, size = m := ⟨size.toNat, by omega⟩
    have e : putV n (m : Int) = le n m := by unfold putV; rw [if_pos h, Int.toNat_natCast]
    rw [e]
    exact put_in n hn m (by omega) (by omega) w
  · have e : putV n size = [] := if_neg h
    rw [e]
    obtain ⟨hs1, hs2⟩ := hs
    by_cases h1 : size < 1
    · go_enter Tryd.func29, Tryd.ntmps29
      go_wp2
      go_ret
      exact ⟨_, rfl, World.ownsRow_nil _ _ _ _, Below.refl _ _⟩
    · have h2 : 8 < size := by omega
      go_enter Tryd.func29, Tryd.ntmps29
      go_wp2
      go_ret
      exact ⟨_, rfl, World.ownsRow_nil _ _ _ _, Below.refl _ _⟩

set_option maxRecDepth 100000 in
/-- the document's Put -/
theorem refPut_any (n : Nat) (hn : n < 18446744073709551616) (size : Int) (hs : I64 size) (w : World) :
    Calls Tryd.prog 30 #[.int .u64 n, .int .i64 size] w fun e w' => ∃ v, e = .returned v ∧ OwnB w' w.heap.size 5 v (putV n size) ∧ Below w.heap.size w w' := by
  obtain ⟨hs1, hs2⟩ := hs
  by_cases h8 : 8 < size
  · have e : putV n size = [] := if_neg (by omega)
    rw [e]
    go_enter Tryd.func30, Tryd.ntmps30
    go_wp2
    go_ret
    exact ⟨_, rfl, World.ownsRow_nil _ _ _ _, Below.refl _ _⟩
  · have e : putV n size = le n size.toNat := by
      unfold putV
      by_cases h : 1 ≤ size ∧ size ≤ 8
      · rw [if_pos h]
      · rw [if_neg h, show size.toNat = 0 by omega]; rfl
    rw [e]
    go_enter Tryd.func30, Tryd.ntmps30
    go_wp2
    go_loopw [0, 5, 6] (fun x v i wr => ∃ k : Nat, k ≤ size.toNat ∧ i = .int .i64 k ∧ x = .int .u64 ((n / 256 ^ k : Nat) : Int) ∧ wr.ownsRow w.heap.size 5 1 v k (bytesV (le n k)) ∧ Below w.heap.size w wr) (fun _ _ i _ => size.toNat - (intOf i).toNat)
    case atStart => exact ⟨0, by omega, rfl, by rw [Nat.pow_zero, Nat.div_one], World.ownsRow_nil _ _ _ _, Below.refl _ _⟩
    case round =>
      obtain ⟨k, hk, rfl, rfl, hown, hbr⟩ := hrel
      have hnk : n / 256 ^ k < 18446744073709551616 := Nat.lt_of_le_of_lt (Nat.div_le_self _ _) hn
      have hbs := hbr.size
      by_cases hlt2 : (k : Int) < size
      · have hs2 : n / 256 ^ k / 256 = n / 256 ^ (k + 1) := by rw [Nat.div_div_eq_div_mul, Nat.pow_succ]
        have hs' := hide hs2
        have hown' := hide hown
        have hle := hide (show bytesV (le n k) ++ [.int .u8 ((n / 256 ^ k % 256 : Nat) : Int)] = bytesV (le n (k + 1)) by rw [le_succ, bytesV_append]; simp [bytesV])
        clear hs2 hown
        generalize n / 256 ^ k = x at *
        go_wp2_with ((at_builtin; refine list_app elem_bytes rfl (.tmp 14) (.tmp 18) rfl w.heap.size u5 k (bytesV (le n k)) rfl (hown'.out.alloc _) ⟨wr.heap.size, 0, none⟩ 1 1 [.int .u8 ((x : Int) % 256)] rfl rfl (World.news_of_block (cs := #[.int .u8 ((x : Int) % 256)]) (t := 5) (fr := (0, 0)) (heap_alloc_new wr _)) (by simp [Value.oneCell']) (by omega) (by simp only [maxLen]; omega) (by omega) (by simp; omega) (wr.heap.size + 1) (by simp) ?_))
        intro g cap w1 hown1 hgrow hat hlt3
        have hb1 : Below w.heap.size w w1 := (hbr.alloc hbs _).grown hgrow (by simp; omega) (fun g hg => (hown'.out.lt g hg).1)
        have h256 : ((x : Int) % 256) = ((x % 256 : Nat) : Int) := by omega
        rw [h256, hle.out] at hown1
        have hown1' := hide hown1
        clear hown1 hgrow
        go_wp2
        go_roundw
        case rel => exact ⟨k + 1, by omega, by go_num, by rw [← hs'.out]; congr 1, hown1'.out, hb1⟩
        case measure => simp [intOf]; omega
      · have hkk : k = size.toNat := by omega
        go_wp2
        go_ret
        refine ⟨_, rfl, ?_, hbr⟩
        unfold OwnB
        rw [le_length, ← hkk]
        exact hown
end Go.Proofs.YtihimcgppifcbaaDoor
