/- octet.Get walked, and the document's Number beside it. -/
import Derived.Test.YtihimcgppifcbaaDoorOctetPut
import Derived.Test.YtihimcgppifcbaaDoorCrcMath
namespace Go.Proofs.YtihimcgppifcbaaDoor
open Go.RowKit

theorem num_lt (l : List UInt8) : Crc.num l < 256 ^ l.length := by
  induction l with
  | nil => show 0 < 256 ^ 0; omega
  | cons c l ih =>
    show c.toNat + 256 * Crc.num l < 256 ^ (l.length + 1)
    have := UInt8.toNat_lt c
    rw [Nat.pow_succ]
    omega
theorem num_append (l m : List UInt8) : Crc.num (l ++ m) = Crc.num l + 256 ^ l.length * Crc.num m := by
  induction l with
  | nil => show Crc.num m = 0 + 256 ^ 0 * Crc.num m; omega
  | cons c l ih =>
    show c.toNat + 256 * Crc.num (l ++ m) = c.toNat + 256 * Crc.num l + 256 ^ (l.length + 1) * Crc.num m
    rw [ih, Nat.pow_succ, Nat.mul_add, ← Nat.mul_assoc, Nat.mul_comm (256 ^ l.length) 256]
    omega
theorem num_drop (l : List UInt8) (k : Nat) (h : k < l.length) : Crc.num (l.drop k) = l[k].toNat + 256 * Crc.num (l.drop (k + 1)) := by
  rw [List.drop_eq_getElem_cons h]
  rfl
theorem num_take (l : List UInt8) (k : Nat) (h : k < l.length) : Crc.num (l.take (k + 1)) = Crc.num (l.take k) + 256 ^ k * l[k].toNat := by
  rw [List.take_succ_eq_append_getElem h, num_append, List.length_take, Nat.min_eq_left (by omega)]
  show _ + _ * (_ + 256 * 0) = _
  rw [Nat.mul_zero, Nat.add_zero]
theorem pow8 (n : Nat) (h : n ≤ 8) : 256 ^ n ≤ 18446744073709551616 := by
  have : 256 ^ n ≤ 256 ^ 8 := Nat.pow_le_pow_right (by omega) h
  exact this

/-- Get's answer -/
def getV (l : List UInt8) : Nat × Int := if 1 ≤ l.length ∧ l.length ≤ 8 then (Crc.num l, 0) else (0, 1)

set_option maxRecDepth 100000 in
theorem get_any (v : Value) (l : List UInt8) (w : World) (h : Bs w v l) :
    Calls Tryd.prog 33 #[v] w fun e w' => e = .returned (.tuple #[.int .u64 (getV l).1, .int .i64 (getV l).2]) ∧ w' = w := by
  obtain ⟨A, cp, rfl, h1, h2, h3⟩ := h.open_
  by_cases hl1 : l.length < 1
  · have e : getV l = (0, 1) := if_neg (by omega)
    rw [e]
    go_enter Tryd.func33, Tryd.ntmps33
    go_wp2
    go_ret2
    exact ⟨rfl, rfl⟩
  by_cases hl2 : 8 < l.length
  · have e : getV l = (0, 1) := if_neg (by omega)
    rw [e]
    go_enter Tryd.func33, Tryd.ntmps33
    go_wp2
    go_ret2
    exact ⟨rfl, rfl⟩
  have e : getV l = (Crc.num l, 0) := if_pos (by omega)
  rw [e]
  have e' := hide e
  clear e
  obtain ⟨b, off, rfl, hb, hc⟩ := h3 (by omega)
  go_enter Tryd.func33, Tryd.ntmps33
  go_wp2
  go_loop [4, 5] (fun x i => ∃ k : Nat, k ≤ l.length ∧ i = .int .i64 ((k : Int) - 1) ∧ x = .int .u64 ((Crc.num (l.drop k) : Nat) : Int)) (fun _ i => (intOf i + 1).toNat)
  case atStart => exact ⟨l.length, by omega, rfl, by rw [List.drop_length]; rfl⟩
  case round =>
    obtain ⟨k, hk, rfl, rfl⟩ := hrel
    by_cases hlt : 0 < k
    · obtain ⟨j, rfl⟩ : ∃ j, k = j + 1 := ⟨k - 1, by omega⟩
      have hc0 := hc j (by omega)
      have hnd := hide (num_drop l j (by omega))
      have hn1 := num_lt (l.drop (j + 1))
      rw [List.length_drop] at hn1
      have hn2 := pow8 (l.length - (j + 1) + 1) (by omega)
      rw [Nat.pow_succ] at hn2
      have hc1 := UInt8.toNat_lt l[j]
      have hx : 256 * Crc.num (l.drop (j + 1)) + 256 ≤ 18446744073709551616 := by omega
      generalize l[j].toNat = c at *
      generalize Crc.num (l.drop (j + 1)) = x at *
      clear hn1 hn2
      have f1 : bits .or .u64 ((x : Int) * 256) (c : Int) = ((c + 256 * x : Nat) : Int) := by
        rw [show ((x : Int) * 256) = ((256 * x : Nat) : Int) by omega, u64_or_nat _ _ (by omega) (by omega), nat_join 8 (256 * x) c (by omega) hc1]
        omega
      go_wp2
      go_round
      case rel => exact ⟨j, by omega, by go_num, by rw [hnd.out]; exact congrArg _ (by omega)⟩
      case measure => simp [intOf]
    · obtain rfl : k = 0 := by omega
      go_wp2
      go_ret2
      exact ⟨rfl, rfl⟩

theorem number_any (v : Value) (l : List UInt8) (hl : l.length ≤ 8) (w : World) (h : Bs w v l) :
    Calls Tryd.prog 34 #[v] w fun e w' => e = .returned (.int .u64 (Crc.num l)) ∧ w' = w := by
  obtain ⟨A, cp, rfl, h1, h2, h3⟩ := h.open_
  go_enter Tryd.func34, Tryd.ntmps34
  go_wp2
  go_loop [3, 4, 5] (fun x u i => ∃ k : Nat, k ≤ l.length ∧ i = .int .i64 k ∧ x = .int .u64 ((Crc.num (l.take k) : Nat) : Int) ∧ u = .int .u64 ((256 ^ k % 18446744073709551616 : Nat) : Int)) (fun _ _ i => l.length - (intOf i).toNat)
  case atStart => exact ⟨0, by omega, rfl, rfl, rfl⟩
  case round =>
    obtain ⟨k, hk, rfl, rfl, rfl⟩ := hrel
    by_cases hlt : k < l.length
    · obtain ⟨b, off, rfl, hb, hc⟩ := h3 (by omega)
      have hc0 := hc k hlt
      have hnt := num_take l k hlt
      have hn1 := num_lt (l.take (k + 1))
      rw [List.length_take, Nat.min_eq_left (by omega)] at hn1
      have hn2 := pow8 (k + 1) (by omega)
      have hp : 256 ^ (k + 1) = 256 * 256 ^ k := by rw [Nat.pow_succ, Nat.mul_comm]
      have hp0 : 0 < 256 ^ k := Nat.pow_pos (by omega)
      have hc1 := UInt8.toNat_lt l[k]
      rw [Nat.mod_eq_of_lt (a := 256 ^ k) (by omega)]
      have hcp : 256 ^ k * l[k].toNat ≤ 256 ^ k * 255 := Nat.mul_le_mul_left _ (by omega)
      have hmm : ((l[k].toNat : Nat) : Int) * ((256 ^ k : Nat) : Int) = ((256 ^ k * l[k].toNat : Nat) : Int) := by rw [Nat.mul_comm, Int.natCast_mul]
      clear hc
      obtain ⟨m, hm⟩ : ∃ m, m = 256 ^ k * l[k].toNat := ⟨_, rfl⟩
      rw [← hm] at hnt hcp hmm
      have hnt' := hide hnt
      have hp' := hide hp
      have hx : Crc.num (l.take k) + m < 256 * 256 ^ k := by omega
      clear hm hnt hn1 hp h
      generalize l[k].toNat = c at *
      generalize Crc.num (l.take k) = x at *
      have hpp : 256 * 256 ^ k ≤ 18446744073709551616 := by rw [← hp'.out]; exact hn2
      clear hn2
      generalize 256 ^ k = p at *
      go_wp2
      go_round
      case rel => exact ⟨k + 1, by omega, by go_num, by rw [hnt'.out]; exact congrArg _ (by omega), by rw [hp'.out, IntKind.wrap_u64]; exact congrArg _ (by omega)⟩
      case measure => simp [intOf]; omega
    · have hl' : l.take k = l := List.take_of_length_le (by omega)
      rw [hl']
      go_wp2
      go_ret
      exact ⟨rfl, rfl⟩
end Go.Proofs.YtihimcgppifcbaaDoor
