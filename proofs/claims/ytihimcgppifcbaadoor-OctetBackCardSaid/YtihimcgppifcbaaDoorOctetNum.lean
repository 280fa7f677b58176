/- Numbers and their bytes: there and back. -/
import Derived.Test.YtihimcgppifcbaaDoorOctetGet
namespace Go.Proofs.YtihimcgppifcbaaDoor

theorem le_num : ∀ (k n : Nat), n < 256 ^ k → Crc.num (le n k) = n := by
  intro k
  induction k with
  | zero => intro n h; rw [Nat.pow_zero] at h; show 0 = n; omega
  | succ k ih =>
    intro n h
    rw [Nat.pow_succ] at h
    have e : le n (k + 1) = UInt8.ofNat n :: le (n / 256) k := by
      unfold le
      rw [List.range_succ_eq_map, List.map_cons, List.map_map, Nat.pow_zero, Nat.div_one]
      refine congrArg _ (List.map_congr_left fun i _ => ?_)
      show UInt8.ofNat (n / 256 ^ (i + 1)) = UInt8.ofNat (n / 256 / 256 ^ i)
      rw [Nat.div_div_eq_div_mul, Nat.pow_succ, Nat.mul_comm 256]
    rw [e]
    show (UInt8.ofNat n).toNat + 256 * Crc.num (le (n / 256) k) = n
    rw [ih _ (by omega), toNat_ofNat8]
    omega
theorem num_inj : ∀ (a b : List UInt8), a.length = b.length → Crc.num a = Crc.num b → a = b := by
  intro a
  induction a with
  | nil => intro b h _; cases b with
    | nil => rfl
    | cons _ _ => simp at h
  | cons c a ih => intro b h hn; cases b with
    | nil => simp at h
    | cons d b =>
      have hn' : c.toNat + 256 * Crc.num a = d.toNat + 256 * Crc.num b := hn
      have h1 := UInt8.toNat_lt c
      have h2 := UInt8.toNat_lt d
      rw [ih b (by simpa using h) (by omega)]
      rw [UInt8.toNat_inj.1 (show c.toNat = d.toNat by omega)]
end Go.Proofs.YtihimcgppifcbaaDoor
