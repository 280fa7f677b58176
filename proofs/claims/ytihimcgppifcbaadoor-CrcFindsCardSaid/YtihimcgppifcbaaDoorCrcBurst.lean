/- CrcFinds in plain numbers: what the loop lays over the sealed bytes is a burst of up to 32 bits, and a burst is found. No program in sight. -/
import Derived.Test.YtihimcgppifcbaaDoorCrcSeal
namespace Go.Proofs.YtihimcgppifcbaaDoor
open Go.RowKit

theorem residue (l : List UInt8) : Crc.fold Crc.M (sealV l) = Crc.fn 32 Crc.M := by
  have hol : Crc.of_ l < 4294967296 := Crc.on_lt 0 l (by omega)
  unfold sealV
  rw [Crc.fold_append, Crc.fold_num, le_length, le_num 4 _ (by omega)]
  unfold Crc.of_ Crc.on
  rw [Nat.xor_zero, Nat.xor_comm Crc.M, ← Nat.xor_assoc, Nat.xor_self, Nat.zero_xor]

theorem num_set : ∀ (D : List UInt8) (q : Nat) (c : UInt8), D[q]? = some 0 → Crc.num (D.set q c) = Crc.num D + 256 ^ q * c.toNat := by
  intro D
  induction D with
  | nil => intro q c h; simp at h
  | cons d D ih =>
    intro q c h
    cases q with
    | zero =>
      have : d = 0 := by simpa using h
      subst this
      show c.toNat + 256 * Crc.num D = (0 : UInt8).toNat + 256 * Crc.num D + 256 ^ 0 * c.toNat
      simp; omega
    | succ q =>
      have := ih q c (by simpa using h)
      show d.toNat + 256 * Crc.num (D.set q c) = d.toNat + 256 * Crc.num D + 256 ^ (q + 1) * c.toNat
      rw [this, Nat.mul_add, Nat.pow_succ, Nat.mul_comm (256 ^ q) 256, Nat.mul_assoc, Nat.add_assoc]

theorem over_length (a b : List UInt8) (h : a.length = b.length) : (Crc.over a b).length = a.length := by
  unfold Crc.over; rw [List.length_zipWith]; omega
theorem over_at (L D : List UInt8) (q : Nat) (h : q < L.length) (hd : D[q]? = some 0) : (Crc.over L D)[q]? = some (L[q]) := by
  unfold Crc.over
  rw [List.getElem?_zipWith, List.getElem?_eq_getElem h, hd]
  simp
theorem over_set : ∀ (L D : List UInt8) (q : Nat) (c : UInt8) (h : q < L.length), Crc.over L (D.set q c) = (Crc.over L D).set q (L[q] ^^^ c) := by
  intro L
  induction L with
  | nil => intro D q c h; simp at h
  | cons x L ih =>
    intro D q c h
    cases D with
    | nil => simp [Crc.over]
    | cons d D =>
      cases q with
      | zero => simp [Crc.over]
      | succ q =>
        have := ih D q c (by simpa using h)
        unfold Crc.over at this
        simp only [Crc.over, List.set_cons_succ, List.zipWith_cons_cons, List.getElem_cons_succ, this]
theorem over_zero (L : List UInt8) : Crc.over L (List.replicate L.length 0) = L := by
  induction L with
  | nil => rfl
  | cons x L ih =>
    show (x ^^^ 0) :: Crc.over L (List.replicate L.length 0) = x :: L
    rw [ih]; simp
theorem num_zero (n : Nat) : Crc.num (List.replicate n 0) = 0 := by
  induction n with
  | zero => rfl
  | succ n ih => show (0 : UInt8).toNat + 256 * Crc.num (List.replicate n 0) = 0; rw [ih]; rfl
theorem num_all_zero : ∀ (D : List UInt8), Crc.num D = 0 → D = List.replicate D.length 0 := by
  intro D
  induction D with
  | nil => intro _; rfl
  | cons d D ih =>
    intro h
    have h' : d.toNat + 256 * Crc.num D = 0 := h
    have h1 : d.toNat = 0 := by omega
    have h2 : d = 0 := by apply UInt8.toNat_inj.1; rw [h1]; rfl
    rw [h2]
    show (0 : UInt8) :: D = 0 :: List.replicate D.length 0
    rw [← ih (by omega)]

/-- where the loop stands: so many bytes of the wide number are laid over the sealed bytes from place p on -/
def Hit (L m : List UInt8) (p wide i : Nat) : Prop :=
  ∃ D : List UInt8, D.length = L.length ∧ m = Crc.over L D ∧ Crc.num D = 256 ^ p * (wide % 256 ^ i) ∧ ∀ j, p + i ≤ j → j < L.length → D[j]? = some 0
theorem Hit.start (L : List UInt8) (p wide : Nat) : Hit L L p wide 0 :=
  ⟨List.replicate L.length 0, by simp, (over_zero L).symm, by rw [num_zero, Nat.pow_zero, Nat.mod_one, Nat.mul_zero], fun j _ hj => by simp [hj]⟩
theorem Hit.len {L m : List UInt8} {p wide i : Nat} (h : Hit L m p wide i) : m.length = L.length := by
  obtain ⟨D, h1, h2, _⟩ := h
  rw [h2, over_length _ _ h1.symm]
theorem Hit.next {L m : List UInt8} {p wide i : Nat} (h : Hit L m p wide i) (hp : p + i < L.length) (hm : p + i < m.length) :
    Hit L (m.set (p + i) (UInt8.ofNat (m[p + i].toNat ^^^ (wide / 256 ^ i % 256)))) p wide (i + 1) := by
  obtain ⟨D, h1, h2, h3, h4⟩ := h
  have hz := h4 (p + i) (Nat.le_refl _) hp
  have hmq : m[p + i] = L[p + i] := by
    have := over_at L D (p + i) hp hz
    rw [← h2, List.getElem?_eq_getElem hm] at this
    exact Option.some.inj this
  refine ⟨D.set (p + i) (UInt8.ofNat (wide / 256 ^ i % 256)), by rw [List.length_set]; exact h1, ?_, ?_, ?_⟩
  · rw [over_set L D (p + i) _ hp, ← h2, hmq]
    congr 1
    apply UInt8.toNat_inj.1
    rw [UInt8.toNat_xor, UInt8.toNat_ofNat', UInt8.toNat_ofNat']
    have : L[p + i].toNat ^^^ wide / 256 ^ i % 256 < 2 ^ 8 := Nat.xor_lt_two_pow (UInt8.toNat_lt _) (Nat.mod_lt _ (by omega))
    rw [Nat.mod_eq_of_lt this, Nat.mod_eq_of_lt (Nat.mod_lt _ (by omega))]
  · rw [num_set _ _ _ hz, h3, UInt8.toNat_ofNat', Nat.mod_mod, Nat.pow_add, Nat.mul_assoc, ← Nat.mul_add]
    congr 1
    rw [Nat.pow_succ, Nat.mod_mul]
  · intro j hj1 hj2
    rw [List.getElem?_set_ne (by omega)]
    exact h4 j (by omega) hj2

/-- the loop's end: bits, moved by less than a byte -/
theorem Hit.done {l m : List UInt8} {k bits i : Nat} (h : Hit (sealV l) m (k / 8) (bits * 2 ^ (k % 8)) i) (hb : bits < 4294967296) (hk : k ≤ 8 * l.length) (hi : i ≤ 5) (hend : i = 5 ∨ l.length + 4 ≤ k / 8 + i) :
    openV m = (if bits = 0 then (l, 0) else ([], 8)) := by
  have hml := h.len
  obtain ⟨D, h1, h2, h3, _⟩ := h
  have hw : bits * 2 ^ (k % 8) < 256 ^ i := by
    rcases Nat.lt_or_ge i 5 with h5 | h5
    · have h8 : k % 8 = 0 := by omega
      have h4 : i = 4 := by omega
      rw [h8, h4]; omega
    · have h4 : i = 5 := by omega
      rw [h4]
      have : 2 ^ (k % 8) ≤ 2 ^ 7 := Nat.pow_le_pow_right (by omega) (by omega)
      calc bits * 2 ^ (k % 8) ≤ bits * 2 ^ 7 := Nat.mul_le_mul_left _ this
        _ < 256 ^ 5 := by omega
  have hnum : Crc.num D = 2 ^ k * bits := by
    rw [h3, Nat.mod_eq_of_lt hw, show (256 : Nat) = 2 ^ 8 from rfl, ← Nat.pow_mul, Nat.mul_comm bits, ← Nat.mul_assoc, ← Nat.pow_add, show 8 * (k / 8) + k % 8 = k by omega]
  by_cases h0 : bits = 0
  · rw [if_pos h0]
    have : D = List.replicate (sealV l).length 0 := by
      rw [← h1]; exact num_all_zero D (by rw [hnum, h0, Nat.mul_zero])
    rw [h2, this, over_zero]
    have hlen := sealV_length l
    have hx : (sealV l).length - 4 = l.length := by omega
    have h4 : ¬ (sealV l).length < 4 := by omega
    have ht : (sealV l).take ((sealV l).length - 4) = l := by rw [hx]; unfold sealV; rw [List.take_left]
    have hd := (sealed_iff (sealV l) h4).1 (by rw [ht])
    unfold openV
    rw [if_neg h4, if_neg (by simpa using hd), ht]
  · rw [if_neg h0]
    have hlen := sealV_length l
    have h4 : ¬ m.length < 4 := by omega
    unfold openV
    rw [if_neg h4, if_pos]
    intro hc
    have hs := (sealed_iff m h4).2 hc
    have r1 := residue (m.take (m.length - 4))
    rw [hs, h2] at r1
    have r2 := Crc.fold_over (sealV l) D Crc.M 0 h1.symm
    rw [Nat.xor_zero, r1, residue] at r2
    have r3 : Crc.fold 0 D = 0 := by
      have := congrArg (Crc.fn 32 Crc.M ^^^ ·) r2
      simp only [← Nat.xor_assoc, Nat.xor_self, Nat.zero_xor] at this
      exact this.symm
    exact h0 (Crc.burst D k bits hnum hb r3 (by omega))
end Go.Proofs.YtihimcgppifcbaaDoor
