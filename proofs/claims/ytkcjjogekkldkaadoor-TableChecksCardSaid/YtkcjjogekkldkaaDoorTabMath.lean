/- Tables of a major frame: plain mathematics. No program in sight. -/
import Derived.Test.YtkcjjogekkldkaaDoorBase
namespace Go.Proofs.YtkcjjogekkldkaaDoor

/-- a table: its ticks, how many windows, each one's part, first tick, ticks -/
structure Tab where
  T : Int
  n : Nat
  P : Nat → Int
  F : Nat → Int
  K : Nat → Int

/-- what is wrong with window i, the windows before it being right; 0: nothing -/
def Tab.bad (t : Tab) (i : Nat) : Int :=
  if t.P i < 0 ∨ 8 ≤ t.P i ∨ t.K i < 1 then 1
  else if t.F i < 0 ∨ t.T < t.K i ∨ t.T - t.K i < t.F i then 4
  else if 0 < i ∧ t.F i < t.F (i - 1) + t.K (i - 1) then 3 else 0
structure Tab.Ok (t : Tab) : Prop where
  T1 : 1 ≤ t.T
  T2 : t.T ≤ 256
  n32 : t.n ≤ 32
  w : ∀ i, i < t.n → t.bad i = 0
theorem Tab.bad_zero {t : Tab} {i : Nat} (h : t.bad i = 0) : 0 ≤ t.P i ∧ t.P i < 8 ∧ 1 ≤ t.K i ∧ 0 ≤ t.F i ∧ t.F i + t.K i ≤ t.T ∧ (0 < i → t.F (i - 1) + t.K (i - 1) ≤ t.F i) := by
  unfold Tab.bad at h
  split at h
  · cases h
  · split at h
    · cases h
    · split at h
      · cases h
      · omega
theorem Tab.Ok.win {t : Tab} (h : t.Ok) {i : Nat} (hi : i < t.n) : 0 ≤ t.P i ∧ t.P i < 8 ∧ 1 ≤ t.K i ∧ 0 ≤ t.F i ∧ t.F i + t.K i ≤ t.T := by
  have := Tab.bad_zero (h.w i hi)
  omega
theorem Tab.Ok.next {t : Tab} (h : t.Ok) {i : Nat} (hi : i + 1 < t.n) : t.F i + t.K i ≤ t.F (i + 1) := (Tab.bad_zero (h.w (i + 1) hi)).2.2.2.2.2 (Nat.succ_pos _)
theorem Tab.Ok.sorted {t : Tab} (h : t.Ok) : ∀ {j i : Nat}, i < j → j < t.n → t.F i + t.K i ≤ t.F j
  | 0, i, hij, _ => absurd hij (Nat.not_lt_zero _)
  | j + 1, i, hij, hj => by
    have h1 := h.next (i := j) hj
    rcases Nat.lt_or_eq_of_le (Nat.le_of_lt_succ hij) with h2 | rfl
    · have h3 := Tab.Ok.sorted h h2 (by omega)
      have h4 := h.win (i := j) (by omega)
      omega
    · exact h1

/-- window i has place k -/
def Tab.has (t : Tab) (i : Nat) (k : Int) : Prop := t.F i ≤ k ∧ k < t.F i + t.K i
instance (t : Tab) (i : Nat) (k : Int) : Decidable (t.has i k) := by unfold Tab.has; exact inferInstance
/-- the last of the first m windows that has a place; -1: none -/
def Tab.lastOf (t : Tab) : Nat → Int → Int
  | 0, _ => -1
  | m + 1, k => if t.has m k then m else t.lastOf m k
/-- the window that has a place; -1: none -/
def Tab.at_ (t : Tab) (k : Int) : Int := t.lastOf t.n k
theorem Tab.lastOf_spec (t : Tab) (k : Int) : ∀ m : Nat, (t.lastOf m k = -1 ∧ ∀ i, i < m → ¬ t.has i k) ∨ ∃ i, i < m ∧ t.lastOf m k = (i : Int) ∧ t.has i k
  | 0 => .inl ⟨rfl, fun i hi => absurd hi (Nat.not_lt_zero _)⟩
  | m + 1 => by
    unfold Tab.lastOf
    by_cases h : t.has m k
    · rw [if_pos h]; exact .inr ⟨m, Nat.lt_succ_self _, rfl, h⟩
    · rw [if_neg h]
      rcases Tab.lastOf_spec t k m with ⟨h1, h2⟩ | ⟨i, h1, h2, h3⟩
      · exact .inl ⟨h1, fun i hi => by
          rcases Nat.lt_or_eq_of_le (Nat.le_of_lt_succ hi) with h4 | rfl
          · exact h2 i h4
          · exact h⟩
      · exact .inr ⟨i, by omega, h2, h3⟩
theorem Tab.Ok.uniq {t : Tab} (h : t.Ok) {i j : Nat} {k : Int} (hi : i < t.n) (hj : j < t.n) (h1 : t.has i k) (h2 : t.has j k) : i = j := by
  obtain ⟨a1, a2⟩ := h1
  obtain ⟨b1, b2⟩ := h2
  rcases Nat.lt_trichotomy i j with h3 | h3 | h3
  · have := h.sorted h3 hj; omega
  · exact h3
  · have := h.sorted h3 hi; omega
theorem Tab.Ok.at_eq {t : Tab} (h : t.Ok) {i : Nat} {k : Int} (hi : i < t.n) (h1 : t.has i k) : t.at_ k = (i : Int) := by
  rcases t.lastOf_spec k t.n with ⟨_, h2⟩ | ⟨j, hj, h2, h3⟩
  · exact absurd h1 (h2 i hi)
  · rw [h.uniq hi hj h1 h3]; exact h2
theorem Tab.at_none {t : Tab} {k : Int} (h : ∀ i, i < t.n → ¬ t.has i k) : t.at_ k = -1 := by
  rcases t.lastOf_spec k t.n with ⟨h2, _⟩ | ⟨j, hj, _, h3⟩
  · exact h2
  · exact absurd h3 (h j hj)
theorem Tab.at_range (t : Tab) (k : Int) : -1 ≤ t.at_ k ∧ t.at_ k < t.n := by
  rcases t.lastOf_spec k t.n with ⟨h2, _⟩ | ⟨j, hj, h2, _⟩
  · unfold Tab.at_; omega
  · unfold Tab.at_; omega
/-- whose turn a place is; -1: nobody's -/
def Tab.who (t : Tab) (k : Int) : Int := if 0 ≤ t.at_ k then t.P (t.at_ k).toNat else -1
/-- is a place a partition's turn? -/
def Tab.turn (t : Tab) (part : Int) (k : Int) : Prop := 0 ≤ t.at_ k ∧ t.P (t.at_ k).toNat = part
instance (t : Tab) (part : Int) (k : Int) : Decidable (t.turn part k) := by unfold Tab.turn; exact inferInstance

/-- what the first m windows give to a partition below a place -/
def Tab.sumTo (t : Tab) (part place : Int) : Nat → Int
  | 0 => 0
  | m + 1 => t.sumTo part place m + (if t.P m = part then max 0 (min (t.K m) (place - t.F m)) else 0)
def Tab.below (t : Tab) (part place : Int) : Int := t.sumTo part place t.n
theorem Tab.Ok.sum_step {t : Tab} (h : t.Ok) (part : Int) (k : Int) : ∀ m : Nat, m ≤ t.n →
    t.sumTo part (k + 1) m = t.sumTo part k m + (if 0 ≤ t.lastOf m k ∧ t.P (t.lastOf m k).toNat = part then 1 else 0)
  | 0, _ => by simp [Tab.sumTo, Tab.lastOf]
  | m + 1, hm => by
    have ih := Tab.Ok.sum_step h part k m (by omega)
    have hw := h.win (i := m) (by omega)
    unfold Tab.sumTo Tab.lastOf
    rw [ih]
    by_cases hh : t.has m k
    · rw [if_pos hh]
      have hlast : t.lastOf m k = -1 := by
        rcases t.lastOf_spec k m with ⟨h2, _⟩ | ⟨j, hj, _, h3⟩
        · exact h2
        · have := h.uniq (by omega) (by omega) hh h3; omega
      rw [hlast]
      obtain ⟨a1, a2⟩ := hh
      have e0 : (0 ≤ (m : Int) ∧ t.P (m : Int).toNat = part) ↔ t.P m = part := ⟨fun e => e.2, fun e => ⟨by omega, e⟩⟩
      by_cases hp : t.P m = part
      · rw [if_pos hp, if_pos hp, if_pos (e0.2 hp), if_neg (by omega)]; omega
      · rw [if_neg hp, if_neg hp, if_neg (fun e => hp (e0.1 e)), if_neg (by omega)]
    · rw [if_neg hh]
      by_cases hp : t.P m = part
      · rw [if_pos hp, if_pos hp]
        have : max 0 (min (t.K m) (k + 1 - t.F m)) = max 0 (min (t.K m) (k - t.F m)) := by
          by_cases a : t.F m ≤ k
          · have : ¬ k < t.F m + t.K m := fun b => hh ⟨a, b⟩
            omega
          · omega
        rw [this]; omega
      · rw [if_neg hp, if_neg hp]; omega
theorem Tab.Ok.below_step {t : Tab} (h : t.Ok) (part k : Int) : t.below part (k + 1) = t.below part k + (if t.turn part k then 1 else 0) := by
  unfold Tab.below Tab.turn Tab.at_
  exact h.sum_step part k t.n (Nat.le_refl _)
theorem Tab.Ok.below_zero {t : Tab} (h : t.Ok) (part : Int) : t.below part 0 = 0 := by
  have : ∀ m : Nat, m ≤ t.n → t.sumTo part 0 m = 0 := by
    intro m
    induction m with
    | zero => intro _; rfl
    | succ m ih =>
      intro hm
      have hw := h.win (i := m) (by omega)
      unfold Tab.sumTo
      rw [ih (by omega)]
      split <;> omega
  exact this t.n (Nat.le_refl _)
theorem Tab.Ok.below_le {t : Tab} (h : t.Ok) (part : Int) (k : Nat) : 0 ≤ t.below part k ∧ t.below part k ≤ k := by
  induction k with
  | zero => rw [show ((0 : Nat) : Int) = 0 from rfl, h.below_zero]; omega
  | succ k ih =>
    rw [show ((k + 1 : Nat) : Int) = (k : Int) + 1 by omega, h.below_step]
    split <;> omega
theorem Tab.sum_bound {t : Tab} (h : t.Ok) (part place : Int) : ∀ m : Nat, m ≤ t.n → 0 ≤ t.sumTo part place m ∧ t.sumTo part place m ≤ m * 256
  | 0, _ => by simp [Tab.sumTo]
  | m + 1, hm => by
    have ih := Tab.sum_bound h part place m (by omega)
    have hw := h.win (i := m) (by omega)
    have hT := h.T2
    unfold Tab.sumTo
    split <;> omega

/-- the turns below a tick -/
def Tab.turns (t : Tab) (part : Int) (x : Nat) : Int := (x / t.T.toNat : Nat) * t.below part t.T + t.below part (x % t.T.toNat : Nat)
theorem Tab.Ok.turns_step {t : Tab} (h : t.Ok) (part : Int) (x : Nat) : t.turns part (x + 1) = t.turns part x + (if t.turn part (x % t.T.toNat : Nat) then 1 else 0) := by
  have hT : 0 < t.T.toNat := by have := h.T1; omega
  have hTT : ((t.T.toNat : Nat) : Int) = t.T := by have := h.T1; omega
  unfold Tab.turns
  by_cases hx : x % t.T.toNat + 1 = t.T.toNat
  · have e1 : (x + 1) / t.T.toNat = x / t.T.toNat + 1 := by
      have := Nat.div_add_mod x t.T.toNat
      rw [show x + 1 = t.T.toNat * (x / t.T.toNat + 1) by rw [Nat.mul_add]; omega, Nat.mul_div_cancel_left _ hT]
    have e2 : (x + 1) % t.T.toNat = 0 := by
      have := Nat.div_add_mod x t.T.toNat
      rw [show x + 1 = t.T.toNat * (x / t.T.toNat + 1) by rw [Nat.mul_add]; omega, Nat.mul_mod_right]
    rw [e1, e2, show ((0 : Nat) : Int) = 0 from rfl, h.below_zero]
    have := h.below_step part ((x % t.T.toNat : Nat) : Int)
    rw [show ((x % t.T.toNat : Nat) : Int) + 1 = t.T by omega] at this
    rw [show ((x / t.T.toNat + 1 : Nat) : Int) = ((x / t.T.toNat : Nat) : Int) + 1 by omega, Int.add_mul]
    omega
  · have hlt := Nat.mod_lt x hT
    have e1 : (x + 1) / t.T.toNat = x / t.T.toNat := by
      rw [Nat.div_eq_iff hT]
      have := Nat.div_add_mod x t.T.toNat
      rw [Nat.mul_comm] at this
      omega
    have e2 : (x + 1) % t.T.toNat = x % t.T.toNat + 1 := by
      have a := Nat.div_add_mod x t.T.toNat
      have b := Nat.div_add_mod (x + 1) t.T.toNat
      rw [e1] at b
      omega
    rw [e1, e2]
    have := h.below_step part ((x % t.T.toNat : Nat) : Int)
    rw [show ((x % t.T.toNat + 1 : Nat) : Int) = ((x % t.T.toNat : Nat) : Int) + 1 by omega, this]
    omega
theorem Tab.Ok.turns_le {t : Tab} (h : t.Ok) (part : Int) (x : Nat) : 0 ≤ t.turns part x ∧ t.turns part x ≤ x := by
  induction x with
  | zero => unfold Tab.turns; rw [Nat.zero_div, Nat.zero_mod, show ((0 : Nat) : Int) = 0 from rfl, h.below_zero]; omega
  | succ x ih => rw [h.turns_step]; split <;> omega
theorem Tab.Ok.turns_round {t : Tab} (h : t.Ok) (part : Int) (x : Nat) : t.turns part (x + t.T.toNat) = t.turns part x + t.below part t.T := by
  have hT : 0 < t.T.toNat := by have := h.T1; omega
  unfold Tab.turns
  rw [Nat.add_div_right _ hT, Nat.add_mod_right, show ((x / t.T.toNat).succ : Int) = ((x / t.T.toNat : Nat) : Int) + 1 by omega, Int.add_mul]
  omega
theorem Tab.Ok.turns_mono {t : Tab} (h : t.Ok) (part : Int) (x d : Nat) : t.turns part x ≤ t.turns part (x + d) := by
  induction d with
  | zero => exact Int.le_refl _
  | succ d ih => rw [← Nat.add_assoc, h.turns_step]; split <;> omega
theorem Tab.Ok.turns_none {t : Tab} (h : t.Ok) (part : Int) (x : Nat) : ∀ d : Nat, (∀ j, j < d → ¬ t.turn part ((x + j) % t.T.toNat : Nat)) → t.turns part (x + d) = t.turns part x
  | 0, _ => rfl
  | d + 1, hn => by
    rw [← Nat.add_assoc, h.turns_step, if_neg (hn d (Nat.lt_succ_self _)), Tab.Ok.turns_none h part x d fun j hj => hn j (by omega)]
    omega
end Go.Proofs.YtkcjjogekkldkaaDoor
