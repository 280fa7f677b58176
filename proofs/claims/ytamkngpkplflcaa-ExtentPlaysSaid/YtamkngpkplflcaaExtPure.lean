/- The walks of extent.meet, Apart, Place, Lies and of the document's answers beside them: they compute, and leave the memory as it was. -/
import Derived.Test.YtamkngpkplflcaaBase
namespace Go.Proofs.Ytamkngpkplflcaa
open Go.RowKit

def meetV (f c g d : Int) : Bool := decide (1 ≤ c ∧ 1 ≤ d ∧ f < g + d ∧ g < f + c)
theorem meetV_comm (f c g d : Int) : meetV f c g d = meetV g d f c := by
  unfold meetV
  exact decide_eq_decide.2 (by omega)

def apartV (n : Nat) (F G : Nat → Int) : Prop := ∀ i, i < n → ∀ j, j < i → meetV (F i) (G i) (F j) (G j) = false
instance (n : Nat) (F G : Nat → Int) : Decidable (apartV n F G) := inferInstanceAs (Decidable (∀ i, i < n → ∀ j, j < i → _))

def placeV (f c i : Int) : Int × Int := if i < 0 ∨ c ≤ i ∨ (0 < f ∧ 9223372036854775807 - f < i) then (0, 4) else (f + i, 0)
def liesV (f c s : Int) : Bool := decide (1 ≤ c ∧ 0 ≤ f ∧ c ≤ s ∧ f ≤ s - c)

theorem u64_sub (a b : Int) (ha : I64 a) (hb : I64 b) (h : b ≤ a) : IntKind.u64.wrap (IntKind.u64.wrap a - IntKind.u64.wrap b) = a - b := by
  unfold I64 at ha hb
  simp only [IntKind.wrap, IntKind.bits, IntKind.signed]
  simp
  omega

set_option maxHeartbeats 400000 in
theorem meet_any (f c g d : Int) (w : World) (hf : I64 f) (hc : I64 c) (hg : I64 g) (hd : I64 d) :
    Calls Try.prog 48 #[.agg #[.int .i64 f, .int .i64 c], .agg #[.int .i64 g, .int .i64 d]] w fun e w' => e = .returned (.bool (meetV f c g d)) ∧ Below w.heap.size w w' := by
  have hsub := u64_sub f g hf hg
  have hsub' := u64_sub g f hg hf
  obtain ⟨hf1, hf2⟩ := hf
  obtain ⟨hc1, hc2⟩ := hc
  obtain ⟨hg1, hg2⟩ := hg
  obtain ⟨hd1, hd2⟩ := hd
  go_enter Try.func48, Try.ntmps48
  by_cases h1 : c < 1
  · clear hsub hsub'
    go_wp2
    go_ret
    refine ⟨ret_false (by omega), ?_⟩
    repeat (first | exact Below.refl _ _ | (refine Below.alloc ?_ (by simp) _) | (refine Below.setCell ?_ (by simp) _))
  by_cases h2 : d < 1
  · clear hsub hsub'
    go_wp2
    go_ret
    refine ⟨ret_false (by omega), ?_⟩
    repeat (first | exact Below.refl _ _ | (refine Below.alloc ?_ (by simp) _) | (refine Below.setCell ?_ (by simp) _))
  by_cases h3 : g < f
  · replace hsub := hsub (by omega)
    clear hsub'
    have H := hide hsub
    clear hsub
    go_wp2
    go_ret
    refine ⟨by simp only [H.out]; exact ret_bool_iff (by omega), ?_⟩
    repeat (first | exact Below.refl _ _ | (refine Below.alloc ?_ (by simp) _) | (refine Below.setCell ?_ (by simp) _))
  · replace hsub' := hsub' (by omega)
    clear hsub
    have H := hide hsub'
    clear hsub'
    go_wp2
    go_ret
    refine ⟨by simp only [H.out]; exact ret_bool_iff (by omega), ?_⟩
    repeat (first | exact Below.refl _ _ | (refine Below.alloc ?_ (by simp) _) | (refine Below.setCell ?_ (by simp) _))

set_option maxHeartbeats 400000 in
theorem apart_some (b off n c : Nat) (F G : Nat → Int) (w : World) (h : Pairs w w.heap.size b off n F G) (hn : n ≤ c) (hc : c ≤ 9223372036854775807) :
    Calls Try.prog 11 #[.slice (some ⟨b, off, none⟩) n c] w fun e w' => e = .returned (.bool (decide (apartV n F G))) ∧ Below w.heap.size w w' := by
  go_enter Try.func11, Try.ntmps11
  go_wp2
  go_loopw [9] (fun i wr => ∃ k : Nat, k ≤ n ∧ i = .int .i64 k ∧ Below w.heap.size w wr ∧ apartV k F G) (fun i _ => n - (intOf i).toNat)
  case atStart => exact ⟨0, by omega, rfl, Below.refl _ _, fun i hi => absurd hi (by omega)⟩
  case round =>
    obtain ⟨k, hk, rfl, hb, hall⟩ := hrel
    have hall' := hide hall
    clear hall
    by_cases hlt : k < n
    · have c0 := h.cell0 k hlt
      have c1 := h.cell1 k hlt
      have hbn := h.lt (by omega)
      rw [← hb.cell (p := ⟨b, off + k*2, none⟩) hbn] at c0
      rw [← hb.cell (p := ⟨b, off + k*2+1, none⟩) hbn] at c1
      go_wp2_with fail
      obtain ⟨wo, hwo⟩ : ∃ wo : World, wo = wr.alloc (Obj.cells #[Value.int IntKind.i64 (F k), Value.int IntKind.i64 (G k)] 25) := ⟨_, rfl⟩
      have hbo : Below w.heap.size w wo := hwo ▸ hb.alloc hb.size _
      have hc0 : wo.cell? ⟨wr.heap.size, 0, none⟩ = some (.int .i64 (F k)) := by rw [hwo]; simp [go_sem]
      have hc1 : wo.cell? ⟨wr.heap.size, 1, none⟩ = some (.int .i64 (G k)) := by rw [hwo]; simp [go_sem]
      have hso : wr.heap.size < wo.heap.size := by rw [hwo]; simp
      rw [← hwo]
      have hbb : w.heap.size ≤ wr.heap.size := hb.size
      clear hwo c0 c1 hb
      generalize wr.heap.size = bo at *
      clear wr
      go_loopw [18] (fun i wr => ∃ j : Nat, j ≤ k ∧ i = .int .i64 j ∧ Below wo.heap.size wo wr ∧ ∀ j', j' < j → meetV (F k) (G k) (F j') (G j') = false) (fun i _ => k - (intOf i).toNat)
      case atStart => exact ⟨0, by omega, rfl, Below.refl _ _, by omega⟩
      case round =>
        obtain ⟨j, hj, rfl, hbi, hin⟩ := hrel
        have hin' := hide hin
        clear hin
        have hbw := hbi.size
        have hbx : Below w.heap.size w wr := hbo.trans (hbi.mono hbo.size)
        by_cases hlt2 : j < k
        · have c0 := h.cell0 j (by omega)
          have c1 := h.cell1 j (by omega)
          rw [← hbx.cell (p := ⟨b, off + j*2, none⟩) hbn] at c0
          rw [← hbx.cell (p := ⟨b, off + j*2+1, none⟩) hbn] at c1
          rw [← hbi.cell (p := ⟨bo, 0, none⟩) hso] at hc0
          rw [← hbi.cell (p := ⟨bo, 1, none⟩) hso] at hc1
          have wfk := h.wf k hlt
          have wfj := h.wf j (by omega)
          have hne : bo < wr.heap.size := by omega
          cases hm : meetV (F k) (G k) (F j) (G j) with
          | true =>
            have hm' := hide hm
            clear hm
            go_wp2_with (go_at_call 48; refine (meet_any _ _ _ _ _ wfk.1 wfk.2 wfj.1 wfj.2).mono ?_; rintro e w1 ⟨rfl, hb1⟩; rw [hm'.out])
            go_ret
            exact ⟨ret_false (fun hh => by have := hh k hlt j hlt2; rw [hm'.out] at this; cases this),
              hbx.trans ((((Below.refl _ wr).alloc (by omega) _).trans (hb1.mono (by simp; omega))).mono (by omega))⟩
          | false =>
            have hm' := hide hm
            clear hm
            go_wp2_with (go_at_call 48; refine (meet_any _ _ _ _ _ wfk.1 wfk.2 wfj.1 wfj.2).mono ?_; rintro e w1 ⟨rfl, hb1⟩; rw [hm'.out])
            go_roundw
            case rel =>
              refine ⟨j + 1, by omega, by go_num, hbi.trans (((Below.refl _ wr).alloc (by omega) _).trans (hb1.mono (by simp; omega))), fun j' hj' => ?_⟩
              by_cases e : j' = j
              · subst e; exact hm'.out
              · exact hin'.out j' (by omega)
            case measure => simp [intOf]; omega
        · have : j = k := by omega
          subst this
          go_wp2
          go_roundw
          case rel =>
            refine ⟨j + 1, by omega, by go_num, hbx, fun i hi => ?_⟩
            by_cases e : i = j
            · subst e; exact hin'.out
            · exact hall'.out i (by omega)
          case measure => simp [intOf]; omega
    · go_wp2
      go_ret
      exact ⟨ret_true (by have : k = n := by omega
                          subst this; exact hall'.out), hb⟩

theorem apart_zero (A : Option Addr) (c : Nat) (w : World) (F G : Nat → Int) :
    Calls Try.prog 11 #[.slice A 0 c] w fun e w' => e = .returned (.bool (decide (apartV 0 F G))) ∧ Below w.heap.size w w' := by
  go_enter Try.func11, Try.ntmps11
  go_wp2
  go_loopw [9] (fun i wr => i = .int .i64 0 ∧ wr = w) (fun _ _ => 0)
  case atStart => exact ⟨rfl, rfl⟩
  case round =>
    obtain ⟨rfl, rfl⟩ := hrel
    go_wp2
    go_ret
    exact ⟨ret_true (fun i hi => absurd hi (by omega)), Below.refl _ _⟩

theorem place_any (f c i : Int) (w : World) (hf : I64 f) (hc : I64 c) (hi : I64 i) :
    Calls Try.prog 14 #[.agg #[.int .i64 f, .int .i64 c], .int .i64 i] w fun e w' => e = .returned (.tuple #[.int .i64 (placeV f c i).1, .int .i64 (placeV f c i).2]) ∧ Below w.heap.size w w' := by
  obtain ⟨hf1, hf2⟩ := hf
  obtain ⟨hi1, hi2⟩ := hi
  obtain ⟨hc1, hc2⟩ := hc
  have hno : (i < 0 ∨ c ≤ i ∨ (0 < f ∧ 9223372036854775807 - f < i)) → placeV f c i = (0, 4) := fun h => if_pos h
  have hyes : ¬ (i < 0 ∨ c ≤ i ∨ (0 < f ∧ 9223372036854775807 - f < i)) → placeV f c i = (f + i, 0) := fun h => if_neg h
  by_cases h1 : i < 0
  · rw [hno (by omega)]
    clear hno hyes
    go_enter Try.func14, Try.ntmps14
    go_wp2
    go_ret2
    exact ⟨rfl, (Below.refl _ _).alloc (Nat.le_refl _) _⟩
  by_cases h2 : c ≤ i
  · rw [hno (by omega)]
    clear hno hyes
    go_enter Try.func14, Try.ntmps14
    go_wp2
    go_ret2
    exact ⟨rfl, (Below.refl _ _).alloc (Nat.le_refl _) _⟩
  by_cases h3 : 0 < f
  · by_cases h4 : 9223372036854775807 - f < i
    · rw [hno (by omega)]
      clear hno hyes
      go_enter Try.func14, Try.ntmps14
      go_wp2
      go_ret2
      exact ⟨rfl, (Below.refl _ _).alloc (Nat.le_refl _) _⟩
    · rw [hyes (by omega)]
      clear hno hyes
      go_enter Try.func14, Try.ntmps14
      go_wp2
      go_ret2
      exact ⟨rfl, (Below.refl _ _).alloc (Nat.le_refl _) _⟩
  · rw [hyes (by omega)]
    clear hno hyes
    go_enter Try.func14, Try.ntmps14
    go_wp2
    go_ret2
    exact ⟨rfl, (Below.refl _ _).alloc (Nat.le_refl _) _⟩

theorem lies_any (f c i : Int) (w : World) (hf : I64 f) (hc : I64 c) (hi : I64 i) :
    Calls Try.prog 15 #[.agg #[.int .i64 f, .int .i64 c], .int .i64 i] w fun e w' => e = .returned (.bool (liesV f c i)) ∧ Below w.heap.size w w' := by
  obtain ⟨hf1, hf2⟩ := hf
  obtain ⟨hi1, hi2⟩ := hi
  obtain ⟨hc1, hc2⟩ := hc
  go_enter Try.func15, Try.ntmps15
  by_cases h1 : 1 ≤ c
  · by_cases h2 : 0 ≤ f
    · by_cases h3 : c ≤ i
      · go_wp2
        go_ret
        exact ⟨ret_bool_iff (by omega), (Below.refl _ _).alloc (Nat.le_refl _) _⟩
      · go_wp2
        go_ret
        exact ⟨ret_false (by omega), (Below.refl _ _).alloc (Nat.le_refl _) _⟩
    · go_wp2
      go_ret
      exact ⟨ret_false (by omega), (Below.refl _ _).alloc (Nat.le_refl _) _⟩
  · go_wp2
    go_ret
    exact ⟨ret_false (by omega), (Below.refl _ _).alloc (Nat.le_refl _) _⟩
end Go.Proofs.Ytamkngpkplflcaa
