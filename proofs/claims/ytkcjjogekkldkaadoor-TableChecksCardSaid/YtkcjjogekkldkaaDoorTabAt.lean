/- sort.Search at table.at's closure, and table.at, walked. -/
import Derived.Test.YtkcjjogekkldkaaDoorTabWalk
namespace Go.Proofs.YtkcjjogekkldkaaDoor
open Go.RowKit

/-- Search's answer: a place before which the test fails and at which it holds -/
def SearchPost (n : Nat) (pred : Nat → Bool) (w : World) (e : Ending) (w' : World) : Prop := ∃ r : Nat, e = .returned (.int .i64 r) ∧ r ≤ n ∧ (0 < r → pred (r - 1) = false) ∧ (r < n → pred r = true) ∧ Q w w'
set_option maxRecDepth 100000 in
theorem search_any (n : Nat) (pred : Nat → Bool) (p1 p2 : Value) (w : World) (hn : n ≤ 1000)
    (hclo : ∀ W, Q w W → ∀ h : Nat, h < n → Calls Tryd.prog 26 #[.int .i64 h, p1, p2] W fun e W' => e = .returned (.bool (pred h)) ∧ Q W W') :
    Calls Tryd.prog 25 #[.int .i64 n, .func (.func 26) #[] #[p1, p2]] w (SearchPost n pred w) := by
  have hclo' := hide hclo
  clear hclo
  go_enter Tryd.func25, Tryd.ntmps25
  go_wp2_with fail
  go_loopw [5, 6] (fun i j wr => ∃ a b : Nat, a ≤ b ∧ b ≤ n ∧ i = .int .i64 a ∧ j = .int .i64 b ∧ (0 < a → pred (a - 1) = false) ∧ (b < n → pred b = true) ∧ Q w wr) (fun i j _ => (intOf j).toNat - (intOf i).toNat)
  case atStart => exact ⟨0, n, Nat.zero_le _, Nat.le_refl _, rfl, rfl, fun h => absurd h (Nat.lt_irrefl _), fun h => absurd h (Nat.lt_irrefl _), Q.refl _⟩
  case round =>
    obtain ⟨a, b, hab, hbn, rfl, rfl, h1, h2, hq⟩ := hrel
    by_cases hlt : a < b
    · have h1' := hide h1
      have h2' := hide h2
      have hq' := hide hq
      clear h1 h2 hq
      obtain ⟨h, hh⟩ : ∃ h, h = (a + b) / 2 := ⟨_, rfl⟩
      have hc := hclo'.out _ hq'.out h (by omega)
      have hhI : (h : Int) = ((a : Int) + (b : Int)) / 2 := by omega
      rw [hhI] at hc
      have hh1 : a ≤ h := by omega
      have hh2 : h < b := by omega
      have hhI' := hide hhI
      clear hh hhI
      cases hp : pred h with
      | true =>
        rw [hp] at hc
        have hc' := hide hc
        clear hc
        go_wp2_with fail
        refine hc'.out.mono ?_
        rintro e w1 ⟨rfl, hq1⟩
        have hq1' := hide hq1
        clear hq1
        have hp' := hide hp
        clear hp
        go_wp2_with fail
        go_roundw
        case rel => exact ⟨a, h, hh1, by omega, rfl, by rw [hhI'.out], h1'.out, fun _ => hp'.out, hq'.out.trans hq1'.out⟩
        case measure => simp [intOf]; have := hhI'.out; omega
      | false =>
        rw [hp] at hc
        have hc' := hide hc
        clear hc
        go_wp2_with fail
        refine hc'.out.mono ?_
        rintro e w1 ⟨rfl, hq1⟩
        have hq1' := hide hq1
        clear hq1
        have hp' := hide hp
        clear hp
        go_wp2_with fail
        go_roundw
        case rel => exact ⟨h + 1, b, by omega, hbn, by rw [← hhI'.out]; go_num, rfl, fun _ => hp'.out, h2'.out, hq'.out.trans hq1'.out⟩
        case measure => simp [intOf]; have := hhI'.out; omega
    · go_wp2_with fail
      go_ret
      obtain rfl : a = b := by omega
      exact ⟨a, rfl, hbn, h1, h2, hq⟩

set_option maxRecDepth 100000 in
/-- the closure of at: does window h end behind the place? -/
theorem closure_any (t : Tab) (hok : t.Ok) (A : Option Addr) (c : Nat) (place : Int) (p1 p2 : Nat) (w : World) (h : TabV w A c t) (hp : 0 ≤ place ∧ place < t.T)
    (c1 : w.cell? ⟨p1, 1, none⟩ = some (.slice A t.n c)) (c2 : w.cell? ⟨p2, 0, none⟩ = some (.int .i64 place)) (k : Nat) (hk : k < t.n) :
    Calls Tryd.prog 26 #[.int .i64 k, .pointer (some ⟨p1, 0, none⟩), .pointer (some ⟨p2, 0, none⟩)] w fun e w' => e = .returned (.bool (decide (place < t.F k + t.K k))) ∧ Q w w' := by
  obtain ⟨b, off, rfl, hr⟩ := h.rows (by omega)
  have r1 := hr.f k hk
  have r2 := hr.k k hk
  have hw := hok.win hk
  have hT := hok.T2
  have hkI : (k : Int) < (t.n : Int) := by omega
  clear hr h hok
  generalize t.F k = f at *
  generalize t.K k = q at *
  obtain ⟨_, _, b1, b2, b3⟩ := hw
  have hs : IntKind.i64.wrap (f + q) = f + q := IntWalk.i64_in _ (by omega)
  go_enter Tryd.func26, Tryd.ntmps26
  go_wp2_with fail
  go_quiet (fail)
  go_wp2_with fail
  go_ret
  exact ⟨rfl, _, rfl⟩
theorem Tab.Ok.search_at {t : Tab} (h : t.Ok) (place : Int) (r : Nat) (hr : r ≤ t.n) (h1 : 0 < r → ¬ place < t.F (r - 1) + t.K (r - 1)) (h2 : r < t.n → place < t.F r + t.K r) :
    (r < t.n → t.F r ≤ place → t.at_ place = (r : Int)) ∧ ((r < t.n → ¬ t.F r ≤ place) → t.at_ place = -1) := by
  have hlo : ∀ i, i < r → ¬ t.has i place := by
    intro i hi hh
    obtain ⟨_, a2⟩ := hh
    have := h1 (by omega)
    rcases Nat.lt_or_ge i (r - 1) with h3 | h3
    · have h4 := h.sorted h3 (by omega)
      have h5 := h.win (i := r - 1) (by omega)
      omega
    · obtain rfl : i = r - 1 := by omega
      exact this a2
  refine ⟨fun hrn hf => h.at_eq hrn ⟨hf, h2 hrn⟩, fun hf => Tab.at_none fun i hi hh => ?_⟩
  rcases Nat.lt_trichotomy i r with h3 | h3 | h3
  · exact hlo i h3 hh
  · subst h3; exact hf hi hh.1
  · have h4 := h.sorted h3 hi
    have h5 := h2 (by omega)
    obtain ⟨a1, _⟩ := hh
    omega

set_option maxRecDepth 100000 in
set_option maxHeartbeats 1000000 in
theorem at_any (t : Tab) (hok : t.Ok) (A : Option Addr) (c : Nat) (place : Int) (w : World) (h : TabV w A c t) (hp : 0 ≤ place ∧ place < t.T) :
    Calls Tryd.prog 18 #[.agg #[.int .i64 t.T, .slice A t.n c], .int .i64 place] w fun e w' => e = .returned (.int .i64 (t.at_ place)) ∧ Below w.heap.size w w' := by
  have hok' := hide hok
  have h' := hide h
  have hp' := hide hp
  have hn32 := hok.n32
  clear hok h hp
  go_enter Tryd.func18, Tryd.ntmps18
  go_wp2_with fail
  have hb0 : Below w.heap.size w ((w.alloc (.cells #[.int .i64 t.T, .slice A t.n c] 24)).alloc (.cells #[.int .i64 place] 3)) := ((Below.refl _ _).alloc (Nat.le_refl _) _).alloc (by simp) _
  have c1 : ((w.alloc (.cells #[.int .i64 t.T, .slice A t.n c] 24)).alloc (.cells #[.int .i64 place] 3)).cell? ⟨w.heap.size, 1, none⟩ = some (.slice A t.n c) := by simp [go_sem]
  have c2 : ((w.alloc (.cells #[.int .i64 t.T, .slice A t.n c] 24)).alloc (.cells #[.int .i64 place] 3)).cell? ⟨w.heap.size + 1, 0, none⟩ = some (.int .i64 place) := by simp [go_sem]
  generalize (w.alloc (.cells #[.int .i64 t.T, .slice A t.n c] 24)).alloc (.cells #[.int .i64 place] 3) = W1 at *
  have hV := h'.out.below hb0
  have hV' := hide hV
  have hb0' := hide hb0
  have hs := search_any t.n (fun k => decide (place < t.F k + t.K k)) (.pointer (some ⟨w.heap.size, 0, none⟩)) (.pointer (some ⟨w.heap.size + 1, 0, none⟩)) W1 (by omega)
    (fun W hQ k hk => closure_any t hok'.out A c place w.heap.size (w.heap.size + 1) W (hV'.out.below (hQ.below _)) hp'.out (by rw [hQ.cell]; exact c1) (by rw [hQ.cell]; exact c2) k hk)
  have hs' := hide hs
  clear hs hV hb0
  refine hs'.out.mono ?_
  rintro e w1 ⟨r, rfl, hr, h1, h2, hQ⟩
  obtain ⟨m, rfl⟩ := hQ
  obtain ⟨k1, k2⟩ := hok'.out.search_at place r hr (fun h => of_decide_eq_false (h1 h)) (fun h => of_decide_eq_true (h2 h))
  have k1' := hide k1
  have k2' := hide k2
  clear h1 h2 hs' k1 k2
  by_cases hrn : r < t.n
  · obtain ⟨b, off, rfl, hrw⟩ := hV'.out.rows (by omega)
    have r1 := hrw.f r hrn
    have hrnI : (r : Int) < (t.n : Int) := by omega
    clear hrw
    by_cases hf : t.F r ≤ place
    · have hd : decide (t.F r ≤ place) = true := decide_eq_true hf
      have hat := hide (k1'.out hrn hf)
      clear k1' k2'
      generalize t.F r = f at *
      go_wp2_with fail
      go_quiet (fail)
      go_wp2_with fail
      go_ret
      exact ⟨by rw [hat.out]; rfl, hb0'.out.trans ((Q.drewN (Q.drewN (Q.refl _) _) _).below _)⟩
    · have hd : decide (t.F r ≤ place) = false := decide_eq_false hf
      have hat := hide (k2'.out (fun _ => hf))
      clear k1' k2'
      generalize t.F r = f at *
      go_wp2_with fail
      go_quiet (fail)
      go_wp2_with fail
      go_ret
      exact ⟨by rw [hat.out]; rfl, hb0'.out.trans ((Q.drewN (Q.drewN (Q.refl _) _) _).below _)⟩
  · have hd : decide (r < t.n) = false := decide_eq_false hrn
    have hd2 : decide ((r : Int) < (t.n : Int)) = false := decide_eq_false (by omega)
    have hat := hide (k2'.out (fun h => absurd h hrn))
    clear k1' k2'
    go_wp2_with fail
    go_quiet (fail)
    go_wp2_with fail
    go_ret
    exact ⟨by rw [hat.out]; rfl, hb0'.out.trans ((Q.drewN (Q.drewN (Q.refl _) _) _).below _)⟩
end Go.Proofs.YtkcjjogekkldkaaDoor
