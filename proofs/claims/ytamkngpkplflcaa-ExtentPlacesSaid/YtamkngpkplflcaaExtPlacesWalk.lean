/- The law ExtentPlaces, walked: it answers true and leaves the memory that was there as it was. -/
import Derived.Test.YtamkngpkplflcaaExtAwake
namespace Go.Proofs.Ytamkngpkplflcaa
open Go.RowKit

theorem place_cases (f c i : Int) : (∃ n, placeV f c i = (n, 4)) ∨ (placeV f c i = (f + i, 0) ∧ 0 ≤ i ∧ i < c) := by
  unfold placeV
  split
  · exact .inl ⟨_, rfl⟩
  · rename_i h
    exact .inr ⟨rfl, by omega, by omega⟩

set_option maxRecDepth 100000 in
set_option maxHeartbeats 1000000 in
theorem extentPlaces_any (xf xc yf yc a b s : Int) (w : World) (h1 : I64 xf) (h2 : I64 xc) (h3 : I64 yf) (h4 : I64 yc) (h5 : I64 a) (h6 : I64 b) (h7 : I64 s) :
    Calls Try.prog 4 #[.agg #[.int .i64 xf, .int .i64 xc, .int .i64 yf, .int .i64 yc, .int .i64 a, .int .i64 b, .int .i64 s]] w fun e w' => e = .returned (.bool true) ∧ Below w.heap.size w w' := by
  have px := fun W => place_any xf xc a W h1 h2 h5
  have py := fun W => place_any yf yc b W h3 h4 h6
  have aw := awake06
  have ha := fun (W : World) g hg k0 k1 k2 k3 r hr => apart_two xf xc yf yc W g hg k0 k1 k2 k3 h1 h2 h3 h4 r hr
  have hl := fun W => lies_any xf xc s W h1 h2 h7
  have px' := hide px
  have py' := hide py
  have aw' := hide aw
  have ha' := hide ha
  have hl' := hide hl
  clear px py aw ha hl
  rcases place_cases xf xc a with ⟨n, hx⟩ | ⟨hx, hx1, hx2⟩
  · rw [hx] at px'
    rcases place_cases yf yc b with ⟨m, hy⟩ | ⟨hy, hy1, hy2⟩
    all_goals
      rw [hy] at py'
      clear hx hy
      go_enter Try.func4, Try.ntmps4
      go_wp2_with fail
      refine (px'.out _).mono ?_
      rintro e w1 ⟨rfl, hb1⟩
      obtain ⟨hc1, hf1⟩ := bcell hb1
      go_wp2_with fail
      refine (py'.out _).mono ?_
      rintro e w2 ⟨rfl, hb2⟩
      go_wp2_with fail
      refine (aw'.out _).mono ?_
      rintro e w3 ⟨rfl, hb3⟩
      go_wp2_with fail
      go_ret
      have z1 := hb1.size
      have z2 := hb2.size
      simp at z1
      exact ⟨rfl, ((((Below.refl _ w).alloc (by omega) _).trans (hb1.mono (by simp))).trans (hb2.mono (by omega))).trans (hb3.mono (by omega))⟩
  · rw [hx] at px'
    rcases place_cases yf yc b with ⟨m, hy⟩ | ⟨hy, hy1, hy2⟩
    · rw [hy] at py'
      clear hx hy
      go_enter Try.func4, Try.ntmps4
      go_wp2_with fail
      refine (px'.out _).mono ?_
      rintro e w1 ⟨rfl, hb1⟩
      obtain ⟨hc1, hf1⟩ := bcell hb1
      go_wp2_with fail
      refine (py'.out _).mono ?_
      rintro e w2 ⟨rfl, hb2⟩
      go_wp2_with fail
      refine (aw'.out _).mono ?_
      rintro e w3 ⟨rfl, hb3⟩
      go_wp2_with fail
      go_ret
      have z1 := hb1.size
      have z2 := hb2.size
      simp at z1
      exact ⟨rfl, ((((Below.refl _ w).alloc (by omega) _).trans (hb1.mono (by simp))).trans (hb2.mono (by omega))).trans (hb3.mono (by omega))⟩
    · rw [hy] at py'
      clear hx hy
      obtain ⟨n, hn⟩ : ∃ n, n = xf + a := ⟨_, rfl⟩
      obtain ⟨m, hm⟩ : ∃ m, m = yf + b := ⟨_, rfl⟩
      rw [← hn] at px'
      rw [← hm] at py'
      have hr : ∃ r, meetV yf yc xf xc = !r ∧ (r = true → (n != m) = true) := by
        refine ⟨!meetV yf yc xf xc, by simp, fun h => ?_⟩
        rw [bne_iff_ne]
        intro e
        have : meetV yf yc xf xc = true := decide_eq_true (by omega)
        rw [this] at h
        cases h
      have hls : ∃ l, liesV xf xc s = l ∧ (l = true → (decide (0 ≤ n) = true ∧ decide (n < s) = true)) := by
        refine ⟨_, rfl, fun h => ?_⟩
        have := of_decide_eq_true h
        exact ⟨decide_eq_true (by omega), decide_eq_true (by omega)⟩
      obtain ⟨r, hr, hrn⟩ := hr
      obtain ⟨l, hls, hln⟩ := hls
      rw [hls] at hl'
      have hr' := hide hr
      clear hr hls hn hm
      cases r <;> cases l
      all_goals
        first | (have hbne := hrn rfl; clear hrn) | clear hrn
        first | (obtain ⟨hge, hlt⟩ := hln rfl; clear hln) | clear hln
        go_enter Try.func4, Try.ntmps4
        go_wp2_with fail
        refine (px'.out _).mono ?_
        rintro e w1 ⟨rfl, hb1⟩
        obtain ⟨hc1, hf1⟩ := bcell hb1
        have z1 := hb1.size
        simp at z1
        have z1' : w.heap.size < w1.heap.size := by omega
        go_wp2_with fail
        refine (py'.out _).mono ?_
        rintro e w2 ⟨rfl, hb2⟩
        obtain ⟨hc2, hf2⟩ := bcell hb2
        have z2 := hb2.size
        have z2' : w.heap.size < w2.heap.size := by omega
        go_wp2_with fail
        refine (ha'.out _ _ (by simp) (by simp [go_sem]) (by simp [go_sem]) (by simp [go_sem]) (by simp [go_sem]) _ hr'.out).mono ?_
        rintro e w3 ⟨rfl, hb3⟩
        obtain ⟨hc3, hf3⟩ := bcell hb3
        have z3 := hb3.size
        simp at z3
        have z3' : w.heap.size < w3.heap.size := by omega
        have z3'' : w.heap.size < w2.heap.size + 1 := by omega
        go_wp2_with fail
        refine (hl'.out _).mono ?_
        rintro e w4 ⟨rfl, hb4⟩
        obtain ⟨hc4, hf4⟩ := bcell hb4
        have z4 := hb4.size
        have z4' : w.heap.size < w4.heap.size := by omega
        go_wp2_with fail
        refine (aw'.out _).mono ?_
        rintro e w5 ⟨rfl, hb5⟩
        go_wp2_with fail
        go_ret
        exact ⟨rfl, ((((((Below.refl _ w).alloc (by omega) _).trans (hb1.mono (by simp))).trans (hb2.mono (by omega))).trans (((Below.refl _ _).alloc (by omega) _).trans (hb3.mono (by simp; omega)))).trans (hb4.mono (by omega))).trans (hb5.mono (by omega))⟩
end Go.Proofs.Ytamkngpkplflcaa
