/- The walks of the document's answers for extents: Meet, Apart, Lies, Place: they compute, and leave the memory as it was. -/
import Derived.Test.YtamkngpkplflcaaExtPure
namespace Go.Proofs.Ytamkngpkplflcaa
open Go.RowKit

theorem refMeet_any (f c g d : Int) (w : World) (hf : I64 f) (hc : I64 c) (hg : I64 g) (hd : I64 d) :
    Calls Try.prog 49 #[.int .i64 f, .int .i64 c, .int .i64 g, .int .i64 d] w fun e w' => e = .returned (.bool (meetV f c g d)) ∧ w' = w := by
  obtain ⟨hf1, hf2⟩ := hf
  obtain ⟨hc1, hc2⟩ := hc
  obtain ⟨hg1, hg2⟩ := hg
  obtain ⟨hd1, hd2⟩ := hd
  by_cases h1 : c < 1
  · go_enter Try.func49, Try.ntmps49
    go_wp2
    go_ret
    exact ⟨ret_false (by omega), rfl⟩
  by_cases h2 : d < 1
  · go_enter Try.func49, Try.ntmps49
    go_wp2
    go_ret
    exact ⟨ret_false (by omega), rfl⟩
  by_cases h3 : f = g
  · subst h3
    go_enter Try.func49, Try.ntmps49
    go_wp2
    go_ret
    exact ⟨ret_true (by omega), rfl⟩
  have hne : (f == g) = false := by simpa using h3
  by_cases h4 : g < f
  · by_cases h5 : g < 0
    · by_cases h6 : 0 ≤ f
      · by_cases h7 : 9223372036854775807 + g < f
        · go_enter Try.func49, Try.ntmps49
          go_wp2
          go_ret
          exact ⟨ret_false (by omega), rfl⟩
        · go_enter Try.func49, Try.ntmps49
          go_wp2
          go_ret
          exact ⟨ret_bool_iff (by omega), rfl⟩
      · go_enter Try.func49, Try.ntmps49
        go_wp2
        go_ret
        exact ⟨ret_bool_iff (by omega), rfl⟩
    · go_enter Try.func49, Try.ntmps49
      go_wp2
      go_ret
      exact ⟨ret_bool_iff (by omega), rfl⟩
  · by_cases h5 : f < 0
    · by_cases h6 : 0 ≤ g
      · by_cases h7 : 9223372036854775807 + f < g
        · go_enter Try.func49, Try.ntmps49
          go_wp2
          go_ret
          exact ⟨ret_false (by omega), rfl⟩
        · go_enter Try.func49, Try.ntmps49
          go_wp2
          go_ret
          exact ⟨ret_bool_iff (by omega), rfl⟩
      · go_enter Try.func49, Try.ntmps49
        go_wp2
        go_ret
        exact ⟨ret_bool_iff (by omega), rfl⟩
    · go_enter Try.func49, Try.ntmps49
      go_wp2
      go_ret
      exact ⟨ret_bool_iff (by omega), rfl⟩

theorem refLies_any (f c s : Int) (w : World) (hf : I64 f) (hc : I64 c) (hs : I64 s) :
    Calls Try.prog 35 #[.int .i64 f, .int .i64 c, .int .i64 s] w fun e w' => e = .returned (.bool (liesV f c s)) ∧ w' = w := by
  obtain ⟨hf1, hf2⟩ := hf
  obtain ⟨hc1, hc2⟩ := hc
  obtain ⟨hs1, hs2⟩ := hs
  go_enter Try.func35, Try.ntmps35
  by_cases h1 : 1 ≤ c
  · by_cases h2 : 0 ≤ f
    · by_cases h3 : f < s
      · go_wp2
        go_ret
        exact ⟨ret_bool_iff (by omega), rfl⟩
      · go_wp2
        go_ret
        exact ⟨ret_false (by omega), rfl⟩
    · go_wp2
      go_ret
      exact ⟨ret_false (by omega), rfl⟩
  · go_wp2
    go_ret
    exact ⟨ret_false (by omega), rfl⟩

theorem refPlace_any (f c i : Int) (w : World) (hf : I64 f) (hc : I64 c) (hi : I64 i) :
    Calls Try.prog 37 #[.int .i64 f, .int .i64 c, .int .i64 i] w fun e w' => e = .returned (.tuple #[.int .i64 (placeV f c i).1, .bool (decide ((placeV f c i).2 = 0))]) ∧ w' = w := by
  obtain ⟨hf1, hf2⟩ := hf
  obtain ⟨hi1, hi2⟩ := hi
  obtain ⟨hc1, hc2⟩ := hc
  have hno : (i < 0 ∨ c ≤ i ∨ (0 < f ∧ 9223372036854775807 - f < i)) → placeV f c i = (0, 4) := fun h => if_pos h
  have hyes : ¬ (i < 0 ∨ c ≤ i ∨ (0 < f ∧ 9223372036854775807 - f < i)) → placeV f c i = (f + i, 0) := fun h => if_neg h
  by_cases h1 : i < 0
  · rw [hno (by omega)]
    clear hno hyes
    go_enter Try.func37, Try.ntmps37
    go_wp2
    go_ret2
    exact ⟨rfl, rfl⟩
  by_cases h2 : c ≤ i
  · rw [hno (by omega)]
    clear hno hyes
    go_enter Try.func37, Try.ntmps37
    go_wp2
    go_ret2
    exact ⟨rfl, rfl⟩
  by_cases h3 : 0 < f
  · by_cases h4 : 9223372036854775807 - f < i
    · rw [hno (by omega)]
      clear hno hyes
      go_enter Try.func37, Try.ntmps37
      go_wp2
      go_ret2
      exact ⟨rfl, rfl⟩
    · rw [hyes (by omega)]
      clear hno hyes
      go_enter Try.func37, Try.ntmps37
      go_wp2
      go_ret2
      exact ⟨rfl, rfl⟩
  · rw [hyes (by omega)]
    clear hno hyes
    go_enter Try.func37, Try.ntmps37
    go_wp2
    go_ret2
    exact ⟨rfl, rfl⟩

set_option maxHeartbeats 400000 in
theorem refApart_some (b off n c : Nat) (F G : Nat → Int) (w : World) (h : Pairs w w.heap.size b off n F G) (hn : n ≤ c) (hc : c ≤ 9223372036854775807) :
    Calls Try.prog 12 #[.slice (some ⟨b, off, none⟩) n c] w fun e w' => e = .returned (.bool (decide (apartV n F G))) ∧ Q w w' := by
  go_enter Try.func12, Try.ntmps12
  go_wp2
  go_loopw [3] (fun i wr => ∃ k : Nat, k ≤ n ∧ i = .int .i64 k ∧ Q w wr ∧ ∀ i, i < k → ∀ j, i < j → j < n → meetV (F i) (G i) (F j) (G j) = false) (fun i _ => n - (intOf i).toNat)
  case atStart => exact ⟨0, by omega, rfl, Q.refl _, fun i hi => absurd hi (by omega)⟩
  case round =>
    obtain ⟨k, hk, rfl, hq, hall⟩ := hrel
    have hall' := hide hall
    clear hall
    by_cases hlt : k < n
    · go_wp2
      go_loopw [4] (fun i wr => ∃ j : Nat, k + 1 ≤ j ∧ j ≤ n ∧ i = .int .i64 j ∧ Q w wr ∧ ∀ j', k < j' → j' < j → meetV (F k) (G k) (F j') (G j') = false) (fun i _ => n - (intOf i).toNat)
      case atStart => exact ⟨k + 1, by omega, by omega, by go_num, hq, by omega⟩
      case round =>
        obtain ⟨j, hj0, hj, rfl, hq2, hin⟩ := hrel
        have hin' := hide hin
        clear hin
        by_cases hlt2 : j < n
        · have c0 := h.cell0 j (by omega)
          have c1 := h.cell1 j (by omega)
          have c2 := h.cell0 k (by omega)
          have c3 := h.cell1 k (by omega)
          rw [← hq2.cell] at c0 c1 c2 c3
          have wfk := h.wf k hlt
          have wfj := h.wf j (by omega)
          have hjn : (j : Int) < n := by omega
          have hkn : (k : Int) < n := by omega
          cases hm : meetV (F k) (G k) (F j) (G j) with
          | true =>
            have hm' := hide hm
            clear hm
            go_wp2_with (fail)
            have hcall : ∀ W : World, Calls Try.prog 49 #[.int .i64 (F k), .int .i64 (G k), .int .i64 (F j), .int .i64 (G j)] W fun e w' => e = .returned (.bool true) ∧ w' = W := fun W => by
              have := refMeet_any (F k) (G k) (F j) (G j) W wfk.1 wfk.2 wfj.1 wfj.2
              rw [hm'.out] at this
              exact this
            go_quiet ((go_at_call 49; exact Calls.quiet_of_same (hcall _)))
            go_wp2
            go_ret
            exact ⟨ret_false (fun hh => by have := hh j hlt2 k (by omega); rw [meetV_comm, hm'.out] at this; cases this), hq2.drewN _⟩
          | false =>
            have hm' := hide hm
            clear hm
            go_wp2_with (fail)
            have hcall : ∀ W : World, Calls Try.prog 49 #[.int .i64 (F k), .int .i64 (G k), .int .i64 (F j), .int .i64 (G j)] W fun e w' => e = .returned (.bool false) ∧ w' = W := fun W => by
              have := refMeet_any (F k) (G k) (F j) (G j) W wfk.1 wfk.2 wfj.1 wfj.2
              rw [hm'.out] at this
              exact this
            go_quiet ((go_at_call 49; exact Calls.quiet_of_same (hcall _)))
            go_wp2
            go_roundw
            case rel =>
              refine ⟨j + 1, by omega, by omega, by go_num, hq2.drewN _, fun j' h1 h2 => ?_⟩
              by_cases e : j' = j
              · subst e; exact hm'.out
              · exact hin'.out j' h1 (by omega)
            case measure => simp [intOf]; omega
        · go_wp2
          go_roundw
          case rel =>
            refine ⟨k + 1, by omega, by go_num, hq2, fun i hi j' h1 h2 => ?_⟩
            by_cases e : i = k
            · subst e; exact hin'.out j' h1 (by omega)
            · exact hall'.out i (by omega) j' h1 h2
          case measure => simp [intOf]; omega
    · go_wp2
      go_ret
      refine ⟨ret_true (fun i hi j hj => ?_), hq⟩
      rw [meetV_comm]
      exact hall'.out j (by omega) i hj hi

theorem refApart_none (w : World) (F G : Nat → Int) :
    Calls Try.prog 12 #[.slice none 0 0] w fun e w' => e = .returned (.bool (decide (apartV 0 F G))) ∧ Q w w' := by
  go_enter Try.func12, Try.ntmps12
  go_wp2
  go_loopw [3] (fun i wr => i = .int .i64 0 ∧ wr = w) (fun _ _ => 0)
  case atStart => exact ⟨rfl, rfl⟩
  case round =>
    obtain ⟨rfl, rfl⟩ := hrel
    go_wp2
    go_ret
    exact ⟨ret_true (fun i hi => absurd hi (by omega)), Q.refl _⟩
end Go.Proofs.Ytamkngpkplflcaa
