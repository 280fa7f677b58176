/- The law CrcPieces walked. -/
import Derived.Test.YtihimcgppifcbaaDoorCrcAwake
import Derived.Test.YtihimcgppifcbaaDoorOpenInts
namespace Go.Proofs.YtihimcgppifcbaaDoor
open Go.RowKit

set_option maxRecDepth 100000 in
set_option maxHeartbeats 1000000 in
theorem crcPieces_any (v : Value) (l : List UInt8) (B : Option Addr) (n c : Nat) (G : Nat → Int) (w : World) (h : Bs w v l) (hi : IntsAt w B n G) (ht : Table w) (hl : l.length ≤ 140737488355328) (hn : n ≤ 9223372036854775807) :
    Calls Tryd.prog 5 #[v, .slice B n c] w fun e w' => e = .returned (.bool true) ∧ Below w.heap.size w w' := by
  obtain ⟨A, cp, rfl, h1, h2, h3⟩ := h.open_
  have h0 : Crc.of_ [] = 0 := by decide +kernel
  have hof := of_any (.slice none 0 0) [] w (Sl.nil _ _) ht
  rw [h0] at hof
  have hof' := hide hof
  clear hof h0
  go_enter Tryd.func5, Tryd.ntmps5
  go_wp2_with fail
  refine hof'.out.mono ?_
  rintro e w' ⟨rfl, rfl⟩
  go_wp2_with fail
  go_loop [5, 6, 7] (fun s d i => ∃ k m : Nat, k ≤ n ∧ m ≤ l.length ∧ i = .int .i64 k ∧ d = .int .i64 m ∧ s = .int .u32 (Crc.on 0 (l.take m))) (fun _ _ i => n - (intOf i).toNat)
  case atStart => exact ⟨0, 0, by omega, by omega, rfl, rfl, by rw [List.take_zero, Crc.on_nil]; rfl⟩
  case round =>
    obtain ⟨k, m, hk, hm, rfl, rfl, rfl⟩ := hrel
    by_cases hlt : k < n ∧ k < 20
    · obtain ⟨hlt1, hlt2⟩ := hlt
      obtain ⟨b', off', rfl, hb', hcell⟩ := hi.1 (by omega)
      have hck := hcell k hlt1
      obtain ⟨hg1, hg2⟩ := hi.2 k
      clear hcell hof'
      have hi' := hide hi
      clear hi
      generalize hGk : G k = x at *
      clear hGk
      by_cases hx : x < 0
      · go_wp2_with fail
        go_round
        case rel => exact ⟨k + 1, m, by omega, by omega, by go_num, rfl, rfl⟩
        case measure => simp [intOf]; omega
      · by_cases hx2 : (l.length : Int) - (m : Int) < x
        · go_wp2_with fail
          go_round
          case rel => exact ⟨k + 1, m, by omega, by omega, by go_num, rfl, rfl⟩
          case measure => simp [intOf]; omega
        · obtain ⟨q, rfl⟩ := Int.eq_ofNat_of_zero_le (show 0 ≤ x by omega)
          have hpc : ∀ v', Bs w' v' ((l.drop m).take q) → Calls Tryd.prog 16 #[.int .u32 (Crc.on 0 (l.take m)), v'] w' fun e W => e = .returned (.int .u32 (Crc.on 0 (l.take (m + q)))) ∧ W = w' := by
            intro v' hv'
            have := on_any (Crc.on 0 (l.take m)) (Crc.on_lt 0 _ (by omega)) v' _ w' hv' ht
            rw [Crc.on_append, ← List.take_add] at this
            exact this
          have hpc' := hide hpc
          have hbs' := hide h
          clear hpc h
          by_cases hcm : cp = m
          · obtain rfl : q = 0 := by omega
            obtain rfl : m = cp := hcm.symm
            clear hcm
            have hb0 := hide (Bs.empty_ w' A 0 (by omega))
            have hb0' : Hid (Bs w' (.slice A 0 0) ((l.drop m).take 0)) := by rw [List.take_zero]; exact hb0.out
            go_wp2_with fail
            refine (hpc'.out _ hb0'.out).mono ?_
            rintro e W ⟨rfl, rfl⟩
            go_wp2_with fail
            go_round
            case rel => exact ⟨k + 1, m, by omega, by omega, by go_num, by go_num, rfl⟩
            case measure => simp [intOf]; omega
          · have hbm := hide (hbs'.out.sub (m := m) (q := q) (by omega))
            go_wp2_with fail
            refine (hpc'.out _ hbm.out).mono ?_
            rintro e W ⟨rfl, rfl⟩
            go_wp2_with fail
            go_round
            case rel => exact ⟨k + 1, m + q, by omega, by omega, by go_num, by go_num, rfl⟩
            case measure => simp [intOf]; omega
    · clear hof'
      have hstop : k = n ∨ (20 ≤ k ∧ k < n) := by omega
      have hpc : ∀ W v', Bs W v' (l.drop m) → Table W → Calls Tryd.prog 16 #[.int .u32 (Crc.on 0 (l.take m)), v'] W fun e W' => e = .returned (.int .u32 (Crc.of_ l)) ∧ W' = W := by
        intro W v' hv' hT
        have := on_any (Crc.on 0 (l.take m)) (Crc.on_lt 0 _ (by omega)) v' _ W hv' hT
        rw [Crc.on_append, List.take_append_drop] at this
        exact this
      have hpc' := hide hpc
      have hoc := hide (fun W hW hT => of_any (.slice A l.length cp) l W hW hT)
      have hbs' := hide h
      have hi' := hide hi
      clear hpc h hi h3
      rcases hstop with rfl | ⟨h20, h20'⟩
      all_goals
        go_wp2_with fail
        refine (awake03 w' ht).mono ?_
        rintro e w2 ⟨rfl, hb2⟩
        have hT2 := hide (ht.below hb2)
        have hB2 := hide (hbs'.out.below hb2)
        by_cases hcm : cp = m
        · obtain rfl : m = cp := hcm.symm
          clear hcm
          have hb0 : Hid (Bs w2 (.slice A 0 0) (l.drop m)) := by
            rw [List.drop_of_length_le (by omega)]
            exact Bs.empty_ w2 A 0 (by omega)
          have hlm : l.length = m := by omega
          rw [hlm] at hoc hB2
          go_wp2_with fail
          refine (hpc'.out _ _ hb0.out hT2.out).mono ?_
          rintro e W ⟨rfl, rfl⟩
          go_wp2_with fail
          refine (hoc.out _ hB2.out hT2.out).mono ?_
          rintro e W ⟨rfl, rfl⟩
          go_wp2_with fail
          go_ret
          exact ⟨rfl, hb2⟩
        · have hb0 : Hid (Bs w2 (.slice (Option.map (fun x => x.add m) A) (l.length - m) (cp - m)) (l.drop m)) := by
            have := hB2.out.sub (m := m) (q := l.length - m) (by omega)
            rw [List.take_of_length_le (by rw [List.length_drop]; omega)] at this
            exact this
          go_wp2_with fail
          refine (hpc'.out _ _ hb0.out hT2.out).mono ?_
          rintro e W ⟨rfl, rfl⟩
          go_wp2_with fail
          refine (hoc.out _ hB2.out hT2.out).mono ?_
          rintro e W ⟨rfl, rfl⟩
          go_wp2_with fail
          go_ret
          exact ⟨rfl, hb2⟩
end Go.Proofs.YtihimcgppifcbaaDoor
