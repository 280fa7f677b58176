/- The law TableRound walked. -/
import Derived.Test.YtkcjjogekkldkaaTabAwake
namespace Go.Proofs.Ytkcjjogekkldkaa
open Go.RowKit

theorem Tab.Ok.who_turn {u : Tab} (h : u.Ok) (part : Int) (q : Int) : (u.turn part q → u.who q = part ∧ 0 ≤ part) ∧ (¬ u.turn part q → u.who q ≠ part ∨ part < 0) := by
  unfold Tab.turn Tab.who
  constructor
  · rintro ⟨h1, h2⟩
    have hr := u.at_range q
    have hw := h.win (i := (u.at_ q).toNat) (by omega)
    rw [if_pos h1]
    exact ⟨h2, by omega⟩
  · intro hn
    by_cases h1 : 0 ≤ u.at_ q
    · rw [if_pos h1]
      exact .inl fun e => hn ⟨h1, e⟩
    · rw [if_neg h1]
      by_cases hp : part < 0
      · exact .inr hp
      · exact .inl (by omega)

set_option maxRecDepth 100000 in
set_option maxHeartbeats 2000000 in
theorem tableRound_any (t : Tab) (A : Option Addr) (c : Nat) (part : Int) (x : Nat) (hx : x < 18446744073709551616) (w : World) (h : TabV w A c t) :
    Calls Try.prog 10 #[.agg #[.int .i64 t.T, .slice A t.n c], .int .i64 part, .int .u64 x] w fun e w' => e = .returned (.bool true) ∧ Below w.heap.size w w' := by
  have h' := hide h
  clear h
  go_enter Try.func10, Try.ntmps10
  go_wp2_with fail
  have hfw : ∀ W, TabV W A c t → Calls Try.prog 23 #[.agg #[.int .i64 t.T, .slice A t.n c]] W fun e w' => e = .returned (.agg #[.int .i64 t.few.T, .slice A t.few.n c]) ∧ Below W.heap.size W w' := fun W hW => few_any t A c W hW
  have hV : TabV w A c t.few := h'.out.few
  generalize t.few = u at *
  refine (hfw _ (h'.out.below ((Below.refl _ _).alloc (Nat.le_refl _) _))).mono ?_
  rintro e w1 ⟨rfl, hb1⟩
  obtain ⟨hc, hf⟩ := bcell hb1
  have hz := hb1.size
  simp at hz
  have hzl : w.heap.size < w1.heap.size := by omega
  have hz2 : w1.cell? ⟨w.heap.size, 0, none⟩ = some (.int .i64 t.T) := by rw [hc _ _ (by simp)]; simp [go_sem]
  have hz3 : w1.cell? ⟨w.heap.size, 1, none⟩ = some (.slice A t.n c) := by rw [hc _ _ (by simp)]; simp [go_sem]
  have hz4 : w1.frozen? ⟨w.heap.size, 0, none⟩ = false := by rw [hf _ _ (by simp)]; simp [go_sem]
  have hz5 : w1.frozen? ⟨w.heap.size, 1, none⟩ = false := by rw [hf _ _ (by simp)]; simp [go_sem]
  have hb1' := hide (((Below.refl _ _).alloc (Nat.le_refl _) _).trans (hb1.mono (B' := w.heap.size) (by simp)))
  have hV' := hide hV
  clear hc hf hb1 hz hfw hV
  go_wp2_with fail
  have hbW := hide ((hb1'.out.setCell (p := ⟨w.heap.size, 0, none⟩) (Nat.le_refl _) (.int .i64 u.T)).setCell (p := ⟨w.heap.size, 1, none⟩) (Nat.le_refl _) (.slice A u.n c))
  have e0 : ((w1.setCell ⟨w.heap.size, 0, none⟩ (.int .i64 u.T)).setCell ⟨w.heap.size, 1, none⟩ (.slice A u.n c)).cell? ⟨w.heap.size, 0, none⟩ = some (.int .i64 u.T) := by simp [go_sem, *]
  have e1 : ((w1.setCell ⟨w.heap.size, 0, none⟩ (.int .i64 u.T)).setCell ⟨w.heap.size, 1, none⟩ (.slice A u.n c)).cell? ⟨w.heap.size, 1, none⟩ = some (.slice A u.n c) := by simp [go_sem, *]
  have hl : w.heap.size < ((w1.setCell ⟨w.heap.size, 0, none⟩ (.int .i64 u.T)).setCell ⟨w.heap.size, 1, none⟩ (.slice A u.n c)).heap.size := by simp [World.setCell]; exact hzl
  generalize ((w1.setCell ⟨w.heap.size, 0, none⟩ (.int .i64 u.T)).setCell ⟨w.heap.size, 1, none⟩ (.slice A u.n c)) = W1 at *
  have hV := hide (hV'.out.below hbW.out)
  clear hz2 hz3 hz4 hz5 hzl hb1' hV'
  have r0 := e0
  have r1 := e1
  have hlr := hl
  have hVr := hV
  have hbw := hbW
  clear e0 e1
  by_cases hok : u.Ok
  · have hok' := hide hok
    clear hok
    refine (check_ok u hok'.out A c _ hVr.out).mono ?_
    rintro e w2 ⟨rfl, hb2⟩
    have hbC := hide hb2
    replace r0 : (w2).cell? ⟨w.heap.size, 0, none⟩ = some (.int .i64 u.T) := (hb2.cell (p := ⟨w.heap.size, 0, none⟩) hlr).trans r0
    replace r1 : (w2).cell? ⟨w.heap.size, 1, none⟩ = some (.slice A u.n c) := (hb2.cell (p := ⟨w.heap.size, 1, none⟩) hlr).trans r1
    replace hVr := hide (hVr.out.below hb2)
    replace hbw := hide (hbw.out.trans (hb2.mono hbw.out.size))
    replace hlr : w.heap.size < (w2).heap.size := Nat.lt_of_lt_of_le hlr hb2.size
    clear hb2
    by_cases hbig : 9223372036854775808 < x
    · have hbI : (9223372036854775808 : Int) < (x : Int) := by omega
      go_wp2_with fail
      refine (awake11 _).mono ?_
      rintro e w9 ⟨rfl, hb2⟩
      replace hbw := hide (hbw.out.trans (hb2.mono hbw.out.size))
      clear hb2
      go_wp2_with fail
      go_ret
      exact ⟨rfl, hbw.out⟩
    · have hbI : ¬ (9223372036854775808 : Int) < (x : Int) := by omega
      have hT1 := hok'.out.T1
      have hT2 := hok'.out.T2
      go_wp2_with fail
      go_loopw [7, 8] (fun d i wr => ∃ j : Nat, j ≤ u.T.toNat ∧ i = .int .i64 j ∧ d = .int .i64 (u.turns part (x + j) - u.turns part x) ∧ Below w2.heap.size w2 wr) (fun _ i _ => u.T.toNat - (intOf i).toNat)
      case atStart => exact ⟨0, by omega, rfl, by rw [Nat.add_zero, Int.sub_self], Below.refl _ _⟩
      case round =>
        obtain ⟨j, hj, rfl, hd, hb⟩ := hrel
        have hb2 := hb
        replace r0 : (wr).cell? ⟨w.heap.size, 0, none⟩ = some (.int .i64 u.T) := (hb2.cell (p := ⟨w.heap.size, 0, none⟩) hlr).trans r0
        replace r1 : (wr).cell? ⟨w.heap.size, 1, none⟩ = some (.slice A u.n c) := (hb2.cell (p := ⟨w.heap.size, 1, none⟩) hlr).trans r1
        replace hVr := hide (hVr.out.below hb2)
        replace hbw := hide (hbw.out.trans (hb2.mono hbw.out.size))
        replace hlr : w.heap.size < (wr).heap.size := Nat.lt_of_lt_of_le hlr hb2.size
        clear hb2
        have hbr := hide hb
        clear hb
        by_cases hlt : j < u.T.toNat
        · have hltI : (j : Int) < u.T := by omega
          have hnn := hide (hok'.out.turns_mono part x j)
          have hup : u.turns part (x + j) - u.turns part x ≤ j := by
            have : ∀ m : Nat, u.turns part (x + m) - u.turns part x ≤ m := by
              intro m
              induction m with
              | zero => rw [Nat.add_zero]; omega
              | succ m ih => rw [← Nat.add_assoc, hok'.out.turns_step]; split <;> omega
            exact this j
          have hst := hide (show u.turns part (x + (j + 1)) = u.turns part (x + j) + (if u.turn part ((x + j) % u.T.toNat : Nat) then 1 else 0) by rw [← Nat.add_assoc]; exact hok'.out.turns_step part (x + j))
          have hwt := hide (hok'.out.who_turn part ((x + j) % u.T.toNat : Nat))
          have hwho := hide (fun W (hW : TabV W A c u) => (show Calls Try.prog 26 #[.agg #[.int .i64 u.T, .slice A u.n c], .int .u64 ((x : Int) + (j : Int))] W fun e w' => e = .returned (.int .i64 (u.who ((x + j) % u.T.toNat : Nat))) ∧ Below W.heap.size W w' from by rw [← Int.natCast_add]; exact who_ok u hok'.out A c (x + j) W hW))
          subst hd
          have hj0 : 0 ≤ u.turns part (x + j) - u.turns part x := by have := hnn.out; omega
          generalize (((x + j) % u.T.toNat : Nat) : Int) = q at *
          generalize u.who q = wv at *
          generalize hde : u.turns part (x + j) - u.turns part x = dv at *
          have hde' := hide hde
          clear hde hnn
          have hjT : (j : Int) ≤ 256 := by omega
          by_cases htn : u.turn part q
          · have hwb : (wv == part) = true := by simpa using (hwt.out.1 htn).1
            have hp0 : 0 ≤ part := (hwt.out.1 htn).2
            have hnx := hide (show u.turns part (x + (j + 1)) - u.turns part x = dv + 1 by rw [hst.out, if_pos htn]; have := hde'.out; omega)
            clear htn hst hwt
            go_wp2_with fail
            refine (hwho.out _ hVr.out).mono ?_
            rintro e w3 ⟨rfl, hb3⟩
            have hb3' := hide hb3
            clear hb3
            go_wp2_with fail
            go_roundw
            case rel => exact ⟨j + 1, by omega, by go_num, by rw [hnx.out], hbr.out.trans (hb3'.out.mono hbr.out.size)⟩
            case measure => simp [intOf]; omega
          · have hnx := hide (show u.turns part (x + (j + 1)) - u.turns part x = dv by rw [hst.out, if_neg htn]; have := hde'.out; omega)
            have hor := hwt.out.2 htn
            clear htn hst hwt
            by_cases hwe : wv = part
            · have hwb : (wv == part) = true := by simpa using hwe
              have hp0 : part < 0 := by omega
              clear hor hwe
              go_wp2_with fail
              refine (hwho.out _ hVr.out).mono ?_
              rintro e w3 ⟨rfl, hb3⟩
              have hb3' := hide hb3
              clear hb3
              go_wp2_with fail
              go_roundw
              case rel => exact ⟨j + 1, by omega, by go_num, by rw [hnx.out], hbr.out.trans (hb3'.out.mono hbr.out.size)⟩
              case measure => simp [intOf]; omega
            · have hwb : (wv == part) = false := by simpa using hwe
              clear hor hwe
              go_wp2_with fail
              refine (hwho.out _ hVr.out).mono ?_
              rintro e w3 ⟨rfl, hb3⟩
              have hb3' := hide hb3
              clear hb3
              go_wp2_with fail
              go_roundw
              case rel => exact ⟨j + 1, by omega, by go_num, by rw [hnx.out], hbr.out.trans (hb3'.out.mono hbr.out.size)⟩
              case measure => simp [intOf]; omega
        · obtain rfl : j = u.T.toNat := by omega
          have hTT : ((u.T.toNat : Nat) : Int) = u.T := by omega
          have hdl : ¬ (((u.T.toNat : Nat) : Int) < u.T) := by omega
          have hrd := hok'.out.turns_round part x
          have hbl := hok'.out.below_le part u.T.toNat
          rw [hTT] at hbl
          rw [show u.turns part (x + u.T.toNat) - u.turns part x = u.below part u.T by rw [hrd]; omega] at hd
          have t1 := hok'.out.turns_le part (x + u.T.toNat)
          have t2 := hok'.out.turns_le part x
          have hsh := hide (fun W (hW : TabV W A c u) => share_ok u hok'.out A c part W hW)
          have hta := hide (fun W (hW : TabV W A c u) => (show Calls Try.prog 34 #[.agg #[.int .i64 u.T, .slice A u.n c], .int .i64 part, .int .u64 ((x : Int) + u.T)] W fun e w' => e = .returned (.int .u64 (u.turns part (x + u.T.toNat))) ∧ Below W.heap.size W w' from by
            rw [show (x : Int) + u.T = ((x + u.T.toNat : Nat) : Int) by omega]; exact turns_ok u hok'.out A c part (x + u.T.toNat) (by omega) W hW))
          have htb := hide (fun W (hW : TabV W A c u) => turns_ok u hok'.out A c part x hx W hW)
          subst hd
          have hsw : IntKind.u64.wrap (u.below part u.T) = u.below part u.T := IntWalk.u64_in _ (by omega)
          have hsub : IntKind.u64.wrap (u.turns part (x + u.T.toNat) - u.turns part x) = u.below part u.T := by rw [hrd, show u.turns part x + u.below part u.T - u.turns part x = u.below part u.T by omega]; exact hsw
          have f0 : ∀ w', Later (fun _ => False) wr.drew w' → w'.cell? ⟨w.heap.size, 0, none⟩ = some (.int .i64 u.T) := fun w' hl => (Later.cell (a := wr) hl hlr (fun h => h)).1.trans r0
          have f1 : ∀ w', Later (fun _ => False) wr.drew w' → w'.cell? ⟨w.heap.size, 1, none⟩ = some (.slice A u.n c) := fun w' hl => (Later.cell (a := wr) hl hlr (fun h => h)).1.trans r1
          clear hrd hbl t1 t2 hbC hlt
          generalize u.turns part (x + u.T.toNat) = te at *
          generalize u.turns part x = tb at *
          generalize u.below part u.T = sh at *
          have hTT' := hide hTT
          clear hTT
          generalize ((u.T.toNat : Nat) : Int) = TN at *
          go_wp2_with fail
          replace hVr := hide (hVr.out.below ((Below.refl wr.heap.size wr).drew))
          replace hbw := hide hbw.out.drew
          refine region_plan [(true, 0), (true, 1), (true, 2), (false, 3), (true, 4), (true, 5), (true, 6), (true, 7), (true, 8), (true, 9), (true, 10), (true, 11), (true, 12), (true, 14), (true, 15), (true, 16), (true, 19), (true, 20), (false, 13), (false, 17), (true, 18), (false, 21), (true, 22), (true, 23), (true, 24), (true, 25), (false, 26), (true, 27), (true, 28)] (Later fun _ => False) (later_refl _) (later_trans _) (by kernel_rfl) (by kernel_rfl) (fun _ _ d _ _ h => by cases d <;> exact h) ?_
          repeat
            (first
              | (show wpPlan _ _ _ _ ((true, _) :: _) _ _
                 refine plan_skip rfl (by rfl) ?_
                 simp only [Act.put, List.setIfInBounds_toArray, List.set_cons_zero, List.set_cons_succ])
              | (show wpPlan _ _ _ _ ((false, _) :: _) _ _
                 refine plan_skip_eff (later_refl _) rfl (by rfl) ?_
                 simp only [Act.put, List.setIfInBounds_toArray, List.set_cons_zero, List.set_cons_succ])
              | (show wpPlan _ _ _ _ ((true, _) :: _) _ _
                 refine plan_take (v := ?_) rfl (by rfl) (fun w' hw' => ?_) ?_
                 rotate_left
                 focus
                   go_simp
                   try with_reducible rfl
                   done
                 simp only [Act.put, List.setIfInBounds_toArray, List.set_cons_zero, List.set_cons_succ]))
          refine plan_eff rfl (by rfl) (fun K hK => ?_)
          go_wp2_with fail
          refine (hsh.out _ hVr.out).mono ?_
          rintro e v1 ⟨rfl, hb2⟩
          have hb2' := hide hb2
          have hl2 := hide (below_later hb2 (Nat.le_refl _))
          replace hVr := hide (hVr.out.below hb2)
          replace hbw := hide (hbw.out.trans (hb2.mono hbw.out.size))
          replace f0 : ∀ w', Later (fun _ => False) (v1) w' → w'.cell? ⟨w.heap.size, 0, none⟩ = some (.int .i64 u.T) := fun w' hl => f0 w' (later_trans _ _ _ _ hl2.out hl)
          replace f1 : ∀ w', Later (fun _ => False) (v1) w' → w'.cell? ⟨w.heap.size, 1, none⟩ = some (.slice A u.n c) := fun w' hl => f1 w' (later_trans _ _ _ _ hl2.out hl)
          clear hb2
          refine hK _ _ hl2.out ?_
          clear hK K hl2 hb2'
          try simp only [Act.put, List.setIfInBounds_toArray, List.set_cons_zero, List.set_cons_succ]
          repeat
            (first
              | (show wpPlan _ _ _ _ ((true, _) :: _) _ _
                 refine plan_skip rfl (by rfl) ?_
                 simp only [Act.put, List.setIfInBounds_toArray, List.set_cons_zero, List.set_cons_succ])
              | (show wpPlan _ _ _ _ ((false, _) :: _) _ _
                 refine plan_skip_eff (later_refl _) rfl (by rfl) ?_
                 simp only [Act.put, List.setIfInBounds_toArray, List.set_cons_zero, List.set_cons_succ])
              | (show wpPlan _ _ _ _ ((true, _) :: _) _ _
                 refine plan_take (v := ?_) rfl (by rfl) (fun w' hw' => ?_) ?_
                 rotate_left
                 focus
                   go_simp
                   try with_reducible rfl
                   done
                 simp only [Act.put, List.setIfInBounds_toArray, List.set_cons_zero, List.set_cons_succ]))
          refine plan_eff rfl (by rfl) (fun K hK => ?_)
          go_wp2_with fail
          refine (hta.out _ hVr.out).mono ?_
          rintro e v2 ⟨rfl, hb2⟩
          have hb2' := hide hb2
          have hl2 := hide (below_later hb2 (Nat.le_refl _))
          replace hVr := hide (hVr.out.below hb2)
          replace hbw := hide (hbw.out.trans (hb2.mono hbw.out.size))
          replace f0 : ∀ w', Later (fun _ => False) (v2) w' → w'.cell? ⟨w.heap.size, 0, none⟩ = some (.int .i64 u.T) := fun w' hl => f0 w' (later_trans _ _ _ _ hl2.out hl)
          replace f1 : ∀ w', Later (fun _ => False) (v2) w' → w'.cell? ⟨w.heap.size, 1, none⟩ = some (.slice A u.n c) := fun w' hl => f1 w' (later_trans _ _ _ _ hl2.out hl)
          clear hb2
          refine hK _ _ hl2.out ?_
          clear hK K hl2 hb2'
          try simp only [Act.put, List.setIfInBounds_toArray, List.set_cons_zero, List.set_cons_succ]
          repeat
            (first
              | (show wpPlan _ _ _ _ ((true, _) :: _) _ _
                 refine plan_skip rfl (by rfl) ?_
                 simp only [Act.put, List.setIfInBounds_toArray, List.set_cons_zero, List.set_cons_succ])
              | (show wpPlan _ _ _ _ ((false, _) :: _) _ _
                 refine plan_skip_eff (later_refl _) rfl (by rfl) ?_
                 simp only [Act.put, List.setIfInBounds_toArray, List.set_cons_zero, List.set_cons_succ])
              | (show wpPlan _ _ _ _ ((true, _) :: _) _ _
                 refine plan_take (v := ?_) rfl (by rfl) (fun w' hw' => ?_) ?_
                 rotate_left
                 focus
                   go_simp
                   try with_reducible rfl
                   done
                 simp only [Act.put, List.setIfInBounds_toArray, List.set_cons_zero, List.set_cons_succ]))
          refine plan_eff rfl (by rfl) (fun K hK => ?_)
          go_wp2_with fail
          refine (htb.out _ hVr.out).mono ?_
          rintro e v3 ⟨rfl, hb2⟩
          have hb2' := hide hb2
          have hl2 := hide (below_later hb2 (Nat.le_refl _))
          replace hVr := hide (hVr.out.below hb2)
          replace hbw := hide (hbw.out.trans (hb2.mono hbw.out.size))
          replace f0 : ∀ w', Later (fun _ => False) (v3) w' → w'.cell? ⟨w.heap.size, 0, none⟩ = some (.int .i64 u.T) := fun w' hl => f0 w' (later_trans _ _ _ _ hl2.out hl)
          replace f1 : ∀ w', Later (fun _ => False) (v3) w' → w'.cell? ⟨w.heap.size, 1, none⟩ = some (.slice A u.n c) := fun w' hl => f1 w' (later_trans _ _ _ _ hl2.out hl)
          clear hb2
          refine hK _ _ hl2.out ?_
          clear hK K hl2 hb2'
          try simp only [Act.put, List.setIfInBounds_toArray, List.set_cons_zero, List.set_cons_succ]
          repeat
            (first
              | (show wpPlan _ _ _ _ ((true, _) :: _) _ _
                 refine plan_skip rfl (by rfl) ?_
                 simp only [Act.put, List.setIfInBounds_toArray, List.set_cons_zero, List.set_cons_succ])
              | (show wpPlan _ _ _ _ ((false, _) :: _) _ _
                 refine plan_skip_eff (later_refl _) rfl (by rfl) ?_
                 simp only [Act.put, List.setIfInBounds_toArray, List.set_cons_zero, List.set_cons_succ])
              | (show wpPlan _ _ _ _ ((true, _) :: _) _ _
                 refine plan_take (v := ?_) rfl (by rfl) (fun w' hw' => ?_) ?_
                 rotate_left
                 focus
                   go_simp
                   try with_reducible rfl
                   done
                 simp only [Act.put, List.setIfInBounds_toArray, List.set_cons_zero, List.set_cons_succ]))
          refine plan_eff rfl (by rfl) (fun K hK => ?_)
          go_wp2_with fail
          refine (hsh.out _ hVr.out).mono ?_
          rintro e v4 ⟨rfl, hb2⟩
          have hb2' := hide hb2
          have hl2 := hide (below_later hb2 (Nat.le_refl _))
          replace hVr := hide (hVr.out.below hb2)
          replace hbw := hide (hbw.out.trans (hb2.mono hbw.out.size))
          replace f0 : ∀ w', Later (fun _ => False) (v4) w' → w'.cell? ⟨w.heap.size, 0, none⟩ = some (.int .i64 u.T) := fun w' hl => f0 w' (later_trans _ _ _ _ hl2.out hl)
          replace f1 : ∀ w', Later (fun _ => False) (v4) w' → w'.cell? ⟨w.heap.size, 1, none⟩ = some (.slice A u.n c) := fun w' hl => f1 w' (later_trans _ _ _ _ hl2.out hl)
          clear hb2
          refine hK _ _ hl2.out ?_
          clear hK K hl2 hb2'
          try simp only [Act.put, List.setIfInBounds_toArray, List.set_cons_zero, List.set_cons_succ]
          repeat
            (first
              | (show wpPlan _ _ _ _ ((true, _) :: _) _ _
                 refine plan_skip rfl (by rfl) ?_
                 simp only [Act.put, List.setIfInBounds_toArray, List.set_cons_zero, List.set_cons_succ])
              | (show wpPlan _ _ _ _ ((false, _) :: _) _ _
                 refine plan_skip_eff (later_refl _) rfl (by rfl) ?_
                 simp only [Act.put, List.setIfInBounds_toArray, List.set_cons_zero, List.set_cons_succ])
              | (show wpPlan _ _ _ _ ((true, _) :: _) _ _
                 refine plan_take (v := ?_) rfl (by rfl) (fun w' hw' => ?_) ?_
                 rotate_left
                 focus
                   go_simp
                   try with_reducible rfl
                   done
                 simp only [Act.put, List.setIfInBounds_toArray, List.set_cons_zero, List.set_cons_succ]))
          refine plan_eff rfl (by rfl) (fun K hK => ?_)
          go_wp2_with fail
          refine (awake11 _).mono ?_
          rintro e v5 ⟨rfl, hb2⟩
          have hb2' := hide hb2
          have hl2 := hide (below_later hb2 (Nat.le_refl _))
          replace hVr := hide (hVr.out.below hb2)
          replace hbw := hide (hbw.out.trans (hb2.mono hbw.out.size))
          replace f0 : ∀ w', Later (fun _ => False) (v5) w' → w'.cell? ⟨w.heap.size, 0, none⟩ = some (.int .i64 u.T) := fun w' hl => f0 w' (later_trans _ _ _ _ hl2.out hl)
          replace f1 : ∀ w', Later (fun _ => False) (v5) w' → w'.cell? ⟨w.heap.size, 1, none⟩ = some (.slice A u.n c) := fun w' hl => f1 w' (later_trans _ _ _ _ hl2.out hl)
          clear hb2
          refine hK _ _ hl2.out ?_
          clear hK K hl2 hb2'
          try simp only [Act.put, List.setIfInBounds_toArray, List.set_cons_zero, List.set_cons_succ]
          repeat
            (first
              | (show wpPlan _ _ _ _ ((true, _) :: _) _ _
                 refine plan_skip rfl (by rfl) ?_
                 simp only [Act.put, List.setIfInBounds_toArray, List.set_cons_zero, List.set_cons_succ])
              | (show wpPlan _ _ _ _ ((false, _) :: _) _ _
                 refine plan_skip_eff (later_refl _) rfl (by rfl) ?_
                 simp only [Act.put, List.setIfInBounds_toArray, List.set_cons_zero, List.set_cons_succ])
              | (show wpPlan _ _ _ _ ((true, _) :: _) _ _
                 refine plan_take (v := ?_) rfl (by rfl) (fun w' hw' => ?_) ?_
                 rotate_left
                 focus
                   go_simp
                   try with_reducible rfl
                   done
                 simp only [Act.put, List.setIfInBounds_toArray, List.set_cons_zero, List.set_cons_succ]))
          refine plan_nil ?_
          go_wp2_with fail
          go_ret
          exact ⟨rfl, hbw.out⟩
  · have hok' := hide hok
    clear hok
    refine (check_bad u hok'.out A c _ hVr.out).mono ?_
    rintro e w2 ⟨g, rfl, hb2⟩
    replace r0 : (w2).cell? ⟨w.heap.size, 0, none⟩ = some (.int .i64 u.T) := (hb2.cell (p := ⟨w.heap.size, 0, none⟩) hlr).trans r0
    replace r1 : (w2).cell? ⟨w.heap.size, 1, none⟩ = some (.slice A u.n c) := (hb2.cell (p := ⟨w.heap.size, 1, none⟩) hlr).trans r1
    replace hVr := hide (hVr.out.below hb2)
    replace hbw := hide (hbw.out.trans (hb2.mono hbw.out.size))
    replace hlr : w.heap.size < (w2).heap.size := Nat.lt_of_lt_of_le hlr hb2.size
    clear hb2
    go_wp2_with fail
    refine (awake11 _).mono ?_
    rintro e w9 ⟨rfl, hb2⟩
    replace hbw := hide (hbw.out.trans (hb2.mono hbw.out.size))
    clear hb2
    go_wp2_with fail
    go_ret
    exact ⟨rfl, hbw.out⟩
end Go.Proofs.Ytkcjjogekkldkaa
