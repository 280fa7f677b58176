/- The law TableNexts walked. -/
import Derived.Test.YtkcjjogekkldkaaTabAwake
namespace Go.Proofs.Ytkcjjogekkldkaa
open Go.RowKit

set_option maxRecDepth 100000 in
set_option maxHeartbeats 2000000 in
theorem tableNexts_any (t : Tab) (A : Option Addr) (c : Nat) (part : Int) (x : Nat) (hx : x < 18446744073709551616) (w : World) (h : TabV w A c t) :
    Calls Try.prog 11 #[.agg #[.int .i64 t.T, .slice A t.n c], .int .i64 part, .int .u64 x] w fun e w' => e = .returned (.bool true) ∧ Below w.heap.size w w' := by
  have h' := hide h
  clear h
  go_enter Try.func11, Try.ntmps11
  go_wp2_with fail
  by_cases hbig : 9223372036854775808 < x
  · have hbI : (9223372036854775808 : Int) < (x : Int) := by omega
    have hfw : ∀ W, TabV W A c t → Calls Try.prog 23 #[.agg #[.int .i64 t.T, .slice A t.n c]] W fun e w' => e = .returned (.agg #[.int .i64 t.few.T, .slice A t.few.n c]) ∧ Below W.heap.size W w' := fun W hW => few_any t A c W hW
    have hV : TabV w A c t.few := h'.out.few
    generalize t.few = u at *
    refine (hfw _ (h'.out.below ((Below.refl _ _).alloc (Nat.le_refl _) _))).mono ?_
    rintro e w1 ⟨rfl, hb1⟩
    obtain ⟨hc, hf⟩ := bcell hb1
    have hz := hb1.size
    simp at hz
    have hzl : w.heap.size < w1.heap.size := by omega
    have hz2 : w1.cell? ⟨w.heap.size, 0, none⟩ = some (.int .i64 t.T) := by rw [hc _ _ (by simp)]; simp [go_sem]
    have hz3 : w1.cell? ⟨w.heap.size, 1, none⟩ = some (.slice A t.n c) := by rw [hc _ _ (by simp)]; simp [go_sem]
    have hz4 : w1.frozen? ⟨w.heap.size, 0, none⟩ = false := by rw [hf _ _ (by simp)]; simp [go_sem]
    have hz5 : w1.frozen? ⟨w.heap.size, 1, none⟩ = false := by rw [hf _ _ (by simp)]; simp [go_sem]
    have hb1' := hide (((Below.refl _ _).alloc (Nat.le_refl _) _).trans (hb1.mono (B' := w.heap.size) (by simp)))
    have hV' := hide hV
    clear hc hf hb1 hz hfw hV
    go_wp2_with fail
    have hbW := hide ((hb1'.out.setCell (p := ⟨w.heap.size, 0, none⟩) (Nat.le_refl _) (.int .i64 u.T)).setCell (p := ⟨w.heap.size, 1, none⟩) (Nat.le_refl _) (.slice A u.n c))
    have e0 : ((w1.setCell ⟨w.heap.size, 0, none⟩ (.int .i64 u.T)).setCell ⟨w.heap.size, 1, none⟩ (.slice A u.n c)).cell? ⟨w.heap.size, 0, none⟩ = some (.int .i64 u.T) := by simp [go_sem, *]
    have e1 : ((w1.setCell ⟨w.heap.size, 0, none⟩ (.int .i64 u.T)).setCell ⟨w.heap.size, 1, none⟩ (.slice A u.n c)).cell? ⟨w.heap.size, 1, none⟩ = some (.slice A u.n c) := by simp [go_sem, *]
    have hl : w.heap.size < ((w1.setCell ⟨w.heap.size, 0, none⟩ (.int .i64 u.T)).setCell ⟨w.heap.size, 1, none⟩ (.slice A u.n c)).heap.size := by simp [World.setCell]; exact hzl
    generalize ((w1.setCell ⟨w.heap.size, 0, none⟩ (.int .i64 u.T)).setCell ⟨w.heap.size, 1, none⟩ (.slice A u.n c)) = W1 at *
    have hV := hide (hV'.out.below hbW.out)
    clear hz2 hz3 hz4 hz5 hzl hb1' hV'
    have hbw := hbW
    refine (awake11 _).mono ?_
    rintro e w9 ⟨rfl, hb2⟩
    replace hbw := hide (hbw.out.trans (hb2.mono hbw.out.size))
    clear hb2
    go_wp2_with fail
    go_ret
    exact ⟨rfl, hbw.out⟩
  · have hbI : ¬ (9223372036854775808 : Int) < (x : Int) := by omega
    have hfw : ∀ W, TabV W A c t → Calls Try.prog 23 #[.agg #[.int .i64 t.T, .slice A t.n c]] W fun e w' => e = .returned (.agg #[.int .i64 t.few.T, .slice A t.few.n c]) ∧ Below W.heap.size W w' := fun W hW => few_any t A c W hW
    have hV : TabV w A c t.few := h'.out.few
    generalize t.few = u at *
    refine (hfw _ (h'.out.below ((Below.refl _ _).alloc (Nat.le_refl _) _))).mono ?_
    rintro e w1 ⟨rfl, hb1⟩
    obtain ⟨hc, hf⟩ := bcell hb1
    have hz := hb1.size
    simp at hz
    have hzl : w.heap.size < w1.heap.size := by omega
    have hz2 : w1.cell? ⟨w.heap.size, 0, none⟩ = some (.int .i64 t.T) := by rw [hc _ _ (by simp)]; simp [go_sem]
    have hz3 : w1.cell? ⟨w.heap.size, 1, none⟩ = some (.slice A t.n c) := by rw [hc _ _ (by simp)]; simp [go_sem]
    have hz4 : w1.frozen? ⟨w.heap.size, 0, none⟩ = false := by rw [hf _ _ (by simp)]; simp [go_sem]
    have hz5 : w1.frozen? ⟨w.heap.size, 1, none⟩ = false := by rw [hf _ _ (by simp)]; simp [go_sem]
    have hb1' := hide (((Below.refl _ _).alloc (Nat.le_refl _) _).trans (hb1.mono (B' := w.heap.size) (by simp)))
    have hV' := hide hV
    clear hc hf hb1 hz hfw hV
    go_wp2_with fail
    have hbW := hide ((hb1'.out.setCell (p := ⟨w.heap.size, 0, none⟩) (Nat.le_refl _) (.int .i64 u.T)).setCell (p := ⟨w.heap.size, 1, none⟩) (Nat.le_refl _) (.slice A u.n c))
    have e0 : ((w1.setCell ⟨w.heap.size, 0, none⟩ (.int .i64 u.T)).setCell ⟨w.heap.size, 1, none⟩ (.slice A u.n c)).cell? ⟨w.heap.size, 0, none⟩ = some (.int .i64 u.T) := by simp [go_sem, *]
    have e1 : ((w1.setCell ⟨w.heap.size, 0, none⟩ (.int .i64 u.T)).setCell ⟨w.heap.size, 1, none⟩ (.slice A u.n c)).cell? ⟨w.heap.size, 1, none⟩ = some (.slice A u.n c) := by simp [go_sem, *]
    have hl : w.heap.size < ((w1.setCell ⟨w.heap.size, 0, none⟩ (.int .i64 u.T)).setCell ⟨w.heap.size, 1, none⟩ (.slice A u.n c)).heap.size := by simp [World.setCell]; exact hzl
    generalize ((w1.setCell ⟨w.heap.size, 0, none⟩ (.int .i64 u.T)).setCell ⟨w.heap.size, 1, none⟩ (.slice A u.n c)) = W1 at *
    have hV := hide (hV'.out.below hbW.out)
    clear hz2 hz3 hz4 hz5 hzl hb1' hV'
    have r0 := e0
    have r1 := e1
    have hlr := hl
    have hVr := hV
    have hbw := hbW
    clear e0 e1
    by_cases hok : u.Ok
    · have hok' := hide hok
      clear hok
      have hT1 := hok'.out.T1
      have hT2 := hok'.out.T2
      refine (next_ok u hok'.out A c part x hx _ hVr.out).mono ?_
      rintro e w2 ⟨v, rfl, hv, hb2⟩
      replace r0 : (w2).cell? ⟨w.heap.size, 0, none⟩ = some (.int .i64 u.T) := (hb2.cell (p := ⟨w.heap.size, 0, none⟩) hlr).trans r0
      replace r1 : (w2).cell? ⟨w.heap.size, 1, none⟩ = some (.slice A u.n c) := (hb2.cell (p := ⟨w.heap.size, 1, none⟩) hlr).trans r1
      replace hVr := hide (hVr.out.below hb2)
      replace hbw := hide (hbw.out.trans (hb2.mono hbw.out.size))
      replace hlr : w.heap.size < (w2).heap.size := Nat.lt_of_lt_of_le hlr hb2.size
      clear hb2
      rcases hv with ⟨k, hk1, hk2, hk3, hk4, hk5, rfl⟩ | ⟨hno, rfl⟩
      · have hwt := hide (show u.who ((x + k) % u.T.toNat : Nat) = part by unfold Tab.who; rw [if_pos hk4.1]; exact hk4.2)
        have hwho := hide (fun W (hW : TabV W A c u) => (show Calls Try.prog 26 #[.agg #[.int .i64 u.T, .slice A u.n c], .int .u64 ((x : Int) + (k : Int))] W fun e w' => e = .returned (.int .i64 part) ∧ Below W.heap.size W w' from by
          have := who_ok u hok'.out A c (x + k) W hW
          rw [hwt.out, Int.natCast_add] at this
          exact this))
        have hte := hide (fun W (hW : TabV W A c u) => (show Calls Try.prog 34 #[.agg #[.int .i64 u.T, .slice A u.n c], .int .i64 part, .int .u64 ((x : Int) + (k : Int))] W fun e w' => e = .returned (.int .u64 (u.turns part (x + k))) ∧ Below W.heap.size W w' from by
          rw [← Int.natCast_add]; exact turns_ok u hok'.out A c part (x + k) hk3 W hW))
        have htb := hide (fun W (hW : TabV W A c u) => (show Calls Try.prog 34 #[.agg #[.int .i64 u.T, .slice A u.n c], .int .i64 part, .int .u64 ((x : Int) + 1)] W fun e w' => e = .returned (.int .u64 (u.turns part (x + k))) ∧ Below W.heap.size W w' from by
          have := turns_ok u hok'.out A c part (x + 1) (by omega) W hW
          rw [show u.turns part (x + 1) = u.turns part (x + k) by
            have := hok'.out.turns_none part (x + 1) (k - 1) (fun j hj => by
              have := hk5 (1 + j) (by omega) (by omega)
              rwa [show x + (1 + j) = x + 1 + j by omega] at this)
            rw [show x + 1 + (k - 1) = x + k by omega] at this
            exact this.symm, Int.natCast_add] at this
          exact this))
        have hxk : IntKind.u64.wrap ((x : Int) + (k : Int) - (x : Int)) = (k : Int) := by rw [show (x : Int) + (k : Int) - (x : Int) = k by omega]; exact IntWalk.u64_in _ (by omega)
        have hx1 : IntKind.u64.wrap ((x : Int) + 1) = (x : Int) + 1 := IntWalk.u64_in _ (by omega)
        have hkT : (k : Int) ≤ u.T := by omega
        clear hk4 hk5 hwt
        generalize u.turns part (x + k) = te at *
        go_wp2_with fail
        refine (hwho.out _ hVr.out).mono ?_
        rintro e w3 ⟨rfl, hb2⟩
        replace r0 : (w3).cell? ⟨w.heap.size, 0, none⟩ = some (.int .i64 u.T) := (hb2.cell (p := ⟨w.heap.size, 0, none⟩) hlr).trans r0
        replace r1 : (w3).cell? ⟨w.heap.size, 1, none⟩ = some (.slice A u.n c) := (hb2.cell (p := ⟨w.heap.size, 1, none⟩) hlr).trans r1
        replace hVr := hide (hVr.out.below hb2)
        replace hbw := hide (hbw.out.trans (hb2.mono hbw.out.size))
        replace hlr : w.heap.size < (w3).heap.size := Nat.lt_of_lt_of_le hlr hb2.size
        clear hb2
        have f0 : ∀ w', Later (fun _ => False) w3.drew w' → w'.cell? ⟨w.heap.size, 0, none⟩ = some (.int .i64 u.T) := fun w' hl => (Later.cell (a := w3) hl hlr (fun h => h)).1.trans r0
        have f1 : ∀ w', Later (fun _ => False) w3.drew w' → w'.cell? ⟨w.heap.size, 1, none⟩ = some (.slice A u.n c) := fun w' hl => (Later.cell (a := w3) hl hlr (fun h => h)).1.trans r1
        go_wp2_with fail
        replace hVr := hide (hVr.out.below ((Below.refl w3.heap.size w3).drew))
        replace hbw := hide hbw.out.drew
        refine region_plan [(true, 0), (true, 1), (true, 2), (true, 4), (true, 5), (true, 6), (true, 7), (false, 3), (false, 8), (true, 9), (true, 10), (true, 11), (false, 12), (true, 13), (true, 14)] (Later fun _ => False) (later_refl _) (later_trans _) (by kernel_rfl) (by kernel_rfl) (fun _ _ d _ _ h => by cases d <;> exact h) ?_
        repeat
          (first
            | (show wpPlan _ _ _ _ ((true, _) :: _) _ _
               refine plan_skip rfl (by rfl) ?_
               simp only [Act.put, List.setIfInBounds_toArray, List.set_cons_zero, List.set_cons_succ])
            | (show wpPlan _ _ _ _ ((false, _) :: _) _ _
               refine plan_skip_eff (later_refl _) rfl (by rfl) ?_
               simp only [Act.put, List.setIfInBounds_toArray, List.set_cons_zero, List.set_cons_succ])
            | (show wpPlan _ _ _ _ ((true, _) :: _) _ _
               refine plan_take (v := ?_) rfl (by rfl) (fun w' hw' => ?_) ?_
               rotate_left
               focus
                 go_simp
                 try with_reducible rfl
                 done
               simp only [Act.put, List.setIfInBounds_toArray, List.set_cons_zero, List.set_cons_succ]))
        refine plan_eff rfl (by rfl) (fun K hK => ?_)
        go_wp2_with fail
        refine (hte.out _ hVr.out).mono ?_
        rintro e v1 ⟨rfl, hb2⟩
        have hb2' := hide hb2
        have hl2 := hide (below_later hb2 (Nat.le_refl _))
        replace hVr := hide (hVr.out.below hb2)
        replace hbw := hide (hbw.out.trans (hb2.mono hbw.out.size))
        replace f0 : ∀ w', Later (fun _ => False) (v1) w' → w'.cell? ⟨w.heap.size, 0, none⟩ = some (.int .i64 u.T) := fun w' hl => f0 w' (later_trans _ _ _ _ hl2.out hl)
        replace f1 : ∀ w', Later (fun _ => False) (v1) w' → w'.cell? ⟨w.heap.size, 1, none⟩ = some (.slice A u.n c) := fun w' hl => f1 w' (later_trans _ _ _ _ hl2.out hl)
        clear hb2
        refine hK _ _ hl2.out ?_
        clear hK K hl2 hb2'
        try simp only [Act.put, List.setIfInBounds_toArray, List.set_cons_zero, List.set_cons_succ]
        repeat
          (first
            | (show wpPlan _ _ _ _ ((true, _) :: _) _ _
               refine plan_skip rfl (by rfl) ?_
               simp only [Act.put, List.setIfInBounds_toArray, List.set_cons_zero, List.set_cons_succ])
            | (show wpPlan _ _ _ _ ((false, _) :: _) _ _
               refine plan_skip_eff (later_refl _) rfl (by rfl) ?_
               simp only [Act.put, List.setIfInBounds_toArray, List.set_cons_zero, List.set_cons_succ])
            | (show wpPlan _ _ _ _ ((true, _) :: _) _ _
               refine plan_take (v := ?_) rfl (by rfl) (fun w' hw' => ?_) ?_
               rotate_left
               focus
                 go_simp
                 try with_reducible rfl
                 done
               simp only [Act.put, List.setIfInBounds_toArray, List.set_cons_zero, List.set_cons_succ]))
        refine plan_eff rfl (by rfl) (fun K hK => ?_)
        go_wp2_with fail
        refine (htb.out _ hVr.out).mono ?_
        rintro e v2 ⟨rfl, hb2⟩
        have hb2' := hide hb2
        have hl2 := hide (below_later hb2 (Nat.le_refl _))
        replace hVr := hide (hVr.out.below hb2)
        replace hbw := hide (hbw.out.trans (hb2.mono hbw.out.size))
        replace f0 : ∀ w', Later (fun _ => False) (v2) w' → w'.cell? ⟨w.heap.size, 0, none⟩ = some (.int .i64 u.T) := fun w' hl => f0 w' (later_trans _ _ _ _ hl2.out hl)
        replace f1 : ∀ w', Later (fun _ => False) (v2) w' → w'.cell? ⟨w.heap.size, 1, none⟩ = some (.slice A u.n c) := fun w' hl => f1 w' (later_trans _ _ _ _ hl2.out hl)
        clear hb2
        refine hK _ _ hl2.out ?_
        clear hK K hl2 hb2'
        try simp only [Act.put, List.setIfInBounds_toArray, List.set_cons_zero, List.set_cons_succ]
        repeat
          (first
            | (show wpPlan _ _ _ _ ((true, _) :: _) _ _
               refine plan_skip rfl (by rfl) ?_
               simp only [Act.put, List.setIfInBounds_toArray, List.set_cons_zero, List.set_cons_succ])
            | (show wpPlan _ _ _ _ ((false, _) :: _) _ _
               refine plan_skip_eff (later_refl _) rfl (by rfl) ?_
               simp only [Act.put, List.setIfInBounds_toArray, List.set_cons_zero, List.set_cons_succ])
            | (show wpPlan _ _ _ _ ((true, _) :: _) _ _
               refine plan_take (v := ?_) rfl (by rfl) (fun w' hw' => ?_) ?_
               rotate_left
               focus
                 go_simp
                 try with_reducible rfl
                 done
               simp only [Act.put, List.setIfInBounds_toArray, List.set_cons_zero, List.set_cons_succ]))
        refine plan_eff rfl (by rfl) (fun K hK => ?_)
        go_wp2_with fail
        refine (awake11 _).mono ?_
        rintro e v3 ⟨rfl, hb2⟩
        have hb2' := hide hb2
        have hl2 := hide (below_later hb2 (Nat.le_refl _))
        replace hVr := hide (hVr.out.below hb2)
        replace hbw := hide (hbw.out.trans (hb2.mono hbw.out.size))
        replace f0 : ∀ w', Later (fun _ => False) (v3) w' → w'.cell? ⟨w.heap.size, 0, none⟩ = some (.int .i64 u.T) := fun w' hl => f0 w' (later_trans _ _ _ _ hl2.out hl)
        replace f1 : ∀ w', Later (fun _ => False) (v3) w' → w'.cell? ⟨w.heap.size, 1, none⟩ = some (.slice A u.n c) := fun w' hl => f1 w' (later_trans _ _ _ _ hl2.out hl)
        clear hb2
        refine hK _ _ hl2.out ?_
        clear hK K hl2 hb2'
        try simp only [Act.put, List.setIfInBounds_toArray, List.set_cons_zero, List.set_cons_succ]
        repeat
          (first
            | (show wpPlan _ _ _ _ ((true, _) :: _) _ _
               refine plan_skip rfl (by rfl) ?_
               simp only [Act.put, List.setIfInBounds_toArray, List.set_cons_zero, List.set_cons_succ])
            | (show wpPlan _ _ _ _ ((false, _) :: _) _ _
               refine plan_skip_eff (later_refl _) rfl (by rfl) ?_
               simp only [Act.put, List.setIfInBounds_toArray, List.set_cons_zero, List.set_cons_succ])
            | (show wpPlan _ _ _ _ ((true, _) :: _) _ _
               refine plan_take (v := ?_) rfl (by rfl) (fun w' hw' => ?_) ?_
               rotate_left
               focus
                 go_simp
                 try with_reducible rfl
                 done
               simp only [Act.put, List.setIfInBounds_toArray, List.set_cons_zero, List.set_cons_succ]))
        refine plan_nil ?_
        go_wp2_with fail
        go_ret
        exact ⟨rfl, hbw.out⟩
      · have hz := hide (show u.below part u.T = 0 by
          have h1 := hok'.out.turns_none part (x + 1) u.T.toNat (fun j hj => by
            have := hno (1 + j) (by omega) (by omega) (by omega)
            rwa [show x + (1 + j) = x + 1 + j by omega] at this)
          have h2 := hok'.out.turns_round part (x + 1)
          omega)
        have hsh := hide (fun W (hW : TabV W A c u) => (show Calls Try.prog 33 #[.agg #[.int .i64 u.T, .slice A u.n c], .int .i64 part] W fun e w' => e = .returned (.int .i64 0) ∧ Below W.heap.size W w' from by
          have := share_ok u hok'.out A c part W hW
          rw [hz.out] at this
          exact this))
        clear hno
        go_wp2_with fail
        refine (hsh.out _ hVr.out).mono ?_
        rintro e w3 ⟨rfl, hb2⟩
        replace r0 : (w3).cell? ⟨w.heap.size, 0, none⟩ = some (.int .i64 u.T) := (hb2.cell (p := ⟨w.heap.size, 0, none⟩) hlr).trans r0
        replace r1 : (w3).cell? ⟨w.heap.size, 1, none⟩ = some (.slice A u.n c) := (hb2.cell (p := ⟨w.heap.size, 1, none⟩) hlr).trans r1
        replace hVr := hide (hVr.out.below hb2)
        replace hbw := hide (hbw.out.trans (hb2.mono hbw.out.size))
        replace hlr : w.heap.size < (w3).heap.size := Nat.lt_of_lt_of_le hlr hb2.size
        clear hb2
        go_wp2_with fail
        refine (awake11 _).mono ?_
        rintro e w9 ⟨rfl, hb2⟩
        replace hbw := hide (hbw.out.trans (hb2.mono hbw.out.size))
        clear hb2
        go_wp2_with fail
        go_ret
        exact ⟨rfl, hbw.out⟩
    · have hok' := hide hok
      clear hok
      refine (next_bad u hok'.out A c part x _ hVr.out).mono ?_
      rintro e w2 ⟨rfl, hb2⟩
      replace r0 : (w2).cell? ⟨w.heap.size, 0, none⟩ = some (.int .i64 u.T) := (hb2.cell (p := ⟨w.heap.size, 0, none⟩) hlr).trans r0
      replace r1 : (w2).cell? ⟨w.heap.size, 1, none⟩ = some (.slice A u.n c) := (hb2.cell (p := ⟨w.heap.size, 1, none⟩) hlr).trans r1
      replace hVr := hide (hVr.out.below hb2)
      replace hbw := hide (hbw.out.trans (hb2.mono hbw.out.size))
      replace hlr : w.heap.size < (w2).heap.size := Nat.lt_of_lt_of_le hlr hb2.size
      clear hb2
      go_wp2_with fail
      refine (share_bad u hok'.out A c part _ hVr.out).mono ?_
      rintro e w3 ⟨rfl, hb2⟩
      replace r0 : (w3).cell? ⟨w.heap.size, 0, none⟩ = some (.int .i64 u.T) := (hb2.cell (p := ⟨w.heap.size, 0, none⟩) hlr).trans r0
      replace r1 : (w3).cell? ⟨w.heap.size, 1, none⟩ = some (.slice A u.n c) := (hb2.cell (p := ⟨w.heap.size, 1, none⟩) hlr).trans r1
      replace hVr := hide (hVr.out.below hb2)
      replace hbw := hide (hbw.out.trans (hb2.mono hbw.out.size))
      replace hlr : w.heap.size < (w3).heap.size := Nat.lt_of_lt_of_le hlr hb2.size
      clear hb2
      go_wp2_with fail
      refine (awake11 _).mono ?_
      rintro e w9 ⟨rfl, hb2⟩
      replace hbw := hide (hbw.out.trans (hb2.mono hbw.out.size))
      clear hb2
      go_wp2_with fail
      go_ret
      exact ⟨rfl, hbw.out⟩
end Go.Proofs.Ytkcjjogekkldkaa
