/- The law TableCounts walked. -/
import Derived.Test.YtkcjjogekkldkaaTabRef2
namespace Go.Proofs.Ytkcjjogekkldkaa
open Go.RowKit

theorem next_form {t : Tab} {part : Int} {x : Nat} {v : Value} (h : NextIs t part x v) : ∃ (a : Int) (b : Bool), v = .tuple #[.int .u64 a, .bool b] := by
  rcases h with ⟨k, _, _, _, _, _, rfl⟩ | ⟨_, rfl⟩
  · exact ⟨_, _, rfl⟩
  · exact ⟨_, _, rfl⟩
theorem next_uniq {t : Tab} {part : Int} {x : Nat} {v v' : Value} (h : NextIs t part x v) (h' : NextIs t part x v') : v' = v := by
  rcases h with ⟨k, k1, k2, k3, k4, k5, rfl⟩ | ⟨hn, rfl⟩ <;> rcases h' with ⟨m, m1, m2, m3, m4, m5, rfl⟩ | ⟨hn', rfl⟩
  · rcases Nat.lt_trichotomy k m with hlt | rfl | hlt
    · exact absurd k4 (m5 k k1 hlt)
    · rfl
    · exact absurd m4 (k5 m m1 hlt)
  · exact absurd k4 (hn' k k1 k2 k3)
  · exact absurd m4 (hn m m1 m2 m3)
  · rfl

set_option maxRecDepth 100000 in
set_option maxHeartbeats 2000000 in
theorem tableCounts_any (t : Tab) (A : Option Addr) (c : Nat) (part : Int) (x : Nat) (hx : x < 18446744073709551616) (w : World) (h : TabV w A c t) :
    Calls Try.prog 8 #[.agg #[.int .i64 t.T, .slice A t.n c], .int .i64 part, .int .u64 x] w fun e w' => e = .returned (.bool true) ∧ Below w.heap.size w w' := by
  have h' := hide h
  clear h
  go_enter Try.func8, Try.ntmps8
  go_wp2_with fail
  have hfw : ∀ W, TabV W A c t → Calls Try.prog 23 #[.agg #[.int .i64 t.T, .slice A t.n c]] W fun e w' => e = .returned (.agg #[.int .i64 t.few.T, .slice A t.few.n c]) ∧ Below W.heap.size W w' := fun W hW => few_any t A c W hW
  have hV : TabV w A c t.few := h'.out.few
  generalize t.few = u at *
  refine (hfw _ (h'.out.below ((Below.refl _ _).alloc (Nat.le_refl _) _))).mono ?_
  rintro e w1 ⟨rfl, hb1⟩
  obtain ⟨hc, hf⟩ := bcell hb1
  have hz := hb1.size
  simp at hz
  have hzl : w.heap.size < w1.heap.size := by omega
  have hz2 : w1.cell? ⟨w.heap.size, 0, none⟩ = some (.int .i64 t.T) := by rw [hc _ _ (by simp)]; simp [go_sem]
  have hz3 : w1.cell? ⟨w.heap.size, 1, none⟩ = some (.slice A t.n c) := by rw [hc _ _ (by simp)]; simp [go_sem]
  have hz4 : w1.frozen? ⟨w.heap.size, 0, none⟩ = false := by rw [hf _ _ (by simp)]; simp [go_sem]
  have hz5 : w1.frozen? ⟨w.heap.size, 1, none⟩ = false := by rw [hf _ _ (by simp)]; simp [go_sem]
  have hb1' := hide (((Below.refl _ _).alloc (Nat.le_refl _) _).trans (hb1.mono (B' := w.heap.size) (by simp)))
  have hV' := hide hV
  clear hc hf hb1 hz hfw hV
  go_wp2_with fail
  have hbW := hide ((hb1'.out.setCell (p := ⟨w.heap.size, 0, none⟩) (Nat.le_refl _) (.int .i64 u.T)).setCell (p := ⟨w.heap.size, 1, none⟩) (Nat.le_refl _) (.slice A u.n c))
  have e0 : ((w1.setCell ⟨w.heap.size, 0, none⟩ (.int .i64 u.T)).setCell ⟨w.heap.size, 1, none⟩ (.slice A u.n c)).cell? ⟨w.heap.size, 0, none⟩ = some (.int .i64 u.T) := by simp [go_sem, *]
  have e1 : ((w1.setCell ⟨w.heap.size, 0, none⟩ (.int .i64 u.T)).setCell ⟨w.heap.size, 1, none⟩ (.slice A u.n c)).cell? ⟨w.heap.size, 1, none⟩ = some (.slice A u.n c) := by simp [go_sem, *]
  have hl : w.heap.size < ((w1.setCell ⟨w.heap.size, 0, none⟩ (.int .i64 u.T)).setCell ⟨w.heap.size, 1, none⟩ (.slice A u.n c)).heap.size := by simp [World.setCell]; exact hzl
  generalize ((w1.setCell ⟨w.heap.size, 0, none⟩ (.int .i64 u.T)).setCell ⟨w.heap.size, 1, none⟩ (.slice A u.n c)) = W1 at *
  have hV := hide (hV'.out.below hbW.out)
  clear hz2 hz3 hz4 hz5 hzl hb1' hV'
  have r0 := e0
  have r1 := e1
  have hlr := hl
  have hVr := hV
  have hbw := hbW
  clear e0 e1
  by_cases hok : u.Ok
  · have hok' := hide hok
    clear hok
    refine (refCheck_ok u hok'.out A c _ hVr.out).mono ?_
    rintro e w2 ⟨rfl, hb2⟩
    replace r0 : (w2).cell? ⟨w.heap.size, 0, none⟩ = some (.int .i64 u.T) := (hb2.cell (p := ⟨w.heap.size, 0, none⟩) hlr).trans r0
    replace r1 : (w2).cell? ⟨w.heap.size, 1, none⟩ = some (.slice _ u.n c) := (hb2.cell (p := ⟨w.heap.size, 1, none⟩) hlr).trans r1
    replace hVr := hide (hVr.out.below hb2)
    replace hbw := hide (hbw.out.trans (hb2.mono hbw.out.size))
    replace hlr : w.heap.size < (w2).heap.size := Nat.lt_of_lt_of_le hlr hb2.size
    clear hb2
    have f0 : ∀ w', Later (fun _ => False) w2.drew w' → w'.cell? ⟨w.heap.size, 0, none⟩ = some (.int .i64 u.T) := fun w' hl => (Later.cell (a := w2) hl hlr (fun h => h)).1.trans r0
    have f1 : ∀ w', Later (fun _ => False) w2.drew w' → w'.cell? ⟨w.heap.size, 1, none⟩ = some (.slice A u.n c) := fun w' hl => (Later.cell (a := w2) hl hlr (fun h => h)).1.trans r1
    have hs1 := hide (fun W (hW : TabV W A c u) => refShare_any u hok'.out A c part W hW)
    have hs2 := hide (fun W (hW : TabV W A c u) => share_ok u hok'.out A c part W hW)
    have ht1 := hide (fun W (hW : TabV W A c u) => refTurns_any u hok'.out A c part x hx W hW)
    have ht2 := hide (fun W (hW : TabV W A c u) => turns_ok u hok'.out A c part x hx W hW)
    generalize u.below part u.T = sh at *
    generalize u.turns part x = tu at *
    go_wp2_with fail
    replace hVr := hide (hVr.out.below ((Below.refl w2.heap.size w2).drew))
    replace hbw := hide hbw.out.drew
    have hlq : w.heap.size < w2.drew.heap.size := hlr
    refine region_plan [(true, 0), (true, 1), (true, 3), (true, 4), (true, 5), (false, 2), (false, 6), (true, 7), (true, 8)] (Later fun _ => False) (later_refl _) (later_trans _) (by kernel_rfl) (by kernel_rfl) (fun _ _ d _ _ h => by cases d <;> exact h) ?_
    repeat
      (first
        | (show wpPlan _ _ _ _ ((true, _) :: _) _ _
           refine plan_skip rfl (by rfl) ?_
           simp only [Act.put, List.setIfInBounds_toArray, List.set_cons_zero, List.set_cons_succ])
        | (show wpPlan _ _ _ _ ((false, _) :: _) _ _
           refine plan_skip_eff (later_refl _) rfl (by rfl) ?_
           simp only [Act.put, List.setIfInBounds_toArray, List.set_cons_zero, List.set_cons_succ])
        | (show wpPlan _ _ _ _ ((true, _) :: _) _ _
           refine plan_take (v := ?_) rfl (by rfl) (fun w' hw' => ?_) ?_
           rotate_left
           focus
             go_simp
             try with_reducible rfl
             done
           simp only [Act.put, List.setIfInBounds_toArray, List.set_cons_zero, List.set_cons_succ]))
    refine plan_eff rfl (by rfl) (fun K hK => ?_)
    go_wp2_with fail
    refine (hs1.out _ hVr.out).mono ?_
    rintro e v1 ⟨rfl, hb2⟩
    have hb2' := hide hb2
    have hl2 := hide (below_later hb2 (Nat.le_refl _))
    replace hVr := hide (hVr.out.below hb2)
    replace hbw := hide (hbw.out.trans (hb2.mono hbw.out.size))
    replace f0 : ∀ w', Later (fun _ => False) (v1) w' → w'.cell? ⟨w.heap.size, 0, none⟩ = some (.int .i64 u.T) := fun w' hl => f0 w' (later_trans _ _ _ _ hl2.out hl)
    replace f1 : ∀ w', Later (fun _ => False) (v1) w' → w'.cell? ⟨w.heap.size, 1, none⟩ = some (.slice _ u.n c) := fun w' hl => f1 w' (later_trans _ _ _ _ hl2.out hl)
    clear hb2
    refine hK _ _ hl2.out ?_
    clear hK K hl2 hb2'
    try simp only [Act.put, List.setIfInBounds_toArray, List.set_cons_zero, List.set_cons_succ]
    repeat
      (first
        | (show wpPlan _ _ _ _ ((true, _) :: _) _ _
           refine plan_skip rfl (by rfl) ?_
           simp only [Act.put, List.setIfInBounds_toArray, List.set_cons_zero, List.set_cons_succ])
        | (show wpPlan _ _ _ _ ((false, _) :: _) _ _
           refine plan_skip_eff (later_refl _) rfl (by rfl) ?_
           simp only [Act.put, List.setIfInBounds_toArray, List.set_cons_zero, List.set_cons_succ])
        | (show wpPlan _ _ _ _ ((true, _) :: _) _ _
           refine plan_take (v := ?_) rfl (by rfl) (fun w' hw' => ?_) ?_
           rotate_left
           focus
             go_simp
             try with_reducible rfl
             done
           simp only [Act.put, List.setIfInBounds_toArray, List.set_cons_zero, List.set_cons_succ]))
    refine plan_eff rfl (by rfl) (fun K hK => ?_)
    go_wp2_with fail
    refine (ht1.out _ hVr.out).mono ?_
    rintro e v2 ⟨rfl, hb2⟩
    have hb2' := hide hb2
    have hl2 := hide (below_later hb2 (Nat.le_refl _))
    replace hVr := hide (hVr.out.below hb2)
    replace hbw := hide (hbw.out.trans (hb2.mono hbw.out.size))
    replace f0 : ∀ w', Later (fun _ => False) (v2) w' → w'.cell? ⟨w.heap.size, 0, none⟩ = some (.int .i64 u.T) := fun w' hl => f0 w' (later_trans _ _ _ _ hl2.out hl)
    replace f1 : ∀ w', Later (fun _ => False) (v2) w' → w'.cell? ⟨w.heap.size, 1, none⟩ = some (.slice _ u.n c) := fun w' hl => f1 w' (later_trans _ _ _ _ hl2.out hl)
    clear hb2
    refine hK _ _ hl2.out ?_
    clear hK K hl2 hb2'
    try simp only [Act.put, List.setIfInBounds_toArray, List.set_cons_zero, List.set_cons_succ]
    repeat
      (first
        | (show wpPlan _ _ _ _ ((true, _) :: _) _ _
           refine plan_skip rfl (by rfl) ?_
           simp only [Act.put, List.setIfInBounds_toArray, List.set_cons_zero, List.set_cons_succ])
        | (show wpPlan _ _ _ _ ((false, _) :: _) _ _
           refine plan_skip_eff (later_refl _) rfl (by rfl) ?_
           simp only [Act.put, List.setIfInBounds_toArray, List.set_cons_zero, List.set_cons_succ])
        | (show wpPlan _ _ _ _ ((true, _) :: _) _ _
           refine plan_take (v := ?_) rfl (by rfl) (fun w' hw' => ?_) ?_
           rotate_left
           focus
             go_simp
             try with_reducible rfl
             done
           simp only [Act.put, List.setIfInBounds_toArray, List.set_cons_zero, List.set_cons_succ]))
    refine plan_nil ?_
    have r0 := f0 v2 (later_refl _ _)
    have r1 := f1 v2 (later_refl _ _)
    have hlr : w.heap.size < v2.heap.size := World.block_lt_of_cell? v2 ⟨w.heap.size, 0, none⟩ r0
    clear f0 f1 hlq
    go_wp2_with fail
    refine (refNext_any u hok'.out A c part x hx _ hVr.out).mono ?_
    rintro e w3 ⟨v, rfl, hv, hb2⟩
    obtain ⟨a, b, rfl⟩ := next_form hv
    have hv' := hide hv
    clear hv
    replace r0 : (w3).cell? ⟨w.heap.size, 0, none⟩ = some (.int .i64 u.T) := (hb2.cell (p := ⟨w.heap.size, 0, none⟩) hlr).trans r0
    replace r1 : (w3).cell? ⟨w.heap.size, 1, none⟩ = some (.slice _ u.n c) := (hb2.cell (p := ⟨w.heap.size, 1, none⟩) hlr).trans r1
    replace hVr := hide (hVr.out.below hb2)
    replace hbw := hide (hbw.out.trans (hb2.mono hbw.out.size))
    replace hlr : w.heap.size < (w3).heap.size := Nat.lt_of_lt_of_le hlr hb2.size
    clear hb2
    go_wp2_with fail
    refine (next_ok u hok'.out A c part x hx _ hVr.out).mono ?_
    rintro e w4 ⟨v, rfl, hv, hb2⟩
    obtain rfl := next_uniq hv'.out hv
    clear hv hv'
    replace r0 : (w4).cell? ⟨w.heap.size, 0, none⟩ = some (.int .i64 u.T) := (hb2.cell (p := ⟨w.heap.size, 0, none⟩) hlr).trans r0
    replace r1 : (w4).cell? ⟨w.heap.size, 1, none⟩ = some (.slice _ u.n c) := (hb2.cell (p := ⟨w.heap.size, 1, none⟩) hlr).trans r1
    replace hVr := hide (hVr.out.below hb2)
    replace hbw := hide (hbw.out.trans (hb2.mono hbw.out.size))
    replace hlr : w.heap.size < (w4).heap.size := Nat.lt_of_lt_of_le hlr hb2.size
    clear hb2
    go_wp2_with fail
    refine (hs2.out _ hVr.out).mono ?_
    rintro e w5 ⟨rfl, hb2⟩
    replace r0 : (w5).cell? ⟨w.heap.size, 0, none⟩ = some (.int .i64 u.T) := (hb2.cell (p := ⟨w.heap.size, 0, none⟩) hlr).trans r0
    replace r1 : (w5).cell? ⟨w.heap.size, 1, none⟩ = some (.slice _ u.n c) := (hb2.cell (p := ⟨w.heap.size, 1, none⟩) hlr).trans r1
    replace hVr := hide (hVr.out.below hb2)
    replace hbw := hide (hbw.out.trans (hb2.mono hbw.out.size))
    replace hlr : w.heap.size < (w5).heap.size := Nat.lt_of_lt_of_le hlr hb2.size
    clear hb2
    go_wp2_with fail
    refine (ht2.out _ hVr.out).mono ?_
    rintro e w6 ⟨rfl, hb2⟩
    replace r0 : (w6).cell? ⟨w.heap.size, 0, none⟩ = some (.int .i64 u.T) := (hb2.cell (p := ⟨w.heap.size, 0, none⟩) hlr).trans r0
    replace r1 : (w6).cell? ⟨w.heap.size, 1, none⟩ = some (.slice _ u.n c) := (hb2.cell (p := ⟨w.heap.size, 1, none⟩) hlr).trans r1
    replace hVr := hide (hVr.out.below hb2)
    replace hbw := hide (hbw.out.trans (hb2.mono hbw.out.size))
    replace hlr : w.heap.size < (w6).heap.size := Nat.lt_of_lt_of_le hlr hb2.size
    clear hb2
    go_wp2_with fail
    refine (awake11 _).mono ?_
    rintro e w9 ⟨rfl, hb2⟩
    replace hbw := hide (hbw.out.trans (hb2.mono hbw.out.size))
    clear hb2
    go_wp2_with fail
    go_ret
    exact ⟨rfl, hbw.out⟩
  · have hok' := hide hok
    clear hok
    refine (refCheck_bad u hok'.out A c _ hVr.out).mono ?_
    rintro e w2 ⟨a, b, ha, rfl, hb2⟩
    replace r0 : (w2).cell? ⟨w.heap.size, 0, none⟩ = some (.int .i64 u.T) := (hb2.cell (p := ⟨w.heap.size, 0, none⟩) hlr).trans r0
    replace r1 : (w2).cell? ⟨w.heap.size, 1, none⟩ = some (.slice _ u.n c) := (hb2.cell (p := ⟨w.heap.size, 1, none⟩) hlr).trans r1
    replace hVr := hide (hVr.out.below hb2)
    replace hbw := hide (hbw.out.trans (hb2.mono hbw.out.size))
    replace hlr : w.heap.size < (w2).heap.size := Nat.lt_of_lt_of_le hlr hb2.size
    clear hb2
    go_wp2_with fail
    refine (next_bad u hok'.out A c part x _ hVr.out).mono ?_
    rintro e w3 ⟨rfl, hb2⟩
    replace r0 : (w3).cell? ⟨w.heap.size, 0, none⟩ = some (.int .i64 u.T) := (hb2.cell (p := ⟨w.heap.size, 0, none⟩) hlr).trans r0
    replace r1 : (w3).cell? ⟨w.heap.size, 1, none⟩ = some (.slice _ u.n c) := (hb2.cell (p := ⟨w.heap.size, 1, none⟩) hlr).trans r1
    replace hVr := hide (hVr.out.below hb2)
    replace hbw := hide (hbw.out.trans (hb2.mono hbw.out.size))
    replace hlr : w.heap.size < (w3).heap.size := Nat.lt_of_lt_of_le hlr hb2.size
    clear hb2
    go_wp2_with fail
    refine (share_bad u hok'.out A c part _ hVr.out).mono ?_
    rintro e w4 ⟨rfl, hb2⟩
    replace r0 : (w4).cell? ⟨w.heap.size, 0, none⟩ = some (.int .i64 u.T) := (hb2.cell (p := ⟨w.heap.size, 0, none⟩) hlr).trans r0
    replace r1 : (w4).cell? ⟨w.heap.size, 1, none⟩ = some (.slice _ u.n c) := (hb2.cell (p := ⟨w.heap.size, 1, none⟩) hlr).trans r1
    replace hVr := hide (hVr.out.below hb2)
    replace hbw := hide (hbw.out.trans (hb2.mono hbw.out.size))
    replace hlr : w.heap.size < (w4).heap.size := Nat.lt_of_lt_of_le hlr hb2.size
    clear hb2
    go_wp2_with fail
    refine (turns_bad u hok'.out A c part x _ hVr.out).mono ?_
    rintro e w5 ⟨rfl, hb2⟩
    replace r0 : (w5).cell? ⟨w.heap.size, 0, none⟩ = some (.int .i64 u.T) := (hb2.cell (p := ⟨w.heap.size, 0, none⟩) hlr).trans r0
    replace r1 : (w5).cell? ⟨w.heap.size, 1, none⟩ = some (.slice _ u.n c) := (hb2.cell (p := ⟨w.heap.size, 1, none⟩) hlr).trans r1
    replace hVr := hide (hVr.out.below hb2)
    replace hbw := hide (hbw.out.trans (hb2.mono hbw.out.size))
    replace hlr : w.heap.size < (w5).heap.size := Nat.lt_of_lt_of_le hlr hb2.size
    clear hb2
    go_wp2_with fail
    refine (awake11 _).mono ?_
    rintro e w9 ⟨rfl, hb2⟩
    replace hbw := hide (hbw.out.trans (hb2.mono hbw.out.size))
    clear hb2
    go_wp2_with fail
    go_ret
    exact ⟨rfl, hbw.out⟩
end Go.Proofs.Ytkcjjogekkldkaa
