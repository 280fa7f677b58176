/- The law TableTells walked. -/
import Derived.Test.YtkcjjogekkldkaaTabPlaces
namespace Go.Proofs.Ytkcjjogekkldkaa
open Go.RowKit

theorem refCheck_ok (t : Tab) (hok : t.Ok) (A : Option Addr) (c : Nat) (w : World) (h : TabV w A c t) :
    Calls Try.prog 24 #[.agg #[.int .i64 t.T, .slice A t.n c]] w fun e w' => e = .returned (.tuple #[.int .i64 0, .int .i64 0]) ∧ Below w.heap.size w w' := by
  refine (refCheck_any t A c w h).mono ?_
  rintro e w' ⟨v, rfl, hv, hb⟩
  rcases hv with ⟨_, rfl⟩ | ⟨hx, _⟩ | ⟨_, _, _, k, hk, _, hx, _⟩
  · exact ⟨rfl, hb⟩
  · have := hok.T1; have := hok.T2; have := hok.n32; omega
  · exact absurd (hok.w k hk) hx
theorem Tab.bad_ne {t : Tab} {k : Nat} : (t.bad k == 0) = false ∨ t.bad k = 0 := by
  by_cases h : t.bad k = 0
  · exact .inr h
  · exact .inl (by simpa using h)
theorem refCheck_bad (t : Tab) (hok : ¬ t.Ok) (A : Option Addr) (c : Nat) (w : World) (h : TabV w A c t) :
    Calls Try.prog 24 #[.agg #[.int .i64 t.T, .slice A t.n c]] w fun e w' => ∃ a b : Int, (a == 0) = false ∧ e = .returned (.tuple #[.int .i64 a, .int .i64 b]) ∧ Below w.heap.size w w' := by
  refine (refCheck_any t A c w h).mono ?_
  rintro e w' ⟨v, rfl, hv, hb⟩
  rcases hv with ⟨hx, _⟩ | ⟨_, rfl⟩ | ⟨_, _, _, k, hk, _, hx, rfl⟩
  · exact absurd hx hok
  · exact ⟨1, 0, rfl, rfl, hb⟩
  · exact ⟨t.bad k, k, by simpa using hx, rfl, hb⟩
theorem own_read {w : World} {base : Nat} {e : TypeId} {v : Value} {n : Nat} {xs : List Value} (h : w.ownsRow base e 1 v n xs) (hn : 0 < n) : ∃ g cap, v = .slice (some ⟨g, 0, none⟩) n cap ∧ base ≤ g ∧ g < w.heap.size ∧ ∀ j u, xs[j]? = some u → w.cell? ⟨g, j, none⟩ = some u := by
  have h' := h
  rcases h.2 with ⟨_, h0⟩ | ⟨g, cap, cur, rfl, _⟩
  · omega
  · refine ⟨g, cap, rfl, (h'.lt g rfl).1, (h'.lt g rfl).2, fun j u hu => ?_⟩
    have := h'.cells (g := g) rfl j u hu
    rwa [Addr.add_lit, Nat.zero_add] at this

set_option maxRecDepth 100000 in
set_option maxHeartbeats 2000000 in
theorem tableTells_any (t : Tab) (A : Option Addr) (c : Nat) (x : Nat) (w : World) (h : TabV w A c t) :
    Calls Try.prog 7 #[.agg #[.int .i64 t.T, .slice A t.n c], .int .u64 x] w fun e w' => e = .returned (.bool true) ∧ Below w.heap.size w w' := by
  have h' := hide h
  clear h
  go_enter Try.func7, Try.ntmps7
  go_wp2_with fail
  have hfw : ∀ W, TabV W A c t → Calls Try.prog 23 #[.agg #[.int .i64 t.T, .slice A t.n c]] W fun e w' => e = .returned (.agg #[.int .i64 t.few.T, .slice A t.few.n c]) ∧ Below W.heap.size W w' := fun W hW => few_any t A c W hW
  have hV : TabV w A c t.few := h'.out.few
  generalize t.few = u at *
  refine (hfw _ (h'.out.below ((Below.refl _ _).alloc (Nat.le_refl _) _))).mono ?_
  rintro e w1 ⟨rfl, hb1⟩
  obtain ⟨hc, hf⟩ := bcell hb1
  have hz := hb1.size
  simp at hz
  have hzl : w.heap.size < w1.heap.size := by omega
  have hz2 : w1.cell? ⟨w.heap.size, 0, none⟩ = some (.int .i64 t.T) := by rw [hc _ _ (by simp)]; simp [go_sem]
  have hz3 : w1.cell? ⟨w.heap.size, 1, none⟩ = some (.slice A t.n c) := by rw [hc _ _ (by simp)]; simp [go_sem]
  have hz4 : w1.frozen? ⟨w.heap.size, 0, none⟩ = false := by rw [hf _ _ (by simp)]; simp [go_sem]
  have hz5 : w1.frozen? ⟨w.heap.size, 1, none⟩ = false := by rw [hf _ _ (by simp)]; simp [go_sem]
  have hb1' := hide (((Below.refl _ _).alloc (Nat.le_refl _) _).trans (hb1.mono (B' := w.heap.size) (by simp)))
  have hV' := hide hV
  clear hc hf hb1 hz hfw hV
  go_wp2_with fail
  have hbW := hide ((hb1'.out.setCell (p := ⟨w.heap.size, 0, none⟩) (Nat.le_refl _) (.int .i64 u.T)).setCell (p := ⟨w.heap.size, 1, none⟩) (Nat.le_refl _) (.slice A u.n c))
  have e0 : ((w1.setCell ⟨w.heap.size, 0, none⟩ (.int .i64 u.T)).setCell ⟨w.heap.size, 1, none⟩ (.slice A u.n c)).cell? ⟨w.heap.size, 0, none⟩ = some (.int .i64 u.T) := by simp [go_sem, *]
  have e1 : ((w1.setCell ⟨w.heap.size, 0, none⟩ (.int .i64 u.T)).setCell ⟨w.heap.size, 1, none⟩ (.slice A u.n c)).cell? ⟨w.heap.size, 1, none⟩ = some (.slice A u.n c) := by simp [go_sem, *]
  have hl : w.heap.size < ((w1.setCell ⟨w.heap.size, 0, none⟩ (.int .i64 u.T)).setCell ⟨w.heap.size, 1, none⟩ (.slice A u.n c)).heap.size := by simp [World.setCell]; exact hzl
  generalize ((w1.setCell ⟨w.heap.size, 0, none⟩ (.int .i64 u.T)).setCell ⟨w.heap.size, 1, none⟩ (.slice A u.n c)) = W1 at *
  have hV := hide (hV'.out.below hbW.out)
  clear hz2 hz3 hz4 hz5 hzl hb1' hV'
  have r0 := e0
  have r1 := e1
  have hlr := hl
  have hVr := hV
  have hbw := hbW
  clear e0 e1
  by_cases hok : u.Ok
  · have hok' := hide hok
    clear hok
    have hT1 := hok'.out.T1
    have hT2 := hok'.out.T2
    refine (refCheck_ok u hok'.out A c _ hVr.out).mono ?_
    rintro e w2 ⟨rfl, hb2⟩
    replace r0 : (w2).cell? ⟨w.heap.size, 0, none⟩ = some (.int .i64 u.T) := (hb2.cell (p := ⟨w.heap.size, 0, none⟩) hlr).trans r0
    replace r1 : (w2).cell? ⟨w.heap.size, 1, none⟩ = some (.slice _ u.n c) := (hb2.cell (p := ⟨w.heap.size, 1, none⟩) hlr).trans r1
    replace hVr := hide (hVr.out.below hb2)
    replace hbw := hide (hbw.out.trans (hb2.mono hbw.out.size))
    replace hlr : w.heap.size < (w2).heap.size := Nat.lt_of_lt_of_le hlr hb2.size
    clear hb2
    have f0 : ∀ w', Later (fun _ => False) w2.drew w' → w'.cell? ⟨w.heap.size, 0, none⟩ = some (.int .i64 u.T) := fun w' hl => (Later.cell (a := w2) hl hlr (fun h => h)).1.trans r0
    have f1 : ∀ w', Later (fun _ => False) w2.drew w' → w'.cell? ⟨w.heap.size, 1, none⟩ = some (.slice A u.n c) := fun w' hl => (Later.cell (a := w2) hl hlr (fun h => h)).1.trans r1
    have hm1 : IntKind.u64.wrap u.T = u.T := IntWalk.u64_in _ (by omega)
    have hm0 : ¬ u.T = 0 := by omega
    have hTT : ((u.T.toNat : Nat) : Int) = u.T := by omega
    have hm2 : ((x : Int)).tmod u.T = ((x % u.T.toNat : Nat) : Int) := by rw [← hTT, Int.toNat_natCast]; rfl
    have hlt : x % u.T.toNat < u.T.toNat := Nat.mod_lt _ (by omega)
    have hm3 : IntKind.i64.wrap ((x % u.T.toNat : Nat) : Int) = ((x % u.T.toNat : Nat) : Int) := IntWalk.i64_in _ (by omega)
    have hwho := hide (fun W (hW : TabV W A c u) => who_ok u hok'.out A c x W hW)
    have hwin := hide (fun W (hW : TabV W A c u) => window_ok u hok'.out A c x W hW)
    have hwd := hide (show u.who ((x % u.T.toNat : Nat) : Int) = if 0 ≤ u.at_ ((x % u.T.toNat : Nat) : Int) then u.P (u.at_ ((x % u.T.toNat : Nat) : Int)).toNat else -1 from rfl)
    have hrg := hide (u.at_range ((x % u.T.toNat : Nat) : Int))
    have hpl := hide (fun W (hW : TabV W A c u) => (show Calls Try.prog 25 #[.agg #[.int .i64 u.T, .slice A u.n c]] W fun e w' => ∃ v, e = .returned v ∧ w'.ownsRow W.heap.size 3 1 v u.T.toNat (u.places u.T.toNat) ∧ Below W.heap.size W w' from places_any u hok'.out A c W hW))
    have hpg := hide (u.places_get u.T.toNat _ hlt)
    clear hTT
    generalize x % u.T.toNat = q at *
    generalize u.at_ (q : Int) = i at *
    generalize u.who (q : Int) = wv at *
    have hqI : (q : Int) < ((u.T.toNat : Nat) : Int) := by omega
    have hTp := hide (show 0 < u.T.toNat by omega)
    generalize u.places u.T.toNat = pls at *
    generalize u.T.toNat = tn at *
    go_wp2_with fail
    replace hVr := hide (hVr.out.below ((Below.refl w2.heap.size w2).drew))
    replace hbw := hide hbw.out.drew
    refine region_plan [(true, 0), (true, 2), (true, 3), (true, 4), (true, 5), (true, 6), (true, 7), (false, 1), (true, 8), (true, 9), (true, 10)] (Later fun _ => False) (later_refl _) (later_trans _) (by kernel_rfl) (by kernel_rfl) (fun _ _ d _ _ h => by cases d <;> exact h) ?_
    repeat
      (first
        | (show wpPlan _ _ _ _ ((true, _) :: _) _ _
           refine plan_skip rfl (by rfl) ?_
           simp only [Act.put, List.setIfInBounds_toArray, List.set_cons_zero, List.set_cons_succ])
        | (show wpPlan _ _ _ _ ((false, _) :: _) _ _
           refine plan_skip_eff (later_refl _) rfl (by rfl) ?_
           simp only [Act.put, List.setIfInBounds_toArray, List.set_cons_zero, List.set_cons_succ])
        | (show wpPlan _ _ _ _ ((true, _) :: _) _ _
           refine plan_take (v := ?_) rfl (by rfl) (fun w' hw' => ?_) ?_
           rotate_left
           focus
             go_simp
             try with_reducible rfl
             done
           simp only [Act.put, List.setIfInBounds_toArray, List.set_cons_zero, List.set_cons_succ]))
    refine plan_eff rfl (by rfl) (fun K hK => ?_)
    go_wp2_with fail
    refine (hpl.out _ hVr.out).mono ?_
    rintro e w3 ⟨v, rfl, hown, hb2⟩
    obtain ⟨g, cap, rfl, hg1, hg2, hgc⟩ := own_read hown hTp.out
    have hl2 := hide (below_later hb2 (Nat.le_refl _))
    have fq : ∀ w', Later (fun _ => False) w3 w' → w'.cell? ⟨g, q, none⟩ = some (.int .i64 i) := fun w' hl => (Later.cell (a := w3) hl hg2 (fun h => h)).1.trans (hgc q _ hpg.out)
    replace hVr := hide (hVr.out.below hb2)
    replace hbw := hide (hbw.out.trans (hb2.mono hbw.out.size))
    have r0 := f0 w3 hl2.out
    have r1 := f1 w3 hl2.out
    have hlr : w.heap.size < w3.heap.size := Nat.lt_of_lt_of_le hlr hb2.size
    clear hb2 hown hgc f0 f1
    refine hK _ _ hl2.out ?_
    clear hK K
    try simp only [Act.put, List.setIfInBounds_toArray, List.set_cons_zero, List.set_cons_succ]
    repeat
      (first
        | (show wpPlan _ _ _ _ ((true, _) :: _) _ _
           refine plan_skip rfl (by rfl) ?_
           simp only [Act.put, List.setIfInBounds_toArray, List.set_cons_zero, List.set_cons_succ])
        | (show wpPlan _ _ _ _ ((false, _) :: _) _ _
           refine plan_skip_eff (later_refl _) rfl (by rfl) ?_
           simp only [Act.put, List.setIfInBounds_toArray, List.set_cons_zero, List.set_cons_succ])
        | (show wpPlan _ _ _ _ ((true, _) :: _) _ _
           refine plan_take (v := ?_) rfl (by rfl) (fun w' hw' => ?_) ?_
           rotate_left
           focus
             go_simp
             try with_reducible rfl
             done
           simp only [Act.put, List.setIfInBounds_toArray, List.set_cons_zero, List.set_cons_succ]))
    refine plan_nil ?_
    by_cases hi : 0 ≤ i
    · obtain ⟨k, rfl⟩ := Int.eq_ofNat_of_zero_le hi
      obtain ⟨b, off, rfl, hr⟩ := hVr.out.rows (by have := hrg.out; omega)
      have hkn : k < u.n := by have := hrg.out; omega
      have hkI : (k : Int) < (u.n : Int) := by omega
      have c0 := hr.p k hkn
      have hwv := hide (show wv = u.P k by rw [hwd.out, if_pos hi, Int.toNat_natCast])
      clear hr hwd hrg
      generalize u.P k = p at *
      obtain rfl := hwv.out
      go_wp2_with fail
      refine (hwho.out _ hVr.out).mono ?_
      rintro e w4 ⟨rfl, hb2⟩
      replace r0 : (w4).cell? ⟨w.heap.size, 0, none⟩ = some (.int .i64 u.T) := (hb2.cell (p := ⟨w.heap.size, 0, none⟩) hlr).trans r0
      replace r1 : (w4).cell? ⟨w.heap.size, 1, none⟩ = some (.slice _ u.n c) := (hb2.cell (p := ⟨w.heap.size, 1, none⟩) hlr).trans r1
      replace hVr := hide (hVr.out.below hb2)
      replace hbw := hide (hbw.out.trans (hb2.mono hbw.out.size))
      replace hlr : w.heap.size < (w4).heap.size := Nat.lt_of_lt_of_le hlr hb2.size
      clear hb2
      go_wp2_with fail
      refine (hwin.out _ hVr.out).mono ?_
      rintro e w5 ⟨rfl, hb2⟩
      replace r0 : (w5).cell? ⟨w.heap.size, 0, none⟩ = some (.int .i64 u.T) := (hb2.cell (p := ⟨w.heap.size, 0, none⟩) hlr).trans r0
      replace r1 : (w5).cell? ⟨w.heap.size, 1, none⟩ = some (.slice _ u.n c) := (hb2.cell (p := ⟨w.heap.size, 1, none⟩) hlr).trans r1
      replace hVr := hide (hVr.out.below hb2)
      replace hbw := hide (hbw.out.trans (hb2.mono hbw.out.size))
      replace hlr : w.heap.size < (w5).heap.size := Nat.lt_of_lt_of_le hlr hb2.size
      clear hb2
      go_wp2_with fail
      refine (awake11 _).mono ?_
      rintro e w9 ⟨rfl, hb2⟩
      replace hbw := hide (hbw.out.trans (hb2.mono hbw.out.size))
      clear hb2
      go_wp2_with fail
      go_ret
      exact ⟨rfl, hbw.out⟩
    · have hwv := hide (show wv = -1 by rw [hwd.out, if_neg hi])
      have hi2 := hide (show i = -1 by have := hrg.out; omega)
      clear hwd hrg
      obtain rfl := hwv.out
      obtain rfl := hi2.out
      go_wp2_with fail
      refine (hwho.out _ hVr.out).mono ?_
      rintro e w4 ⟨rfl, hb2⟩
      replace r0 : (w4).cell? ⟨w.heap.size, 0, none⟩ = some (.int .i64 u.T) := (hb2.cell (p := ⟨w.heap.size, 0, none⟩) hlr).trans r0
      replace r1 : (w4).cell? ⟨w.heap.size, 1, none⟩ = some (.slice _ u.n c) := (hb2.cell (p := ⟨w.heap.size, 1, none⟩) hlr).trans r1
      replace hVr := hide (hVr.out.below hb2)
      replace hbw := hide (hbw.out.trans (hb2.mono hbw.out.size))
      replace hlr : w.heap.size < (w4).heap.size := Nat.lt_of_lt_of_le hlr hb2.size
      clear hb2
      go_wp2_with fail
      refine (hwin.out _ hVr.out).mono ?_
      rintro e w5 ⟨rfl, hb2⟩
      replace r0 : (w5).cell? ⟨w.heap.size, 0, none⟩ = some (.int .i64 u.T) := (hb2.cell (p := ⟨w.heap.size, 0, none⟩) hlr).trans r0
      replace r1 : (w5).cell? ⟨w.heap.size, 1, none⟩ = some (.slice _ u.n c) := (hb2.cell (p := ⟨w.heap.size, 1, none⟩) hlr).trans r1
      replace hVr := hide (hVr.out.below hb2)
      replace hbw := hide (hbw.out.trans (hb2.mono hbw.out.size))
      replace hlr : w.heap.size < (w5).heap.size := Nat.lt_of_lt_of_le hlr hb2.size
      clear hb2
      go_wp2_with fail
      refine (awake11 _).mono ?_
      rintro e w9 ⟨rfl, hb2⟩
      replace hbw := hide (hbw.out.trans (hb2.mono hbw.out.size))
      clear hb2
      go_wp2_with fail
      go_ret
      exact ⟨rfl, hbw.out⟩
  · have hok' := hide hok
    clear hok
    refine (refCheck_bad u hok'.out A c _ hVr.out).mono ?_
    rintro e w2 ⟨a, b, ha, rfl, hb2⟩
    replace r0 : (w2).cell? ⟨w.heap.size, 0, none⟩ = some (.int .i64 u.T) := (hb2.cell (p := ⟨w.heap.size, 0, none⟩) hlr).trans r0
    replace r1 : (w2).cell? ⟨w.heap.size, 1, none⟩ = some (.slice _ u.n c) := (hb2.cell (p := ⟨w.heap.size, 1, none⟩) hlr).trans r1
    replace hVr := hide (hVr.out.below hb2)
    replace hbw := hide (hbw.out.trans (hb2.mono hbw.out.size))
    replace hlr : w.heap.size < (w2).heap.size := Nat.lt_of_lt_of_le hlr hb2.size
    clear hb2
    go_wp2_with fail
    refine (who_bad u hok'.out A c x _ hVr.out).mono ?_
    rintro e w3 ⟨rfl, hb2⟩
    replace r0 : (w3).cell? ⟨w.heap.size, 0, none⟩ = some (.int .i64 u.T) := (hb2.cell (p := ⟨w.heap.size, 0, none⟩) hlr).trans r0
    replace r1 : (w3).cell? ⟨w.heap.size, 1, none⟩ = some (.slice _ u.n c) := (hb2.cell (p := ⟨w.heap.size, 1, none⟩) hlr).trans r1
    replace hVr := hide (hVr.out.below hb2)
    replace hbw := hide (hbw.out.trans (hb2.mono hbw.out.size))
    replace hlr : w.heap.size < (w3).heap.size := Nat.lt_of_lt_of_le hlr hb2.size
    clear hb2
    go_wp2_with fail
    refine (window_bad u hok'.out A c x _ hVr.out).mono ?_
    rintro e w4 ⟨rfl, hb2⟩
    replace r0 : (w4).cell? ⟨w.heap.size, 0, none⟩ = some (.int .i64 u.T) := (hb2.cell (p := ⟨w.heap.size, 0, none⟩) hlr).trans r0
    replace r1 : (w4).cell? ⟨w.heap.size, 1, none⟩ = some (.slice _ u.n c) := (hb2.cell (p := ⟨w.heap.size, 1, none⟩) hlr).trans r1
    replace hVr := hide (hVr.out.below hb2)
    replace hbw := hide (hbw.out.trans (hb2.mono hbw.out.size))
    replace hlr : w.heap.size < (w4).heap.size := Nat.lt_of_lt_of_le hlr hb2.size
    clear hb2
    go_wp2_with fail
    refine (awake11 _).mono ?_
    rintro e w9 ⟨rfl, hb2⟩
    replace hbw := hide (hbw.out.trans (hb2.mono hbw.out.size))
    clear hb2
    go_wp2_with fail
    go_ret
    exact ⟨rfl, hbw.out⟩
end Go.Proofs.Ytkcjjogekkldkaa
