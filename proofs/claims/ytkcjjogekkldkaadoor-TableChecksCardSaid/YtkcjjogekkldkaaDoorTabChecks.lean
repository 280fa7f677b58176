/- The law TableChecks walked. -/
import Derived.Test.YtkcjjogekkldkaaDoorTabRef
import Derived.Test.YtkcjjogekkldkaaDoorFaultPath
namespace Go.Proofs.YtkcjjogekkldkaaDoor
open Go.RowKit

theorem checks_alike {t : Tab} {w w' : World} {v r : Value} (hok : ¬ t.Ok) (h : t.CheckIs w w' v) (h' : t.RefIs r) : ∃ cd pl : Int, cd ≠ 0 ∧ FaultIs w w' v cd pl ∧ r = .tuple #[.int .i64 cd, .int .i64 pl] := by
  rcases h with ⟨hx, _⟩ | ⟨hb, hf⟩ | ⟨a1, a2, a3, k, k1, k2, k3, hf⟩
  · exact absurd hx hok
  · rcases h' with ⟨hx, _⟩ | ⟨_, rfl⟩ | ⟨b1, b2, b3, _⟩
    · exact absurd hx hok
    · exact ⟨1, 0, by decide, hf, rfl⟩
    · omega
  · rcases h' with ⟨hx, _⟩ | ⟨hb, _⟩ | ⟨_, _, _, m, m1, m2, m3, rfl⟩
    · exact absurd hx hok
    · omega
    · have : k = m := by
        rcases Nat.lt_trichotomy k m with h | h | h
        · exact absurd (m2 k h) k3
        · exact h
        · exact absurd (k2 m h) m3
      subst this
      exact ⟨_, _, k3, hf, rfl⟩

set_option maxRecDepth 100000 in
set_option maxHeartbeats 2000000 in
theorem tableChecks_any (t : Tab) (A : Option Addr) (c : Nat) (w : World) (h : TabV w A c t) (hE : ErrT w) :
    Calls Tryd.prog 3 #[.agg #[.int .i64 t.T, .slice A t.n c]] w fun e w' => e = .returned (.bool true) ∧ Below w.heap.size w w' := by
  have h' := hide h
  have hE' := hide hE
  clear h hE
  go_enter Tryd.func3, Tryd.ntmps3
  go_wp2_with fail
  have hfw : ∀ W, TabV W A c t → Calls Tryd.prog 4 #[.agg #[.int .i64 t.T, .slice A t.n c]] W fun e w' => e = .returned (.agg #[.int .i64 t.few.T, .slice A t.few.n c]) ∧ Below W.heap.size W w' := fun W hW => few_any t A c W hW
  have hV : TabV w A c t.few := h'.out.few
  generalize t.few = u at *
  refine (hfw _ (h'.out.below ((Below.refl _ _).alloc (Nat.le_refl _) _))).mono ?_
  rintro e w1 ⟨rfl, hb1⟩
  obtain ⟨hc, hf⟩ := bcell hb1
  have hz := hb1.size
  simp at hz
  have hzl : w.heap.size < w1.heap.size := by omega
  have hz2 : w1.cell? ⟨w.heap.size, 0, none⟩ = some (.int .i64 t.T) := by rw [hc _ _ (by simp)]; simp [go_sem]
  have hz3 : w1.cell? ⟨w.heap.size, 1, none⟩ = some (.slice A t.n c) := by rw [hc _ _ (by simp)]; simp [go_sem]
  have hz4 : w1.frozen? ⟨w.heap.size, 0, none⟩ = false := by rw [hf _ _ (by simp)]; simp [go_sem]
  have hz5 : w1.frozen? ⟨w.heap.size, 1, none⟩ = false := by rw [hf _ _ (by simp)]; simp [go_sem]
  have hb1' := hide (((Below.refl _ _).alloc (Nat.le_refl _) _).trans (hb1.mono (B' := w.heap.size) (by simp)))
  have hV' := hide hV
  clear hc hf hb1 hz hfw hV
  go_wp2_with fail
  have hbW := hide ((hb1'.out.setCell (p := ⟨w.heap.size, 0, none⟩) (Nat.le_refl _) (.int .i64 u.T)).setCell (p := ⟨w.heap.size, 1, none⟩) (Nat.le_refl _) (.slice A u.n c))
  have e0 : ((w1.setCell ⟨w.heap.size, 0, none⟩ (.int .i64 u.T)).setCell ⟨w.heap.size, 1, none⟩ (.slice A u.n c)).cell? ⟨w.heap.size, 0, none⟩ = some (.int .i64 u.T) := by simp [go_sem, *]
  have e1 : ((w1.setCell ⟨w.heap.size, 0, none⟩ (.int .i64 u.T)).setCell ⟨w.heap.size, 1, none⟩ (.slice A u.n c)).cell? ⟨w.heap.size, 1, none⟩ = some (.slice A u.n c) := by simp [go_sem, *]
  have hl : w.heap.size < ((w1.setCell ⟨w.heap.size, 0, none⟩ (.int .i64 u.T)).setCell ⟨w.heap.size, 1, none⟩ (.slice A u.n c)).heap.size := by simp [World.setCell]; exact hzl
  generalize ((w1.setCell ⟨w.heap.size, 0, none⟩ (.int .i64 u.T)).setCell ⟨w.heap.size, 1, none⟩ (.slice A u.n c)) = W1 at *
  have hV := hide (hV'.out.below hbW.out)
  clear hz2 hz3 hz4 hz5 hzl hb1' hV'
  have r0 := e0
  have r1 := e1
  have hlr := hl
  have hVr := hV
  have hbw := hbW
  clear e0 e1
  refine (check_any u A c _ hVr.out).mono ?_
  rintro e w2 ⟨v, rfl, hv, hb2⟩
  have hb2k := hide hb2
  replace r0 : (w2).cell? ⟨w.heap.size, 0, none⟩ = some (.int .i64 u.T) := (hb2.cell (p := ⟨w.heap.size, 0, none⟩) hlr).trans r0
  replace r1 : (w2).cell? ⟨w.heap.size, 1, none⟩ = some (.slice _ u.n c) := (hb2.cell (p := ⟨w.heap.size, 1, none⟩) hlr).trans r1
  replace hVr := hide (hVr.out.below hb2)
  replace hbw := hide (hbw.out.trans (hb2.mono hbw.out.size))
  replace hlr : w.heap.size < (w2).heap.size := Nat.lt_of_lt_of_le hlr hb2.size
  clear hb2
  by_cases hok : u.Ok
  · have hvn : v = .nilIface := by
      rcases hv with ⟨_, rfl⟩ | ⟨hx, _⟩ | ⟨_, _, _, k, hk, _, hx, _⟩
      · rfl
      · have := hok.T1; have := hok.T2; have := hok.n32; omega
      · exact absurd (hok.w k hk) hx
    subst hvn
    have hok' := hide hok
    clear hv hok
    go_wp2_with fail
    refine (refCheck_any u A c _ hVr.out).mono ?_
    rintro e w3 ⟨r, rfl, hr, hb2⟩
    have hrn : r = .tuple #[.int .i64 0, .int .i64 0] := by
      rcases hr with ⟨_, rfl⟩ | ⟨hx, _⟩ | ⟨_, _, _, k, hk, _, hx, _⟩
      · rfl
      · have := hok'.out.T1; have := hok'.out.T2; have := hok'.out.n32; omega
      · exact absurd (hok'.out.w k hk) hx
    subst hrn
    clear hr
    replace r0 : (w3).cell? ⟨w.heap.size, 0, none⟩ = some (.int .i64 u.T) := (hb2.cell (p := ⟨w.heap.size, 0, none⟩) hlr).trans r0
    replace r1 : (w3).cell? ⟨w.heap.size, 1, none⟩ = some (.slice _ u.n c) := (hb2.cell (p := ⟨w.heap.size, 1, none⟩) hlr).trans r1
    replace hVr := hide (hVr.out.below hb2)
    replace hbw := hide (hbw.out.trans (hb2.mono hbw.out.size))
    replace hlr : w.heap.size < (w3).heap.size := Nat.lt_of_lt_of_le hlr hb2.size
    clear hb2
    go_wp2_with fail
    refine (awake11 _).mono ?_
    rintro e w9 ⟨rfl, hb2⟩
    replace hbw := hide (hbw.out.trans (hb2.mono hbw.out.size))
    clear hb2
    go_wp2_with fail
    go_ret
    exact ⟨rfl, hbw.out⟩
  · have hok' := hide hok
    have hv' := hide hv
    clear hok hv
    go_wp2_with fail
    refine (refCheck_any u A c _ hVr.out).mono ?_
    rintro e w3 ⟨r, rfl, hr, hb2⟩
    obtain ⟨cd, pl, hcd, hf, rfl⟩ := checks_alike hok'.out hv'.out hr
    obtain ⟨g, rfl, hg1, hg2, hg3, hg4, hg5⟩ := hf
    have hF2 : Fault1 w2 g cd pl := ⟨hg2, hg3, hg4, hg5⟩
    have hF := hide (hF2.below hb2)
    have hcdb : (cd == 0) = false := by simpa using hcd
    clear hr hcd hg1 hg2 hg3 hg4 hg5 hF2 hv'
    replace r0 : (w3).cell? ⟨w.heap.size, 0, none⟩ = some (.int .i64 u.T) := (hb2.cell (p := ⟨w.heap.size, 0, none⟩) hlr).trans r0
    replace r1 : (w3).cell? ⟨w.heap.size, 1, none⟩ = some (.slice _ u.n c) := (hb2.cell (p := ⟨w.heap.size, 1, none⟩) hlr).trans r1
    replace hVr := hide (hVr.out.below hb2)
    replace hbw := hide (hbw.out.trans (hb2.mono hbw.out.size))
    replace hlr : w.heap.size < (w3).heap.size := Nat.lt_of_lt_of_le hlr hb2.size
    clear hb2
    go_wp2_with fail
    refine (code_one g cd pl _ hF.out (hE'.out.below (hbw.out.mono (Nat.le_refl _)))).mono ?_
    rintro e w4 ⟨rfl, hb2⟩
    replace hF := hide (hF.out.below hb2)
    replace r0 : (w4).cell? ⟨w.heap.size, 0, none⟩ = some (.int .i64 u.T) := (hb2.cell (p := ⟨w.heap.size, 0, none⟩) hlr).trans r0
    replace r1 : (w4).cell? ⟨w.heap.size, 1, none⟩ = some (.slice _ u.n c) := (hb2.cell (p := ⟨w.heap.size, 1, none⟩) hlr).trans r1
    replace hVr := hide (hVr.out.below hb2)
    replace hbw := hide (hbw.out.trans (hb2.mono hbw.out.size))
    replace hlr : w.heap.size < (w4).heap.size := Nat.lt_of_lt_of_le hlr hb2.size
    clear hb2
    go_wp2_with fail
    refine (path_one g cd pl _ hF.out (hE'.out.below hbw.out)).mono ?_
    rintro e w5 ⟨p, cap, rfl, _, _, hb2⟩
    replace hF := hide (hF.out.below hb2)
    replace r0 : (w5).cell? ⟨w.heap.size, 0, none⟩ = some (.int .i64 u.T) := (hb2.cell (p := ⟨w.heap.size, 0, none⟩) hlr).trans r0
    replace r1 : (w5).cell? ⟨w.heap.size, 1, none⟩ = some (.slice _ u.n c) := (hb2.cell (p := ⟨w.heap.size, 1, none⟩) hlr).trans r1
    replace hVr := hide (hVr.out.below hb2)
    replace hbw := hide (hbw.out.trans (hb2.mono hbw.out.size))
    replace hlr : w.heap.size < (w5).heap.size := Nat.lt_of_lt_of_le hlr hb2.size
    clear hb2
    go_wp2_with fail
    refine (path_one g cd pl _ hF.out (hE'.out.below hbw.out)).mono ?_
    rintro e w6 ⟨p6, cap6, rfl, hp6, hc6, hb2⟩
    replace r0 : (w6).cell? ⟨w.heap.size, 0, none⟩ = some (.int .i64 u.T) := (hb2.cell (p := ⟨w.heap.size, 0, none⟩) hlr).trans r0
    replace r1 : (w6).cell? ⟨w.heap.size, 1, none⟩ = some (.slice _ u.n c) := (hb2.cell (p := ⟨w.heap.size, 1, none⟩) hlr).trans r1
    replace hVr := hide (hVr.out.below hb2)
    replace hbw := hide (hbw.out.trans (hb2.mono hbw.out.size))
    replace hlr : w.heap.size < (w6).heap.size := Nat.lt_of_lt_of_le hlr hb2.size
    clear hb2
    go_wp2_with fail
    refine (awake11 _).mono ?_
    rintro e w9 ⟨rfl, hb2⟩
    replace hbw := hide (hbw.out.trans (hb2.mono hbw.out.size))
    clear hb2
    go_wp2_with fail
    go_ret
    exact ⟨rfl, hbw.out⟩
end Go.Proofs.YtkcjjogekkldkaaDoor
