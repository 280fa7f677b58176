/- The law TableShares walked. -/
import Derived.Test.YtkcjjogekkldkaaTabAwake
namespace Go.Proofs.Ytkcjjogekkldkaa
open Go.RowKit

def Tab.sumP (t : Tab) (k : Int) : Nat → Int
  | 0 => 0
  | m + 1 => t.sumP k m + t.below m k
def Tab.cntP (t : Tab) (k : Int) : Nat → Int
  | 0 => 0
  | m + 1 => t.cntP k m + (if t.turn m k then 1 else 0)
theorem Tab.cntP_le (t : Tab) (k : Int) : ∀ m : Nat, t.cntP k m ≤ 1 ∧ ((0 ≤ t.at_ k ∧ 0 ≤ t.P (t.at_ k).toNat ∧ t.P (t.at_ k).toNat < m) ∨ t.cntP k m = 0)
  | 0 => ⟨by simp [Tab.cntP], .inr rfl⟩
  | m + 1 => by
    obtain ⟨h1, h2⟩ := Tab.cntP_le t k m
    unfold Tab.cntP
    by_cases h : t.turn m k
    · rw [if_pos h]
      obtain ⟨h3, h4⟩ := h
      have h0 : t.cntP k m = 0 := by
        rcases h2 with h2 | h2
        · omega
        · exact h2
      exact ⟨by omega, .inl ⟨h3, by omega, by omega⟩⟩
    · rw [if_neg h]
      refine ⟨by omega, ?_⟩
      rcases h2 with h2 | h2
      · exact .inl (by omega)
      · exact .inr (by omega)
theorem Tab.Ok.sumP_step {t : Tab} (h : t.Ok) (k : Int) : ∀ m : Nat, t.sumP (k + 1) m = t.sumP k m + t.cntP k m
  | 0 => rfl
  | m + 1 => by
    unfold Tab.sumP Tab.cntP
    rw [Tab.Ok.sumP_step h k m, h.below_step]
    omega
theorem Tab.Ok.sumP_le {t : Tab} (h : t.Ok) (m k : Nat) : t.sumP k m ≤ k := by
  induction k with
  | zero =>
    have : ∀ m : Nat, t.sumP 0 m = 0 := by
      intro m
      induction m with
      | zero => rfl
      | succ m ih => unfold Tab.sumP; rw [ih, h.below_zero]; rfl
    rw [show ((0 : Nat) : Int) = 0 from rfl, this m]; omega
  | succ k ih =>
    rw [show ((k + 1 : Nat) : Int) = (k : Int) + 1 by omega, h.sumP_step]
    have := (t.cntP_le k m).1
    omega
theorem Tab.Ok.sumP_nonneg {t : Tab} (h : t.Ok) (k : Nat) : ∀ m : Nat, 0 ≤ t.sumP k m ∧ t.sumP k m ≤ m * k
  | 0 => by simp [Tab.sumP]
  | m + 1 => by
    have := Tab.Ok.sumP_nonneg h k m
    have := h.below_le m k
    unfold Tab.sumP
    rw [show ((m + 1 : Nat) : Int) * (k : Int) = (m : Int) * k + k by rw [Int.natCast_add, Int.add_mul]; simp]
    omega
theorem Tab.Ok.below_out {t : Tab} (h : t.Ok) (part place : Int) (hp : part < 0 ∨ 8 ≤ part) : t.below part place = 0 := by
  have : ∀ m : Nat, m ≤ t.n → t.sumTo part place m = 0 := by
    intro m
    induction m with
    | zero => intro _; rfl
    | succ m ih =>
      intro hm
      have hw := h.win (i := m) (by omega)
      unfold Tab.sumTo
      rw [ih (by omega), if_neg (by omega)]; rfl
  exact this t.n (Nat.le_refl _)

set_option maxRecDepth 100000 in
set_option maxHeartbeats 1000000 in
theorem tableShares_any (t : Tab) (A : Option Addr) (c : Nat) (part : Int) (w : World) (h : TabV w A c t) :
    Calls Try.prog 9 #[.agg #[.int .i64 t.T, .slice A t.n c], .int .i64 part] w fun e w' => e = .returned (.bool true) ∧ Below w.heap.size w w' := by
  have h' := hide h
  clear h
  go_enter Try.func9, Try.ntmps9
  go_wp2_with fail
  have hfw : ∀ W, TabV W A c t → Calls Try.prog 23 #[.agg #[.int .i64 t.T, .slice A t.n c]] W fun e w' => e = .returned (.agg #[.int .i64 t.few.T, .slice A t.few.n c]) ∧ Below W.heap.size W w' := fun W hW => few_any t A c W hW
  have hV : TabV w A c t.few := h'.out.few
  generalize t.few = u at *
  refine (hfw _ (h'.out.below ((Below.refl _ _).alloc (Nat.le_refl _) _))).mono ?_
  rintro e w1 ⟨rfl, hb1⟩
  obtain ⟨hc, hf⟩ := bcell hb1
  have hz := hb1.size
  simp at hz
  have hzl : w.heap.size < w1.heap.size := by omega
  have hz2 : w1.cell? ⟨w.heap.size, 0, none⟩ = some (.int .i64 t.T) := by rw [hc _ _ (by simp)]; simp [go_sem]
  have hz3 : w1.cell? ⟨w.heap.size, 1, none⟩ = some (.slice A t.n c) := by rw [hc _ _ (by simp)]; simp [go_sem]
  have hz4 : w1.frozen? ⟨w.heap.size, 0, none⟩ = false := by rw [hf _ _ (by simp)]; simp [go_sem]
  have hz5 : w1.frozen? ⟨w.heap.size, 1, none⟩ = false := by rw [hf _ _ (by simp)]; simp [go_sem]
  have hb1' := hide (((Below.refl _ _).alloc (Nat.le_refl _) _).trans (hb1.mono (B' := w.heap.size) (by simp)))
  have hV' := hide hV
  clear hc hf hb1 hz hfw hV
  go_wp2_with fail
  have hbW := hide ((hb1'.out.setCell (p := ⟨w.heap.size, 0, none⟩) (Nat.le_refl _) (.int .i64 u.T)).setCell (p := ⟨w.heap.size, 1, none⟩) (Nat.le_refl _) (.slice A u.n c))
  have e0 : ((w1.setCell ⟨w.heap.size, 0, none⟩ (.int .i64 u.T)).setCell ⟨w.heap.size, 1, none⟩ (.slice A u.n c)).cell? ⟨w.heap.size, 0, none⟩ = some (.int .i64 u.T) := by simp [go_sem, *]
  have e1 : ((w1.setCell ⟨w.heap.size, 0, none⟩ (.int .i64 u.T)).setCell ⟨w.heap.size, 1, none⟩ (.slice A u.n c)).cell? ⟨w.heap.size, 1, none⟩ = some (.slice A u.n c) := by simp [go_sem, *]
  have hl : w.heap.size < ((w1.setCell ⟨w.heap.size, 0, none⟩ (.int .i64 u.T)).setCell ⟨w.heap.size, 1, none⟩ (.slice A u.n c)).heap.size := by simp [World.setCell]; exact hzl
  generalize ((w1.setCell ⟨w.heap.size, 0, none⟩ (.int .i64 u.T)).setCell ⟨w.heap.size, 1, none⟩ (.slice A u.n c)) = W1 at *
  have hV := hide (hV'.out.below hbW.out)
  clear hz2 hz3 hz4 hz5 hzl hb1' hV'
  go_loopw [5, 6] (fun s i wr => ∃ k : Nat, k ≤ 8 ∧ i = .int .i64 k ∧ Below W1.heap.size W1 wr ∧ (u.Ok → s = .int .i64 (u.sumP u.T k)) ∧ (¬ u.Ok → s = .int .i64 0)) (fun _ i _ => 8 - (intOf i).toNat)
  case atStart => exact ⟨0, by omega, rfl, Below.refl _ _, fun _ => rfl, fun _ => rfl⟩
  case round =>
    obtain ⟨k, hk, rfl, hb, hs1, hs2⟩ := hrel
    have r0 : wr.cell? ⟨w.heap.size, 0, none⟩ = some (.int .i64 u.T) := (hb.cell (p := ⟨w.heap.size, 0, none⟩) hl).trans e0
    have r1 : wr.cell? ⟨w.heap.size, 1, none⟩ = some (.slice A u.n c) := (hb.cell (p := ⟨w.heap.size, 1, none⟩) hl).trans e1
    have hlr : w.heap.size < wr.heap.size := Nat.lt_of_lt_of_le hl hb.size
    have hVr := hide (hV.out.below hb)
    have hbr := hide hb
    have hbw := hide (hbW.out.trans (hb.mono (Nat.le_of_lt hl)))
    clear hb e0 e1
    by_cases hok : u.Ok
    · have hok' := hide hok
      have hs := hs1 hok
      subst hs
      have hT1 := hok.T1
      have hT2 := hok.T2
      have hnn := hok.sumP_nonneg u.T.toNat k
      have hbl := hok.below_le k u.T.toNat
      rw [show ((u.T.toNat : Nat) : Int) = u.T by omega] at hnn hbl
      have hmul : (k : Int) * u.T ≤ 8 * 256 := by
        calc (k : Int) * u.T ≤ 8 * u.T := Int.mul_le_mul_of_nonneg_right (by omega) (by omega)
          _ ≤ 8 * 256 := by omega
      obtain ⟨n1, n2⟩ := hnn
      obtain ⟨n3, n4⟩ := hbl
      have n5 : u.sumP u.T k ≤ 2048 := by omega
      have hnx := hide (show u.sumP u.T (k + 1) = u.sumP u.T k + u.below k u.T from rfl)
      have hle := hide (hok.sumP_le k u.T.toNat)
      clear hs1 hs2 hok n2 hmul
      have hsh := hide (fun W (hW : Below wr.heap.size wr W) => share_ok u hok'.out A c k W (hVr.out.below hW))
      generalize u.below k u.T = bl at *
      generalize hse : u.sumP u.T k = sm at *
      have hse' := hide hse
      clear hse
      by_cases hlt : k < 8
      · have hltI : (k : Int) < 8 := by omega
        go_wp2_with fail
        refine (hsh.out _ (Below.refl _ _)).mono ?_
        rintro e w2 ⟨rfl, hb2⟩
        have hb2' := hide hb2
        clear hb2
        go_wp2_with fail
        go_roundw
        case rel => exact ⟨k + 1, by omega, by go_num, hbr.out.trans (hb2'.out.mono hbr.out.size), fun _ => by rw [hnx.out], fun h => absurd hok'.out h⟩
        case measure => simp [intOf]; omega
      · obtain rfl : k = 8 := by omega
        have hd : decide (sm ≤ u.T) = true := decide_eq_true (by have h1 := hle.out; have h2 := hse'.out; rw [show ((u.T.toNat : Nat) : Int) = u.T by omega] at h1; omega)
        have hd' := hide hd
        clear hd hsh hle hnx hse'
        by_cases hp : 0 ≤ part ∧ part < 8
        · obtain ⟨hp1, hp2⟩ := hp
          go_wp2_with fail
          refine (check_ok u hok'.out A c _ hVr.out).mono ?_
          rintro e w3 ⟨rfl, hb2⟩
          replace r0 : (w3).cell? ⟨w.heap.size, 0, none⟩ = some (.int .i64 u.T) := (hb2.cell (p := ⟨w.heap.size, 0, none⟩) hlr).trans r0
          replace r1 : (w3).cell? ⟨w.heap.size, 1, none⟩ = some (.slice A u.n c) := (hb2.cell (p := ⟨w.heap.size, 1, none⟩) hlr).trans r1
          replace hVr := hide (hVr.out.below hb2)
          replace hbw := hide (hbw.out.trans (hb2.mono hbw.out.size))
          replace hlr : w.heap.size < (w3).heap.size := Nat.lt_of_lt_of_le hlr hb2.size
          clear hb2
          go_wp2_with fail
          refine (check_ok u hok'.out A c _ hVr.out).mono ?_
          rintro e w4 ⟨rfl, hb2⟩
          replace r0 : (w4).cell? ⟨w.heap.size, 0, none⟩ = some (.int .i64 u.T) := (hb2.cell (p := ⟨w.heap.size, 0, none⟩) hlr).trans r0
          replace r1 : (w4).cell? ⟨w.heap.size, 1, none⟩ = some (.slice A u.n c) := (hb2.cell (p := ⟨w.heap.size, 1, none⟩) hlr).trans r1
          replace hVr := hide (hVr.out.below hb2)
          replace hbw := hide (hbw.out.trans (hb2.mono hbw.out.size))
          replace hlr : w.heap.size < (w4).heap.size := Nat.lt_of_lt_of_le hlr hb2.size
          clear hb2
          have hd := hd'.out
          go_wp2_with fail
          refine (awake11 _).mono ?_
          rintro e w9 ⟨rfl, hb2⟩
          replace hbw := hide (hbw.out.trans (hb2.mono hbw.out.size))
          clear hb2
          go_wp2_with fail
          go_ret
          exact ⟨rfl, hbw.out⟩
        · have hz := hide (hok'.out.below_out part u.T (by omega))
          have hsh : ∀ W, TabV W A c u → Calls Try.prog 33 #[.agg #[.int .i64 u.T, .slice A u.n c], .int .i64 part] W fun e w' => e = .returned (.int .i64 0) ∧ Below W.heap.size W w' := fun W hW => by
            have := share_ok u hok'.out A c part W hW
            rw [hz.out] at this
            exact this
          have hsh' := hide hsh
          clear hsh
          have hpp : part < 0 ∨ (0 ≤ part ∧ ¬ part < 8) := by omega
          clear hp
          rcases hpp with hp | ⟨hp, hp2⟩
          all_goals
            go_wp2_with fail
            refine (hsh'.out _ hVr.out).mono ?_
            rintro e w2 ⟨rfl, hb2⟩
            replace r0 : (w2).cell? ⟨w.heap.size, 0, none⟩ = some (.int .i64 u.T) := (hb2.cell (p := ⟨w.heap.size, 0, none⟩) hlr).trans r0
            replace r1 : (w2).cell? ⟨w.heap.size, 1, none⟩ = some (.slice A u.n c) := (hb2.cell (p := ⟨w.heap.size, 1, none⟩) hlr).trans r1
            replace hVr := hide (hVr.out.below hb2)
            replace hbw := hide (hbw.out.trans (hb2.mono hbw.out.size))
            replace hlr : w.heap.size < (w2).heap.size := Nat.lt_of_lt_of_le hlr hb2.size
            clear hb2
            go_wp2_with fail
            refine (check_ok u hok'.out A c _ hVr.out).mono ?_
            rintro e w3 ⟨rfl, hb2⟩
            replace r0 : (w3).cell? ⟨w.heap.size, 0, none⟩ = some (.int .i64 u.T) := (hb2.cell (p := ⟨w.heap.size, 0, none⟩) hlr).trans r0
            replace r1 : (w3).cell? ⟨w.heap.size, 1, none⟩ = some (.slice A u.n c) := (hb2.cell (p := ⟨w.heap.size, 1, none⟩) hlr).trans r1
            replace hVr := hide (hVr.out.below hb2)
            replace hbw := hide (hbw.out.trans (hb2.mono hbw.out.size))
            replace hlr : w.heap.size < (w3).heap.size := Nat.lt_of_lt_of_le hlr hb2.size
            clear hb2
            go_wp2_with fail
            refine (check_ok u hok'.out A c _ hVr.out).mono ?_
            rintro e w4 ⟨rfl, hb2⟩
            replace r0 : (w4).cell? ⟨w.heap.size, 0, none⟩ = some (.int .i64 u.T) := (hb2.cell (p := ⟨w.heap.size, 0, none⟩) hlr).trans r0
            replace r1 : (w4).cell? ⟨w.heap.size, 1, none⟩ = some (.slice A u.n c) := (hb2.cell (p := ⟨w.heap.size, 1, none⟩) hlr).trans r1
            replace hVr := hide (hVr.out.below hb2)
            replace hbw := hide (hbw.out.trans (hb2.mono hbw.out.size))
            replace hlr : w.heap.size < (w4).heap.size := Nat.lt_of_lt_of_le hlr hb2.size
            clear hb2
            have hd := hd'.out
            go_wp2_with fail
            refine (awake11 _).mono ?_
            rintro e w9 ⟨rfl, hb2⟩
            replace hbw := hide (hbw.out.trans (hb2.mono hbw.out.size))
            clear hb2
            go_wp2_with fail
            go_ret
            exact ⟨rfl, hbw.out⟩
    · have hok' := hide hok
      have hs := hs2 hok
      subst hs
      clear hs1 hs2 hok
      have hsh := hide (fun W (q : Int) (hW : TabV W A c u) => share_bad u hok'.out A c q W hW)
      by_cases hlt : k < 8
      · have hltI : (k : Int) < 8 := by omega
        go_wp2_with fail
        refine (hsh.out _ _ hVr.out).mono ?_
        rintro e w2 ⟨rfl, hb2⟩
        have hb2' := hide hb2
        clear hb2
        go_wp2_with fail
        go_roundw
        case rel => exact ⟨k + 1, by omega, by go_num, hbr.out.trans (hb2'.out.mono hbr.out.size), fun h => absurd h hok'.out, fun _ => rfl⟩
        case measure => simp [intOf]; omega
      · obtain rfl : k = 8 := by omega
        have hpp : (0 ≤ part ∧ part < 8) ∨ part < 0 ∨ (0 ≤ part ∧ ¬ part < 8) := by omega
        rcases hpp with ⟨hp1, hp2⟩ | hp | ⟨hp, hp2⟩
        · go_wp2_with fail
          refine (check_bad u hok'.out A c _ hVr.out).mono ?_
          rintro e w3 ⟨g3, rfl, hb2⟩
          replace r0 : (w3).cell? ⟨w.heap.size, 0, none⟩ = some (.int .i64 u.T) := (hb2.cell (p := ⟨w.heap.size, 0, none⟩) hlr).trans r0
          replace r1 : (w3).cell? ⟨w.heap.size, 1, none⟩ = some (.slice A u.n c) := (hb2.cell (p := ⟨w.heap.size, 1, none⟩) hlr).trans r1
          replace hVr := hide (hVr.out.below hb2)
          replace hbw := hide (hbw.out.trans (hb2.mono hbw.out.size))
          replace hlr : w.heap.size < (w3).heap.size := Nat.lt_of_lt_of_le hlr hb2.size
          clear hb2
          go_wp2_with fail
          refine (awake11 _).mono ?_
          rintro e w9 ⟨rfl, hb2⟩
          replace hbw := hide (hbw.out.trans (hb2.mono hbw.out.size))
          clear hb2
          go_wp2_with fail
          go_ret
          exact ⟨rfl, hbw.out⟩
        · go_wp2_with fail
          refine (hsh.out _ _ hVr.out).mono ?_
          rintro e w2 ⟨rfl, hb2⟩
          replace r0 : (w2).cell? ⟨w.heap.size, 0, none⟩ = some (.int .i64 u.T) := (hb2.cell (p := ⟨w.heap.size, 0, none⟩) hlr).trans r0
          replace r1 : (w2).cell? ⟨w.heap.size, 1, none⟩ = some (.slice A u.n c) := (hb2.cell (p := ⟨w.heap.size, 1, none⟩) hlr).trans r1
          replace hVr := hide (hVr.out.below hb2)
          replace hbw := hide (hbw.out.trans (hb2.mono hbw.out.size))
          replace hlr : w.heap.size < (w2).heap.size := Nat.lt_of_lt_of_le hlr hb2.size
          clear hb2
          go_wp2_with fail
          refine (check_bad u hok'.out A c _ hVr.out).mono ?_
          rintro e w3 ⟨g3, rfl, hb2⟩
          replace r0 : (w3).cell? ⟨w.heap.size, 0, none⟩ = some (.int .i64 u.T) := (hb2.cell (p := ⟨w.heap.size, 0, none⟩) hlr).trans r0
          replace r1 : (w3).cell? ⟨w.heap.size, 1, none⟩ = some (.slice A u.n c) := (hb2.cell (p := ⟨w.heap.size, 1, none⟩) hlr).trans r1
          replace hVr := hide (hVr.out.below hb2)
          replace hbw := hide (hbw.out.trans (hb2.mono hbw.out.size))
          replace hlr : w.heap.size < (w3).heap.size := Nat.lt_of_lt_of_le hlr hb2.size
          clear hb2
          go_wp2_with fail
          refine (awake11 _).mono ?_
          rintro e w9 ⟨rfl, hb2⟩
          replace hbw := hide (hbw.out.trans (hb2.mono hbw.out.size))
          clear hb2
          go_wp2_with fail
          go_ret
          exact ⟨rfl, hbw.out⟩
        · go_wp2_with fail
          refine (hsh.out _ _ hVr.out).mono ?_
          rintro e w2 ⟨rfl, hb2⟩
          replace r0 : (w2).cell? ⟨w.heap.size, 0, none⟩ = some (.int .i64 u.T) := (hb2.cell (p := ⟨w.heap.size, 0, none⟩) hlr).trans r0
          replace r1 : (w2).cell? ⟨w.heap.size, 1, none⟩ = some (.slice A u.n c) := (hb2.cell (p := ⟨w.heap.size, 1, none⟩) hlr).trans r1
          replace hVr := hide (hVr.out.below hb2)
          replace hbw := hide (hbw.out.trans (hb2.mono hbw.out.size))
          replace hlr : w.heap.size < (w2).heap.size := Nat.lt_of_lt_of_le hlr hb2.size
          clear hb2
          go_wp2_with fail
          refine (check_bad u hok'.out A c _ hVr.out).mono ?_
          rintro e w3 ⟨g3, rfl, hb2⟩
          replace r0 : (w3).cell? ⟨w.heap.size, 0, none⟩ = some (.int .i64 u.T) := (hb2.cell (p := ⟨w.heap.size, 0, none⟩) hlr).trans r0
          replace r1 : (w3).cell? ⟨w.heap.size, 1, none⟩ = some (.slice A u.n c) := (hb2.cell (p := ⟨w.heap.size, 1, none⟩) hlr).trans r1
          replace hVr := hide (hVr.out.below hb2)
          replace hbw := hide (hbw.out.trans (hb2.mono hbw.out.size))
          replace hlr : w.heap.size < (w3).heap.size := Nat.lt_of_lt_of_le hlr hb2.size
          clear hb2
          go_wp2_with fail
          refine (awake11 _).mono ?_
          rintro e w9 ⟨rfl, hb2⟩
          replace hbw := hide (hbw.out.trans (hb2.mono hbw.out.size))
          clear hb2
          go_wp2_with fail
          go_ret
          exact ⟨rfl, hbw.out⟩
end Go.Proofs.Ytkcjjogekkldkaa
