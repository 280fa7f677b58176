/- table.below, Window, Who, Share, Turns walked. -/
import Derived.Test.YtkcjjogekkldkaaDoorTabAt
namespace Go.Proofs.YtkcjjogekkldkaaDoor
open Go.RowKit

theorem val_int {k : IntKind} {a b : Int} (h : a = b) : Value.int k a = .int k b := by rw [h]

set_option maxRecDepth 100000 in
set_option maxHeartbeats 1000000 in
theorem below_any (t : Tab) (hok : t.Ok) (A : Option Addr) (c : Nat) (part place : Int) (w : World) (h : TabV w A c t) (hp : 0 ≤ place ∧ place ≤ 256) :
    Calls Tryd.prog 20 #[.agg #[.int .i64 t.T, .slice A t.n c], .int .i64 part, .int .i64 place] w fun e w' => e = .returned (.int .i64 (t.below part place)) ∧ Below w.heap.size w w' := by
  have hok' := hide hok
  have h' := hide h
  have hn32 := hok.n32
  have hT2 := hok.T2
  obtain ⟨hp1, hp2⟩ := hp
  clear hok h
  go_enter Tryd.func20, Tryd.ntmps20
  go_wp2_with fail
  have hb0 : Below w.heap.size w (w.alloc (.cells #[.int .i64 t.T, .slice A t.n c] 24)) := (Below.refl _ _).alloc (Nat.le_refl _) _
  have hb0' := hide hb0
  clear hb0
  generalize w.alloc (.cells #[.int .i64 t.T, .slice A t.n c] 24) = W1 at *
  go_loopw [7, 13] (fun d i wr => ∃ k : Nat, k ≤ t.n ∧ i = .int .i64 k ∧ d = .int .i64 (t.sumTo part place k) ∧ Below w.heap.size w wr) (fun _ i _ => t.n - (intOf i).toNat)
  case atStart => exact ⟨0, Nat.zero_le _, rfl, rfl, hb0'.out⟩
  case round =>
    obtain ⟨k, hk, rfl, rfl, hb⟩ := hrel
    by_cases hlt : k < t.n
    · obtain ⟨b, off, rfl, hr0⟩ := h'.out.rows (by omega)
      have hr := hr0.below hb
      have c0 := hr.p k hlt
      have c1 := hr.f k hlt
      have c2 := hr.k k hlt
      have hw := hok'.out.win hlt
      have hbl := hr.lt
      have hkI : (k : Int) < (t.n : Int) := by omega
      have hsb := Tab.sum_bound hok'.out part place k hk
      have hnext : t.sumTo part place (k + 1) = t.sumTo part place k + (if t.P k = part then max 0 (min (t.K k) (place - t.F k)) else 0) := rfl
      have hnext' := hide hnext
      have hb' := hide hb
      clear hr hr0 hnext hb
      obtain ⟨s1, s2⟩ := hsb
      generalize t.sumTo part place k = s at *
      generalize t.P k = p at *
      generalize t.F k = f at *
      generalize t.K k = q at *
      obtain ⟨w1, w2, w3, w4, w5⟩ := hw
      by_cases hpp : p = part
      · have hpb : (p == part) = true := by simpa using hpp
        have hs : t.sumTo part place (k + 1) = s + max 0 (min q (place - f)) := by rw [hnext'.out, if_pos hpp]
        have hs' := hide hs
        have hpp' := hide hpp
        clear hs hpp
        go_wp2_with fail
        go_roundw
        case rel => exact ⟨k + 1, by omega, by go_num, val_int (by rw [hs'.out]; (repeat' split) <;> omega), hb'.out.alloc hb'.out.size _⟩
        case measure => simp [intOf]; omega
      · have hpb : (p == part) = false := by simpa using hpp
        have hs : t.sumTo part place (k + 1) = s := by rw [hnext'.out, if_neg hpp]; omega
        have hs' := hide hs
        have hpp' := hide hpp
        clear hs hpp
        go_wp2_with fail
        go_roundw
        case rel => exact ⟨k + 1, by omega, by go_num, by rw [hs'.out], hb'.out.alloc hb'.out.size _⟩
        case measure => simp [intOf]; omega
    · obtain rfl : k = t.n := by omega
      go_wp2_with fail
      go_ret
      exact ⟨rfl, hb⟩

/-- Check's answer at a table that may be -/
theorem check_ok (t : Tab) (hok : t.Ok) (A : Option Addr) (c : Nat) (w : World) (h : TabV w A c t) :
    Calls Tryd.prog 5 #[.agg #[.int .i64 t.T, .slice A t.n c]] w fun e w' => e = .returned .nilIface ∧ Below w.heap.size w w' := by
  refine (check_any t A c w h).mono ?_
  rintro e w' ⟨v, rfl, hv, hb⟩
  rcases hv with ⟨_, rfl⟩ | ⟨hx, _⟩ | ⟨_, _, _, k, hk, _, hx, _⟩
  · exact ⟨rfl, hb⟩
  · have := hok.T1; have := hok.T2; have := hok.n32; omega
  · exact absurd (hok.w k hk) hx
/-- .. and at one that may not -/
theorem check_bad (t : Tab) (hok : ¬ t.Ok) (A : Option Addr) (c : Nat) (w : World) (h : TabV w A c t) :
    Calls Tryd.prog 5 #[.agg #[.int .i64 t.T, .slice A t.n c]] w fun e w' => ∃ g, e = .returned (.iface 47 (.pointer (some ⟨g, 0, none⟩))) ∧ Below w.heap.size w w' := by
  refine (check_any t A c w h).mono ?_
  rintro e w' ⟨v, rfl, hv, hb⟩
  rcases hv with ⟨hx, _⟩ | ⟨_, g, rfl, _⟩ | ⟨_, _, _, k, hk, _, hx, g, rfl, _⟩
  · exact absurd hx hok
  · exact ⟨g, rfl, hb⟩
  · exact ⟨g, rfl, hb⟩

set_option maxRecDepth 100000 in
set_option maxHeartbeats 1000000 in
theorem window_ok (t : Tab) (hok : t.Ok) (A : Option Addr) (c : Nat) (x : Nat) (w : World) (h : TabV w A c t) :
    Calls Tryd.prog 19 #[.agg #[.int .i64 t.T, .slice A t.n c], .int .u64 x] w fun e w' => e = .returned (.int .i64 (t.at_ (x % t.T.toNat : Nat))) ∧ Below w.heap.size w w' := by
  have hok' := hide hok
  have h' := hide h
  have hT1 := hok.T1
  have hT2 := hok.T2
  clear hok h
  go_enter Tryd.func19, Tryd.ntmps19
  go_wp2_with fail
  refine (check_ok t hok'.out A c _ (h'.out.below ((Below.refl _ _).alloc (Nat.le_refl _) _))).mono ?_
  rintro e w1 ⟨rfl, hb1⟩
  obtain ⟨hc, hf⟩ := bcell hb1
  have hz := hb1.size
  simp at hz
  have hzl : w.heap.size < w1.heap.size := by omega
  have hb1' := hide (((Below.refl _ _).alloc (Nat.le_refl _) _).trans (hb1.mono (B' := w.heap.size) (by simp)))
  have hz2 : w1.cell? ⟨w.heap.size, 0, none⟩ = some (.int .i64 t.T) := by rw [hc _ _ (by simp)]; simp [go_sem]
  have hz3 : w1.cell? ⟨w.heap.size, 1, none⟩ = some (.slice A t.n c) := by rw [hc _ _ (by simp)]; simp [go_sem]
  clear hc hf hb1 hz
  have f0 : ∀ w', Later (fun _ => False) w1.drew w' → w'.cell? ⟨w.heap.size, 0, none⟩ = some (.int .i64 t.T) := fun w' hl => (Later.cell (a := w1) hl hzl (fun h => h)).1.trans hz2
  have f1 : ∀ w', Later (fun _ => False) w1.drew w' → w'.cell? ⟨w.heap.size, 1, none⟩ = some (.slice A t.n c) := fun w' hl => (Later.cell (a := w1) hl hzl (fun h => h)).1.trans hz3
  have hm1 : IntKind.u64.wrap t.T = t.T := IntWalk.u64_in _ (by omega)
  have hm0 : ¬ t.T = 0 := by omega
  have hm2 : ((x : Int)).tmod t.T = ((x % t.T.toNat : Nat) : Int) := by
    have : t.T = ((t.T.toNat : Nat) : Int) := by omega
    rw [this, Int.toNat_natCast]; rfl
  have hlt : x % t.T.toNat < t.T.toNat := Nat.mod_lt _ (by omega)
  have hm3 : IntKind.i64.wrap ((x % t.T.toNat : Nat) : Int) = ((x % t.T.toNat : Nat) : Int) := IntWalk.i64_in _ (by omega)
  have hpl : 0 ≤ ((x % t.T.toNat : Nat) : Int) ∧ ((x % t.T.toNat : Nat) : Int) < t.T := by omega
  have hpl' := hide hpl
  have hlt' := hide hlt
  clear hpl hlt
  generalize hqe : x % t.T.toNat = q at *
  have hqe' := hide hqe
  clear hqe
  go_wp2_with fail
  refine region_plan [(true, 0), (true, 1), (true, 2), (true, 3), (true, 4), (true, 5), (true, 6), (false, 7), (true, 8)] (Later fun _ => False) (later_refl _) (later_trans _) (by kernel_rfl) (by kernel_rfl) (fun _ _ d _ _ h => by cases d <;> exact h) ?_
  repeat
    (first
      | (show wpPlan _ _ _ _ ((true, _) :: _) _ _
         refine plan_skip rfl (by rfl) ?_
         simp only [Act.put, List.setIfInBounds_toArray, List.set_cons_zero, List.set_cons_succ])
      | (show wpPlan _ _ _ _ ((false, _) :: _) _ _
         refine plan_skip_eff (later_refl _) rfl (by rfl) ?_
         simp only [Act.put, List.setIfInBounds_toArray, List.set_cons_zero, List.set_cons_succ])
      | (show wpPlan _ _ _ _ ((true, _) :: _) _ _
         refine plan_take (v := ?_) rfl (by rfl) (fun w' hw' => ?_) ?_
         rotate_left
         focus
           go_simp
           try with_reducible rfl
           done
         simp only [Act.put, List.setIfInBounds_toArray, List.set_cons_zero, List.set_cons_succ]))
  refine plan_eff rfl (by rfl) (fun K hK => ?_)
  go_wp2_with fail
  refine (at_any t hok'.out A c q _ (h'.out.below hb1'.out.drew) hpl'.out).mono ?_
  rintro e w2 ⟨rfl, hb2⟩
  have hb2' := hide hb2
  clear hb2
  refine hK _ _ (below_later hb2'.out (Nat.le_refl _)) ?_
  clear hK K
  try simp only [Act.put, List.setIfInBounds_toArray, List.set_cons_zero, List.set_cons_succ]
  repeat
    (first
      | (show wpPlan _ _ _ _ ((true, _) :: _) _ _
         refine plan_skip rfl (by rfl) ?_
         simp only [Act.put, List.setIfInBounds_toArray, List.set_cons_zero, List.set_cons_succ])
      | (show wpPlan _ _ _ _ ((false, _) :: _) _ _
         refine plan_skip_eff (later_refl _) rfl (by rfl) ?_
         simp only [Act.put, List.setIfInBounds_toArray, List.set_cons_zero, List.set_cons_succ])
      | (show wpPlan _ _ _ _ ((true, _) :: _) _ _
         refine plan_take (v := ?_) rfl (by rfl) (fun w' hw' => ?_) ?_
         rotate_left
         focus
           go_simp
           try with_reducible rfl
           done
         simp only [Act.put, List.setIfInBounds_toArray, List.set_cons_zero, List.set_cons_succ]))
  refine plan_nil ?_
  go_wp2_with fail
  go_ret
  exact ⟨by rw [hqe'.out]; rfl, hb1'.out.drew.trans (hb2'.out.mono hb1'.out.drew.size)⟩

set_option maxRecDepth 100000 in
theorem window_bad (t : Tab) (hok : ¬ t.Ok) (A : Option Addr) (c : Nat) (x : Nat) (w : World) (h : TabV w A c t) :
    Calls Tryd.prog 19 #[.agg #[.int .i64 t.T, .slice A t.n c], .int .u64 x] w fun e w' => e = .returned (.int .i64 (-1)) ∧ Below w.heap.size w w' := by
  have hok' := hide hok
  have h' := hide h
  clear hok h
  go_enter Tryd.func19, Tryd.ntmps19
  go_wp2_with fail
  refine (check_bad t hok'.out A c _ (h'.out.below ((Below.refl _ _).alloc (Nat.le_refl _) _))).mono ?_
  rintro e w1 ⟨g, rfl, hb1⟩
  have hb1' := hide (((Below.refl _ _).alloc (Nat.le_refl _) _).trans (hb1.mono (B' := w.heap.size) (by simp)))
  clear hb1
  go_wp2_with fail
  go_ret
  exact ⟨rfl, hb1'.out⟩

set_option maxRecDepth 100000 in
theorem who_ok (t : Tab) (hok : t.Ok) (A : Option Addr) (c : Nat) (x : Nat) (w : World) (h : TabV w A c t) :
    Calls Tryd.prog 13 #[.agg #[.int .i64 t.T, .slice A t.n c], .int .u64 x] w fun e w' => e = .returned (.int .i64 (t.who (x % t.T.toNat : Nat))) ∧ Below w.heap.size w w' := by
  have hok' := hide hok
  have h' := hide h
  have hrg := t.at_range (x % t.T.toNat : Nat)
  clear hok h
  go_enter Tryd.func13, Tryd.ntmps13
  go_wp2_with fail
  refine (window_ok t hok'.out A c x _ (h'.out.below ((Below.refl _ _).alloc (Nat.le_refl _) _))).mono ?_
  rintro e w1 ⟨rfl, hb1⟩
  obtain ⟨hc, hf⟩ := bcell hb1
  have hz := hb1.size
  simp at hz
  have hzl : w.heap.size < w1.heap.size := by omega
  have hz2 : w1.cell? ⟨w.heap.size, 0, none⟩ = some (.int .i64 t.T) := by rw [hc _ _ (by simp)]; simp [go_sem]
  have hz3 : w1.cell? ⟨w.heap.size, 1, none⟩ = some (.slice A t.n c) := by rw [hc _ _ (by simp)]; simp [go_sem]
  have hb1' := hide (((Below.refl _ _).alloc (Nat.le_refl _) _).trans (hb1.mono (B' := w.heap.size) (by simp)))
  clear hc hf hb1 hz
  have hwho : t.who (x % t.T.toNat : Nat) = if 0 ≤ t.at_ (x % t.T.toNat : Nat) then t.P (t.at_ (x % t.T.toNat : Nat)).toNat else -1 := rfl
  have hwho' := hide hwho
  clear hwho
  generalize t.at_ (x % t.T.toNat : Nat) = i at *
  obtain ⟨r1, r2⟩ := hrg
  by_cases hi : 0 ≤ i
  · obtain ⟨k, rfl⟩ := Int.eq_ofNat_of_zero_le hi
    obtain ⟨b, off, rfl, hr0⟩ := h'.out.rows (by omega)
    have hr := hr0.below hb1'.out
    have c0 := hr.p k (by omega)
    have hv := hide (show t.who (x % t.T.toNat : Nat) = t.P k by rw [hwho'.out, if_pos hi, Int.toNat_natCast])
    clear hr hr0 hwho'
    generalize t.P k = p at *
    go_wp2_with fail
    go_ret
    exact ⟨by rw [hv.out]; rfl, hb1'.out⟩
  · have hv := hide (show t.who (x % t.T.toNat : Nat) = -1 by rw [hwho'.out, if_neg hi])
    clear hwho'
    go_wp2_with fail
    go_ret
    exact ⟨by rw [hv.out]; rfl, hb1'.out⟩
set_option maxRecDepth 100000 in
theorem who_bad (t : Tab) (hok : ¬ t.Ok) (A : Option Addr) (c : Nat) (x : Nat) (w : World) (h : TabV w A c t) :
    Calls Tryd.prog 13 #[.agg #[.int .i64 t.T, .slice A t.n c], .int .u64 x] w fun e w' => e = .returned (.int .i64 (-1)) ∧ Below w.heap.size w w' := by
  have h' := hide h
  have hok' := hide hok
  clear h hok
  go_enter Tryd.func13, Tryd.ntmps13
  go_wp2_with fail
  refine (window_bad t hok'.out A c x _ (h'.out.below ((Below.refl _ _).alloc (Nat.le_refl _) _))).mono ?_
  rintro e w1 ⟨rfl, hb1⟩
  obtain ⟨hc, hf⟩ := bcell hb1
  have hz := hb1.size
  simp at hz
  have hzl : w.heap.size < w1.heap.size := by omega
  have hz2 : w1.cell? ⟨w.heap.size, 0, none⟩ = some (.int .i64 t.T) := by rw [hc _ _ (by simp)]; simp [go_sem]
  have hz3 : w1.cell? ⟨w.heap.size, 1, none⟩ = some (.slice A t.n c) := by rw [hc _ _ (by simp)]; simp [go_sem]
  have hb1' := hide (((Below.refl _ _).alloc (Nat.le_refl _) _).trans (hb1.mono (B' := w.heap.size) (by simp)))
  clear hc hf hb1 hz
  go_wp2_with fail
  go_ret
  exact ⟨rfl, hb1'.out⟩

set_option maxRecDepth 100000 in
theorem share_ok (t : Tab) (hok : t.Ok) (A : Option Addr) (c : Nat) (part : Int) (w : World) (h : TabV w A c t) :
    Calls Tryd.prog 14 #[.agg #[.int .i64 t.T, .slice A t.n c], .int .i64 part] w fun e w' => e = .returned (.int .i64 (t.below part t.T)) ∧ Below w.heap.size w w' := by
  have h' := hide h
  have hok' := hide hok
  have hT1 := hok.T1
  have hT2 := hok.T2
  clear h hok
  go_enter Tryd.func14, Tryd.ntmps14
  go_wp2_with fail
  refine (check_ok t hok'.out A c _ (h'.out.below ((Below.refl _ _).alloc (Nat.le_refl _) _))).mono ?_
  rintro e w1 ⟨rfl, hb1⟩
  obtain ⟨hc, hf⟩ := bcell hb1
  have hz := hb1.size
  simp at hz
  have hzl : w.heap.size < w1.heap.size := by omega
  have hz2 : w1.cell? ⟨w.heap.size, 0, none⟩ = some (.int .i64 t.T) := by rw [hc _ _ (by simp)]; simp [go_sem]
  have hz3 : w1.cell? ⟨w.heap.size, 1, none⟩ = some (.slice A t.n c) := by rw [hc _ _ (by simp)]; simp [go_sem]
  have hb1' := hide (((Below.refl _ _).alloc (Nat.le_refl _) _).trans (hb1.mono (B' := w.heap.size) (by simp)))
  clear hc hf hb1 hz
  go_wp2_with fail
  refine (below_any t hok'.out A c part t.T _ (h'.out.below hb1'.out) (by omega)).mono ?_
  rintro e w2 ⟨rfl, hb2⟩
  have hb2' := hide hb2
  clear hb2
  go_wp2_with fail
  go_ret
  exact ⟨rfl, hb1'.out.trans (hb2'.out.mono hb1'.out.size)⟩
set_option maxRecDepth 100000 in
theorem share_bad (t : Tab) (hok : ¬ t.Ok) (A : Option Addr) (c : Nat) (part : Int) (w : World) (h : TabV w A c t) :
    Calls Tryd.prog 14 #[.agg #[.int .i64 t.T, .slice A t.n c], .int .i64 part] w fun e w' => e = .returned (.int .i64 0) ∧ Below w.heap.size w w' := by
  have h' := hide h
  have hok' := hide hok
  clear h hok
  go_enter Tryd.func14, Tryd.ntmps14
  go_wp2_with fail
  refine (check_bad t hok'.out A c _ (h'.out.below ((Below.refl _ _).alloc (Nat.le_refl _) _))).mono ?_
  rintro e w1 ⟨g, rfl, hb1⟩
  obtain ⟨hc, hf⟩ := bcell hb1
  have hz := hb1.size
  simp at hz
  have hzl : w.heap.size < w1.heap.size := by omega
  have hz2 : w1.cell? ⟨w.heap.size, 0, none⟩ = some (.int .i64 t.T) := by rw [hc _ _ (by simp)]; simp [go_sem]
  have hz3 : w1.cell? ⟨w.heap.size, 1, none⟩ = some (.slice A t.n c) := by rw [hc _ _ (by simp)]; simp [go_sem]
  have hb1' := hide (((Below.refl _ _).alloc (Nat.le_refl _) _).trans (hb1.mono (B' := w.heap.size) (by simp)))
  clear hc hf hb1 hz
  go_wp2_with fail
  go_ret
  exact ⟨rfl, hb1'.out⟩
end Go.Proofs.YtkcjjogekkldkaaDoor
