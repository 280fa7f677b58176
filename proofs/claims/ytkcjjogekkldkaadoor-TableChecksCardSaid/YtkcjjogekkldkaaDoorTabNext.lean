/- table.Turns and Next walked. -/
import Derived.Test.YtkcjjogekkldkaaDoorTabFns
namespace Go.Proofs.YtkcjjogekkldkaaDoor
open Go.RowKit

set_option maxRecDepth 100000 in
theorem turns_bad (t : Tab) (hok : ¬ t.Ok) (A : Option Addr) (c : Nat) (part : Int) (x : Nat) (w : World) (h : TabV w A c t) :
    Calls Tryd.prog 15 #[.agg #[.int .i64 t.T, .slice A t.n c], .int .i64 part, .int .u64 x] w fun e w' => e = .returned (.int .u64 0) ∧ Below w.heap.size w w' := by
  have h' := hide h
  have hok' := hide hok
  clear h hok
  go_enter Tryd.func15, Tryd.ntmps15
  go_wp2_with fail
  refine (check_bad t hok'.out A c _ (h'.out.below ((Below.refl _ _).alloc (Nat.le_refl _) _))).mono ?_
  rintro e w1 ⟨g, rfl, hb1⟩
  obtain ⟨hc, hf⟩ := bcell hb1
  have hz := hb1.size
  simp at hz
  have hzl : w.heap.size < w1.heap.size := by omega
  have hz2 : w1.cell? ⟨w.heap.size, 0, none⟩ = some (.int .i64 t.T) := by rw [hc _ _ (by simp)]; simp [go_sem]
  have hz3 : w1.cell? ⟨w.heap.size, 1, none⟩ = some (.slice A t.n c) := by rw [hc _ _ (by simp)]; simp [go_sem]
  have hb1' := hide (((Below.refl _ _).alloc (Nat.le_refl _) _).trans (hb1.mono (B' := w.heap.size) (by simp)))
  clear hc hf hb1 hz
  go_wp2_with fail
  go_ret
  exact ⟨rfl, hb1'.out⟩
set_option maxRecDepth 100000 in
theorem next_bad (t : Tab) (hok : ¬ t.Ok) (A : Option Addr) (c : Nat) (part : Int) (x : Nat) (w : World) (h : TabV w A c t) :
    Calls Tryd.prog 12 #[.agg #[.int .i64 t.T, .slice A t.n c], .int .i64 part, .int .u64 x] w fun e w' => e = .returned (.tuple #[.int .u64 0, .bool false]) ∧ Below w.heap.size w w' := by
  have h' := hide h
  have hok' := hide hok
  clear h hok
  go_enter Tryd.func12, Tryd.ntmps12
  go_wp2_with fail
  refine (check_bad t hok'.out A c _ (h'.out.below ((Below.refl _ _).alloc (Nat.le_refl _) _))).mono ?_
  rintro e w1 ⟨g, rfl, hb1⟩
  obtain ⟨hc, hf⟩ := bcell hb1
  have hz := hb1.size
  simp at hz
  have hzl : w.heap.size < w1.heap.size := by omega
  have hz2 : w1.cell? ⟨w.heap.size, 0, none⟩ = some (.int .i64 t.T) := by rw [hc _ _ (by simp)]; simp [go_sem]
  have hz3 : w1.cell? ⟨w.heap.size, 1, none⟩ = some (.slice A t.n c) := by rw [hc _ _ (by simp)]; simp [go_sem]
  have hb1' := hide (((Below.refl _ _).alloc (Nat.le_refl _) _).trans (hb1.mono (B' := w.heap.size) (by simp)))
  clear hc hf hb1 hz
  go_wp2_with fail
  go_ret2
  exact ⟨rfl, hb1'.out⟩

set_option maxRecDepth 100000 in
set_option maxHeartbeats 1000000 in
theorem turns_ok (t : Tab) (hok : t.Ok) (A : Option Addr) (c : Nat) (part : Int) (x : Nat) (hx : x < 18446744073709551616) (w : World) (h : TabV w A c t) :
    Calls Tryd.prog 15 #[.agg #[.int .i64 t.T, .slice A t.n c], .int .i64 part, .int .u64 x] w fun e w' => e = .returned (.int .u64 (t.turns part x)) ∧ Below w.heap.size w w' := by
  have h' := hide h
  have hok' := hide hok
  have hT1 := hok.T1
  have hT2 := hok.T2
  have hTT : ((t.T.toNat : Nat) : Int) = t.T := by omega
  have b1 := hok.below_le part t.T.toNat
  rw [hTT] at b1
  have hlt : x % t.T.toNat < t.T.toNat := Nat.mod_lt _ (by omega)
  have b2 := hok.below_le part (x % t.T.toNat)
  have htl := hok.turns_le part x
  have htd : t.turns part x = ((x / t.T.toNat : Nat) : Int) * t.below part t.T + t.below part ((x % t.T.toNat : Nat) : Int) := rfl
  have hp0 : 0 ≤ ((x / t.T.toNat : Nat) : Int) * t.below part t.T := Int.mul_nonneg (Int.natCast_nonneg _) b1.1
  have hm1 : IntKind.u64.wrap t.T = t.T := IntWalk.u64_in _ (by omega)
  have hm0 : ¬ t.T = 0 := by omega
  have hm2 : ((x : Int)).tmod t.T = ((x % t.T.toNat : Nat) : Int) := by rw [← hTT, Int.toNat_natCast]; rfl
  have hm4 : ((x : Int)).tdiv t.T = ((x / t.T.toNat : Nat) : Int) := by rw [← hTT, Int.toNat_natCast]; rfl
  have hm3 : IntKind.i64.wrap ((x % t.T.toNat : Nat) : Int) = ((x % t.T.toNat : Nat) : Int) := IntWalk.i64_in _ (by omega)
  have hm5 : IntKind.u64.wrap (t.below part t.T) = t.below part t.T := IntWalk.u64_in _ (by omega)
  have hm6 : IntKind.u64.wrap (t.below part ((x % t.T.toNat : Nat) : Int)) = t.below part ((x % t.T.toNat : Nat) : Int) := IntWalk.u64_in _ (by omega)
  have hm7 : IntKind.u64.wrap (((x / t.T.toNat : Nat) : Int) * t.below part t.T) = ((x / t.T.toNat : Nat) : Int) * t.below part t.T := IntWalk.u64_in _ (by omega)
  have hm8 : IntKind.u64.wrap (((x / t.T.toNat : Nat) : Int) * t.below part t.T + t.below part ((x % t.T.toNat : Nat) : Int)) = ((x / t.T.toNat : Nat) : Int) * t.below part t.T + t.below part ((x % t.T.toNat : Nat) : Int) := IntWalk.u64_in _ (by omega)
  have hm9 : IntKind.u64.wrap ((x / t.T.toNat : Nat) : Int) = ((x / t.T.toNat : Nat) : Int) := IntWalk.u64_in _ (by have hD := Nat.div_le_self x t.T.toNat; generalize x / t.T.toNat = D at hD ⊢; omega)
  have htd' := hide htd
  have hr1 := hide (show 0 ≤ t.T ∧ t.T ≤ 256 by omega)
  have hr2 := hide (show 0 ≤ ((x % t.T.toNat : Nat) : Int) ∧ ((x % t.T.toNat : Nat) : Int) ≤ 256 by omega)
  have g1 := hide (fun W (hW : Below w.heap.size w W) => below_any t hok A c part t.T W (h.below hW) hr1.out)
  have g2 := hide (fun W (hW : Below w.heap.size w W) => below_any t hok A c part _ W (h.below hW) hr2.out)
  clear h hok htd htl b1 b2 hlt hTT hp0
  generalize t.below part t.T = B1 at *
  generalize ((x / t.T.toNat : Nat) : Int) = D at *
  generalize ((x % t.T.toNat : Nat) : Int) = M at *
  generalize t.below part M = B2 at *
  go_enter Tryd.func15, Tryd.ntmps15
  go_wp2_with fail
  refine (check_ok t hok'.out A c _ (h'.out.below ((Below.refl _ _).alloc (Nat.le_refl _) _))).mono ?_
  rintro e w1 ⟨rfl, hb1⟩
  obtain ⟨hc, hf⟩ := bcell hb1
  have hz := hb1.size
  simp at hz
  have hzl : w.heap.size < w1.heap.size := by omega
  have hz2 : w1.cell? ⟨w.heap.size, 0, none⟩ = some (.int .i64 t.T) := by rw [hc _ _ (by simp)]; simp [go_sem]
  have hz3 : w1.cell? ⟨w.heap.size, 1, none⟩ = some (.slice A t.n c) := by rw [hc _ _ (by simp)]; simp [go_sem]
  have hb1' := hide (((Below.refl _ _).alloc (Nat.le_refl _) _).trans (hb1.mono (B' := w.heap.size) (by simp)))
  clear hc hf hb1 hz
  have f0 : ∀ w', Later (fun _ => False) w1.drew w' → w'.cell? ⟨w.heap.size, 0, none⟩ = some (.int .i64 t.T) := fun w' hl => (Later.cell (a := w1) hl hzl (fun h => h)).1.trans hz2
  have f1 : ∀ w', Later (fun _ => False) w1.drew w' → w'.cell? ⟨w.heap.size, 1, none⟩ = some (.slice A t.n c) := fun w' hl => (Later.cell (a := w1) hl hzl (fun h => h)).1.trans hz3
  go_wp2_with fail
  refine region_plan [(true, 0), (true, 1), (true, 2), (true, 3), (true, 4), (true, 5), (true, 6), (true, 10), (true, 11), (true, 12), (true, 13), (true, 14), (true, 15), (false, 7), (true, 8), (true, 9), (false, 16), (true, 17), (true, 18), (true, 19)] (Later fun _ => False) (later_refl _) (later_trans _) (by kernel_rfl) (by kernel_rfl) (fun _ _ d _ _ h => by cases d <;> exact h) ?_
  repeat
    (first
      | (show wpPlan _ _ _ _ ((true, _) :: _) _ _
         refine plan_skip rfl (by rfl) ?_
         simp only [Act.put, List.setIfInBounds_toArray, List.set_cons_zero, List.set_cons_succ])
      | (show wpPlan _ _ _ _ ((false, _) :: _) _ _
         refine plan_skip_eff (later_refl _) rfl (by rfl) ?_
         simp only [Act.put, List.setIfInBounds_toArray, List.set_cons_zero, List.set_cons_succ])
      | (show wpPlan _ _ _ _ ((true, _) :: _) _ _
         refine plan_take (v := ?_) rfl (by rfl) (fun w' hw' => ?_) ?_
         rotate_left
         focus
           go_simp
           try with_reducible rfl
           done
         simp only [Act.put, List.setIfInBounds_toArray, List.set_cons_zero, List.set_cons_succ]))
  refine plan_eff rfl (by rfl) (fun K hK => ?_)
  go_wp2_with fail
  refine (g1.out _ hb1'.out.drew).mono ?_
  rintro e w2 ⟨rfl, hb2⟩
  have hb2' := hide hb2
  clear hb2
  refine hK _ _ (below_later hb2'.out (Nat.le_refl _)) ?_
  clear hK K
  try simp only [Act.put, List.setIfInBounds_toArray, List.set_cons_zero, List.set_cons_succ]
  repeat
    (first
      | (show wpPlan _ _ _ _ ((true, _) :: _) _ _
         refine plan_skip rfl (by rfl) ?_
         simp only [Act.put, List.setIfInBounds_toArray, List.set_cons_zero, List.set_cons_succ])
      | (show wpPlan _ _ _ _ ((false, _) :: _) _ _
         refine plan_skip_eff (later_refl _) rfl (by rfl) ?_
         simp only [Act.put, List.setIfInBounds_toArray, List.set_cons_zero, List.set_cons_succ])
      | (show wpPlan _ _ _ _ ((true, _) :: _) _ _
         refine plan_take (v := ?_) rfl (by rfl) (fun w' hw' => ?_) ?_
         rotate_left
         focus
           go_simp
           try with_reducible rfl
           done
         simp only [Act.put, List.setIfInBounds_toArray, List.set_cons_zero, List.set_cons_succ]))
  have hb12 := hide (hb1'.out.drew.trans (hb2'.out.mono hb1'.out.drew.size))
  refine plan_eff rfl (by rfl) (fun K hK => ?_)
  go_wp2_with fail
  refine (g2.out _ hb12.out).mono ?_
  rintro e w3 ⟨rfl, hb3⟩
  have hb3' := hide hb3
  clear hb3
  refine hK _ _ (below_later hb3'.out (Nat.le_refl _)) ?_
  clear hK K
  try simp only [Act.put, List.setIfInBounds_toArray, List.set_cons_zero, List.set_cons_succ]
  repeat
    (first
      | (show wpPlan _ _ _ _ ((true, _) :: _) _ _
         refine plan_skip rfl (by rfl) ?_
         simp only [Act.put, List.setIfInBounds_toArray, List.set_cons_zero, List.set_cons_succ])
      | (show wpPlan _ _ _ _ ((false, _) :: _) _ _
         refine plan_skip_eff (later_refl _) rfl (by rfl) ?_
         simp only [Act.put, List.setIfInBounds_toArray, List.set_cons_zero, List.set_cons_succ])
      | (show wpPlan _ _ _ _ ((true, _) :: _) _ _
         refine plan_take (v := ?_) rfl (by rfl) (fun w' hw' => ?_) ?_
         rotate_left
         focus
           go_simp
           try with_reducible rfl
           done
         simp only [Act.put, List.setIfInBounds_toArray, List.set_cons_zero, List.set_cons_succ]))
  refine plan_nil ?_
  go_wp2_with fail
  go_ret
  exact ⟨by rw [htd'.out]; rfl, hb12.out.trans (hb3'.out.mono hb12.out.size)⟩

/-- Next's answer -/
def NextIs (t : Tab) (part : Int) (x : Nat) (v : Value) : Prop :=
  (∃ k : Nat, 1 ≤ k ∧ k ≤ t.T.toNat ∧ x + k < 18446744073709551616 ∧ t.turn part ((x + k) % t.T.toNat : Nat) ∧ (∀ j : Nat, 1 ≤ j → j < k → ¬ t.turn part ((x + j) % t.T.toNat : Nat)) ∧ v = .tuple #[.int .u64 ((x + k : Nat) : Int), .bool true]) ∨
  ((∀ j : Nat, 1 ≤ j → j ≤ t.T.toNat → x + j < 18446744073709551616 → ¬ t.turn part ((x + j) % t.T.toNat : Nat)) ∧ v = .tuple #[.int .u64 0, .bool false])
def NextPost (t : Tab) (part : Int) (x : Nat) (w : World) (e : Ending) (w' : World) : Prop := ∃ v, e = .returned v ∧ NextIs t part x v ∧ Below w.heap.size w w'

set_option maxRecDepth 100000 in
set_option maxHeartbeats 2000000 in
theorem next_ok (t : Tab) (hok : t.Ok) (A : Option Addr) (c : Nat) (part : Int) (x : Nat) (hx : x < 18446744073709551616) (w : World) (h : TabV w A c t) :
    Calls Tryd.prog 12 #[.agg #[.int .i64 t.T, .slice A t.n c], .int .i64 part, .int .u64 x] w (NextPost t part x w) := by
  have h' := hide h
  have hok' := hide hok
  have hT1 := hok.T1
  have hT2 := hok.T2
  clear h hok
  go_enter Tryd.func12, Tryd.ntmps12
  go_wp2_with fail
  refine (check_ok t hok'.out A c _ (h'.out.below ((Below.refl _ _).alloc (Nat.le_refl _) _))).mono ?_
  rintro e w1 ⟨rfl, hb1⟩
  obtain ⟨hc, hf⟩ := bcell hb1
  have hz := hb1.size
  simp at hz
  have hzl : w.heap.size < w1.heap.size := by omega
  have hz2 : w1.cell? ⟨w.heap.size, 0, none⟩ = some (.int .i64 t.T) := by rw [hc _ _ (by simp)]; simp [go_sem]
  have hz3 : w1.cell? ⟨w.heap.size, 1, none⟩ = some (.slice A t.n c) := by rw [hc _ _ (by simp)]; simp [go_sem]
  have hb1' := hide (((Below.refl _ _).alloc (Nat.le_refl _) _).trans (hb1.mono (B' := w.heap.size) (by simp)))
  clear hc hf hb1 hz
  go_wp2_with fail
  go_loopw [8] (fun i wr => ∃ k : Nat, 1 ≤ k ∧ k ≤ t.T.toNat + 1 ∧ i = .int .u64 k ∧ (∀ j : Nat, 1 ≤ j → j < k → x + j < 18446744073709551616 ∧ ¬ t.turn part ((x + j) % t.T.toNat : Nat)) ∧ Below w1.heap.size w1 wr) (fun i _ => t.T.toNat + 1 - (intOf i).toNat)
  case atStart => exact ⟨1, by omega, by omega, rfl, fun j h1 h2 => by omega, Below.refl _ _⟩
  case round =>
    obtain ⟨k, hk1, hk2, rfl, hno, hb⟩ := hrel
    have hno' := hide hno
    have hbr := hide (hb1'.out.trans (hb.mono (by omega)))
    have hcr0 : wr.cell? ⟨w.heap.size, 0, none⟩ = some (.int .i64 t.T) := (hb.cell (p := ⟨w.heap.size, 0, none⟩) hzl).trans hz2
    have hcr1 : wr.cell? ⟨w.heap.size, 1, none⟩ = some (.slice A t.n c) := (hb.cell (p := ⟨w.heap.size, 1, none⟩) hzl).trans hz3
    have hszr : w.heap.size < wr.heap.size := by have := hb.size; omega
    have hbw := hide hb
    clear hno hb hz2 hz3
    by_cases hkT : k ≤ t.T.toNat
    · have hd1 : decide ((k : Int) ≤ t.T) = true := decide_eq_true (by omega)
      by_cases hov : x + k < 18446744073709551616
      · have hs1 : IntKind.u64.wrap ((x : Int) + (k : Int)) = ((x + k : Nat) : Int) := by rw [IntWalk.u64_in _ (by omega)]; omega
        have hd2 : decide (x < x + k) = true := decide_eq_true (by omega)
        have hm1 : IntKind.u64.wrap t.T = t.T := IntWalk.u64_in _ (by omega)
        have hm0 : ¬ t.T = 0 := by omega
        have hTT : ((t.T.toNat : Nat) : Int) = t.T := by omega
        have hlt : (x + k) % t.T.toNat < t.T.toNat := Nat.mod_lt _ (by omega)
        have hwv := hide (show wrap64 (((x : Int) + (k : Int)) % t.T) = (((x + k) % t.T.toNat : Nat) : Int) by
          have e : (((x : Int) + (k : Int)) % t.T) = (((x + k) % t.T.toNat : Nat) : Int) := by rw [Int.natCast_emod, Int.natCast_add, hTT]
          rw [e]; exact IntWalk.wrap64_in _ (by omega))
        have hpl := hide (show 0 ≤ (((x + k) % t.T.toNat : Nat) : Int) ∧ (((x + k) % t.T.toNat : Nat) : Int) < t.T by omega)
        have f0 : ∀ w', Later (fun _ => False) wr.drew w' → w'.cell? ⟨w.heap.size, 0, none⟩ = some (.int .i64 t.T) := fun w' hl => (Later.cell (a := wr) hl hszr (fun h => h)).1.trans hcr0
        have f1 : ∀ w', Later (fun _ => False) wr.drew w' → w'.cell? ⟨w.heap.size, 1, none⟩ = some (.slice A t.n c) := fun w' hl => (Later.cell (a := wr) hl hszr (fun h => h)).1.trans hcr1
        clear hlt hTT
        generalize hpe : (((x + k) % t.T.toNat : Nat) : Int) = pl at *
        have hpe' := hide hpe
        clear hpe
        have hrg := hide (t.at_range pl)
        have hturn := hide (show t.turn part pl ↔ (0 ≤ t.at_ pl ∧ t.P (t.at_ pl).toNat = part) from Iff.rfl)
        have hat := hide (fun W (hW : Below w.heap.size w W) => (show Calls Tryd.prog 18 #[.agg #[.int .i64 t.T, .slice A t.n c], .int .i64 (wrap64 (((x : Int) + (k : Int)) % t.T))] W fun e w' => e = .returned (.int .i64 (t.at_ pl)) ∧ Below W.heap.size W w' from by rw [hwv.out]; exact at_any t hok'.out A c pl W (h'.out.below hW) hpl.out))
        generalize t.at_ pl = i at *
        go_wp2_with fail
        refine region_plan [(true, 0), (true, 1), (true, 2), (true, 3), (true, 4), (true, 5), (true, 6), (true, 7), (true, 8), (false, 9), (true, 10)] (Later fun _ => False) (later_refl _) (later_trans _) (by kernel_rfl) (by kernel_rfl) (fun _ _ d _ _ h => by cases d <;> exact h) ?_
        repeat
          (first
            | (show wpPlan _ _ _ _ ((true, _) :: _) _ _
               refine plan_skip rfl (by rfl) ?_
               simp only [Act.put, List.setIfInBounds_toArray, List.set_cons_zero, List.set_cons_succ])
            | (show wpPlan _ _ _ _ ((false, _) :: _) _ _
               refine plan_skip_eff (later_refl _) rfl (by rfl) ?_
               simp only [Act.put, List.setIfInBounds_toArray, List.set_cons_zero, List.set_cons_succ])
            | (show wpPlan _ _ _ _ ((true, _) :: _) _ _
               refine plan_take (v := ?_) rfl (by rfl) (fun w' hw' => ?_) ?_
               rotate_left
               focus
                 go_simp
                 try with_reducible rfl
                 done
               simp only [Act.put, List.setIfInBounds_toArray, List.set_cons_zero, List.set_cons_succ]))
        refine plan_eff rfl (by rfl) (fun K hK => ?_)
        go_wp2_with fail
        (with_reducible refine (hat.out _ hbr.out.drew).mono ?_)
        rintro e w2 ⟨rfl, hb2⟩
        have hb2' := hide hb2
        clear hb2
        refine hK _ _ (below_later hb2'.out (Nat.le_refl _)) ?_
        clear hK K
        try simp only [Act.put, List.setIfInBounds_toArray, List.set_cons_zero, List.set_cons_succ]
        repeat
          (first
            | (show wpPlan _ _ _ _ ((true, _) :: _) _ _
               refine plan_skip rfl (by rfl) ?_
               simp only [Act.put, List.setIfInBounds_toArray, List.set_cons_zero, List.set_cons_succ])
            | (show wpPlan _ _ _ _ ((false, _) :: _) _ _
               refine plan_skip_eff (later_refl _) rfl (by rfl) ?_
               simp only [Act.put, List.setIfInBounds_toArray, List.set_cons_zero, List.set_cons_succ])
            | (show wpPlan _ _ _ _ ((true, _) :: _) _ _
               refine plan_take (v := ?_) rfl (by rfl) (fun w' hw' => ?_) ?_
               rotate_left
               focus
                 go_simp
                 try with_reducible rfl
                 done
               simp only [Act.put, List.setIfInBounds_toArray, List.set_cons_zero, List.set_cons_succ]))
        refine plan_nil ?_
        have hbr2 := hide (hbr.out.drew.trans (hb2'.out.mono hbr.out.drew.size))
        have hbw2 := hide (hbw.out.drew.trans (hb2'.out.mono hbw.out.drew.size))
        have hk1' : w2.cell? ⟨w.heap.size, 0, none⟩ = some (.int .i64 t.T) := f0 w2 (below_later hb2'.out (Nat.le_refl _))
        have hk2' : w2.cell? ⟨w.heap.size, 1, none⟩ = some (.slice A t.n c) := f1 w2 (below_later hb2'.out (Nat.le_refl _))
        clear f0 f1 hat
        by_cases hi : 0 ≤ i
        · obtain ⟨q, rfl⟩ := Int.eq_ofNat_of_zero_le hi
          have hqn : q < t.n := by have := hrg.out; omega
          have hqI : (q : Int) < (t.n : Int) := by omega
          obtain ⟨b, off, rfl, hr0⟩ := h'.out.rows (by omega)
          have hr := hr0.below hbr2.out
          have c0 := hr.p q hqn
          have htq := hide (show t.turn part pl ↔ t.P q = part by rw [hturn.out, Int.toNat_natCast]; exact ⟨fun e => e.2, fun e => ⟨hi, e⟩⟩)
          clear hr hr0 hturn hrg
          generalize t.P q = p at *
          by_cases hp : p = part
          · have hpb : (p == part) = true := by simpa using hp
            have htn := hide (htq.out.2 hp)
            clear hp htq
            go_wp2_with fail
            go_ret2
            exact ⟨_, rfl, .inl ⟨k, hk1, hkT, hov, by rw [hpe'.out]; exact htn.out, fun j h1 h2 => (hno'.out j h1 h2).2, by first | rfl | rw [← hs1] | simp⟩, hbr2.out⟩
          · have hpb : (p == part) = false := by simpa using hp
            have htn := hide (fun e => hp (htq.out.1 e))
            clear hp htq
            go_wp2_with fail
            go_roundw
            case rel => exact ⟨k + 1, by omega, by omega, by go_num, fun j h1 h2 => by
              rcases Nat.lt_or_eq_of_le (Nat.le_of_lt_succ h2) with h3 | h3
              · exact hno'.out j h1 h3
              · rw [h3]; exact ⟨hov, by rw [hpe'.out]; exact htn.out⟩, hbw2.out⟩
            case measure => simp [intOf]; omega
        · have htn := hide (show ¬ t.turn part pl from fun e => hi (hturn.out.1 e).1)
          clear hturn hrg
          go_wp2_with fail
          go_roundw
          case rel => exact ⟨k + 1, by omega, by omega, by go_num, fun j h1 h2 => by
            rcases Nat.lt_or_eq_of_le (Nat.le_of_lt_succ h2) with h3 | h3
            · exact hno'.out j h1 h3
            · rw [h3]; exact ⟨hov, by rw [hpe'.out]; exact htn.out⟩, hbw2.out⟩
          case measure => simp [intOf]; omega
      · obtain ⟨y, hy⟩ : ∃ y : Int, y = (x : Int) + (k : Int) - 18446744073709551616 := ⟨_, rfl⟩
        have hs1 : IntKind.u64.wrap ((x : Int) + (k : Int)) = y := by rw [IntKind.wrap_u64]; omega
        have hd3 : decide ((x : Int) < y) = false := decide_eq_false (by omega)
        have hd4 : ¬ (x : Int) < y := by omega
        have hov' := hide hov
        clear hy hov
        go_wp2_with fail
        go_ret2
        exact ⟨_, rfl, .inr ⟨fun j h1 _ h3 => (hno'.out j h1 (by have := hov'.out; omega)).2, rfl⟩, hbr.out⟩
    · obtain rfl : k = t.T.toNat + 1 := by omega
      have hd1 : decide (((t.T.toNat + 1 : Nat) : Int) ≤ t.T) = false := decide_eq_false (by omega)
      go_wp2_with fail
      go_ret2
      exact ⟨_, rfl, .inr ⟨fun j h1 h2 _ => (hno'.out j h1 (by omega)).2, rfl⟩, hbr.out⟩
end Go.Proofs.YtkcjjogekkldkaaDoor
