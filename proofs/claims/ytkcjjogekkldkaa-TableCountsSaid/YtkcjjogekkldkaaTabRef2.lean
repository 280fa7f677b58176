/- nacelleref11.Share, Turns and Next walked. -/
import Derived.Test.YtkcjjogekkldkaaTabTells
namespace Go.Proofs.Ytkcjjogekkldkaa
open Go.RowKit

theorem own_below {w w' : World} {base : Nat} {e : TypeId} {size : Nat} {v : Value} {n : Nat} {xs : List Value} (h : w.ownsRow base e size v n xs) (hb : Below w.heap.size w w') : w'.ownsRow base e size v n xs :=
  World.ownsRow.kept (row := none) h ⟨hb.os, hb.tape, hb.output, hb.size, fun k hk _ => hb.block k hk⟩ (by cases hv : v.ownBlock <;> simp)
theorem places_ok (t : Tab) (hok : t.Ok) (A : Option Addr) (c : Nat) (w : World) (h : TabV w A c t) :
    Calls Try.prog 25 #[.agg #[.int .i64 t.T, .slice A t.n c]] w fun e w' => ∃ B cap, e = .returned (.slice B t.T.toNat cap) ∧ w'.ownsRow w.heap.size 3 1 (.slice B t.T.toNat cap) t.T.toNat (t.places t.T.toNat) ∧ Below w.heap.size w w' := by
  refine (places_any t hok A c w h).mono ?_
  rintro e w' ⟨v, rfl, hown, hb⟩
  rcases hown.2 with ⟨rfl, h0⟩ | ⟨g, cap, cur, rfl, hr⟩
  · exact ⟨none, 0, by rw [h0], by rw [h0] at hown ⊢; exact hown, hb⟩
  · exact ⟨_, _, rfl, hown, hb⟩


set_option maxRecDepth 100000 in
set_option maxHeartbeats 1000000 in
theorem refShare_any (t : Tab) (hok : t.Ok) (A : Option Addr) (c : Nat) (part : Int) (w : World) (h : TabV w A c t) :
    Calls Try.prog 29 #[.agg #[.int .i64 t.T, .slice A t.n c], .int .i64 part] w fun e w' => e = .returned (.int .i64 (t.below part t.T)) ∧ Below w.heap.size w w' := by
  have h' := hide h
  have hok' := hide hok
  have hT1 := hok.T1
  have hT2 := hok.T2
  clear h hok
  go_enter Try.func29, Try.ntmps29
  go_wp2_with fail
  have e0 : (w.alloc (.cells #[.int .i64 t.T, .slice A t.n c] 59)).cell? ⟨w.heap.size, 0, none⟩ = some (.int .i64 t.T) := by simp [go_sem]
  have e1 : (w.alloc (.cells #[.int .i64 t.T, .slice A t.n c] 59)).cell? ⟨w.heap.size, 1, none⟩ = some (.slice A t.n c) := by simp [go_sem]
  have hl : w.heap.size < (w.alloc (.cells #[.int .i64 t.T, .slice A t.n c] 59)).heap.size := by simp
  have hbw := hide (show Below w.heap.size w (w.alloc (.cells #[.int .i64 t.T, .slice A t.n c] 59)) from (Below.refl _ _).alloc (Nat.le_refl _) _)
  generalize w.alloc (.cells #[.int .i64 t.T, .slice A t.n c] 59) = W1 at *
  have hVr := hide (h'.out.below hbw.out)
  refine (places_ok t hok'.out A c _ hVr.out).mono ?_
  rintro e w2 ⟨B, cap, rfl, hown, hb2⟩
  have hown' := hide hown
  replace e0 : (w2).cell? ⟨w.heap.size, 0, none⟩ = some (.int .i64 t.T) := (hb2.cell (p := ⟨w.heap.size, 0, none⟩) hl).trans e0
  replace e1 : (w2).cell? ⟨w.heap.size, 1, none⟩ = some (.slice A t.n c) := (hb2.cell (p := ⟨w.heap.size, 1, none⟩) hl).trans e1
  replace hVr := hide (hVr.out.below hb2)
  replace hbw := hide (hbw.out.trans (hb2.mono hbw.out.size))
  replace hl : w.heap.size < (w2).heap.size := Nat.lt_of_lt_of_le hl hb2.size
  clear hb2
  clear hown
  have hTn : t.T.toNat ≤ 256 := by omega
  go_wp2_with fail
  go_loopw [6, 7] (fun s i wr => ∃ k : Nat, k ≤ t.T.toNat ∧ i = .int .i64 k ∧ s = .int .i64 (t.below part k) ∧ Below w2.heap.size w2 wr) (fun _ i _ => t.T.toNat - (intOf i).toNat)
  case atStart => exact ⟨0, Nat.zero_le _, rfl, by rw [show ((0 : Nat) : Int) = 0 from rfl, hok'.out.below_zero], Below.refl _ _⟩
  case round =>
    obtain ⟨k, hk, rfl, rfl, hb⟩ := hrel
    have hbb := hok'.out.below_le part k
    have hown2 := hide (own_below hown'.out hb)
    have hb2 := hb
    replace e0 : (wr).cell? ⟨w.heap.size, 0, none⟩ = some (.int .i64 t.T) := (hb2.cell (p := ⟨w.heap.size, 0, none⟩) hl).trans e0
    replace e1 : (wr).cell? ⟨w.heap.size, 1, none⟩ = some (.slice A t.n c) := (hb2.cell (p := ⟨w.heap.size, 1, none⟩) hl).trans e1
    replace hVr := hide (hVr.out.below hb2)
    replace hbw := hide (hbw.out.trans (hb2.mono hbw.out.size))
    replace hl : w.heap.size < (wr).heap.size := Nat.lt_of_lt_of_le hl hb2.size
    clear hb2
    have hbr := hide hb
    clear hb
    by_cases hlt : k < t.T.toNat
    · have hst := hide (show t.below part ((k + 1 : Nat) : Int) = t.below part k + (if t.turn part k then 1 else 0) by rw [show ((k + 1 : Nat) : Int) = (k : Int) + 1 by omega]; exact hok'.out.below_step part k)
      have htu := hide (refTurn_any t hok'.out A c _ _ part k hlt wr hVr.out hown2.out)
      obtain ⟨b1, b2⟩ := hbb
      generalize t.below part (k : Int) = s at *
      by_cases htn : t.turn part k
      · have hd := hide (decide_eq_true htn)
        have hnx := hide (show t.below part ((k + 1 : Nat) : Int) = s + 1 by rw [hst.out, if_pos htn])
        clear htn hst
        go_wp2_with fail
        refine htu.out.mono ?_
        rintro e w3 ⟨rfl, hb3⟩
        rw [hd.out]
        have hb3' := hide hb3
        clear hb3
        go_wp2_with fail
        go_roundw
        case rel => exact ⟨k + 1, by omega, by go_num, by rw [hnx.out], hbr.out.trans (hb3'.out.mono hbr.out.size)⟩
        case measure => simp [intOf]; omega
      · have hd := hide (decide_eq_false htn)
        have hnx := hide (show t.below part ((k + 1 : Nat) : Int) = s by rw [hst.out, if_neg htn]; omega)
        clear htn hst
        go_wp2_with fail
        refine htu.out.mono ?_
        rintro e w3 ⟨rfl, hb3⟩
        rw [hd.out]
        have hb3' := hide hb3
        clear hb3
        go_wp2_with fail
        go_roundw
        case rel => exact ⟨k + 1, by omega, by go_num, by rw [hnx.out], hbr.out.trans (hb3'.out.mono hbr.out.size)⟩
        case measure => simp [intOf]; omega
    · obtain rfl : k = t.T.toNat := by omega
      have hTT := hide (show ((t.T.toNat : Nat) : Int) = t.T by omega)
      go_wp2_with fail
      go_ret
      exact ⟨by rw [← hTT.out]; rfl, hbw.out⟩

set_option maxRecDepth 100000 in
set_option maxHeartbeats 2000000 in
theorem refTurns_any (t : Tab) (hok : t.Ok) (A : Option Addr) (c : Nat) (part : Int) (x : Nat) (hx : x < 18446744073709551616) (w : World) (h : TabV w A c t) :
    Calls Try.prog 30 #[.agg #[.int .i64 t.T, .slice A t.n c], .int .i64 part, .int .u64 x] w fun e w' => e = .returned (.int .u64 (t.turns part x)) ∧ Below w.heap.size w w' := by
  have h' := hide h
  have hok' := hide hok
  have hT1 := hok.T1
  have hT2 := hok.T2
  have hTT : ((t.T.toNat : Nat) : Int) = t.T := by omega
  have b1 := hok.below_le part t.T.toNat
  rw [hTT] at b1
  have hlt : x % t.T.toNat < t.T.toNat := Nat.mod_lt _ (by omega)
  have htl := hok.turns_le part x
  have htd : t.turns part x = ((x / t.T.toNat : Nat) : Int) * t.below part t.T + t.below part ((x % t.T.toNat : Nat) : Int) := rfl
  have b2 := hok.below_le part (x % t.T.toNat)
  have hp0 : 0 ≤ ((x / t.T.toNat : Nat) : Int) * t.below part t.T := Int.mul_nonneg (Int.natCast_nonneg _) b1.1
  have hm1 : IntKind.u64.wrap t.T = t.T := IntWalk.u64_in _ (by omega)
  have hm0 : ¬ t.T = 0 := by omega
  have hm2 : ((x : Int)).tmod t.T = ((x % t.T.toNat : Nat) : Int) := by rw [← hTT, Int.toNat_natCast]; rfl
  have hm2b : ((x : Int)) % t.T = ((x % t.T.toNat : Nat) : Int) := by rw [Int.natCast_emod, hTT]
  have hm4 : ((x : Int)).tdiv t.T = ((x / t.T.toNat : Nat) : Int) := by rw [← hTT, Int.toNat_natCast]; rfl
  have hm5 : IntKind.u64.wrap (t.below part t.T) = t.below part t.T := IntWalk.u64_in _ (by omega)
  have hm7 : IntKind.u64.wrap (((x / t.T.toNat : Nat) : Int) * t.below part t.T) = ((x / t.T.toNat : Nat) : Int) * t.below part t.T := IntWalk.u64_in _ (by omega)
  have hm9 : IntKind.u64.wrap ((x / t.T.toNat : Nat) : Int) = ((x / t.T.toNat : Nat) : Int) := IntWalk.u64_in _ (by have hD := Nat.div_le_self x t.T.toNat; generalize x / t.T.toNat = D at hD ⊢; omega)
  have hsh := hide (fun W (hW : TabV W A c t) => refShare_any t hok A c part W hW)
  have htd' := hide htd
  have hm2' := hide hm2b
  have hle : ((x / t.T.toNat : Nat) : Int) * t.below part t.T + ((x % t.T.toNat : Nat) : Int) ≤ 18446744073709551615 := by
    have h1 : ((x / t.T.toNat : Nat) : Int) * t.below part t.T ≤ ((x / t.T.toNat : Nat) : Int) * t.T := Int.mul_le_mul_of_nonneg_left b1.2 (Int.natCast_nonneg _)
    have h2 : ((x / t.T.toNat : Nat) : Int) * t.T + ((x % t.T.toNat : Nat) : Int) = x := by
      have := Nat.div_add_mod x t.T.toNat
      rw [← hTT, ← Int.natCast_mul, ← Int.natCast_add, Int.toNat_natCast, Nat.mul_comm, this]
    omega
  have hTp := hide (show 0 < t.T.toNat by omega)
  have hMT := hide hlt
  clear h hok htd htl b1 b2 hlt hTT hm2b
  generalize t.below part t.T = B1 at *
  generalize ((x / t.T.toNat : Nat) : Int) = D at *
  generalize hM : x % t.T.toNat = M at *
  have hM' := hide hM
  clear hM
  generalize hDB : D * B1 = DB at *
  have hDB' := hide hDB
  go_enter Try.func30, Try.ntmps30
  go_wp2_with fail
  have e0 : (w.alloc (.cells #[.int .i64 t.T, .slice A t.n c] 59)).cell? ⟨w.heap.size, 0, none⟩ = some (.int .i64 t.T) := by simp [go_sem]
  have e1 : (w.alloc (.cells #[.int .i64 t.T, .slice A t.n c] 59)).cell? ⟨w.heap.size, 1, none⟩ = some (.slice A t.n c) := by simp [go_sem]
  have hl : w.heap.size < (w.alloc (.cells #[.int .i64 t.T, .slice A t.n c] 59)).heap.size := by simp
  have hbw := hide (show Below w.heap.size w (w.alloc (.cells #[.int .i64 t.T, .slice A t.n c] 59)) from (Below.refl _ _).alloc (Nat.le_refl _) _)
  generalize w.alloc (.cells #[.int .i64 t.T, .slice A t.n c] 59) = W1 at *
  have hVr := hide (h'.out.below hbw.out)
  have f0 : ∀ w', Later (fun _ => False) W1.drew w' → w'.cell? ⟨w.heap.size, 0, none⟩ = some (.int .i64 t.T) := fun w' hl' => (Later.cell (a := W1) hl' hl (fun h => h)).1.trans e0
  have f1 : ∀ w', Later (fun _ => False) W1.drew w' → w'.cell? ⟨w.heap.size, 1, none⟩ = some (.slice A t.n c) := fun w' hl' => (Later.cell (a := W1) hl' hl (fun h => h)).1.trans e1
  replace hVr := hide (hVr.out.below ((Below.refl W1.heap.size W1).drew))
  replace hbw := hide hbw.out.drew
  refine region_plan [(true, 0), (true, 2), (true, 3), (true, 4), (false, 1), (true, 5), (true, 6)] (Later fun _ => False) (later_refl _) (later_trans _) (by kernel_rfl) (by kernel_rfl) (fun _ _ d _ _ h => by cases d <;> exact h) ?_
  repeat
    (first
      | (show wpPlan _ _ _ _ ((true, _) :: _) _ _
         refine plan_skip rfl (by rfl) ?_
         simp only [Act.put, List.setIfInBounds_toArray, List.set_cons_zero, List.set_cons_succ])
      | (show wpPlan _ _ _ _ ((false, _) :: _) _ _
         refine plan_skip_eff (later_refl _) rfl (by rfl) ?_
         simp only [Act.put, List.setIfInBounds_toArray, List.set_cons_zero, List.set_cons_succ])
      | (show wpPlan _ _ _ _ ((true, _) :: _) _ _
         refine plan_take (v := ?_) rfl (by rfl) (fun w' hw' => ?_) ?_
         rotate_left
         focus
           go_simp
           try with_reducible rfl
           done
         simp only [Act.put, List.setIfInBounds_toArray, List.set_cons_zero, List.set_cons_succ]))
  refine plan_eff rfl (by rfl) (fun K hK => ?_)
  go_wp2_with fail
  refine (places_ok t hok'.out A c _ hVr.out).mono ?_
  rintro e w2 ⟨B, cap, rfl, hown, hb2⟩
  have hown' := hide hown
  have hl2 := hide (below_later hb2 (Nat.le_refl _))
  replace hVr := hide (hVr.out.below hb2)
  replace hbw := hide (hbw.out.trans (hb2.mono hbw.out.size))
  have r0 := f0 w2 hl2.out
  have r1 := f1 w2 hl2.out
  replace hl : w.heap.size < w2.heap.size := Nat.lt_of_lt_of_le hl hb2.size
  clear hown hb2 f0 f1 e0 e1
  refine hK _ _ hl2.out ?_
  clear hK K hl2
  try simp only [Act.put, List.setIfInBounds_toArray, List.set_cons_zero, List.set_cons_succ]
  repeat
    (first
      | (show wpPlan _ _ _ _ ((true, _) :: _) _ _
         refine plan_skip rfl (by rfl) ?_
         simp only [Act.put, List.setIfInBounds_toArray, List.set_cons_zero, List.set_cons_succ])
      | (show wpPlan _ _ _ _ ((false, _) :: _) _ _
         refine plan_skip_eff (later_refl _) rfl (by rfl) ?_
         simp only [Act.put, List.setIfInBounds_toArray, List.set_cons_zero, List.set_cons_succ])
      | (show wpPlan _ _ _ _ ((true, _) :: _) _ _
         refine plan_take (v := ?_) rfl (by rfl) (fun w' hw' => ?_) ?_
         rotate_left
         focus
           go_simp
           try with_reducible rfl
           done
         simp only [Act.put, List.setIfInBounds_toArray, List.set_cons_zero, List.set_cons_succ]))
  refine plan_nil ?_
  go_wp2_with fail
  have f0 : ∀ w', Later (fun _ => False) w2.drew w' → w'.cell? ⟨w.heap.size, 0, none⟩ = some (.int .i64 t.T) := fun w' hl' => (Later.cell (a := w2) hl' hl (fun h => h)).1.trans r0
  have f1 : ∀ w', Later (fun _ => False) w2.drew w' → w'.cell? ⟨w.heap.size, 1, none⟩ = some (.slice A t.n c) := fun w' hl' => (Later.cell (a := w2) hl' hl (fun h => h)).1.trans r1
  replace hVr := hide (hVr.out.below ((Below.refl w2.heap.size w2).drew))
  replace hbw := hide hbw.out.drew
  replace hown' := hide (own_below hown'.out ((Below.refl w2.heap.size w2).drew))
  refine region_plan [(true, 0), (true, 1), (true, 2), (true, 3), (true, 4), (false, 5), (true, 6), (true, 7), (true, 8)] (Later fun _ => False) (later_refl _) (later_trans _) (by kernel_rfl) (by kernel_rfl) (fun _ _ d _ _ h => by cases d <;> exact h) ?_
  repeat
    (first
      | (show wpPlan _ _ _ _ ((true, _) :: _) _ _
         refine plan_skip rfl (by rfl) ?_
         simp only [Act.put, List.setIfInBounds_toArray, List.set_cons_zero, List.set_cons_succ])
      | (show wpPlan _ _ _ _ ((false, _) :: _) _ _
         refine plan_skip_eff (later_refl _) rfl (by rfl) ?_
         simp only [Act.put, List.setIfInBounds_toArray, List.set_cons_zero, List.set_cons_succ])
      | (show wpPlan _ _ _ _ ((true, _) :: _) _ _
         refine plan_take (v := ?_) rfl (by rfl) (fun w' hw' => ?_) ?_
         rotate_left
         focus
           go_simp
           try with_reducible rfl
           done
         simp only [Act.put, List.setIfInBounds_toArray, List.set_cons_zero, List.set_cons_succ]))
  refine plan_eff rfl (by rfl) (fun K hK => ?_)
  go_wp2_with fail
  refine (hsh.out _ hVr.out).mono ?_
  rintro e w3 ⟨rfl, hb2⟩
  have hl2 := hide (below_later hb2 (Nat.le_refl _))
  replace hVr := hide (hVr.out.below hb2)
  replace hown' := hide (own_below hown'.out hb2)
  replace hbw := hide (hbw.out.trans (hb2.mono hbw.out.size))
  have e0 := f0 w3 hl2.out
  have e1 := f1 w3 hl2.out
  replace hl : w.heap.size < w3.heap.size := Nat.lt_of_lt_of_le hl hb2.size
  clear hb2 f0 f1 r0 r1
  refine hK _ _ hl2.out ?_
  clear hK K hl2
  try simp only [Act.put, List.setIfInBounds_toArray, List.set_cons_zero, List.set_cons_succ]
  repeat
    (first
      | (show wpPlan _ _ _ _ ((true, _) :: _) _ _
         refine plan_skip rfl (by rfl) ?_
         simp only [Act.put, List.setIfInBounds_toArray, List.set_cons_zero, List.set_cons_succ])
      | (show wpPlan _ _ _ _ ((false, _) :: _) _ _
         refine plan_skip_eff (later_refl _) rfl (by rfl) ?_
         simp only [Act.put, List.setIfInBounds_toArray, List.set_cons_zero, List.set_cons_succ])
      | (show wpPlan _ _ _ _ ((true, _) :: _) _ _
         refine plan_take (v := ?_) rfl (by rfl) (fun w' hw' => ?_) ?_
         rotate_left
         focus
           go_simp
           try with_reducible rfl
           done
         simp only [Act.put, List.setIfInBounds_toArray, List.set_cons_zero, List.set_cons_succ]))
  refine plan_nil ?_
  go_wp2_with fail
  have hM256 : M ≤ 256 := by have := hMT.out; omega
  clear hm2 hm4 hDB hm5 hm9 hm7
  go_loopw [9, 10] (fun s i wr => ∃ k : Nat, k ≤ M ∧ i = .int .u64 k ∧ s = .int .u64 (DB + t.below part k) ∧ Below w3.heap.size w3 wr) (fun _ i _ => M - (intOf i).toNat)
  case atStart => exact ⟨0, Nat.zero_le _, rfl, by rw [show ((0 : Nat) : Int) = 0 from rfl, hok'.out.below_zero, Int.add_zero], Below.refl _ _⟩
  case round =>
    obtain ⟨k, hk, rfl, rfl, hb⟩ := hrel
    have hbb := hok'.out.below_le part k
    have hown2 := hide (own_below hown'.out hb)
    have hb2 := hb
    replace e0 : (wr).cell? ⟨w.heap.size, 0, none⟩ = some (.int .i64 t.T) := (hb2.cell (p := ⟨w.heap.size, 0, none⟩) hl).trans e0
    replace e1 : (wr).cell? ⟨w.heap.size, 1, none⟩ = some (.slice A t.n c) := (hb2.cell (p := ⟨w.heap.size, 1, none⟩) hl).trans e1
    replace hVr := hide (hVr.out.below hb2)
    replace hbw := hide (hbw.out.trans (hb2.mono hbw.out.size))
    replace hl : w.heap.size < (wr).heap.size := Nat.lt_of_lt_of_le hl hb2.size
    clear hb2
    have hbr := hide hb
    clear hb
    by_cases hlt : k < M
    · have hd0 : decide ((k : Int) < (x : Int) % t.T) = true := decide_eq_true (by rw [hm2'.out]; omega)
      have hst := hide (show t.below part ((k + 1 : Nat) : Int) = t.below part k + (if t.turn part k then 1 else 0) by rw [show ((k + 1 : Nat) : Int) = (k : Int) + 1 by omega]; exact hok'.out.below_step part k)
      have htu := hide (refTurn_any t hok'.out A c _ _ part k (by have := hMT.out; omega) wr hVr.out hown2.out)
      obtain ⟨b1, b2⟩ := hbb
      generalize t.below part (k : Int) = s at *
      by_cases htn : t.turn part k
      · have hd := hide (decide_eq_true htn)
        have hnx := hide (show t.below part ((k + 1 : Nat) : Int) = s + 1 by rw [hst.out, if_pos htn])
        clear htn hst
        go_wp2_with fail
        refine htu.out.mono ?_
        rintro e w4 ⟨rfl, hb3⟩
        rw [hd.out]
        have hb3' := hide hb3
        clear hb3
        go_wp2_with fail
        go_roundw
        case rel => exact ⟨k + 1, by omega, by go_num, val_int (by rw [hnx.out]; omega), hbr.out.trans (hb3'.out.mono hbr.out.size)⟩
        case measure => simp [intOf]; omega
      · have hd := hide (decide_eq_false htn)
        have hnx := hide (show t.below part ((k + 1 : Nat) : Int) = s by rw [hst.out, if_neg htn]; omega)
        clear htn hst
        go_wp2_with fail
        refine htu.out.mono ?_
        rintro e w4 ⟨rfl, hb3⟩
        rw [hd.out]
        have hb3' := hide hb3
        clear hb3
        go_wp2_with fail
        go_roundw
        case rel => exact ⟨k + 1, by omega, by go_num, by rw [hnx.out], hbr.out.trans (hb3'.out.mono hbr.out.size)⟩
        case measure => simp [intOf]; omega
    · obtain rfl : k = M := by omega
      have hd0 : decide ((k : Int) < (x : Int) % t.T) = false := decide_eq_false (by rw [hm2'.out]; omega)
      go_wp2_with fail
      go_ret
      exact ⟨by rw [htd'.out]; rfl, hbw.out⟩

set_option maxRecDepth 100000 in
set_option maxHeartbeats 2000000 in
theorem refNext_any (t : Tab) (hok : t.Ok) (A : Option Addr) (c : Nat) (part : Int) (x : Nat) (hx : x < 18446744073709551616) (w : World) (h : TabV w A c t) :
    Calls Try.prog 31 #[.agg #[.int .i64 t.T, .slice A t.n c], .int .i64 part, .int .u64 x] w (NextPost t part x w) := by
  have h' := hide h
  have hok' := hide hok
  have hT1 := hok.T1
  have hT2 := hok.T2
  clear h hok
  go_enter Try.func31, Try.ntmps31
  go_wp2_with fail
  have e0 : (w.alloc (.cells #[.int .i64 t.T, .slice A t.n c] 59)).cell? ⟨w.heap.size, 0, none⟩ = some (.int .i64 t.T) := by simp [go_sem]
  have e1 : (w.alloc (.cells #[.int .i64 t.T, .slice A t.n c] 59)).cell? ⟨w.heap.size, 1, none⟩ = some (.slice A t.n c) := by simp [go_sem]
  have hl : w.heap.size < (w.alloc (.cells #[.int .i64 t.T, .slice A t.n c] 59)).heap.size := by simp
  have hbw := hide (show Below w.heap.size w (w.alloc (.cells #[.int .i64 t.T, .slice A t.n c] 59)) from (Below.refl _ _).alloc (Nat.le_refl _) _)
  generalize w.alloc (.cells #[.int .i64 t.T, .slice A t.n c] 59) = W1 at *
  have hVr := hide (h'.out.below hbw.out)
  refine (places_ok t hok'.out A c _ hVr.out).mono ?_
  rintro e w2 ⟨B, cap, rfl, hown, hb2⟩
  have hown' := hide hown
  replace e0 : (w2).cell? ⟨w.heap.size, 0, none⟩ = some (.int .i64 t.T) := (hb2.cell (p := ⟨w.heap.size, 0, none⟩) hl).trans e0
  replace e1 : (w2).cell? ⟨w.heap.size, 1, none⟩ = some (.slice A t.n c) := (hb2.cell (p := ⟨w.heap.size, 1, none⟩) hl).trans e1
  replace hVr := hide (hVr.out.below hb2)
  replace hbw := hide (hbw.out.trans (hb2.mono hbw.out.size))
  replace hl : w.heap.size < (w2).heap.size := Nat.lt_of_lt_of_le hl hb2.size
  clear hb2
  clear hown
  go_wp2_with fail
  go_loopw [2, 9] (fun s i wr => ∃ k : Nat, k ≤ t.T.toNat ∧ i = .int .i64 k ∧ s = .int .u64 ((x : Int) + (k : Int)) ∧ x + k < 18446744073709551616 ∧ (∀ j : Nat, 1 ≤ j → j ≤ k → ¬ t.turn part ((x + j) % t.T.toNat : Nat)) ∧ Below w2.heap.size w2 wr) (fun _ i _ => t.T.toNat - (intOf i).toNat)
  case atStart => exact ⟨0, Nat.zero_le _, rfl, by simp, by omega, fun j h1 h2 => by omega, Below.refl _ _⟩
  case round =>
    obtain ⟨k, hk, rfl, rfl, hxk, hno, hb⟩ := hrel
    have hown2 := hide (own_below hown'.out hb)
    have hb2 := hb
    replace e0 : (wr).cell? ⟨w.heap.size, 0, none⟩ = some (.int .i64 t.T) := (hb2.cell (p := ⟨w.heap.size, 0, none⟩) hl).trans e0
    replace e1 : (wr).cell? ⟨w.heap.size, 1, none⟩ = some (.slice A t.n c) := (hb2.cell (p := ⟨w.heap.size, 1, none⟩) hl).trans e1
    replace hVr := hide (hVr.out.below hb2)
    replace hbw := hide (hbw.out.trans (hb2.mono hbw.out.size))
    replace hl : w.heap.size < (wr).heap.size := Nat.lt_of_lt_of_le hl hb2.size
    clear hb2
    have hbr := hide hb
    have hno' := hide hno
    clear hb hno
    by_cases hlt : k < t.T.toNat
    · have hkT : (k : Int) < t.T := by omega
      by_cases hmx : x + k = 18446744073709551615
      · have hmb : (((x : Int) + (k : Int)) == 18446744073709551615) = true := by simp; omega
        have hmx' := hide hmx
        clear hmx
        go_wp2_with fail
        go_ret2
        exact ⟨_, rfl, .inr ⟨fun j h1 _ h3 => hno'.out j h1 (by have := hmx'.out; omega), rfl⟩, hbw.out⟩
      · have hmb : (((x : Int) + (k : Int)) == 18446744073709551615) = false := by simp; omega
        have hxk1 : (x : Int) + (k : Int) + 1 ≤ 18446744073709551615 := by omega
        clear hmx
        have hm1 : IntKind.u64.wrap t.T = t.T := IntWalk.u64_in _ (by omega)
        have hm0 : ¬ t.T = 0 := by omega
        have hTT : ((t.T.toNat : Nat) : Int) = t.T := by omega
        have hql : (x + (k + 1)) % t.T.toNat < t.T.toNat := Nat.mod_lt _ (by omega)
        have hwv := hide (show wrap64 (((x : Int) + (k : Int) + 1) % t.T) = (((x + (k + 1)) % t.T.toNat : Nat) : Int) by
          have e : (((x : Int) + (k : Int) + 1) % t.T) = (((x + (k + 1)) % t.T.toNat : Nat) : Int) := by rw [Int.natCast_emod, Int.natCast_add, Int.natCast_add, hTT, Int.add_assoc]; rfl
          rw [e]; exact IntWalk.wrap64_in _ (by omega))
        have htu := hide (show Calls Try.prog 42 #[.agg #[.int .i64 t.T, .slice A t.n c], .slice B t.T.toNat cap, .int .i64 part, .int .i64 (wrap64 (((x : Int) + (k : Int) + 1) % t.T))] wr.drew fun e w' => e = .returned (.bool (decide (t.turn part ((x + (k + 1)) % t.T.toNat : Nat)))) ∧ Below wr.drew.heap.size wr.drew w' from by
          rw [hwv.out]; exact refTurn_any t hok'.out A c _ _ part _ hql wr.drew (hVr.out.below ((Below.refl wr.heap.size wr).drew)) (own_below hown2.out ((Below.refl wr.heap.size wr).drew)))
        have f0 : ∀ w', Later (fun _ => False) wr.drew w' → w'.cell? ⟨w.heap.size, 0, none⟩ = some (.int .i64 t.T) := fun w' hl' => (Later.cell (a := wr) hl' hl (fun h => h)).1.trans e0
        have f1 : ∀ w', Later (fun _ => False) wr.drew w' → w'.cell? ⟨w.heap.size, 1, none⟩ = some (.slice A t.n c) := fun w' hl' => (Later.cell (a := wr) hl' hl (fun h => h)).1.trans e1
        clear hql hTT hwv
        have hbwd := hide hbw.out.drew
        have hbrd := hide hbr.out.drew
        by_cases htn : t.turn part ((x + (k + 1)) % t.T.toNat : Nat)
        · have hd := hide (decide_eq_true htn)
          have htn' := hide htn
          clear htn
          go_wp2_with fail
          refine region_plan [(true, 0), (true, 1), (true, 2), (true, 3), (true, 4), (true, 5), (true, 6), (true, 7), (true, 8), (false, 9)] (Later fun _ => False) (later_refl _) (later_trans _) (by kernel_rfl) (by kernel_rfl) (fun _ _ d _ _ h => by cases d <;> exact h) ?_
          repeat
            (first
              | (show wpPlan _ _ _ _ ((true, _) :: _) _ _
                 refine plan_skip rfl (by rfl) ?_
                 simp only [Act.put, List.setIfInBounds_toArray, List.set_cons_zero, List.set_cons_succ])
              | (show wpPlan _ _ _ _ ((false, _) :: _) _ _
                 refine plan_skip_eff (later_refl _) rfl (by rfl) ?_
                 simp only [Act.put, List.setIfInBounds_toArray, List.set_cons_zero, List.set_cons_succ])
              | (show wpPlan _ _ _ _ ((true, _) :: _) _ _
                 refine plan_take (v := ?_) rfl (by rfl) (fun w' hw' => ?_) ?_
                 rotate_left
                 focus
                   go_simp
                   try with_reducible rfl
                   done
                 simp only [Act.put, List.setIfInBounds_toArray, List.set_cons_zero, List.set_cons_succ]))
          refine plan_eff_last (by kernel_rfl) rfl (by rfl) (fun K hK => ?_)
          go_wp2_with fail
          (with_reducible refine htu.out.mono ?_)
          rintro e w3 ⟨rfl, hb3⟩
          rw [hd.out]
          have hb3' := hide hb3
          clear hb3
          go_wp2_with fail
          go_ret2
          exact ⟨_, rfl, .inl ⟨k + 1, by omega, by omega, by omega, htn'.out, fun j h1 h2 => hno'.out j h1 (by omega), by first | rfl | (congr 2; omega)⟩, hbwd.out.trans (hb3'.out.mono hbwd.out.size)⟩
        · have hd := hide (decide_eq_false htn)
          have htn' := hide htn
          clear htn
          go_wp2_with fail
          refine region_plan [(true, 0), (true, 1), (true, 2), (true, 3), (true, 4), (true, 5), (true, 6), (true, 7), (true, 8), (false, 9)] (Later fun _ => False) (later_refl _) (later_trans _) (by kernel_rfl) (by kernel_rfl) (fun _ _ d _ _ h => by cases d <;> exact h) ?_
          repeat
            (first
              | (show wpPlan _ _ _ _ ((true, _) :: _) _ _
                 refine plan_skip rfl (by rfl) ?_
                 simp only [Act.put, List.setIfInBounds_toArray, List.set_cons_zero, List.set_cons_succ])
              | (show wpPlan _ _ _ _ ((false, _) :: _) _ _
                 refine plan_skip_eff (later_refl _) rfl (by rfl) ?_
                 simp only [Act.put, List.setIfInBounds_toArray, List.set_cons_zero, List.set_cons_succ])
              | (show wpPlan _ _ _ _ ((true, _) :: _) _ _
                 refine plan_take (v := ?_) rfl (by rfl) (fun w' hw' => ?_) ?_
                 rotate_left
                 focus
                   go_simp
                   try with_reducible rfl
                   done
                 simp only [Act.put, List.setIfInBounds_toArray, List.set_cons_zero, List.set_cons_succ]))
          refine plan_eff_last (by kernel_rfl) rfl (by rfl) (fun K hK => ?_)
          go_wp2_with fail
          (with_reducible refine htu.out.mono ?_)
          rintro e w3 ⟨rfl, hb3⟩
          rw [hd.out]
          have hb3' := hide hb3
          clear hb3
          go_wp2_with fail
          go_roundw
          case rel => exact ⟨k + 1, by omega, by go_num, by go_num, by omega, fun j h1 h2 => by
            rcases Nat.lt_or_eq_of_le h2 with h3 | h3
            · exact hno'.out j h1 (by omega)
            · rw [h3]; exact htn'.out, hbrd.out.trans (hb3'.out.mono hbrd.out.size)⟩
          case measure => simp [intOf]; omega
    · obtain rfl : k = t.T.toNat := by omega
      have hkT : ¬ ((t.T.toNat : Nat) : Int) < t.T := by omega
      go_wp2_with fail
      go_ret2
      exact ⟨_, rfl, .inr ⟨fun j h1 h2 _ => hno'.out j h1 h2, rfl⟩, hbw.out⟩
end Go.Proofs.Ytkcjjogekkldkaa
