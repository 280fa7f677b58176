/- The law DiskArmed walked (gt_neg). -/
import Derived.Test.YtamkngpkplflcaaDiskArmed
namespace Go.Proofs.Ytamkngpkplflcaa
open Go.RowKit

set_option maxRecDepth 100000 in
set_option maxHeartbeats 8000000 in
theorem armed_gt_neg (A : Option Addr) (b off n c : Nat) (G : Nat → DAct) (kv : Value) (keep : List Bool) (w : World) (hA : 0 < n → A = some ⟨b, off, none⟩) (hn : n ≤ 9223372036854775807) (h40 : 40 < n) (h : DActs w w.heap.size b off n G) (hk : BoolsB w w.heap.size kv keep) (hkl : keep.length ≤ 140737488355328) (m : Int) (hm : ¬ 0 < m) (hI : I64 m) :
    Calls Try.prog 6 #[.slice A n c, .int .i64 m, kv] w fun e w' => e = .returned (.bool true) ∧ Below w.heap.size w w' := by
  have hA' := hide hA
  have h' := hide h
  have h40b : (40 : Int) < (n : Int) := by omega
  have hk' := hide hk
  have hI' := hide hI
  clear hA h hk hI
  go_enter Try.func6, Try.ntmps6
  go_wp2_with fail
  refine (dnew_dsk 4 (by omega) (by omega) w).mono ?_
  rintro e w1 ⟨gd, rfl, hgd, hD, hb⟩
  have hD1 := hide hD
  have hb1 := hide hb
  have s1 := hb.size
  clear hD hb
  go_wp2_with fail
  refine (dnew_dsk 4 (by omega) (by omega) w1).mono ?_
  rintro e w2 ⟨gx, rfl, hgx, hX, hb⟩
  have hT2 := hide (show Two w.heap.size w2 gd gx (newDk 4) (newDk 4) from ⟨_, _, hD1.out.below hb, hX, fun y hy => ⟨hy.1, by have := hb.size; omega⟩, fun y hy => ⟨by omega, hy.2⟩, fun y h1 h2 => by omega⟩)
  have hb2 := hide (hb1.out.trans (hb.mono s1))
  clear hX hb hD1 hb1
  go_wp2_with fail
  refine (hT2.out.arm1 hb2.out.size (0) (by unfold I64; omega) kv keep (hk'.out.below hb2.out) hkl).mono ?_
  rintro e w3 ⟨rfl, hT, hb⟩
  have hrel0 := hide (show ARel w gd gx keep 0 (.int .i64 (0)) w3 from ⟨(newDk 4).arm (0) keep, newDk 4, 0, rfl, ainv0 _ _ (by omega), hT, Nat.le_refl _, hb2.out.trans hb⟩)
  clear hT hb hT2 hb2
  go_wp2_with fail
  go_loopw [11, 12] (fun lv i wr => ∃ k : Nat, k ≤ 40 ∧ i = .int .i64 k ∧ ARel w gd gx keep k lv wr) (fun _ i _ => 40 - (intOf i).toNat)
  case atStart => exact ⟨0, by omega, rfl, hrel0.out⟩
  case round =>
    obtain ⟨k, hkn, rfl, d, x, left, rfl, hI, hT, hw, hb⟩ := hrel
    have hIn := hide hI
    have hTn := hide hT
    have hwn := hide hw
    have hbn := hide hb
    have hbs := hb.size
    have hlo := hI.lo
    clear hI hT hw hb hrel0
    by_cases hlt : k < 40
    · obtain rfl : A = some ⟨b, off, none⟩ := hA'.out (by omega)
      have hltn : k < n := by omega
      have hA := h'.out.below hbn.out
      have hltI : (k : Int) < (n : Int) := by omega
      have hlt40 : (k : Int) < 40 := by omega
      have hblt : b < wr.heap.size := Nat.lt_of_lt_of_le (hA.lt (by omega)) hbs
      have c0 := hA.c0 k hltn
      have c1 := hA.c1 k hltn
      have c2 := hA.c2 k hltn
      have c3 := hA.c3 k hltn
      have c4 := hA.c4 k hltn
      clear hA
      obtain ⟨A4, n4, n4c, hkv⟩ : ∃ A m c, (G k).kv = .slice A m c := by
        obtain ⟨A, c, h, _⟩ := (h'.out.k k hltn).1
        exact ⟨A, _, c, h⟩
      rw [hkv] at c4
      clear hkv
      obtain ⟨a, ha⟩ : ∃ a, a = G k := ⟨_, rfl⟩
      rw [← ha] at c0 c1 c2 c3
      clear ha
      have hB1 : Below wr.heap.size wr (wr.alloc (.cells #[.int .i64 a.do_, .int .i64 a.at_, .int .i64 a.off, .int .u8 (a.fill.toNat : Int), .slice A4 n4 n4c] 51)) := (Below.refl _ _).alloc (Nat.le_refl _) _
      have hTa := hide (hTn.out.below hB1)
      have hba := hide (hbn.out.trans (hB1.mono hbs))
      have hnew := hide (heap_alloc_new wr (.cells #[.int .i64 a.do_, .int .i64 a.at_, .int .i64 a.off, .int .u8 (a.fill.toNat : Int), .slice A4 n4 n4c] 51))
      have hsa : wr.heap.size < (wr.alloc (.cells #[.int .i64 a.do_, .int .i64 a.at_, .int .i64 a.off, .int .u8 (a.fill.toNat : Int), .slice A4 n4 n4c] 51)).heap.size := by simp
      have hbw := hide hB1
      clear hB1
      have hka := hide (hk'.out.below hba.out)
      by_cases hdo : a.do_ = 4
      · rw [hdo] at c0 hTa hba hnew hsa hka
        have hsz := hide hba.out.size
        clear hTn hbw
        obtain ⟨hIz, hEq⟩ := hIn.out.flush
        have hfw := hide (flush_w d)
        by_cases hl0 : left = 0
        · rw [if_pos hl0] at hIz hEq
          have el : (left == 0) = true := by simp [hl0]
          have hl0' := hide hl0
          have hEq' := hide hEq
          have hI0 := hide hIz
          clear hl0 hEq hIz
          go_wp2_with fail
          generalize wr.alloc (.cells #[.int .i64 4, .int .i64 a.at_, .int .i64 a.off, .int .u8 (a.fill.toNat : Int), .slice A4 n4 n4c] 51) = wa at *
          refine (hTa.out.symm.crash1 hsz.out kv keep hka.out).mono ?_
          rintro e wb ⟨rfl, hT, hb⟩
          have hTb := hide hT
          have hbb := hide (hba.out.trans hb)
          clear hT hb hTa hba
          go_wp2_with fail
          refine (hTb.out.symm.flush1 hbb.out.size).mono ?_
          rintro e wy ⟨rfl, hT, hb⟩
          have hTy := hide hT
          have hby := hide (hbb.out.trans hb)
          clear hT hb hTb hbb
          go_wp2_with fail
          refine (hTy.out.symm.flush1 hby.out.size).mono ?_
          rintro e wz ⟨rfl, hT, hb⟩
          rw [← hEq'.out]
          have hTz := hide hT.symm
          have hbz := hide (hby.out.trans hb)
          have hwz := hide (show d.flush.1.waits.length ≤ k + 1 by have := hfw.out; have := hwn.out; omega)
          clear hT hb hTy hby hEq' hfw hIn hwn
          generalize d.flush.2 = E at *
          generalize d.flush.1 = dz at *
          generalize ((x.crash keep)).flush.1 = xz at *
          by_cases hE0 : E = 0
          · rw [if_pos hE0] at hI0
            have := hI0.out.lo
            have := hl0'.out
            omega
          · rw [if_neg hE0] at hI0
            have hIz := hide hI0.out
            have eE : (E == 0) = false := by simp [hE0]
            clear hE0 hI0 hl0'
            go_wp2_with fail
            have hq : Q wz wz.drew := Q.drew (Q.refl _)
            have hT5 := hide (hTz.out.below (hq.below _))
            have hb5 := hide (hbz.out.trans (hq.below _))
            have ho := hide (hIz.out.off)
            have hh := hide (hIz.out.has)
            clear hq hTz hbz
            refine region_plan [(true, 0), (true, 1), (true, 2), (true, 3), (true, 4), (true, 6), (false, 5), (false, 7), (true, 8), (true, 9), (true, 10), (true, 11), (true, 14), (false, 12), (true, 13), (false, 15), (true, 16), (true, 17), (true, 18)] (Later fun _ => False) (later_refl _) (later_trans _) (by kernel_rfl) (by kernel_rfl) (fun _ _ d _ _ h => by cases d <;> exact h) ?_
            repeat
              (first
                | (show wpPlan _ _ _ _ ((true, _) :: _) _ _
                   refine plan_skip rfl (by rfl) ?_
                   simp only [Act.put, List.setIfInBounds_toArray, List.set_cons_zero, List.set_cons_succ])
                | (show wpPlan _ _ _ _ ((false, _) :: _) _ _
                   refine plan_skip_eff (later_refl _) rfl (by rfl) ?_
                   simp only [Act.put, List.setIfInBounds_toArray, List.set_cons_zero, List.set_cons_succ])
                | (show wpPlan _ _ _ _ ((true, _) :: _) _ _
                   refine plan_take (v := ?_) rfl (by rfl) (fun w' hw' => ?_) ?_
                   rotate_left
                   focus
                     go_simp
                     try with_reducible rfl
                     done
                   simp only [Act.put, List.setIfInBounds_toArray, List.set_cons_zero, List.set_cons_succ]))
            refine plan_eff rfl (by rfl) (fun K hK => ?_)
            go_wp2_with fail
            refine hT5.out.on1.mono ?_
            rintro e w5 ⟨rfl, rfl⟩
            refine hK _ _ (later_refl _ _) ?_
            clear hK K
            try simp only [Act.put, List.setIfInBounds_toArray, List.set_cons_zero, List.set_cons_succ]
            repeat
              (first
                | (show wpPlan _ _ _ _ ((true, _) :: _) _ _
                   refine plan_skip rfl (by rfl) ?_
                   simp only [Act.put, List.setIfInBounds_toArray, List.set_cons_zero, List.set_cons_succ])
                | (show wpPlan _ _ _ _ ((false, _) :: _) _ _
                   refine plan_skip_eff (later_refl _) rfl (by rfl) ?_
                   simp only [Act.put, List.setIfInBounds_toArray, List.set_cons_zero, List.set_cons_succ])
                | (show wpPlan _ _ _ _ ((true, _) :: _) _ _
                   refine plan_take (v := ?_) rfl (by rfl) (fun w' hw' => ?_) ?_
                   rotate_left
                   focus
                     go_simp
                     try with_reducible rfl
                     done
                   simp only [Act.put, List.setIfInBounds_toArray, List.set_cons_zero, List.set_cons_succ]))
            refine plan_eff rfl (by rfl) (fun K hK => ?_)
            go_wp2_with fail
            refine hT5.out.symm.on1.mono ?_
            rintro e w5 ⟨rfl, rfl⟩
            rw [← ho.out]
            refine hK _ _ (later_refl _ _) ?_
            clear hK K
            try simp only [Act.put, List.setIfInBounds_toArray, List.set_cons_zero, List.set_cons_succ]
            repeat
              (first
                | (show wpPlan _ _ _ _ ((true, _) :: _) _ _
                   refine plan_skip rfl (by rfl) ?_
                   simp only [Act.put, List.setIfInBounds_toArray, List.set_cons_zero, List.set_cons_succ])
                | (show wpPlan _ _ _ _ ((false, _) :: _) _ _
                   refine plan_skip_eff (later_refl _) rfl (by rfl) ?_
                   simp only [Act.put, List.setIfInBounds_toArray, List.set_cons_zero, List.set_cons_succ])
                | (show wpPlan _ _ _ _ ((true, _) :: _) _ _
                   refine plan_take (v := ?_) rfl (by rfl) (fun w' hw' => ?_) ?_
                   rotate_left
                   focus
                     go_simp
                     try with_reducible rfl
                     done
                   simp only [Act.put, List.setIfInBounds_toArray, List.set_cons_zero, List.set_cons_succ]))
            refine plan_eff rfl (by rfl) (fun K hK => ?_)
            go_wp2_with fail
            refine hT5.out.image1.mono ?_
            rintro e w6 ⟨u, rfl, hu, hb⟩
            refine hK _ _ (below_later hb (Nat.le_refl _)) ?_
            clear hK K
            have hT6 := hide (hT5.out.below hb)
            have hb6 := hide (hb5.out.trans (hb.mono hb5.out.size))
            have hcu : ∀ w', Later (fun _ => False) w6 w' → (convert 40 9 u).run Try.prog w' = .ok (.string ⟨dz.has.toArray⟩) w' := fun w' hl => str_conv w' u _ (hu.bs.later0 hl)
            clear hu hb hT5 hb5
            try simp only [Act.put, List.setIfInBounds_toArray, List.set_cons_zero, List.set_cons_succ]
            repeat
              (first
                | (show wpPlan _ _ _ _ ((true, _) :: _) _ _
                   refine plan_skip rfl (by rfl) ?_
                   simp only [Act.put, List.setIfInBounds_toArray, List.set_cons_zero, List.set_cons_succ])
                | (show wpPlan _ _ _ _ ((false, _) :: _) _ _
                   refine plan_skip_eff (later_refl _) rfl (by rfl) ?_
                   simp only [Act.put, List.setIfInBounds_toArray, List.set_cons_zero, List.set_cons_succ])
                | (show wpPlan _ _ _ _ ((true, _) :: _) _ _
                   refine plan_take (v := ?_) rfl (by rfl) (fun w' hw' => ?_) ?_
                   rotate_left
                   focus
                     go_simp
                     try with_reducible rfl
                     done
                   simp only [Act.put, List.setIfInBounds_toArray, List.set_cons_zero, List.set_cons_succ]))
            clear hcu
            refine plan_eff rfl (by rfl) (fun K hK => ?_)
            go_wp2_with fail
            refine hT6.out.symm.image1.mono ?_
            rintro e w7 ⟨v, rfl, hv, hb⟩
            rw [← hh.out] at hv
            refine hK _ _ (below_later hb (Nat.le_refl _)) ?_
            clear hK K
            have hT7 := hide (hT6.out.below hb)
            have hb7 := hide (hb6.out.trans (hb.mono hb6.out.size))
            have hcv : ∀ w', Later (fun _ => False) w7 w' → (convert 40 9 v).run Try.prog w' = .ok (.string ⟨dz.has.toArray⟩) w' := fun w' hl => str_conv w' v _ (hv.bs.later0 hl)
            clear hv hb hT6 hb6
            try simp only [Act.put, List.setIfInBounds_toArray, List.set_cons_zero, List.set_cons_succ]
            repeat
              (first
                | (show wpPlan _ _ _ _ ((true, _) :: _) _ _
                   refine plan_skip rfl (by rfl) ?_
                   simp only [Act.put, List.setIfInBounds_toArray, List.set_cons_zero, List.set_cons_succ])
                | (show wpPlan _ _ _ _ ((false, _) :: _) _ _
                   refine plan_skip_eff (later_refl _) rfl (by rfl) ?_
                   simp only [Act.put, List.setIfInBounds_toArray, List.set_cons_zero, List.set_cons_succ])
                | (show wpPlan _ _ _ _ ((true, _) :: _) _ _
                   refine plan_take (v := ?_) rfl (by rfl) (fun w' hw' => ?_) ?_
                   rotate_left
                   focus
                     go_simp
                     try with_reducible rfl
                     done
                   simp only [Act.put, List.setIfInBounds_toArray, List.set_cons_zero, List.set_cons_succ]))
            clear hcv
            refine plan_nil ?_
            go_wp2_with fail
            go_roundw
            case rel => exact ⟨k + 1, by omega, by go_num, dz, xz, _, rfl, hIz.out, hT7.out, by have := hwz.out; omega, hb7.out⟩
            case measure => simp [intOf]; omega
        · rw [if_neg hl0] at hIz hEq
          have el : (left == 0) = false := by simp [hl0]
          have hEq' := hide hEq
          have hI0 := hide hIz
          have hTb := hide hTa.out.symm
          have hbb := hide hba.out
          clear hl0 hEq hIz hTa hba
          go_wp2_with fail
          generalize wr.alloc (.cells #[.int .i64 4, .int .i64 a.at_, .int .i64 a.off, .int .u8 (a.fill.toNat : Int), .slice A4 n4 n4c] 51) = wa at *
          refine (hTb.out.symm.flush1 hbb.out.size).mono ?_
          rintro e wy ⟨rfl, hT, hb⟩
          have hTy := hide hT
          have hby := hide (hbb.out.trans hb)
          clear hT hb hTb hbb
          go_wp2_with fail
          refine (hTy.out.symm.flush1 hby.out.size).mono ?_
          rintro e wz ⟨rfl, hT, hb⟩
          rw [← hEq'.out]
          have hTz := hide hT.symm
          have hbz := hide (hby.out.trans hb)
          have hwz := hide (show d.flush.1.waits.length ≤ k + 1 by have := hfw.out; have := hwn.out; omega)
          clear hT hb hTy hby hEq' hfw hIn hwn
          generalize d.flush.2 = E at *
          generalize d.flush.1 = dz at *
          generalize (x).flush.1 = xz at *
          by_cases hE0 : E = 0
          · rw [if_pos hE0] at hI0
            have hIz := hide hI0.out
            have eE : (E == 0) = true := by simp [hE0]
            clear hE0 hI0
            go_wp2_with fail
            have hq : Q wz wz.drew := Q.drew (Q.refl _)
            have hT5 := hide (hTz.out.below (hq.below _))
            have hb5 := hide (hbz.out.trans (hq.below _))
            have ho := hide (hIz.out.off)
            have hh := hide (hIz.out.has)
            clear hq hTz hbz
            refine region_plan [(true, 0), (true, 1), (true, 2), (true, 3), (true, 4), (true, 6), (false, 5), (false, 7), (true, 8), (true, 9), (true, 10), (true, 11), (true, 14), (false, 12), (true, 13), (false, 15), (true, 16), (true, 17), (true, 18)] (Later fun _ => False) (later_refl _) (later_trans _) (by kernel_rfl) (by kernel_rfl) (fun _ _ d _ _ h => by cases d <;> exact h) ?_
            repeat
              (first
                | (show wpPlan _ _ _ _ ((true, _) :: _) _ _
                   refine plan_skip rfl (by rfl) ?_
                   simp only [Act.put, List.setIfInBounds_toArray, List.set_cons_zero, List.set_cons_succ])
                | (show wpPlan _ _ _ _ ((false, _) :: _) _ _
                   refine plan_skip_eff (later_refl _) rfl (by rfl) ?_
                   simp only [Act.put, List.setIfInBounds_toArray, List.set_cons_zero, List.set_cons_succ])
                | (show wpPlan _ _ _ _ ((true, _) :: _) _ _
                   refine plan_take (v := ?_) rfl (by rfl) (fun w' hw' => ?_) ?_
                   rotate_left
                   focus
                     go_simp
                     try with_reducible rfl
                     done
                   simp only [Act.put, List.setIfInBounds_toArray, List.set_cons_zero, List.set_cons_succ]))
            refine plan_eff rfl (by rfl) (fun K hK => ?_)
            go_wp2_with fail
            refine hT5.out.on1.mono ?_
            rintro e w5 ⟨rfl, rfl⟩
            refine hK _ _ (later_refl _ _) ?_
            clear hK K
            try simp only [Act.put, List.setIfInBounds_toArray, List.set_cons_zero, List.set_cons_succ]
            repeat
              (first
                | (show wpPlan _ _ _ _ ((true, _) :: _) _ _
                   refine plan_skip rfl (by rfl) ?_
                   simp only [Act.put, List.setIfInBounds_toArray, List.set_cons_zero, List.set_cons_succ])
                | (show wpPlan _ _ _ _ ((false, _) :: _) _ _
                   refine plan_skip_eff (later_refl _) rfl (by rfl) ?_
                   simp only [Act.put, List.setIfInBounds_toArray, List.set_cons_zero, List.set_cons_succ])
                | (show wpPlan _ _ _ _ ((true, _) :: _) _ _
                   refine plan_take (v := ?_) rfl (by rfl) (fun w' hw' => ?_) ?_
                   rotate_left
                   focus
                     go_simp
                     try with_reducible rfl
                     done
                   simp only [Act.put, List.setIfInBounds_toArray, List.set_cons_zero, List.set_cons_succ]))
            refine plan_eff rfl (by rfl) (fun K hK => ?_)
            go_wp2_with fail
            refine hT5.out.symm.on1.mono ?_
            rintro e w5 ⟨rfl, rfl⟩
            rw [← ho.out]
            refine hK _ _ (later_refl _ _) ?_
            clear hK K
            try simp only [Act.put, List.setIfInBounds_toArray, List.set_cons_zero, List.set_cons_succ]
            repeat
              (first
                | (show wpPlan _ _ _ _ ((true, _) :: _) _ _
                   refine plan_skip rfl (by rfl) ?_
                   simp only [Act.put, List.setIfInBounds_toArray, List.set_cons_zero, List.set_cons_succ])
                | (show wpPlan _ _ _ _ ((false, _) :: _) _ _
                   refine plan_skip_eff (later_refl _) rfl (by rfl) ?_
                   simp only [Act.put, List.setIfInBounds_toArray, List.set_cons_zero, List.set_cons_succ])
                | (show wpPlan _ _ _ _ ((true, _) :: _) _ _
                   refine plan_take (v := ?_) rfl (by rfl) (fun w' hw' => ?_) ?_
                   rotate_left
                   focus
                     go_simp
                     try with_reducible rfl
                     done
                   simp only [Act.put, List.setIfInBounds_toArray, List.set_cons_zero, List.set_cons_succ]))
            refine plan_eff rfl (by rfl) (fun K hK => ?_)
            go_wp2_with fail
            refine hT5.out.image1.mono ?_
            rintro e w6 ⟨u, rfl, hu, hb⟩
            refine hK _ _ (below_later hb (Nat.le_refl _)) ?_
            clear hK K
            have hT6 := hide (hT5.out.below hb)
            have hb6 := hide (hb5.out.trans (hb.mono hb5.out.size))
            have hcu : ∀ w', Later (fun _ => False) w6 w' → (convert 40 9 u).run Try.prog w' = .ok (.string ⟨dz.has.toArray⟩) w' := fun w' hl => str_conv w' u _ (hu.bs.later0 hl)
            clear hu hb hT5 hb5
            try simp only [Act.put, List.setIfInBounds_toArray, List.set_cons_zero, List.set_cons_succ]
            repeat
              (first
                | (show wpPlan _ _ _ _ ((true, _) :: _) _ _
                   refine plan_skip rfl (by rfl) ?_
                   simp only [Act.put, List.setIfInBounds_toArray, List.set_cons_zero, List.set_cons_succ])
                | (show wpPlan _ _ _ _ ((false, _) :: _) _ _
                   refine plan_skip_eff (later_refl _) rfl (by rfl) ?_
                   simp only [Act.put, List.setIfInBounds_toArray, List.set_cons_zero, List.set_cons_succ])
                | (show wpPlan _ _ _ _ ((true, _) :: _) _ _
                   refine plan_take (v := ?_) rfl (by rfl) (fun w' hw' => ?_) ?_
                   rotate_left
                   focus
                     go_simp
                     try with_reducible rfl
                     done
                   simp only [Act.put, List.setIfInBounds_toArray, List.set_cons_zero, List.set_cons_succ]))
            clear hcu
            refine plan_eff rfl (by rfl) (fun K hK => ?_)
            go_wp2_with fail
            refine hT6.out.symm.image1.mono ?_
            rintro e w7 ⟨v, rfl, hv, hb⟩
            rw [← hh.out] at hv
            refine hK _ _ (below_later hb (Nat.le_refl _)) ?_
            clear hK K
            have hT7 := hide (hT6.out.below hb)
            have hb7 := hide (hb6.out.trans (hb.mono hb6.out.size))
            have hcv : ∀ w', Later (fun _ => False) w7 w' → (convert 40 9 v).run Try.prog w' = .ok (.string ⟨dz.has.toArray⟩) w' := fun w' hl => str_conv w' v _ (hv.bs.later0 hl)
            clear hv hb hT6 hb6
            try simp only [Act.put, List.setIfInBounds_toArray, List.set_cons_zero, List.set_cons_succ]
            repeat
              (first
                | (show wpPlan _ _ _ _ ((true, _) :: _) _ _
                   refine plan_skip rfl (by rfl) ?_
                   simp only [Act.put, List.setIfInBounds_toArray, List.set_cons_zero, List.set_cons_succ])
                | (show wpPlan _ _ _ _ ((false, _) :: _) _ _
                   refine plan_skip_eff (later_refl _) rfl (by rfl) ?_
                   simp only [Act.put, List.setIfInBounds_toArray, List.set_cons_zero, List.set_cons_succ])
                | (show wpPlan _ _ _ _ ((true, _) :: _) _ _
                   refine plan_take (v := ?_) rfl (by rfl) (fun w' hw' => ?_) ?_
                   rotate_left
                   focus
                     go_simp
                     try with_reducible rfl
                     done
                   simp only [Act.put, List.setIfInBounds_toArray, List.set_cons_zero, List.set_cons_succ]))
            clear hcv
            refine plan_nil ?_
            go_wp2_with fail
            go_roundw
            case rel => exact ⟨k + 1, by omega, by go_num, dz, xz, _, rfl, hIz.out, hT7.out, by have := hwz.out; omega, hb7.out⟩
            case measure => simp [intOf]; omega
          · rw [if_neg hE0] at hI0
            have hIz := hide hI0.out
            have eE : (E == 0) = false := by simp [hE0]
            clear hE0 hI0
            go_wp2_with fail
            have hq : Q wz wz.drew := Q.drew (Q.refl _)
            have hT5 := hide (hTz.out.below (hq.below _))
            have hb5 := hide (hbz.out.trans (hq.below _))
            have ho := hide (hIz.out.off)
            have hh := hide (hIz.out.has)
            clear hq hTz hbz
            refine region_plan [(true, 0), (true, 1), (true, 2), (true, 3), (true, 4), (true, 6), (false, 5), (false, 7), (true, 8), (true, 9), (true, 10), (true, 11), (true, 14), (false, 12), (true, 13), (false, 15), (true, 16), (true, 17), (true, 18)] (Later fun _ => False) (later_refl _) (later_trans _) (by kernel_rfl) (by kernel_rfl) (fun _ _ d _ _ h => by cases d <;> exact h) ?_
            repeat
              (first
                | (show wpPlan _ _ _ _ ((true, _) :: _) _ _
                   refine plan_skip rfl (by rfl) ?_
                   simp only [Act.put, List.setIfInBounds_toArray, List.set_cons_zero, List.set_cons_succ])
                | (show wpPlan _ _ _ _ ((false, _) :: _) _ _
                   refine plan_skip_eff (later_refl _) rfl (by rfl) ?_
                   simp only [Act.put, List.setIfInBounds_toArray, List.set_cons_zero, List.set_cons_succ])
                | (show wpPlan _ _ _ _ ((true, _) :: _) _ _
                   refine plan_take (v := ?_) rfl (by rfl) (fun w' hw' => ?_) ?_
                   rotate_left
                   focus
                     go_simp
                     try with_reducible rfl
                     done
                   simp only [Act.put, List.setIfInBounds_toArray, List.set_cons_zero, List.set_cons_succ]))
            refine plan_eff rfl (by rfl) (fun K hK => ?_)
            go_wp2_with fail
            refine hT5.out.on1.mono ?_
            rintro e w5 ⟨rfl, rfl⟩
            refine hK _ _ (later_refl _ _) ?_
            clear hK K
            try simp only [Act.put, List.setIfInBounds_toArray, List.set_cons_zero, List.set_cons_succ]
            repeat
              (first
                | (show wpPlan _ _ _ _ ((true, _) :: _) _ _
                   refine plan_skip rfl (by rfl) ?_
                   simp only [Act.put, List.setIfInBounds_toArray, List.set_cons_zero, List.set_cons_succ])
                | (show wpPlan _ _ _ _ ((false, _) :: _) _ _
                   refine plan_skip_eff (later_refl _) rfl (by rfl) ?_
                   simp only [Act.put, List.setIfInBounds_toArray, List.set_cons_zero, List.set_cons_succ])
                | (show wpPlan _ _ _ _ ((true, _) :: _) _ _
                   refine plan_take (v := ?_) rfl (by rfl) (fun w' hw' => ?_) ?_
                   rotate_left
                   focus
                     go_simp
                     try with_reducible rfl
                     done
                   simp only [Act.put, List.setIfInBounds_toArray, List.set_cons_zero, List.set_cons_succ]))
            refine plan_eff rfl (by rfl) (fun K hK => ?_)
            go_wp2_with fail
            refine hT5.out.symm.on1.mono ?_
            rintro e w5 ⟨rfl, rfl⟩
            rw [← ho.out]
            refine hK _ _ (later_refl _ _) ?_
            clear hK K
            try simp only [Act.put, List.setIfInBounds_toArray, List.set_cons_zero, List.set_cons_succ]
            repeat
              (first
                | (show wpPlan _ _ _ _ ((true, _) :: _) _ _
                   refine plan_skip rfl (by rfl) ?_
                   simp only [Act.put, List.setIfInBounds_toArray, List.set_cons_zero, List.set_cons_succ])
                | (show wpPlan _ _ _ _ ((false, _) :: _) _ _
                   refine plan_skip_eff (later_refl _) rfl (by rfl) ?_
                   simp only [Act.put, List.setIfInBounds_toArray, List.set_cons_zero, List.set_cons_succ])
                | (show wpPlan _ _ _ _ ((true, _) :: _) _ _
                   refine plan_take (v := ?_) rfl (by rfl) (fun w' hw' => ?_) ?_
                   rotate_left
                   focus
                     go_simp
                     try with_reducible rfl
                     done
                   simp only [Act.put, List.setIfInBounds_toArray, List.set_cons_zero, List.set_cons_succ]))
            refine plan_eff rfl (by rfl) (fun K hK => ?_)
            go_wp2_with fail
            refine hT5.out.image1.mono ?_
            rintro e w6 ⟨u, rfl, hu, hb⟩
            refine hK _ _ (below_later hb (Nat.le_refl _)) ?_
            clear hK K
            have hT6 := hide (hT5.out.below hb)
            have hb6 := hide (hb5.out.trans (hb.mono hb5.out.size))
            have hcu : ∀ w', Later (fun _ => False) w6 w' → (convert 40 9 u).run Try.prog w' = .ok (.string ⟨dz.has.toArray⟩) w' := fun w' hl => str_conv w' u _ (hu.bs.later0 hl)
            clear hu hb hT5 hb5
            try simp only [Act.put, List.setIfInBounds_toArray, List.set_cons_zero, List.set_cons_succ]
            repeat
              (first
                | (show wpPlan _ _ _ _ ((true, _) :: _) _ _
                   refine plan_skip rfl (by rfl) ?_
                   simp only [Act.put, List.setIfInBounds_toArray, List.set_cons_zero, List.set_cons_succ])
                | (show wpPlan _ _ _ _ ((false, _) :: _) _ _
                   refine plan_skip_eff (later_refl _) rfl (by rfl) ?_
                   simp only [Act.put, List.setIfInBounds_toArray, List.set_cons_zero, List.set_cons_succ])
                | (show wpPlan _ _ _ _ ((true, _) :: _) _ _
                   refine plan_take (v := ?_) rfl (by rfl) (fun w' hw' => ?_) ?_
                   rotate_left
                   focus
                     go_simp
                     try with_reducible rfl
                     done
                   simp only [Act.put, List.setIfInBounds_toArray, List.set_cons_zero, List.set_cons_succ]))
            clear hcu
            refine plan_eff rfl (by rfl) (fun K hK => ?_)
            go_wp2_with fail
            refine hT6.out.symm.image1.mono ?_
            rintro e w7 ⟨v, rfl, hv, hb⟩
            rw [← hh.out] at hv
            refine hK _ _ (below_later hb (Nat.le_refl _)) ?_
            clear hK K
            have hT7 := hide (hT6.out.below hb)
            have hb7 := hide (hb6.out.trans (hb.mono hb6.out.size))
            have hcv : ∀ w', Later (fun _ => False) w7 w' → (convert 40 9 v).run Try.prog w' = .ok (.string ⟨dz.has.toArray⟩) w' := fun w' hl => str_conv w' v _ (hv.bs.later0 hl)
            clear hv hb hT6 hb6
            try simp only [Act.put, List.setIfInBounds_toArray, List.set_cons_zero, List.set_cons_succ]
            repeat
              (first
                | (show wpPlan _ _ _ _ ((true, _) :: _) _ _
                   refine plan_skip rfl (by rfl) ?_
                   simp only [Act.put, List.setIfInBounds_toArray, List.set_cons_zero, List.set_cons_succ])
                | (show wpPlan _ _ _ _ ((false, _) :: _) _ _
                   refine plan_skip_eff (later_refl _) rfl (by rfl) ?_
                   simp only [Act.put, List.setIfInBounds_toArray, List.set_cons_zero, List.set_cons_succ])
                | (show wpPlan _ _ _ _ ((true, _) :: _) _ _
                   refine plan_take (v := ?_) rfl (by rfl) (fun w' hw' => ?_) ?_
                   rotate_left
                   focus
                     go_simp
                     try with_reducible rfl
                     done
                   simp only [Act.put, List.setIfInBounds_toArray, List.set_cons_zero, List.set_cons_succ]))
            clear hcv
            refine plan_nil ?_
            go_wp2_with fail
            go_roundw
            case rel => exact ⟨k + 1, by omega, by go_num, dz, xz, _, rfl, hIz.out, hT7.out, by have := hwz.out; omega, hb7.out⟩
            case measure => simp [intOf]; omega
      · have ed : (a.do_ == 4) = false := by simp [hdo]
        obtain ⟨B1, B2, k1, k2, k3, k4, k5⟩ := hTn.out
        have hd0 := hide (k1.below hbw.out)
        have hx0 := hide (k2.below hbw.out)
        have k3' := hide k3
        have k4' := hide k4
        have k5' := hide k5
        have hI64 := hide ((h'.out.r0 k hltn).2.1)
        clear k1 k2 k3 k4 k5 hTa hTn hdo hbw
        have hIw := hide (fun b hb => hIn.out.write a.at_ b hb)
        have hfw := hide (fun b => write_w d a.at_ b)
        have hxw := hide (show x.waits.length ≤ k by rw [← hIn.out.wt]; exact hwn.out)
        have hxc := hide (crash_w x keep)
        clear hIn
        by_cases hcr : left = 0 ∧ 0 ≤ a.at_ ∧ a.at_ < 4
        · have hcr' := hide (if_pos (c := left = 0 ∧ 0 ≤ a.at_ ∧ a.at_ < 4) hcr : (if left = 0 ∧ 0 ≤ a.at_ ∧ a.at_ < 4 then x.crash keep else x) = x.crash keep)
          have el : (left == 0) = true := by simp [hcr.1]
          have ea1 : decide (0 ≤ a.at_) = true := decide_eq_true hcr.2.1
          have ea2 : decide (a.at_ < 4) = true := decide_eq_true hcr.2.2
          have hl0 := hide hcr.1
          clear hcr
          go_wp2_with fail
          generalize hwa : wr.alloc (.cells #[.int .i64 a.do_, .int .i64 a.at_, .int .i64 a.off, .int .u8 (a.fill.toNat : Int), .slice A4 n4 n4c] 51) = wa at *
          clear hwa
          refine (hx0.out.crash_ kv keep hka.out.1 (fun hl b hb e => by have := hka.out.2 hl b hb; have := (k4'.out b e).1; omega)).mono ?_
          rintro e wb ⟨rfl, hD, hT⟩
          have hx1 := hide hD
          have hd1 := hide (hd0.out.later hT.2 (fun y hy e => k5'.out y hy e))
          have hbb := hide (hba.out.trans (hT.below hba.out.size (fun y hy e => by have := (k4'.out y e).1; omega)))
          have hbox := hide (show ∀ w', Later (fun y => B1 y ∨ B2 y) wb w' → w'.cell? ⟨wr.heap.size, 1, none⟩ = some (.int .i64 a.at_) ∧ w'.cell? ⟨wr.heap.size, 3, none⟩ = some (.int .u8 (a.fill.toNat : Int)) from fun w' hl => by
            have hl2 := later_trans _ _ _ _ (later_mono hT.2 (fun _ e => Or.inr e) : Later (fun y => B1 y ∨ B2 y) wa wb) hl
            have hnb : ¬ (B1 wr.heap.size ∨ B2 wr.heap.size) := fun e => by rcases e with e | e; have := (k3'.out _ e).2; omega; have := (k4'.out _ e).2; omega
            exact ⟨(Later.cell hl2 hsa hnb).1.trans (cell_of_row _ _ 1 _ _ _ hnew.out), (Later.cell hl2 hsa hnb).1.trans (cell_of_row _ _ 3 _ _ _ hnew.out)⟩)
          have sb : wr.heap.size ≤ wb.heap.size := by have := hT.size; omega
          have hxw1 := hide (show (x.crash keep).waits.length ≤ k by have := hxc.out; have := hxw.out; omega)
          clear hD hT hd0 hx0 hba hnew hka hxw hxc
          go_wp2_with fail
          have hq : Q wb wb.drew := Q.drew (Q.refl _)
          have hLq : Later (fun y => B1 y ∨ B2 y) wb wb.drew := later_drew wb
          have f1 : ∀ w', Later (fun y => B1 y ∨ B2 y) wb.drew w' → w'.cell? ⟨wr.heap.size, 1, none⟩ = some (.int .i64 a.at_) := fun w' hl => (hbox.out w' (later_trans _ _ _ _ hLq hl)).1
          have f3 : ∀ w', Later (fun y => B1 y ∨ B2 y) wb.drew w' → w'.cell? ⟨wr.heap.size, 3, none⟩ = some (.int .u8 (a.fill.toNat : Int)) := fun w' hl => (hbox.out w' (later_trans _ _ _ _ hLq hl)).2
          have hd2 := hide (hd1.out.below (hq.below _))
          have hx2 := hide (hx1.out.below (hq.below _))
          have hb2 := hide (hbb.out.trans (hq.below _))
          have sb2 : wr.heap.size ≤ wb.drew.heap.size := sb
          have hlq := hide hLq
          clear hq hLq hd1 hx1 hbb hbox
          refine region_plan [(true, 0), (true, 1), (true, 2), (true, 3), (true, 4), (true, 7), (true, 8), (true, 9), (true, 10), (true, 11), (false, 5), (false, 6), (false, 12), (false, 13), (true, 14), (true, 15)] (Later fun y => B1 y ∨ B2 y) (later_refl _) (later_trans _) (by kernel_rfl) (by kernel_rfl) (fun _ _ d _ _ h => by cases d <;> exact h) ?_
          repeat
            (first
              | (show wpPlan _ _ _ _ ((true, _) :: _) _ _
                 refine plan_skip rfl (by rfl) ?_
                 simp only [Act.put, List.setIfInBounds_toArray, List.set_cons_zero, List.set_cons_succ])
              | (show wpPlan _ _ _ _ ((false, _) :: _) _ _
                 refine plan_skip_eff (later_refl _) rfl (by rfl) ?_
                 simp only [Act.put, List.setIfInBounds_toArray, List.set_cons_zero, List.set_cons_succ])
              | (show wpPlan _ _ _ _ ((true, _) :: _) _ _
                 refine plan_take (v := ?_) rfl (by rfl) (fun w' hw' => ?_) ?_
                 rotate_left
                 focus
                   go_simp
                   try with_reducible rfl
                   done
                 simp only [Act.put, List.setIfInBounds_toArray, List.set_cons_zero, List.set_cons_succ]))
          clear f1 f3
          refine plan_eff rfl (by rfl) (fun K hK => ?_)
          go_wp2_with fail
          refine (sector_any a.fill 0 wb.drew).mono ?_
          rintro e wc ⟨s1, rfl, hs1, hb⟩
          refine hK _ _ (later_false' (below_later hb (Nat.le_refl _))) ?_
          clear hK K
          rw [sec0] at hs1
          have hs1' := hide hs1
          have hd3 := hide (hd2.out.below hb)
          have hx3 := hide (hx2.out.below hb)
          have hb3 := hide (hb2.out.trans (hb.mono hb2.out.size))
          have sc := hb.size
          clear hs1 hb hd2 hx2 hb2
          try simp only [Act.put, List.setIfInBounds_toArray, List.set_cons_zero, List.set_cons_succ]
          repeat
            (first
              | (show wpPlan _ _ _ _ ((true, _) :: _) _ _
                 refine plan_skip rfl (by rfl) ?_
                 simp only [Act.put, List.setIfInBounds_toArray, List.set_cons_zero, List.set_cons_succ])
              | (show wpPlan _ _ _ _ ((false, _) :: _) _ _
                 refine plan_skip_eff (later_refl _) rfl (by rfl) ?_
                 simp only [Act.put, List.setIfInBounds_toArray, List.set_cons_zero, List.set_cons_succ])
              | (show wpPlan _ _ _ _ ((true, _) :: _) _ _
                 refine plan_take (v := ?_) rfl (by rfl) (fun w' hw' => ?_) ?_
                 rotate_left
                 focus
                   go_simp
                   try with_reducible rfl
                   done
                 simp only [Act.put, List.setIfInBounds_toArray, List.set_cons_zero, List.set_cons_succ]))
          refine plan_eff rfl (by rfl) (fun K hK => ?_)
          go_wp2_with fail
          refine (hd3.out.write_ a.at_ s1 _ (fun y hy e => by have := (hs1'.out.lt y hy).1; have := (k3'.out y e).2; omega) hs1'.out.bs (by have := hwn.out; omega)).mono ?_
          rintro e wd ⟨rfl, hD, hT⟩
          refine hK _ _ (later_mono hT.2 (fun _ e => .inl e)) ?_
          clear hK K
          have hd4 := hide hD
          have hx4 := hide (hx3.out.later hT.2 (fun y hy e => k5'.out y e hy))
          have hb4 := hide (hb3.out.trans (hT.below hb3.out.size (fun y hy e => by have := (k3'.out y e).1; omega)))
          have sd := hT.size
          clear hD hT hd3 hx3 hb3 hs1'
          try simp only [Act.put, List.setIfInBounds_toArray, List.set_cons_zero, List.set_cons_succ]
          repeat
            (first
              | (show wpPlan _ _ _ _ ((true, _) :: _) _ _
                 refine plan_skip rfl (by rfl) ?_
                 simp only [Act.put, List.setIfInBounds_toArray, List.set_cons_zero, List.set_cons_succ])
              | (show wpPlan _ _ _ _ ((false, _) :: _) _ _
                 refine plan_skip_eff (later_refl _) rfl (by rfl) ?_
                 simp only [Act.put, List.setIfInBounds_toArray, List.set_cons_zero, List.set_cons_succ])
              | (show wpPlan _ _ _ _ ((true, _) :: _) _ _
                 refine plan_take (v := ?_) rfl (by rfl) (fun w' hw' => ?_) ?_
                 rotate_left
                 focus
                   go_simp
                   try with_reducible rfl
                   done
                 simp only [Act.put, List.setIfInBounds_toArray, List.set_cons_zero, List.set_cons_succ]))
          refine plan_eff rfl (by rfl) (fun K hK => ?_)
          go_wp2_with fail
          refine (sector_any a.fill 0 wd).mono ?_
          rintro e we ⟨s2, rfl, hs2, hb⟩
          refine hK _ _ (later_false' (below_later hb (Nat.le_refl _))) ?_
          clear hK K
          rw [sec0] at hs2
          have hs2' := hide hs2
          have hd5 := hide (hd4.out.below hb)
          have hx5 := hide (hx4.out.below hb)
          have hb5 := hide (hb4.out.trans (hb.mono hb4.out.size))
          have se := hb.size
          clear hs2 hb hd4 hx4 hb4
          try simp only [Act.put, List.setIfInBounds_toArray, List.set_cons_zero, List.set_cons_succ]
          repeat
            (first
              | (show wpPlan _ _ _ _ ((true, _) :: _) _ _
                 refine plan_skip rfl (by rfl) ?_
                 simp only [Act.put, List.setIfInBounds_toArray, List.set_cons_zero, List.set_cons_succ])
              | (show wpPlan _ _ _ _ ((false, _) :: _) _ _
                 refine plan_skip_eff (later_refl _) rfl (by rfl) ?_
                 simp only [Act.put, List.setIfInBounds_toArray, List.set_cons_zero, List.set_cons_succ])
              | (show wpPlan _ _ _ _ ((true, _) :: _) _ _
                 refine plan_take (v := ?_) rfl (by rfl) (fun w' hw' => ?_) ?_
                 rotate_left
                 focus
                   go_simp
                   try with_reducible rfl
                   done
                 simp only [Act.put, List.setIfInBounds_toArray, List.set_cons_zero, List.set_cons_succ]))
          refine plan_eff rfl (by rfl) (fun K hK => ?_)
          go_wp2_with fail
          refine (hx5.out.write_ a.at_ s2 _ (fun y hy e => by have := (hs2'.out.lt y hy).1; have := (k4'.out y e).2; omega) hs2'.out.bs (by have := hxw1.out; omega)).mono ?_
          rintro e wz ⟨rfl, hD, hT⟩
          refine hK _ _ (later_mono hT.2 (fun _ e => .inr e)) ?_
          clear hK K
          have sz := hT.size
          have hTz := hide (show Two w.heap.size wz gd gx _ _ from ⟨_, _, hd5.out.later hT.2 (fun y hy e => by rcases hy with hy | hy; exact k5'.out y hy e; have := (k4'.out y e).2; omega), hD,
            fun y hy => by
              rcases hy with hy | hy
              · exact ⟨(k3'.out y hy).1, by have := (k3'.out y hy).2; omega⟩
              · exact ⟨by omega, by omega⟩,
            fun y hy => by
              rcases hy with hy | hy
              · exact ⟨(k4'.out y hy).1, by have := (k4'.out y hy).2; omega⟩
              · exact ⟨by omega, by omega⟩,
            fun y h1 h2 => by
              rcases h1 with h1 | h1 <;> rcases h2 with h2 | h2
              · exact k5'.out y h1 h2
              · have := (k3'.out y h1).2; omega
              · have := (k4'.out y h2).2; omega
              · omega⟩)
          have hbz := hide (hb5.out.trans (hT.below hb5.out.size (fun y hy e => by have := (k4'.out y e).1; omega)))
          clear hD hT hd5 hx5 hb5 hs2' k3' k4' k5'
          obtain ⟨hI0, hEq⟩ := hIw.out (List.replicate 64 a.fill) (by simp)
          rw [hcr'.out] at hI0 hEq
          rw [← hEq]
          have hwz := hide (show (d.write a.at_ (List.replicate 64 a.fill)).1.waits.length ≤ k + 1 by have := hfw.out (List.replicate 64 a.fill); have := hwn.out; omega)
          clear hIw hfw hEq hwn hxw1
          generalize (d.write a.at_ (List.replicate 64 a.fill)).2 = E at *
          generalize (d.write a.at_ (List.replicate 64 a.fill)).1 = dz at *
          generalize ((x.crash keep).write a.at_ (List.replicate 64 a.fill)).1 = xz at *
          have hI0 := hide hI0
          try simp only [Act.put, List.setIfInBounds_toArray, List.set_cons_zero, List.set_cons_succ]
          repeat
            (first
              | (show wpPlan _ _ _ _ ((true, _) :: _) _ _
                 refine plan_skip rfl (by rfl) ?_
                 simp only [Act.put, List.setIfInBounds_toArray, List.set_cons_zero, List.set_cons_succ])
              | (show wpPlan _ _ _ _ ((false, _) :: _) _ _
                 refine plan_skip_eff (later_refl _) rfl (by rfl) ?_
                 simp only [Act.put, List.setIfInBounds_toArray, List.set_cons_zero, List.set_cons_succ])
              | (show wpPlan _ _ _ _ ((true, _) :: _) _ _
                 refine plan_take (v := ?_) rfl (by rfl) (fun w' hw' => ?_) ?_
                 rotate_left
                 focus
                   go_simp
                   try with_reducible rfl
                   done
                 simp only [Act.put, List.setIfInBounds_toArray, List.set_cons_zero, List.set_cons_succ]))
          refine plan_nil ?_
          by_cases hE0 : E = 0
          · rw [if_pos hE0] at hI0
            have := hI0.out.lo
            have := hl0.out
            omega
          · rw [if_neg hE0] at hI0
            have hIz := hide hI0.out
            have eE : (E == 0) = false := by simp [hE0]
            clear hE0 hI0 hl0
            go_wp2_with fail
            have hq : Q wz wz.drew := Q.drew (Q.refl _)
            have hT5 := hide (hTz.out.below (hq.below _))
            have hb5 := hide (hbz.out.trans (hq.below _))
            have ho := hide (hIz.out.off)
            have hh := hide (hIz.out.has)
            clear hq hTz hbz
            refine region_plan [(true, 0), (true, 1), (true, 2), (true, 3), (true, 4), (true, 6), (false, 5), (false, 7), (true, 8), (true, 9), (true, 10), (true, 11), (true, 14), (false, 12), (true, 13), (false, 15), (true, 16), (true, 17), (true, 18)] (Later fun _ => False) (later_refl _) (later_trans _) (by kernel_rfl) (by kernel_rfl) (fun _ _ d _ _ h => by cases d <;> exact h) ?_
            repeat
              (first
                | (show wpPlan _ _ _ _ ((true, _) :: _) _ _
                   refine plan_skip rfl (by rfl) ?_
                   simp only [Act.put, List.setIfInBounds_toArray, List.set_cons_zero, List.set_cons_succ])
                | (show wpPlan _ _ _ _ ((false, _) :: _) _ _
                   refine plan_skip_eff (later_refl _) rfl (by rfl) ?_
                   simp only [Act.put, List.setIfInBounds_toArray, List.set_cons_zero, List.set_cons_succ])
                | (show wpPlan _ _ _ _ ((true, _) :: _) _ _
                   refine plan_take (v := ?_) rfl (by rfl) (fun w' hw' => ?_) ?_
                   rotate_left
                   focus
                     go_simp
                     try with_reducible rfl
                     done
                   simp only [Act.put, List.setIfInBounds_toArray, List.set_cons_zero, List.set_cons_succ]))
            refine plan_eff rfl (by rfl) (fun K hK => ?_)
            go_wp2_with fail
            refine hT5.out.on1.mono ?_
            rintro e w5 ⟨rfl, rfl⟩
            refine hK _ _ (later_refl _ _) ?_
            clear hK K
            try simp only [Act.put, List.setIfInBounds_toArray, List.set_cons_zero, List.set_cons_succ]
            repeat
              (first
                | (show wpPlan _ _ _ _ ((true, _) :: _) _ _
                   refine plan_skip rfl (by rfl) ?_
                   simp only [Act.put, List.setIfInBounds_toArray, List.set_cons_zero, List.set_cons_succ])
                | (show wpPlan _ _ _ _ ((false, _) :: _) _ _
                   refine plan_skip_eff (later_refl _) rfl (by rfl) ?_
                   simp only [Act.put, List.setIfInBounds_toArray, List.set_cons_zero, List.set_cons_succ])
                | (show wpPlan _ _ _ _ ((true, _) :: _) _ _
                   refine plan_take (v := ?_) rfl (by rfl) (fun w' hw' => ?_) ?_
                   rotate_left
                   focus
                     go_simp
                     try with_reducible rfl
                     done
                   simp only [Act.put, List.setIfInBounds_toArray, List.set_cons_zero, List.set_cons_succ]))
            refine plan_eff rfl (by rfl) (fun K hK => ?_)
            go_wp2_with fail
            refine hT5.out.symm.on1.mono ?_
            rintro e w5 ⟨rfl, rfl⟩
            rw [← ho.out]
            refine hK _ _ (later_refl _ _) ?_
            clear hK K
            try simp only [Act.put, List.setIfInBounds_toArray, List.set_cons_zero, List.set_cons_succ]
            repeat
              (first
                | (show wpPlan _ _ _ _ ((true, _) :: _) _ _
                   refine plan_skip rfl (by rfl) ?_
                   simp only [Act.put, List.setIfInBounds_toArray, List.set_cons_zero, List.set_cons_succ])
                | (show wpPlan _ _ _ _ ((false, _) :: _) _ _
                   refine plan_skip_eff (later_refl _) rfl (by rfl) ?_
                   simp only [Act.put, List.setIfInBounds_toArray, List.set_cons_zero, List.set_cons_succ])
                | (show wpPlan _ _ _ _ ((true, _) :: _) _ _
                   refine plan_take (v := ?_) rfl (by rfl) (fun w' hw' => ?_) ?_
                   rotate_left
                   focus
                     go_simp
                     try with_reducible rfl
                     done
                   simp only [Act.put, List.setIfInBounds_toArray, List.set_cons_zero, List.set_cons_succ]))
            refine plan_eff rfl (by rfl) (fun K hK => ?_)
            go_wp2_with fail
            refine hT5.out.image1.mono ?_
            rintro e w6 ⟨u, rfl, hu, hb⟩
            refine hK _ _ (below_later hb (Nat.le_refl _)) ?_
            clear hK K
            have hT6 := hide (hT5.out.below hb)
            have hb6 := hide (hb5.out.trans (hb.mono hb5.out.size))
            have hcu : ∀ w', Later (fun _ => False) w6 w' → (convert 40 9 u).run Try.prog w' = .ok (.string ⟨dz.has.toArray⟩) w' := fun w' hl => str_conv w' u _ (hu.bs.later0 hl)
            clear hu hb hT5 hb5
            try simp only [Act.put, List.setIfInBounds_toArray, List.set_cons_zero, List.set_cons_succ]
            repeat
              (first
                | (show wpPlan _ _ _ _ ((true, _) :: _) _ _
                   refine plan_skip rfl (by rfl) ?_
                   simp only [Act.put, List.setIfInBounds_toArray, List.set_cons_zero, List.set_cons_succ])
                | (show wpPlan _ _ _ _ ((false, _) :: _) _ _
                   refine plan_skip_eff (later_refl _) rfl (by rfl) ?_
                   simp only [Act.put, List.setIfInBounds_toArray, List.set_cons_zero, List.set_cons_succ])
                | (show wpPlan _ _ _ _ ((true, _) :: _) _ _
                   refine plan_take (v := ?_) rfl (by rfl) (fun w' hw' => ?_) ?_
                   rotate_left
                   focus
                     go_simp
                     try with_reducible rfl
                     done
                   simp only [Act.put, List.setIfInBounds_toArray, List.set_cons_zero, List.set_cons_succ]))
            clear hcu
            refine plan_eff rfl (by rfl) (fun K hK => ?_)
            go_wp2_with fail
            refine hT6.out.symm.image1.mono ?_
            rintro e w7 ⟨v, rfl, hv, hb⟩
            rw [← hh.out] at hv
            refine hK _ _ (below_later hb (Nat.le_refl _)) ?_
            clear hK K
            have hT7 := hide (hT6.out.below hb)
            have hb7 := hide (hb6.out.trans (hb.mono hb6.out.size))
            have hcv : ∀ w', Later (fun _ => False) w7 w' → (convert 40 9 v).run Try.prog w' = .ok (.string ⟨dz.has.toArray⟩) w' := fun w' hl => str_conv w' v _ (hv.bs.later0 hl)
            clear hv hb hT6 hb6
            try simp only [Act.put, List.setIfInBounds_toArray, List.set_cons_zero, List.set_cons_succ]
            repeat
              (first
                | (show wpPlan _ _ _ _ ((true, _) :: _) _ _
                   refine plan_skip rfl (by rfl) ?_
                   simp only [Act.put, List.setIfInBounds_toArray, List.set_cons_zero, List.set_cons_succ])
                | (show wpPlan _ _ _ _ ((false, _) :: _) _ _
                   refine plan_skip_eff (later_refl _) rfl (by rfl) ?_
                   simp only [Act.put, List.setIfInBounds_toArray, List.set_cons_zero, List.set_cons_succ])
                | (show wpPlan _ _ _ _ ((true, _) :: _) _ _
                   refine plan_take (v := ?_) rfl (by rfl) (fun w' hw' => ?_) ?_
                   rotate_left
                   focus
                     go_simp
                     try with_reducible rfl
                     done
                   simp only [Act.put, List.setIfInBounds_toArray, List.set_cons_zero, List.set_cons_succ]))
            clear hcv
            refine plan_nil ?_
            go_wp2_with fail
            go_roundw
            case rel => exact ⟨k + 1, by omega, by go_num, dz, xz, _, rfl, hIz.out, hT7.out, by have := hwz.out; omega, hb7.out⟩
            case measure => simp [intOf]; omega
        · have hcr' := hide (if_neg (c := left = 0 ∧ 0 ≤ a.at_ ∧ a.at_ < 4) hcr : (if left = 0 ∧ 0 ≤ a.at_ ∧ a.at_ < 4 then x.crash keep else x) = x)
          have hcs : left ≠ 0 ∨ (left = 0 ∧ ¬ 0 ≤ a.at_) ∨ (left = 0 ∧ 0 ≤ a.at_ ∧ ¬ a.at_ < 4) := by omega
          clear hcr
          rcases hcs with hl0 | ⟨hl0, h1⟩ | ⟨hl0, h1, h2⟩
          · have el : (left == 0) = false := by simp [hl0]
            clear hl0
            go_wp2_with fail
            generalize hwa : wr.alloc (.cells #[.int .i64 a.do_, .int .i64 a.at_, .int .i64 a.off, .int .u8 (a.fill.toNat : Int), .slice A4 n4 n4c] 51) = wb at *
            clear hwa
            have hx1 := hide hx0.out
            have hd1 := hide hd0.out
            have hbb := hide hba.out
            have hbox := hide (show ∀ w', Later (fun y => B1 y ∨ B2 y) wb w' → w'.cell? ⟨wr.heap.size, 1, none⟩ = some (.int .i64 a.at_) ∧ w'.cell? ⟨wr.heap.size, 3, none⟩ = some (.int .u8 (a.fill.toNat : Int)) from fun w' hl => by
              have hnb : ¬ (B1 wr.heap.size ∨ B2 wr.heap.size) := fun e => by rcases e with e | e; have := (k3'.out _ e).2; omega; have := (k4'.out _ e).2; omega
              exact ⟨(Later.cell hl hsa hnb).1.trans (cell_of_row _ _ 1 _ _ _ hnew.out), (Later.cell hl hsa hnb).1.trans (cell_of_row _ _ 3 _ _ _ hnew.out)⟩)
            have sb : wr.heap.size ≤ wb.heap.size := by omega
            have hxw1 := hide hxw.out
            clear hd0 hx0 hba hnew hka hxw hxc
            have hq : Q wb wb.drew := Q.drew (Q.refl _)
            have hLq : Later (fun y => B1 y ∨ B2 y) wb wb.drew := later_drew wb
            have f1 : ∀ w', Later (fun y => B1 y ∨ B2 y) wb.drew w' → w'.cell? ⟨wr.heap.size, 1, none⟩ = some (.int .i64 a.at_) := fun w' hl => (hbox.out w' (later_trans _ _ _ _ hLq hl)).1
            have f3 : ∀ w', Later (fun y => B1 y ∨ B2 y) wb.drew w' → w'.cell? ⟨wr.heap.size, 3, none⟩ = some (.int .u8 (a.fill.toNat : Int)) := fun w' hl => (hbox.out w' (later_trans _ _ _ _ hLq hl)).2
            have hd2 := hide (hd1.out.below (hq.below _))
            have hx2 := hide (hx1.out.below (hq.below _))
            have hb2 := hide (hbb.out.trans (hq.below _))
            have sb2 : wr.heap.size ≤ wb.drew.heap.size := sb
            have hlq := hide hLq
            clear hq hLq hd1 hx1 hbb hbox
            refine region_plan [(true, 0), (true, 1), (true, 2), (true, 3), (true, 4), (true, 7), (true, 8), (true, 9), (true, 10), (true, 11), (false, 5), (false, 6), (false, 12), (false, 13), (true, 14), (true, 15)] (Later fun y => B1 y ∨ B2 y) (later_refl _) (later_trans _) (by kernel_rfl) (by kernel_rfl) (fun _ _ d _ _ h => by cases d <;> exact h) ?_
            repeat
              (first
                | (show wpPlan _ _ _ _ ((true, _) :: _) _ _
                   refine plan_skip rfl (by rfl) ?_
                   simp only [Act.put, List.setIfInBounds_toArray, List.set_cons_zero, List.set_cons_succ])
                | (show wpPlan _ _ _ _ ((false, _) :: _) _ _
                   refine plan_skip_eff (later_refl _) rfl (by rfl) ?_
                   simp only [Act.put, List.setIfInBounds_toArray, List.set_cons_zero, List.set_cons_succ])
                | (show wpPlan _ _ _ _ ((true, _) :: _) _ _
                   refine plan_take (v := ?_) rfl (by rfl) (fun w' hw' => ?_) ?_
                   rotate_left
                   focus
                     go_simp
                     try with_reducible rfl
                     done
                   simp only [Act.put, List.setIfInBounds_toArray, List.set_cons_zero, List.set_cons_succ]))
            clear f1 f3
            refine plan_eff rfl (by rfl) (fun K hK => ?_)
            go_wp2_with fail
            refine (sector_any a.fill 0 wb.drew).mono ?_
            rintro e wc ⟨s1, rfl, hs1, hb⟩
            refine hK _ _ (later_false' (below_later hb (Nat.le_refl _))) ?_
            clear hK K
            rw [sec0] at hs1
            have hs1' := hide hs1
            have hd3 := hide (hd2.out.below hb)
            have hx3 := hide (hx2.out.below hb)
            have hb3 := hide (hb2.out.trans (hb.mono hb2.out.size))
            have sc := hb.size
            clear hs1 hb hd2 hx2 hb2
            try simp only [Act.put, List.setIfInBounds_toArray, List.set_cons_zero, List.set_cons_succ]
            repeat
              (first
                | (show wpPlan _ _ _ _ ((true, _) :: _) _ _
                   refine plan_skip rfl (by rfl) ?_
                   simp only [Act.put, List.setIfInBounds_toArray, List.set_cons_zero, List.set_cons_succ])
                | (show wpPlan _ _ _ _ ((false, _) :: _) _ _
                   refine plan_skip_eff (later_refl _) rfl (by rfl) ?_
                   simp only [Act.put, List.setIfInBounds_toArray, List.set_cons_zero, List.set_cons_succ])
                | (show wpPlan _ _ _ _ ((true, _) :: _) _ _
                   refine plan_take (v := ?_) rfl (by rfl) (fun w' hw' => ?_) ?_
                   rotate_left
                   focus
                     go_simp
                     try with_reducible rfl
                     done
                   simp only [Act.put, List.setIfInBounds_toArray, List.set_cons_zero, List.set_cons_succ]))
            refine plan_eff rfl (by rfl) (fun K hK => ?_)
            go_wp2_with fail
            refine (hd3.out.write_ a.at_ s1 _ (fun y hy e => by have := (hs1'.out.lt y hy).1; have := (k3'.out y e).2; omega) hs1'.out.bs (by have := hwn.out; omega)).mono ?_
            rintro e wd ⟨rfl, hD, hT⟩
            refine hK _ _ (later_mono hT.2 (fun _ e => .inl e)) ?_
            clear hK K
            have hd4 := hide hD
            have hx4 := hide (hx3.out.later hT.2 (fun y hy e => k5'.out y e hy))
            have hb4 := hide (hb3.out.trans (hT.below hb3.out.size (fun y hy e => by have := (k3'.out y e).1; omega)))
            have sd := hT.size
            clear hD hT hd3 hx3 hb3 hs1'
            try simp only [Act.put, List.setIfInBounds_toArray, List.set_cons_zero, List.set_cons_succ]
            repeat
              (first
                | (show wpPlan _ _ _ _ ((true, _) :: _) _ _
                   refine plan_skip rfl (by rfl) ?_
                   simp only [Act.put, List.setIfInBounds_toArray, List.set_cons_zero, List.set_cons_succ])
                | (show wpPlan _ _ _ _ ((false, _) :: _) _ _
                   refine plan_skip_eff (later_refl _) rfl (by rfl) ?_
                   simp only [Act.put, List.setIfInBounds_toArray, List.set_cons_zero, List.set_cons_succ])
                | (show wpPlan _ _ _ _ ((true, _) :: _) _ _
                   refine plan_take (v := ?_) rfl (by rfl) (fun w' hw' => ?_) ?_
                   rotate_left
                   focus
                     go_simp
                     try with_reducible rfl
                     done
                   simp only [Act.put, List.setIfInBounds_toArray, List.set_cons_zero, List.set_cons_succ]))
            refine plan_eff rfl (by rfl) (fun K hK => ?_)
            go_wp2_with fail
            refine (sector_any a.fill 0 wd).mono ?_
            rintro e we ⟨s2, rfl, hs2, hb⟩
            refine hK _ _ (later_false' (below_later hb (Nat.le_refl _))) ?_
            clear hK K
            rw [sec0] at hs2
            have hs2' := hide hs2
            have hd5 := hide (hd4.out.below hb)
            have hx5 := hide (hx4.out.below hb)
            have hb5 := hide (hb4.out.trans (hb.mono hb4.out.size))
            have se := hb.size
            clear hs2 hb hd4 hx4 hb4
            try simp only [Act.put, List.setIfInBounds_toArray, List.set_cons_zero, List.set_cons_succ]
            repeat
              (first
                | (show wpPlan _ _ _ _ ((true, _) :: _) _ _
                   refine plan_skip rfl (by rfl) ?_
                   simp only [Act.put, List.setIfInBounds_toArray, List.set_cons_zero, List.set_cons_succ])
                | (show wpPlan _ _ _ _ ((false, _) :: _) _ _
                   refine plan_skip_eff (later_refl _) rfl (by rfl) ?_
                   simp only [Act.put, List.setIfInBounds_toArray, List.set_cons_zero, List.set_cons_succ])
                | (show wpPlan _ _ _ _ ((true, _) :: _) _ _
                   refine plan_take (v := ?_) rfl (by rfl) (fun w' hw' => ?_) ?_
                   rotate_left
                   focus
                     go_simp
                     try with_reducible rfl
                     done
                   simp only [Act.put, List.setIfInBounds_toArray, List.set_cons_zero, List.set_cons_succ]))
            refine plan_eff rfl (by rfl) (fun K hK => ?_)
            go_wp2_with fail
            refine (hx5.out.write_ a.at_ s2 _ (fun y hy e => by have := (hs2'.out.lt y hy).1; have := (k4'.out y e).2; omega) hs2'.out.bs (by have := hxw1.out; omega)).mono ?_
            rintro e wz ⟨rfl, hD, hT⟩
            refine hK _ _ (later_mono hT.2 (fun _ e => .inr e)) ?_
            clear hK K
            have sz := hT.size
            have hTz := hide (show Two w.heap.size wz gd gx _ _ from ⟨_, _, hd5.out.later hT.2 (fun y hy e => by rcases hy with hy | hy; exact k5'.out y hy e; have := (k4'.out y e).2; omega), hD,
              fun y hy => by
                rcases hy with hy | hy
                · exact ⟨(k3'.out y hy).1, by have := (k3'.out y hy).2; omega⟩
                · exact ⟨by omega, by omega⟩,
              fun y hy => by
                rcases hy with hy | hy
                · exact ⟨(k4'.out y hy).1, by have := (k4'.out y hy).2; omega⟩
                · exact ⟨by omega, by omega⟩,
              fun y h1 h2 => by
                rcases h1 with h1 | h1 <;> rcases h2 with h2 | h2
                · exact k5'.out y h1 h2
                · have := (k3'.out y h1).2; omega
                · have := (k4'.out y h2).2; omega
                · omega⟩)
            have hbz := hide (hb5.out.trans (hT.below hb5.out.size (fun y hy e => by have := (k4'.out y e).1; omega)))
            clear hD hT hd5 hx5 hb5 hs2' k3' k4' k5'
            obtain ⟨hI0, hEq⟩ := hIw.out (List.replicate 64 a.fill) (by simp)
            rw [hcr'.out] at hI0 hEq
            rw [← hEq]
            have hwz := hide (show (d.write a.at_ (List.replicate 64 a.fill)).1.waits.length ≤ k + 1 by have := hfw.out (List.replicate 64 a.fill); have := hwn.out; omega)
            clear hIw hfw hEq hwn hxw1
            generalize (d.write a.at_ (List.replicate 64 a.fill)).2 = E at *
            generalize (d.write a.at_ (List.replicate 64 a.fill)).1 = dz at *
            generalize ((x).write a.at_ (List.replicate 64 a.fill)).1 = xz at *
            have hI0 := hide hI0
            try simp only [Act.put, List.setIfInBounds_toArray, List.set_cons_zero, List.set_cons_succ]
            repeat
              (first
                | (show wpPlan _ _ _ _ ((true, _) :: _) _ _
                   refine plan_skip rfl (by rfl) ?_
                   simp only [Act.put, List.setIfInBounds_toArray, List.set_cons_zero, List.set_cons_succ])
                | (show wpPlan _ _ _ _ ((false, _) :: _) _ _
                   refine plan_skip_eff (later_refl _) rfl (by rfl) ?_
                   simp only [Act.put, List.setIfInBounds_toArray, List.set_cons_zero, List.set_cons_succ])
                | (show wpPlan _ _ _ _ ((true, _) :: _) _ _
                   refine plan_take (v := ?_) rfl (by rfl) (fun w' hw' => ?_) ?_
                   rotate_left
                   focus
                     go_simp
                     try with_reducible rfl
                     done
                   simp only [Act.put, List.setIfInBounds_toArray, List.set_cons_zero, List.set_cons_succ]))
            refine plan_nil ?_
            by_cases hE0 : E = 0
            · rw [if_pos hE0] at hI0
              have hIz := hide hI0.out
              have eE : (E == 0) = true := by simp [hE0]
              clear hE0 hI0
              go_wp2_with fail
              have hq : Q wz wz.drew := Q.drew (Q.refl _)
              have hT5 := hide (hTz.out.below (hq.below _))
              have hb5 := hide (hbz.out.trans (hq.below _))
              have ho := hide (hIz.out.off)
              have hh := hide (hIz.out.has)
              clear hq hTz hbz
              refine region_plan [(true, 0), (true, 1), (true, 2), (true, 3), (true, 4), (true, 6), (false, 5), (false, 7), (true, 8), (true, 9), (true, 10), (true, 11), (true, 14), (false, 12), (true, 13), (false, 15), (true, 16), (true, 17), (true, 18)] (Later fun _ => False) (later_refl _) (later_trans _) (by kernel_rfl) (by kernel_rfl) (fun _ _ d _ _ h => by cases d <;> exact h) ?_
              repeat
                (first
                  | (show wpPlan _ _ _ _ ((true, _) :: _) _ _
                     refine plan_skip rfl (by rfl) ?_
                     simp only [Act.put, List.setIfInBounds_toArray, List.set_cons_zero, List.set_cons_succ])
                  | (show wpPlan _ _ _ _ ((false, _) :: _) _ _
                     refine plan_skip_eff (later_refl _) rfl (by rfl) ?_
                     simp only [Act.put, List.setIfInBounds_toArray, List.set_cons_zero, List.set_cons_succ])
                  | (show wpPlan _ _ _ _ ((true, _) :: _) _ _
                     refine plan_take (v := ?_) rfl (by rfl) (fun w' hw' => ?_) ?_
                     rotate_left
                     focus
                       go_simp
                       try with_reducible rfl
                       done
                     simp only [Act.put, List.setIfInBounds_toArray, List.set_cons_zero, List.set_cons_succ]))
              refine plan_eff rfl (by rfl) (fun K hK => ?_)
              go_wp2_with fail
              refine hT5.out.on1.mono ?_
              rintro e w5 ⟨rfl, rfl⟩
              refine hK _ _ (later_refl _ _) ?_
              clear hK K
              try simp only [Act.put, List.setIfInBounds_toArray, List.set_cons_zero, List.set_cons_succ]
              repeat
                (first
                  | (show wpPlan _ _ _ _ ((true, _) :: _) _ _
                     refine plan_skip rfl (by rfl) ?_
                     simp only [Act.put, List.setIfInBounds_toArray, List.set_cons_zero, List.set_cons_succ])
                  | (show wpPlan _ _ _ _ ((false, _) :: _) _ _
                     refine plan_skip_eff (later_refl _) rfl (by rfl) ?_
                     simp only [Act.put, List.setIfInBounds_toArray, List.set_cons_zero, List.set_cons_succ])
                  | (show wpPlan _ _ _ _ ((true, _) :: _) _ _
                     refine plan_take (v := ?_) rfl (by rfl) (fun w' hw' => ?_) ?_
                     rotate_left
                     focus
                       go_simp
                       try with_reducible rfl
                       done
                     simp only [Act.put, List.setIfInBounds_toArray, List.set_cons_zero, List.set_cons_succ]))
              refine plan_eff rfl (by rfl) (fun K hK => ?_)
              go_wp2_with fail
              refine hT5.out.symm.on1.mono ?_
              rintro e w5 ⟨rfl, rfl⟩
              rw [← ho.out]
              refine hK _ _ (later_refl _ _) ?_
              clear hK K
              try simp only [Act.put, List.setIfInBounds_toArray, List.set_cons_zero, List.set_cons_succ]
              repeat
                (first
                  | (show wpPlan _ _ _ _ ((true, _) :: _) _ _
                     refine plan_skip rfl (by rfl) ?_
                     simp only [Act.put, List.setIfInBounds_toArray, List.set_cons_zero, List.set_cons_succ])
                  | (show wpPlan _ _ _ _ ((false, _) :: _) _ _
                     refine plan_skip_eff (later_refl _) rfl (by rfl) ?_
                     simp only [Act.put, List.setIfInBounds_toArray, List.set_cons_zero, List.set_cons_succ])
                  | (show wpPlan _ _ _ _ ((true, _) :: _) _ _
                     refine plan_take (v := ?_) rfl (by rfl) (fun w' hw' => ?_) ?_
                     rotate_left
                     focus
                       go_simp
                       try with_reducible rfl
                       done
                     simp only [Act.put, List.setIfInBounds_toArray, List.set_cons_zero, List.set_cons_succ]))
              refine plan_eff rfl (by rfl) (fun K hK => ?_)
              go_wp2_with fail
              refine hT5.out.image1.mono ?_
              rintro e w6 ⟨u, rfl, hu, hb⟩
              refine hK _ _ (below_later hb (Nat.le_refl _)) ?_
              clear hK K
              have hT6 := hide (hT5.out.below hb)
              have hb6 := hide (hb5.out.trans (hb.mono hb5.out.size))
              have hcu : ∀ w', Later (fun _ => False) w6 w' → (convert 40 9 u).run Try.prog w' = .ok (.string ⟨dz.has.toArray⟩) w' := fun w' hl => str_conv w' u _ (hu.bs.later0 hl)
              clear hu hb hT5 hb5
              try simp only [Act.put, List.setIfInBounds_toArray, List.set_cons_zero, List.set_cons_succ]
              repeat
                (first
                  | (show wpPlan _ _ _ _ ((true, _) :: _) _ _
                     refine plan_skip rfl (by rfl) ?_
                     simp only [Act.put, List.setIfInBounds_toArray, List.set_cons_zero, List.set_cons_succ])
                  | (show wpPlan _ _ _ _ ((false, _) :: _) _ _
                     refine plan_skip_eff (later_refl _) rfl (by rfl) ?_
                     simp only [Act.put, List.setIfInBounds_toArray, List.set_cons_zero, List.set_cons_succ])
                  | (show wpPlan _ _ _ _ ((true, _) :: _) _ _
                     refine plan_take (v := ?_) rfl (by rfl) (fun w' hw' => ?_) ?_
                     rotate_left
                     focus
                       go_simp
                       try with_reducible rfl
                       done
                     simp only [Act.put, List.setIfInBounds_toArray, List.set_cons_zero, List.set_cons_succ]))
              clear hcu
              refine plan_eff rfl (by rfl) (fun K hK => ?_)
              go_wp2_with fail
              refine hT6.out.symm.image1.mono ?_
              rintro e w7 ⟨v, rfl, hv, hb⟩
              rw [← hh.out] at hv
              refine hK _ _ (below_later hb (Nat.le_refl _)) ?_
              clear hK K
              have hT7 := hide (hT6.out.below hb)
              have hb7 := hide (hb6.out.trans (hb.mono hb6.out.size))
              have hcv : ∀ w', Later (fun _ => False) w7 w' → (convert 40 9 v).run Try.prog w' = .ok (.string ⟨dz.has.toArray⟩) w' := fun w' hl => str_conv w' v _ (hv.bs.later0 hl)
              clear hv hb hT6 hb6
              try simp only [Act.put, List.setIfInBounds_toArray, List.set_cons_zero, List.set_cons_succ]
              repeat
                (first
                  | (show wpPlan _ _ _ _ ((true, _) :: _) _ _
                     refine plan_skip rfl (by rfl) ?_
                     simp only [Act.put, List.setIfInBounds_toArray, List.set_cons_zero, List.set_cons_succ])
                  | (show wpPlan _ _ _ _ ((false, _) :: _) _ _
                     refine plan_skip_eff (later_refl _) rfl (by rfl) ?_
                     simp only [Act.put, List.setIfInBounds_toArray, List.set_cons_zero, List.set_cons_succ])
                  | (show wpPlan _ _ _ _ ((true, _) :: _) _ _
                     refine plan_take (v := ?_) rfl (by rfl) (fun w' hw' => ?_) ?_
                     rotate_left
                     focus
                       go_simp
                       try with_reducible rfl
                       done
                     simp only [Act.put, List.setIfInBounds_toArray, List.set_cons_zero, List.set_cons_succ]))
              clear hcv
              refine plan_nil ?_
              go_wp2_with fail
              go_roundw
              case rel => exact ⟨k + 1, by omega, by go_num, dz, xz, _, rfl, hIz.out, hT7.out, by have := hwz.out; omega, hb7.out⟩
              case measure => simp [intOf]; omega
            · rw [if_neg hE0] at hI0
              have hIz := hide hI0.out
              have eE : (E == 0) = false := by simp [hE0]
              clear hE0 hI0
              go_wp2_with fail
              have hq : Q wz wz.drew := Q.drew (Q.refl _)
              have hT5 := hide (hTz.out.below (hq.below _))
              have hb5 := hide (hbz.out.trans (hq.below _))
              have ho := hide (hIz.out.off)
              have hh := hide (hIz.out.has)
              clear hq hTz hbz
              refine region_plan [(true, 0), (true, 1), (true, 2), (true, 3), (true, 4), (true, 6), (false, 5), (false, 7), (true, 8), (true, 9), (true, 10), (true, 11), (true, 14), (false, 12), (true, 13), (false, 15), (true, 16), (true, 17), (true, 18)] (Later fun _ => False) (later_refl _) (later_trans _) (by kernel_rfl) (by kernel_rfl) (fun _ _ d _ _ h => by cases d <;> exact h) ?_
              repeat
                (first
                  | (show wpPlan _ _ _ _ ((true, _) :: _) _ _
                     refine plan_skip rfl (by rfl) ?_
                     simp only [Act.put, List.setIfInBounds_toArray, List.set_cons_zero, List.set_cons_succ])
                  | (show wpPlan _ _ _ _ ((false, _) :: _) _ _
                     refine plan_skip_eff (later_refl _) rfl (by rfl) ?_
                     simp only [Act.put, List.setIfInBounds_toArray, List.set_cons_zero, List.set_cons_succ])
                  | (show wpPlan _ _ _ _ ((true, _) :: _) _ _
                     refine plan_take (v := ?_) rfl (by rfl) (fun w' hw' => ?_) ?_
                     rotate_left
                     focus
                       go_simp
                       try with_reducible rfl
                       done
                     simp only [Act.put, List.setIfInBounds_toArray, List.set_cons_zero, List.set_cons_succ]))
              refine plan_eff rfl (by rfl) (fun K hK => ?_)
              go_wp2_with fail
              refine hT5.out.on1.mono ?_
              rintro e w5 ⟨rfl, rfl⟩
              refine hK _ _ (later_refl _ _) ?_
              clear hK K
              try simp only [Act.put, List.setIfInBounds_toArray, List.set_cons_zero, List.set_cons_succ]
              repeat
                (first
                  | (show wpPlan _ _ _ _ ((true, _) :: _) _ _
                     refine plan_skip rfl (by rfl) ?_
                     simp only [Act.put, List.setIfInBounds_toArray, List.set_cons_zero, List.set_cons_succ])
                  | (show wpPlan _ _ _ _ ((false, _) :: _) _ _
                     refine plan_skip_eff (later_refl _) rfl (by rfl) ?_
                     simp only [Act.put, List.setIfInBounds_toArray, List.set_cons_zero, List.set_cons_succ])
                  | (show wpPlan _ _ _ _ ((true, _) :: _) _ _
                     refine plan_take (v := ?_) rfl (by rfl) (fun w' hw' => ?_) ?_
                     rotate_left
                     focus
                       go_simp
                       try with_reducible rfl
                       done
                     simp only [Act.put, List.setIfInBounds_toArray, List.set_cons_zero, List.set_cons_succ]))
              refine plan_eff rfl (by rfl) (fun K hK => ?_)
              go_wp2_with fail
              refine hT5.out.symm.on1.mono ?_
              rintro e w5 ⟨rfl, rfl⟩
              rw [← ho.out]
              refine hK _ _ (later_refl _ _) ?_
              clear hK K
              try simp only [Act.put, List.setIfInBounds_toArray, List.set_cons_zero, List.set_cons_succ]
              repeat
                (first
                  | (show wpPlan _ _ _ _ ((true, _) :: _) _ _
                     refine plan_skip rfl (by rfl) ?_
                     simp only [Act.put, List.setIfInBounds_toArray, List.set_cons_zero, List.set_cons_succ])
                  | (show wpPlan _ _ _ _ ((false, _) :: _) _ _
                     refine plan_skip_eff (later_refl _) rfl (by rfl) ?_
                     simp only [Act.put, List.setIfInBounds_toArray, List.set_cons_zero, List.set_cons_succ])
                  | (show wpPlan _ _ _ _ ((true, _) :: _) _ _
                     refine plan_take (v := ?_) rfl (by rfl) (fun w' hw' => ?_) ?_
                     rotate_left
                     focus
                       go_simp
                       try with_reducible rfl
                       done
                     simp only [Act.put, List.setIfInBounds_toArray, List.set_cons_zero, List.set_cons_succ]))
              refine plan_eff rfl (by rfl) (fun K hK => ?_)
              go_wp2_with fail
              refine hT5.out.image1.mono ?_
              rintro e w6 ⟨u, rfl, hu, hb⟩
              refine hK _ _ (below_later hb (Nat.le_refl _)) ?_
              clear hK K
              have hT6 := hide (hT5.out.below hb)
              have hb6 := hide (hb5.out.trans (hb.mono hb5.out.size))
              have hcu : ∀ w', Later (fun _ => False) w6 w' → (convert 40 9 u).run Try.prog w' = .ok (.string ⟨dz.has.toArray⟩) w' := fun w' hl => str_conv w' u _ (hu.bs.later0 hl)
              clear hu hb hT5 hb5
              try simp only [Act.put, List.setIfInBounds_toArray, List.set_cons_zero, List.set_cons_succ]
              repeat
                (first
                  | (show wpPlan _ _ _ _ ((true, _) :: _) _ _
                     refine plan_skip rfl (by rfl) ?_
                     simp only [Act.put, List.setIfInBounds_toArray, List.set_cons_zero, List.set_cons_succ])
                  | (show wpPlan _ _ _ _ ((false, _) :: _) _ _
                     refine plan_skip_eff (later_refl _) rfl (by rfl) ?_
                     simp only [Act.put, List.setIfInBounds_toArray, List.set_cons_zero, List.set_cons_succ])
                  | (show wpPlan _ _ _ _ ((true, _) :: _) _ _
                     refine plan_take (v := ?_) rfl (by rfl) (fun w' hw' => ?_) ?_
                     rotate_left
                     focus
                       go_simp
                       try with_reducible rfl
                       done
                     simp only [Act.put, List.setIfInBounds_toArray, List.set_cons_zero, List.set_cons_succ]))
              clear hcu
              refine plan_eff rfl (by rfl) (fun K hK => ?_)
              go_wp2_with fail
              refine hT6.out.symm.image1.mono ?_
              rintro e w7 ⟨v, rfl, hv, hb⟩
              rw [← hh.out] at hv
              refine hK _ _ (below_later hb (Nat.le_refl _)) ?_
              clear hK K
              have hT7 := hide (hT6.out.below hb)
              have hb7 := hide (hb6.out.trans (hb.mono hb6.out.size))
              have hcv : ∀ w', Later (fun _ => False) w7 w' → (convert 40 9 v).run Try.prog w' = .ok (.string ⟨dz.has.toArray⟩) w' := fun w' hl => str_conv w' v _ (hv.bs.later0 hl)
              clear hv hb hT6 hb6
              try simp only [Act.put, List.setIfInBounds_toArray, List.set_cons_zero, List.set_cons_succ]
              repeat
                (first
                  | (show wpPlan _ _ _ _ ((true, _) :: _) _ _
                     refine plan_skip rfl (by rfl) ?_
                     simp only [Act.put, List.setIfInBounds_toArray, List.set_cons_zero, List.set_cons_succ])
                  | (show wpPlan _ _ _ _ ((false, _) :: _) _ _
                     refine plan_skip_eff (later_refl _) rfl (by rfl) ?_
                     simp only [Act.put, List.setIfInBounds_toArray, List.set_cons_zero, List.set_cons_succ])
                  | (show wpPlan _ _ _ _ ((true, _) :: _) _ _
                     refine plan_take (v := ?_) rfl (by rfl) (fun w' hw' => ?_) ?_
                     rotate_left
                     focus
                       go_simp
                       try with_reducible rfl
                       done
                     simp only [Act.put, List.setIfInBounds_toArray, List.set_cons_zero, List.set_cons_succ]))
              clear hcv
              refine plan_nil ?_
              go_wp2_with fail
              go_roundw
              case rel => exact ⟨k + 1, by omega, by go_num, dz, xz, _, rfl, hIz.out, hT7.out, by have := hwz.out; omega, hb7.out⟩
              case measure => simp [intOf]; omega
          · have el : (left == 0) = true := by simp [hl0]
            have ea1 : decide (0 ≤ a.at_) = false := decide_eq_false h1
            clear hl0 h1
            go_wp2_with fail
            generalize hwa : wr.alloc (.cells #[.int .i64 a.do_, .int .i64 a.at_, .int .i64 a.off, .int .u8 (a.fill.toNat : Int), .slice A4 n4 n4c] 51) = wb at *
            clear hwa
            have hx1 := hide hx0.out
            have hd1 := hide hd0.out
            have hbb := hide hba.out
            have hbox := hide (show ∀ w', Later (fun y => B1 y ∨ B2 y) wb w' → w'.cell? ⟨wr.heap.size, 1, none⟩ = some (.int .i64 a.at_) ∧ w'.cell? ⟨wr.heap.size, 3, none⟩ = some (.int .u8 (a.fill.toNat : Int)) from fun w' hl => by
              have hnb : ¬ (B1 wr.heap.size ∨ B2 wr.heap.size) := fun e => by rcases e with e | e; have := (k3'.out _ e).2; omega; have := (k4'.out _ e).2; omega
              exact ⟨(Later.cell hl hsa hnb).1.trans (cell_of_row _ _ 1 _ _ _ hnew.out), (Later.cell hl hsa hnb).1.trans (cell_of_row _ _ 3 _ _ _ hnew.out)⟩)
            have sb : wr.heap.size ≤ wb.heap.size := by omega
            have hxw1 := hide hxw.out
            clear hd0 hx0 hba hnew hka hxw hxc
            have hq : Q wb wb.drew := Q.drew (Q.refl _)
            have hLq : Later (fun y => B1 y ∨ B2 y) wb wb.drew := later_drew wb
            have f1 : ∀ w', Later (fun y => B1 y ∨ B2 y) wb.drew w' → w'.cell? ⟨wr.heap.size, 1, none⟩ = some (.int .i64 a.at_) := fun w' hl => (hbox.out w' (later_trans _ _ _ _ hLq hl)).1
            have f3 : ∀ w', Later (fun y => B1 y ∨ B2 y) wb.drew w' → w'.cell? ⟨wr.heap.size, 3, none⟩ = some (.int .u8 (a.fill.toNat : Int)) := fun w' hl => (hbox.out w' (later_trans _ _ _ _ hLq hl)).2
            have hd2 := hide (hd1.out.below (hq.below _))
            have hx2 := hide (hx1.out.below (hq.below _))
            have hb2 := hide (hbb.out.trans (hq.below _))
            have sb2 : wr.heap.size ≤ wb.drew.heap.size := sb
            have hlq := hide hLq
            clear hq hLq hd1 hx1 hbb hbox
            refine region_plan [(true, 0), (true, 1), (true, 2), (true, 3), (true, 4), (true, 7), (true, 8), (true, 9), (true, 10), (true, 11), (false, 5), (false, 6), (false, 12), (false, 13), (true, 14), (true, 15)] (Later fun y => B1 y ∨ B2 y) (later_refl _) (later_trans _) (by kernel_rfl) (by kernel_rfl) (fun _ _ d _ _ h => by cases d <;> exact h) ?_
            repeat
              (first
                | (show wpPlan _ _ _ _ ((true, _) :: _) _ _
                   refine plan_skip rfl (by rfl) ?_
                   simp only [Act.put, List.setIfInBounds_toArray, List.set_cons_zero, List.set_cons_succ])
                | (show wpPlan _ _ _ _ ((false, _) :: _) _ _
                   refine plan_skip_eff (later_refl _) rfl (by rfl) ?_
                   simp only [Act.put, List.setIfInBounds_toArray, List.set_cons_zero, List.set_cons_succ])
                | (show wpPlan _ _ _ _ ((true, _) :: _) _ _
                   refine plan_take (v := ?_) rfl (by rfl) (fun w' hw' => ?_) ?_
                   rotate_left
                   focus
                     go_simp
                     try with_reducible rfl
                     done
                   simp only [Act.put, List.setIfInBounds_toArray, List.set_cons_zero, List.set_cons_succ]))
            clear f1 f3
            refine plan_eff rfl (by rfl) (fun K hK => ?_)
            go_wp2_with fail
            refine (sector_any a.fill 0 wb.drew).mono ?_
            rintro e wc ⟨s1, rfl, hs1, hb⟩
            refine hK _ _ (later_false' (below_later hb (Nat.le_refl _))) ?_
            clear hK K
            rw [sec0] at hs1
            have hs1' := hide hs1
            have hd3 := hide (hd2.out.below hb)
            have hx3 := hide (hx2.out.below hb)
            have hb3 := hide (hb2.out.trans (hb.mono hb2.out.size))
            have sc := hb.size
            clear hs1 hb hd2 hx2 hb2
            try simp only [Act.put, List.setIfInBounds_toArray, List.set_cons_zero, List.set_cons_succ]
            repeat
              (first
                | (show wpPlan _ _ _ _ ((true, _) :: _) _ _
                   refine plan_skip rfl (by rfl) ?_
                   simp only [Act.put, List.setIfInBounds_toArray, List.set_cons_zero, List.set_cons_succ])
                | (show wpPlan _ _ _ _ ((false, _) :: _) _ _
                   refine plan_skip_eff (later_refl _) rfl (by rfl) ?_
                   simp only [Act.put, List.setIfInBounds_toArray, List.set_cons_zero, List.set_cons_succ])
                | (show wpPlan _ _ _ _ ((true, _) :: _) _ _
                   refine plan_take (v := ?_) rfl (by rfl) (fun w' hw' => ?_) ?_
                   rotate_left
                   focus
                     go_simp
                     try with_reducible rfl
                     done
                   simp only [Act.put, List.setIfInBounds_toArray, List.set_cons_zero, List.set_cons_succ]))
            refine plan_eff rfl (by rfl) (fun K hK => ?_)
            go_wp2_with fail
            refine (hd3.out.write_ a.at_ s1 _ (fun y hy e => by have := (hs1'.out.lt y hy).1; have := (k3'.out y e).2; omega) hs1'.out.bs (by have := hwn.out; omega)).mono ?_
            rintro e wd ⟨rfl, hD, hT⟩
            refine hK _ _ (later_mono hT.2 (fun _ e => .inl e)) ?_
            clear hK K
            have hd4 := hide hD
            have hx4 := hide (hx3.out.later hT.2 (fun y hy e => k5'.out y e hy))
            have hb4 := hide (hb3.out.trans (hT.below hb3.out.size (fun y hy e => by have := (k3'.out y e).1; omega)))
            have sd := hT.size
            clear hD hT hd3 hx3 hb3 hs1'
            try simp only [Act.put, List.setIfInBounds_toArray, List.set_cons_zero, List.set_cons_succ]
            repeat
              (first
                | (show wpPlan _ _ _ _ ((true, _) :: _) _ _
                   refine plan_skip rfl (by rfl) ?_
                   simp only [Act.put, List.setIfInBounds_toArray, List.set_cons_zero, List.set_cons_succ])
                | (show wpPlan _ _ _ _ ((false, _) :: _) _ _
                   refine plan_skip_eff (later_refl _) rfl (by rfl) ?_
                   simp only [Act.put, List.setIfInBounds_toArray, List.set_cons_zero, List.set_cons_succ])
                | (show wpPlan _ _ _ _ ((true, _) :: _) _ _
                   refine plan_take (v := ?_) rfl (by rfl) (fun w' hw' => ?_) ?_
                   rotate_left
                   focus
                     go_simp
                     try with_reducible rfl
                     done
                   simp only [Act.put, List.setIfInBounds_toArray, List.set_cons_zero, List.set_cons_succ]))
            refine plan_eff rfl (by rfl) (fun K hK => ?_)
            go_wp2_with fail
            refine (sector_any a.fill 0 wd).mono ?_
            rintro e we ⟨s2, rfl, hs2, hb⟩
            refine hK _ _ (later_false' (below_later hb (Nat.le_refl _))) ?_
            clear hK K
            rw [sec0] at hs2
            have hs2' := hide hs2
            have hd5 := hide (hd4.out.below hb)
            have hx5 := hide (hx4.out.below hb)
            have hb5 := hide (hb4.out.trans (hb.mono hb4.out.size))
            have se := hb.size
            clear hs2 hb hd4 hx4 hb4
            try simp only [Act.put, List.setIfInBounds_toArray, List.set_cons_zero, List.set_cons_succ]
            repeat
              (first
                | (show wpPlan _ _ _ _ ((true, _) :: _) _ _
                   refine plan_skip rfl (by rfl) ?_
                   simp only [Act.put, List.setIfInBounds_toArray, List.set_cons_zero, List.set_cons_succ])
                | (show wpPlan _ _ _ _ ((false, _) :: _) _ _
                   refine plan_skip_eff (later_refl _) rfl (by rfl) ?_
                   simp only [Act.put, List.setIfInBounds_toArray, List.set_cons_zero, List.set_cons_succ])
                | (show wpPlan _ _ _ _ ((true, _) :: _) _ _
                   refine plan_take (v := ?_) rfl (by rfl) (fun w' hw' => ?_) ?_
                   rotate_left
                   focus
                     go_simp
                     try with_reducible rfl
                     done
                   simp only [Act.put, List.setIfInBounds_toArray, List.set_cons_zero, List.set_cons_succ]))
            refine plan_eff rfl (by rfl) (fun K hK => ?_)
            go_wp2_with fail
            refine (hx5.out.write_ a.at_ s2 _ (fun y hy e => by have := (hs2'.out.lt y hy).1; have := (k4'.out y e).2; omega) hs2'.out.bs (by have := hxw1.out; omega)).mono ?_
            rintro e wz ⟨rfl, hD, hT⟩
            refine hK _ _ (later_mono hT.2 (fun _ e => .inr e)) ?_
            clear hK K
            have sz := hT.size
            have hTz := hide (show Two w.heap.size wz gd gx _ _ from ⟨_, _, hd5.out.later hT.2 (fun y hy e => by rcases hy with hy | hy; exact k5'.out y hy e; have := (k4'.out y e).2; omega), hD,
              fun y hy => by
                rcases hy with hy | hy
                · exact ⟨(k3'.out y hy).1, by have := (k3'.out y hy).2; omega⟩
                · exact ⟨by omega, by omega⟩,
              fun y hy => by
                rcases hy with hy | hy
                · exact ⟨(k4'.out y hy).1, by have := (k4'.out y hy).2; omega⟩
                · exact ⟨by omega, by omega⟩,
              fun y h1 h2 => by
                rcases h1 with h1 | h1 <;> rcases h2 with h2 | h2
                · exact k5'.out y h1 h2
                · have := (k3'.out y h1).2; omega
                · have := (k4'.out y h2).2; omega
                · omega⟩)
            have hbz := hide (hb5.out.trans (hT.below hb5.out.size (fun y hy e => by have := (k4'.out y e).1; omega)))
            clear hD hT hd5 hx5 hb5 hs2' k3' k4' k5'
            obtain ⟨hI0, hEq⟩ := hIw.out (List.replicate 64 a.fill) (by simp)
            rw [hcr'.out] at hI0 hEq
            rw [← hEq]
            have hwz := hide (show (d.write a.at_ (List.replicate 64 a.fill)).1.waits.length ≤ k + 1 by have := hfw.out (List.replicate 64 a.fill); have := hwn.out; omega)
            clear hIw hfw hEq hwn hxw1
            generalize (d.write a.at_ (List.replicate 64 a.fill)).2 = E at *
            generalize (d.write a.at_ (List.replicate 64 a.fill)).1 = dz at *
            generalize ((x).write a.at_ (List.replicate 64 a.fill)).1 = xz at *
            have hI0 := hide hI0
            try simp only [Act.put, List.setIfInBounds_toArray, List.set_cons_zero, List.set_cons_succ]
            repeat
              (first
                | (show wpPlan _ _ _ _ ((true, _) :: _) _ _
                   refine plan_skip rfl (by rfl) ?_
                   simp only [Act.put, List.setIfInBounds_toArray, List.set_cons_zero, List.set_cons_succ])
                | (show wpPlan _ _ _ _ ((false, _) :: _) _ _
                   refine plan_skip_eff (later_refl _) rfl (by rfl) ?_
                   simp only [Act.put, List.setIfInBounds_toArray, List.set_cons_zero, List.set_cons_succ])
                | (show wpPlan _ _ _ _ ((true, _) :: _) _ _
                   refine plan_take (v := ?_) rfl (by rfl) (fun w' hw' => ?_) ?_
                   rotate_left
                   focus
                     go_simp
                     try with_reducible rfl
                     done
                   simp only [Act.put, List.setIfInBounds_toArray, List.set_cons_zero, List.set_cons_succ]))
            refine plan_nil ?_
            by_cases hE0 : E = 0
            · rw [if_pos hE0] at hI0
              have hIz := hide hI0.out
              have eE : (E == 0) = true := by simp [hE0]
              clear hE0 hI0
              go_wp2_with fail
              have hq : Q wz wz.drew := Q.drew (Q.refl _)
              have hT5 := hide (hTz.out.below (hq.below _))
              have hb5 := hide (hbz.out.trans (hq.below _))
              have ho := hide (hIz.out.off)
              have hh := hide (hIz.out.has)
              clear hq hTz hbz
              refine region_plan [(true, 0), (true, 1), (true, 2), (true, 3), (true, 4), (true, 6), (false, 5), (false, 7), (true, 8), (true, 9), (true, 10), (true, 11), (true, 14), (false, 12), (true, 13), (false, 15), (true, 16), (true, 17), (true, 18)] (Later fun _ => False) (later_refl _) (later_trans _) (by kernel_rfl) (by kernel_rfl) (fun _ _ d _ _ h => by cases d <;> exact h) ?_
              repeat
                (first
                  | (show wpPlan _ _ _ _ ((true, _) :: _) _ _
                     refine plan_skip rfl (by rfl) ?_
                     simp only [Act.put, List.setIfInBounds_toArray, List.set_cons_zero, List.set_cons_succ])
                  | (show wpPlan _ _ _ _ ((false, _) :: _) _ _
                     refine plan_skip_eff (later_refl _) rfl (by rfl) ?_
                     simp only [Act.put, List.setIfInBounds_toArray, List.set_cons_zero, List.set_cons_succ])
                  | (show wpPlan _ _ _ _ ((true, _) :: _) _ _
                     refine plan_take (v := ?_) rfl (by rfl) (fun w' hw' => ?_) ?_
                     rotate_left
                     focus
                       go_simp
                       try with_reducible rfl
                       done
                     simp only [Act.put, List.setIfInBounds_toArray, List.set_cons_zero, List.set_cons_succ]))
              refine plan_eff rfl (by rfl) (fun K hK => ?_)
              go_wp2_with fail
              refine hT5.out.on1.mono ?_
              rintro e w5 ⟨rfl, rfl⟩
              refine hK _ _ (later_refl _ _) ?_
              clear hK K
              try simp only [Act.put, List.setIfInBounds_toArray, List.set_cons_zero, List.set_cons_succ]
              repeat
                (first
                  | (show wpPlan _ _ _ _ ((true, _) :: _) _ _
                     refine plan_skip rfl (by rfl) ?_
                     simp only [Act.put, List.setIfInBounds_toArray, List.set_cons_zero, List.set_cons_succ])
                  | (show wpPlan _ _ _ _ ((false, _) :: _) _ _
                     refine plan_skip_eff (later_refl _) rfl (by rfl) ?_
                     simp only [Act.put, List.setIfInBounds_toArray, List.set_cons_zero, List.set_cons_succ])
                  | (show wpPlan _ _ _ _ ((true, _) :: _) _ _
                     refine plan_take (v := ?_) rfl (by rfl) (fun w' hw' => ?_) ?_
                     rotate_left
                     focus
                       go_simp
                       try with_reducible rfl
                       done
                     simp only [Act.put, List.setIfInBounds_toArray, List.set_cons_zero, List.set_cons_succ]))
              refine plan_eff rfl (by rfl) (fun K hK => ?_)
              go_wp2_with fail
              refine hT5.out.symm.on1.mono ?_
              rintro e w5 ⟨rfl, rfl⟩
              rw [← ho.out]
              refine hK _ _ (later_refl _ _) ?_
              clear hK K
              try simp only [Act.put, List.setIfInBounds_toArray, List.set_cons_zero, List.set_cons_succ]
              repeat
                (first
                  | (show wpPlan _ _ _ _ ((true, _) :: _) _ _
                     refine plan_skip rfl (by rfl) ?_
                     simp only [Act.put, List.setIfInBounds_toArray, List.set_cons_zero, List.set_cons_succ])
                  | (show wpPlan _ _ _ _ ((false, _) :: _) _ _
                     refine plan_skip_eff (later_refl _) rfl (by rfl) ?_
                     simp only [Act.put, List.setIfInBounds_toArray, List.set_cons_zero, List.set_cons_succ])
                  | (show wpPlan _ _ _ _ ((true, _) :: _) _ _
                     refine plan_take (v := ?_) rfl (by rfl) (fun w' hw' => ?_) ?_
                     rotate_left
                     focus
                       go_simp
                       try with_reducible rfl
                       done
                     simp only [Act.put, List.setIfInBounds_toArray, List.set_cons_zero, List.set_cons_succ]))
              refine plan_eff rfl (by rfl) (fun K hK => ?_)
              go_wp2_with fail
              refine hT5.out.image1.mono ?_
              rintro e w6 ⟨u, rfl, hu, hb⟩
              refine hK _ _ (below_later hb (Nat.le_refl _)) ?_
              clear hK K
              have hT6 := hide (hT5.out.below hb)
              have hb6 := hide (hb5.out.trans (hb.mono hb5.out.size))
              have hcu : ∀ w', Later (fun _ => False) w6 w' → (convert 40 9 u).run Try.prog w' = .ok (.string ⟨dz.has.toArray⟩) w' := fun w' hl => str_conv w' u _ (hu.bs.later0 hl)
              clear hu hb hT5 hb5
              try simp only [Act.put, List.setIfInBounds_toArray, List.set_cons_zero, List.set_cons_succ]
              repeat
                (first
                  | (show wpPlan _ _ _ _ ((true, _) :: _) _ _
                     refine plan_skip rfl (by rfl) ?_
                     simp only [Act.put, List.setIfInBounds_toArray, List.set_cons_zero, List.set_cons_succ])
                  | (show wpPlan _ _ _ _ ((false, _) :: _) _ _
                     refine plan_skip_eff (later_refl _) rfl (by rfl) ?_
                     simp only [Act.put, List.setIfInBounds_toArray, List.set_cons_zero, List.set_cons_succ])
                  | (show wpPlan _ _ _ _ ((true, _) :: _) _ _
                     refine plan_take (v := ?_) rfl (by rfl) (fun w' hw' => ?_) ?_
                     rotate_left
                     focus
                       go_simp
                       try with_reducible rfl
                       done
                     simp only [Act.put, List.setIfInBounds_toArray, List.set_cons_zero, List.set_cons_succ]))
              clear hcu
              refine plan_eff rfl (by rfl) (fun K hK => ?_)
              go_wp2_with fail
              refine hT6.out.symm.image1.mono ?_
              rintro e w7 ⟨v, rfl, hv, hb⟩
              rw [← hh.out] at hv
              refine hK _ _ (below_later hb (Nat.le_refl _)) ?_
              clear hK K
              have hT7 := hide (hT6.out.below hb)
              have hb7 := hide (hb6.out.trans (hb.mono hb6.out.size))
              have hcv : ∀ w', Later (fun _ => False) w7 w' → (convert 40 9 v).run Try.prog w' = .ok (.string ⟨dz.has.toArray⟩) w' := fun w' hl => str_conv w' v _ (hv.bs.later0 hl)
              clear hv hb hT6 hb6
              try simp only [Act.put, List.setIfInBounds_toArray, List.set_cons_zero, List.set_cons_succ]
              repeat
                (first
                  | (show wpPlan _ _ _ _ ((true, _) :: _) _ _
                     refine plan_skip rfl (by rfl) ?_
                     simp only [Act.put, List.setIfInBounds_toArray, List.set_cons_zero, List.set_cons_succ])
                  | (show wpPlan _ _ _ _ ((false, _) :: _) _ _
                     refine plan_skip_eff (later_refl _) rfl (by rfl) ?_
                     simp only [Act.put, List.setIfInBounds_toArray, List.set_cons_zero, List.set_cons_succ])
                  | (show wpPlan _ _ _ _ ((true, _) :: _) _ _
                     refine plan_take (v := ?_) rfl (by rfl) (fun w' hw' => ?_) ?_
                     rotate_left
                     focus
                       go_simp
                       try with_reducible rfl
                       done
                     simp only [Act.put, List.setIfInBounds_toArray, List.set_cons_zero, List.set_cons_succ]))
              clear hcv
              refine plan_nil ?_
              go_wp2_with fail
              go_roundw
              case rel => exact ⟨k + 1, by omega, by go_num, dz, xz, _, rfl, hIz.out, hT7.out, by have := hwz.out; omega, hb7.out⟩
              case measure => simp [intOf]; omega
            · rw [if_neg hE0] at hI0
              have hIz := hide hI0.out
              have eE : (E == 0) = false := by simp [hE0]
              clear hE0 hI0
              go_wp2_with fail
              have hq : Q wz wz.drew := Q.drew (Q.refl _)
              have hT5 := hide (hTz.out.below (hq.below _))
              have hb5 := hide (hbz.out.trans (hq.below _))
              have ho := hide (hIz.out.off)
              have hh := hide (hIz.out.has)
              clear hq hTz hbz
              refine region_plan [(true, 0), (true, 1), (true, 2), (true, 3), (true, 4), (true, 6), (false, 5), (false, 7), (true, 8), (true, 9), (true, 10), (true, 11), (true, 14), (false, 12), (true, 13), (false, 15), (true, 16), (true, 17), (true, 18)] (Later fun _ => False) (later_refl _) (later_trans _) (by kernel_rfl) (by kernel_rfl) (fun _ _ d _ _ h => by cases d <;> exact h) ?_
              repeat
                (first
                  | (show wpPlan _ _ _ _ ((true, _) :: _) _ _
                     refine plan_skip rfl (by rfl) ?_
                     simp only [Act.put, List.setIfInBounds_toArray, List.set_cons_zero, List.set_cons_succ])
                  | (show wpPlan _ _ _ _ ((false, _) :: _) _ _
                     refine plan_skip_eff (later_refl _) rfl (by rfl) ?_
                     simp only [Act.put, List.setIfInBounds_toArray, List.set_cons_zero, List.set_cons_succ])
                  | (show wpPlan _ _ _ _ ((true, _) :: _) _ _
                     refine plan_take (v := ?_) rfl (by rfl) (fun w' hw' => ?_) ?_
                     rotate_left
                     focus
                       go_simp
                       try with_reducible rfl
                       done
                     simp only [Act.put, List.setIfInBounds_toArray, List.set_cons_zero, List.set_cons_succ]))
              refine plan_eff rfl (by rfl) (fun K hK => ?_)
              go_wp2_with fail
              refine hT5.out.on1.mono ?_
              rintro e w5 ⟨rfl, rfl⟩
              refine hK _ _ (later_refl _ _) ?_
              clear hK K
              try simp only [Act.put, List.setIfInBounds_toArray, List.set_cons_zero, List.set_cons_succ]
              repeat
                (first
                  | (show wpPlan _ _ _ _ ((true, _) :: _) _ _
                     refine plan_skip rfl (by rfl) ?_
                     simp only [Act.put, List.setIfInBounds_toArray, List.set_cons_zero, List.set_cons_succ])
                  | (show wpPlan _ _ _ _ ((false, _) :: _) _ _
                     refine plan_skip_eff (later_refl _) rfl (by rfl) ?_
                     simp only [Act.put, List.setIfInBounds_toArray, List.set_cons_zero, List.set_cons_succ])
                  | (show wpPlan _ _ _ _ ((true, _) :: _) _ _
                     refine plan_take (v := ?_) rfl (by rfl) (fun w' hw' => ?_) ?_
                     rotate_left
                     focus
                       go_simp
                       try with_reducible rfl
                       done
                     simp only [Act.put, List.setIfInBounds_toArray, List.set_cons_zero, List.set_cons_succ]))
              refine plan_eff rfl (by rfl) (fun K hK => ?_)
              go_wp2_with fail
              refine hT5.out.symm.on1.mono ?_
              rintro e w5 ⟨rfl, rfl⟩
              rw [← ho.out]
              refine hK _ _ (later_refl _ _) ?_
              clear hK K
              try simp only [Act.put, List.setIfInBounds_toArray, List.set_cons_zero, List.set_cons_succ]
              repeat
                (first
                  | (show wpPlan _ _ _ _ ((true, _) :: _) _ _
                     refine plan_skip rfl (by rfl) ?_
                     simp only [Act.put, List.setIfInBounds_toArray, List.set_cons_zero, List.set_cons_succ])
                  | (show wpPlan _ _ _ _ ((false, _) :: _) _ _
                     refine plan_skip_eff (later_refl _) rfl (by rfl) ?_
                     simp only [Act.put, List.setIfInBounds_toArray, List.set_cons_zero, List.set_cons_succ])
                  | (show wpPlan _ _ _ _ ((true, _) :: _) _ _
                     refine plan_take (v := ?_) rfl (by rfl) (fun w' hw' => ?_) ?_
                     rotate_left
                     focus
                       go_simp
                       try with_reducible rfl
                       done
                     simp only [Act.put, List.setIfInBounds_toArray, List.set_cons_zero, List.set_cons_succ]))
              refine plan_eff rfl (by rfl) (fun K hK => ?_)
              go_wp2_with fail
              refine hT5.out.image1.mono ?_
              rintro e w6 ⟨u, rfl, hu, hb⟩
              refine hK _ _ (below_later hb (Nat.le_refl _)) ?_
              clear hK K
              have hT6 := hide (hT5.out.below hb)
              have hb6 := hide (hb5.out.trans (hb.mono hb5.out.size))
              have hcu : ∀ w', Later (fun _ => False) w6 w' → (convert 40 9 u).run Try.prog w' = .ok (.string ⟨dz.has.toArray⟩) w' := fun w' hl => str_conv w' u _ (hu.bs.later0 hl)
              clear hu hb hT5 hb5
              try simp only [Act.put, List.setIfInBounds_toArray, List.set_cons_zero, List.set_cons_succ]
              repeat
                (first
                  | (show wpPlan _ _ _ _ ((true, _) :: _) _ _
                     refine plan_skip rfl (by rfl) ?_
                     simp only [Act.put, List.setIfInBounds_toArray, List.set_cons_zero, List.set_cons_succ])
                  | (show wpPlan _ _ _ _ ((false, _) :: _) _ _
                     refine plan_skip_eff (later_refl _) rfl (by rfl) ?_
                     simp only [Act.put, List.setIfInBounds_toArray, List.set_cons_zero, List.set_cons_succ])
                  | (show wpPlan _ _ _ _ ((true, _) :: _) _ _
                     refine plan_take (v := ?_) rfl (by rfl) (fun w' hw' => ?_) ?_
                     rotate_left
                     focus
                       go_simp
                       try with_reducible rfl
                       done
                     simp only [Act.put, List.setIfInBounds_toArray, List.set_cons_zero, List.set_cons_succ]))
              clear hcu
              refine plan_eff rfl (by rfl) (fun K hK => ?_)
              go_wp2_with fail
              refine hT6.out.symm.image1.mono ?_
              rintro e w7 ⟨v, rfl, hv, hb⟩
              rw [← hh.out] at hv
              refine hK _ _ (below_later hb (Nat.le_refl _)) ?_
              clear hK K
              have hT7 := hide (hT6.out.below hb)
              have hb7 := hide (hb6.out.trans (hb.mono hb6.out.size))
              have hcv : ∀ w', Later (fun _ => False) w7 w' → (convert 40 9 v).run Try.prog w' = .ok (.string ⟨dz.has.toArray⟩) w' := fun w' hl => str_conv w' v _ (hv.bs.later0 hl)
              clear hv hb hT6 hb6
              try simp only [Act.put, List.setIfInBounds_toArray, List.set_cons_zero, List.set_cons_succ]
              repeat
                (first
                  | (show wpPlan _ _ _ _ ((true, _) :: _) _ _
                     refine plan_skip rfl (by rfl) ?_
                     simp only [Act.put, List.setIfInBounds_toArray, List.set_cons_zero, List.set_cons_succ])
                  | (show wpPlan _ _ _ _ ((false, _) :: _) _ _
                     refine plan_skip_eff (later_refl _) rfl (by rfl) ?_
                     simp only [Act.put, List.setIfInBounds_toArray, List.set_cons_zero, List.set_cons_succ])
                  | (show wpPlan _ _ _ _ ((true, _) :: _) _ _
                     refine plan_take (v := ?_) rfl (by rfl) (fun w' hw' => ?_) ?_
                     rotate_left
                     focus
                       go_simp
                       try with_reducible rfl
                       done
                     simp only [Act.put, List.setIfInBounds_toArray, List.set_cons_zero, List.set_cons_succ]))
              clear hcv
              refine plan_nil ?_
              go_wp2_with fail
              go_roundw
              case rel => exact ⟨k + 1, by omega, by go_num, dz, xz, _, rfl, hIz.out, hT7.out, by have := hwz.out; omega, hb7.out⟩
              case measure => simp [intOf]; omega
          · have el : (left == 0) = true := by simp [hl0]
            have ea1 : decide (0 ≤ a.at_) = true := decide_eq_true h1
            have ea2 : decide (a.at_ < 4) = false := decide_eq_false h2
            clear hl0 h1 h2
            go_wp2_with fail
            generalize hwa : wr.alloc (.cells #[.int .i64 a.do_, .int .i64 a.at_, .int .i64 a.off, .int .u8 (a.fill.toNat : Int), .slice A4 n4 n4c] 51) = wb at *
            clear hwa
            have hx1 := hide hx0.out
            have hd1 := hide hd0.out
            have hbb := hide hba.out
            have hbox := hide (show ∀ w', Later (fun y => B1 y ∨ B2 y) wb w' → w'.cell? ⟨wr.heap.size, 1, none⟩ = some (.int .i64 a.at_) ∧ w'.cell? ⟨wr.heap.size, 3, none⟩ = some (.int .u8 (a.fill.toNat : Int)) from fun w' hl => by
              have hnb : ¬ (B1 wr.heap.size ∨ B2 wr.heap.size) := fun e => by rcases e with e | e; have := (k3'.out _ e).2; omega; have := (k4'.out _ e).2; omega
              exact ⟨(Later.cell hl hsa hnb).1.trans (cell_of_row _ _ 1 _ _ _ hnew.out), (Later.cell hl hsa hnb).1.trans (cell_of_row _ _ 3 _ _ _ hnew.out)⟩)
            have sb : wr.heap.size ≤ wb.heap.size := by omega
            have hxw1 := hide hxw.out
            clear hd0 hx0 hba hnew hka hxw hxc
            have hq : Q wb wb.drew := Q.drew (Q.refl _)
            have hLq : Later (fun y => B1 y ∨ B2 y) wb wb.drew := later_drew wb
            have f1 : ∀ w', Later (fun y => B1 y ∨ B2 y) wb.drew w' → w'.cell? ⟨wr.heap.size, 1, none⟩ = some (.int .i64 a.at_) := fun w' hl => (hbox.out w' (later_trans _ _ _ _ hLq hl)).1
            have f3 : ∀ w', Later (fun y => B1 y ∨ B2 y) wb.drew w' → w'.cell? ⟨wr.heap.size, 3, none⟩ = some (.int .u8 (a.fill.toNat : Int)) := fun w' hl => (hbox.out w' (later_trans _ _ _ _ hLq hl)).2
            have hd2 := hide (hd1.out.below (hq.below _))
            have hx2 := hide (hx1.out.below (hq.below _))
            have hb2 := hide (hbb.out.trans (hq.below _))
            have sb2 : wr.heap.size ≤ wb.drew.heap.size := sb
            have hlq := hide hLq
            clear hq hLq hd1 hx1 hbb hbox
            refine region_plan [(true, 0), (true, 1), (true, 2), (true, 3), (true, 4), (true, 7), (true, 8), (true, 9), (true, 10), (true, 11), (false, 5), (false, 6), (false, 12), (false, 13), (true, 14), (true, 15)] (Later fun y => B1 y ∨ B2 y) (later_refl _) (later_trans _) (by kernel_rfl) (by kernel_rfl) (fun _ _ d _ _ h => by cases d <;> exact h) ?_
            repeat
              (first
                | (show wpPlan _ _ _ _ ((true, _) :: _) _ _
                   refine plan_skip rfl (by rfl) ?_
                   simp only [Act.put, List.setIfInBounds_toArray, List.set_cons_zero, List.set_cons_succ])
                | (show wpPlan _ _ _ _ ((false, _) :: _) _ _
                   refine plan_skip_eff (later_refl _) rfl (by rfl) ?_
                   simp only [Act.put, List.setIfInBounds_toArray, List.set_cons_zero, List.set_cons_succ])
                | (show wpPlan _ _ _ _ ((true, _) :: _) _ _
                   refine plan_take (v := ?_) rfl (by rfl) (fun w' hw' => ?_) ?_
                   rotate_left
                   focus
                     go_simp
                     try with_reducible rfl
                     done
                   simp only [Act.put, List.setIfInBounds_toArray, List.set_cons_zero, List.set_cons_succ]))
            clear f1 f3
            refine plan_eff rfl (by rfl) (fun K hK => ?_)
            go_wp2_with fail
            refine (sector_any a.fill 0 wb.drew).mono ?_
            rintro e wc ⟨s1, rfl, hs1, hb⟩
            refine hK _ _ (later_false' (below_later hb (Nat.le_refl _))) ?_
            clear hK K
            rw [sec0] at hs1
            have hs1' := hide hs1
            have hd3 := hide (hd2.out.below hb)
            have hx3 := hide (hx2.out.below hb)
            have hb3 := hide (hb2.out.trans (hb.mono hb2.out.size))
            have sc := hb.size
            clear hs1 hb hd2 hx2 hb2
            try simp only [Act.put, List.setIfInBounds_toArray, List.set_cons_zero, List.set_cons_succ]
            repeat
              (first
                | (show wpPlan _ _ _ _ ((true, _) :: _) _ _
                   refine plan_skip rfl (by rfl) ?_
                   simp only [Act.put, List.setIfInBounds_toArray, List.set_cons_zero, List.set_cons_succ])
                | (show wpPlan _ _ _ _ ((false, _) :: _) _ _
                   refine plan_skip_eff (later_refl _) rfl (by rfl) ?_
                   simp only [Act.put, List.setIfInBounds_toArray, List.set_cons_zero, List.set_cons_succ])
                | (show wpPlan _ _ _ _ ((true, _) :: _) _ _
                   refine plan_take (v := ?_) rfl (by rfl) (fun w' hw' => ?_) ?_
                   rotate_left
                   focus
                     go_simp
                     try with_reducible rfl
                     done
                   simp only [Act.put, List.setIfInBounds_toArray, List.set_cons_zero, List.set_cons_succ]))
            refine plan_eff rfl (by rfl) (fun K hK => ?_)
            go_wp2_with fail
            refine (hd3.out.write_ a.at_ s1 _ (fun y hy e => by have := (hs1'.out.lt y hy).1; have := (k3'.out y e).2; omega) hs1'.out.bs (by have := hwn.out; omega)).mono ?_
            rintro e wd ⟨rfl, hD, hT⟩
            refine hK _ _ (later_mono hT.2 (fun _ e => .inl e)) ?_
            clear hK K
            have hd4 := hide hD
            have hx4 := hide (hx3.out.later hT.2 (fun y hy e => k5'.out y e hy))
            have hb4 := hide (hb3.out.trans (hT.below hb3.out.size (fun y hy e => by have := (k3'.out y e).1; omega)))
            have sd := hT.size
            clear hD hT hd3 hx3 hb3 hs1'
            try simp only [Act.put, List.setIfInBounds_toArray, List.set_cons_zero, List.set_cons_succ]
            repeat
              (first
                | (show wpPlan _ _ _ _ ((true, _) :: _) _ _
                   refine plan_skip rfl (by rfl) ?_
                   simp only [Act.put, List.setIfInBounds_toArray, List.set_cons_zero, List.set_cons_succ])
                | (show wpPlan _ _ _ _ ((false, _) :: _) _ _
                   refine plan_skip_eff (later_refl _) rfl (by rfl) ?_
                   simp only [Act.put, List.setIfInBounds_toArray, List.set_cons_zero, List.set_cons_succ])
                | (show wpPlan _ _ _ _ ((true, _) :: _) _ _
                   refine plan_take (v := ?_) rfl (by rfl) (fun w' hw' => ?_) ?_
                   rotate_left
                   focus
                     go_simp
                     try with_reducible rfl
                     done
                   simp only [Act.put, List.setIfInBounds_toArray, List.set_cons_zero, List.set_cons_succ]))
            refine plan_eff rfl (by rfl) (fun K hK => ?_)
            go_wp2_with fail
            refine (sector_any a.fill 0 wd).mono ?_
            rintro e we ⟨s2, rfl, hs2, hb⟩
            refine hK _ _ (later_false' (below_later hb (Nat.le_refl _))) ?_
            clear hK K
            rw [sec0] at hs2
            have hs2' := hide hs2
            have hd5 := hide (hd4.out.below hb)
            have hx5 := hide (hx4.out.below hb)
            have hb5 := hide (hb4.out.trans (hb.mono hb4.out.size))
            have se := hb.size
            clear hs2 hb hd4 hx4 hb4
            try simp only [Act.put, List.setIfInBounds_toArray, List.set_cons_zero, List.set_cons_succ]
            repeat
              (first
                | (show wpPlan _ _ _ _ ((true, _) :: _) _ _
                   refine plan_skip rfl (by rfl) ?_
                   simp only [Act.put, List.setIfInBounds_toArray, List.set_cons_zero, List.set_cons_succ])
                | (show wpPlan _ _ _ _ ((false, _) :: _) _ _
                   refine plan_skip_eff (later_refl _) rfl (by rfl) ?_
                   simp only [Act.put, List.setIfInBounds_toArray, List.set_cons_zero, List.set_cons_succ])
                | (show wpPlan _ _ _ _ ((true, _) :: _) _ _
                   refine plan_take (v := ?_) rfl (by rfl) (fun w' hw' => ?_) ?_
                   rotate_left
                   focus
                     go_simp
                     try with_reducible rfl
                     done
                   simp only [Act.put, List.setIfInBounds_toArray, List.set_cons_zero, List.set_cons_succ]))
            refine plan_eff rfl (by rfl) (fun K hK => ?_)
            go_wp2_with fail
            refine (hx5.out.write_ a.at_ s2 _ (fun y hy e => by have := (hs2'.out.lt y hy).1; have := (k4'.out y e).2; omega) hs2'.out.bs (by have := hxw1.out; omega)).mono ?_
            rintro e wz ⟨rfl, hD, hT⟩
            refine hK _ _ (later_mono hT.2 (fun _ e => .inr e)) ?_
            clear hK K
            have sz := hT.size
            have hTz := hide (show Two w.heap.size wz gd gx _ _ from ⟨_, _, hd5.out.later hT.2 (fun y hy e => by rcases hy with hy | hy; exact k5'.out y hy e; have := (k4'.out y e).2; omega), hD,
              fun y hy => by
                rcases hy with hy | hy
                · exact ⟨(k3'.out y hy).1, by have := (k3'.out y hy).2; omega⟩
                · exact ⟨by omega, by omega⟩,
              fun y hy => by
                rcases hy with hy | hy
                · exact ⟨(k4'.out y hy).1, by have := (k4'.out y hy).2; omega⟩
                · exact ⟨by omega, by omega⟩,
              fun y h1 h2 => by
                rcases h1 with h1 | h1 <;> rcases h2 with h2 | h2
                · exact k5'.out y h1 h2
                · have := (k3'.out y h1).2; omega
                · have := (k4'.out y h2).2; omega
                · omega⟩)
            have hbz := hide (hb5.out.trans (hT.below hb5.out.size (fun y hy e => by have := (k4'.out y e).1; omega)))
            clear hD hT hd5 hx5 hb5 hs2' k3' k4' k5'
            obtain ⟨hI0, hEq⟩ := hIw.out (List.replicate 64 a.fill) (by simp)
            rw [hcr'.out] at hI0 hEq
            rw [← hEq]
            have hwz := hide (show (d.write a.at_ (List.replicate 64 a.fill)).1.waits.length ≤ k + 1 by have := hfw.out (List.replicate 64 a.fill); have := hwn.out; omega)
            clear hIw hfw hEq hwn hxw1
            generalize (d.write a.at_ (List.replicate 64 a.fill)).2 = E at *
            generalize (d.write a.at_ (List.replicate 64 a.fill)).1 = dz at *
            generalize ((x).write a.at_ (List.replicate 64 a.fill)).1 = xz at *
            have hI0 := hide hI0
            try simp only [Act.put, List.setIfInBounds_toArray, List.set_cons_zero, List.set_cons_succ]
            repeat
              (first
                | (show wpPlan _ _ _ _ ((true, _) :: _) _ _
                   refine plan_skip rfl (by rfl) ?_
                   simp only [Act.put, List.setIfInBounds_toArray, List.set_cons_zero, List.set_cons_succ])
                | (show wpPlan _ _ _ _ ((false, _) :: _) _ _
                   refine plan_skip_eff (later_refl _) rfl (by rfl) ?_
                   simp only [Act.put, List.setIfInBounds_toArray, List.set_cons_zero, List.set_cons_succ])
                | (show wpPlan _ _ _ _ ((true, _) :: _) _ _
                   refine plan_take (v := ?_) rfl (by rfl) (fun w' hw' => ?_) ?_
                   rotate_left
                   focus
                     go_simp
                     try with_reducible rfl
                     done
                   simp only [Act.put, List.setIfInBounds_toArray, List.set_cons_zero, List.set_cons_succ]))
            refine plan_nil ?_
            by_cases hE0 : E = 0
            · rw [if_pos hE0] at hI0
              have hIz := hide hI0.out
              have eE : (E == 0) = true := by simp [hE0]
              clear hE0 hI0
              go_wp2_with fail
              have hq : Q wz wz.drew := Q.drew (Q.refl _)
              have hT5 := hide (hTz.out.below (hq.below _))
              have hb5 := hide (hbz.out.trans (hq.below _))
              have ho := hide (hIz.out.off)
              have hh := hide (hIz.out.has)
              clear hq hTz hbz
              refine region_plan [(true, 0), (true, 1), (true, 2), (true, 3), (true, 4), (true, 6), (false, 5), (false, 7), (true, 8), (true, 9), (true, 10), (true, 11), (true, 14), (false, 12), (true, 13), (false, 15), (true, 16), (true, 17), (true, 18)] (Later fun _ => False) (later_refl _) (later_trans _) (by kernel_rfl) (by kernel_rfl) (fun _ _ d _ _ h => by cases d <;> exact h) ?_
              repeat
                (first
                  | (show wpPlan _ _ _ _ ((true, _) :: _) _ _
                     refine plan_skip rfl (by rfl) ?_
                     simp only [Act.put, List.setIfInBounds_toArray, List.set_cons_zero, List.set_cons_succ])
                  | (show wpPlan _ _ _ _ ((false, _) :: _) _ _
                     refine plan_skip_eff (later_refl _) rfl (by rfl) ?_
                     simp only [Act.put, List.setIfInBounds_toArray, List.set_cons_zero, List.set_cons_succ])
                  | (show wpPlan _ _ _ _ ((true, _) :: _) _ _
                     refine plan_take (v := ?_) rfl (by rfl) (fun w' hw' => ?_) ?_
                     rotate_left
                     focus
                       go_simp
                       try with_reducible rfl
                       done
                     simp only [Act.put, List.setIfInBounds_toArray, List.set_cons_zero, List.set_cons_succ]))
              refine plan_eff rfl (by rfl) (fun K hK => ?_)
              go_wp2_with fail
              refine hT5.out.on1.mono ?_
              rintro e w5 ⟨rfl, rfl⟩
              refine hK _ _ (later_refl _ _) ?_
              clear hK K
              try simp only [Act.put, List.setIfInBounds_toArray, List.set_cons_zero, List.set_cons_succ]
              repeat
                (first
                  | (show wpPlan _ _ _ _ ((true, _) :: _) _ _
                     refine plan_skip rfl (by rfl) ?_
                     simp only [Act.put, List.setIfInBounds_toArray, List.set_cons_zero, List.set_cons_succ])
                  | (show wpPlan _ _ _ _ ((false, _) :: _) _ _
                     refine plan_skip_eff (later_refl _) rfl (by rfl) ?_
                     simp only [Act.put, List.setIfInBounds_toArray, List.set_cons_zero, List.set_cons_succ])
                  | (show wpPlan _ _ _ _ ((true, _) :: _) _ _
                     refine plan_take (v := ?_) rfl (by rfl) (fun w' hw' => ?_) ?_
                     rotate_left
                     focus
                       go_simp
                       try with_reducible rfl
                       done
                     simp only [Act.put, List.setIfInBounds_toArray, List.set_cons_zero, List.set_cons_succ]))
              refine plan_eff rfl (by rfl) (fun K hK => ?_)
              go_wp2_with fail
              refine hT5.out.symm.on1.mono ?_
              rintro e w5 ⟨rfl, rfl⟩
              rw [← ho.out]
              refine hK _ _ (later_refl _ _) ?_
              clear hK K
              try simp only [Act.put, List.setIfInBounds_toArray, List.set_cons_zero, List.set_cons_succ]
              repeat
                (first
                  | (show wpPlan _ _ _ _ ((true, _) :: _) _ _
                     refine plan_skip rfl (by rfl) ?_
                     simp only [Act.put, List.setIfInBounds_toArray, List.set_cons_zero, List.set_cons_succ])
                  | (show wpPlan _ _ _ _ ((false, _) :: _) _ _
                     refine plan_skip_eff (later_refl _) rfl (by rfl) ?_
                     simp only [Act.put, List.setIfInBounds_toArray, List.set_cons_zero, List.set_cons_succ])
                  | (show wpPlan _ _ _ _ ((true, _) :: _) _ _
                     refine plan_take (v := ?_) rfl (by rfl) (fun w' hw' => ?_) ?_
                     rotate_left
                     focus
                       go_simp
                       try with_reducible rfl
                       done
                     simp only [Act.put, List.setIfInBounds_toArray, List.set_cons_zero, List.set_cons_succ]))
              refine plan_eff rfl (by rfl) (fun K hK => ?_)
              go_wp2_with fail
              refine hT5.out.image1.mono ?_
              rintro e w6 ⟨u, rfl, hu, hb⟩
              refine hK _ _ (below_later hb (Nat.le_refl _)) ?_
              clear hK K
              have hT6 := hide (hT5.out.below hb)
              have hb6 := hide (hb5.out.trans (hb.mono hb5.out.size))
              have hcu : ∀ w', Later (fun _ => False) w6 w' → (convert 40 9 u).run Try.prog w' = .ok (.string ⟨dz.has.toArray⟩) w' := fun w' hl => str_conv w' u _ (hu.bs.later0 hl)
              clear hu hb hT5 hb5
              try simp only [Act.put, List.setIfInBounds_toArray, List.set_cons_zero, List.set_cons_succ]
              repeat
                (first
                  | (show wpPlan _ _ _ _ ((true, _) :: _) _ _
                     refine plan_skip rfl (by rfl) ?_
                     simp only [Act.put, List.setIfInBounds_toArray, List.set_cons_zero, List.set_cons_succ])
                  | (show wpPlan _ _ _ _ ((false, _) :: _) _ _
                     refine plan_skip_eff (later_refl _) rfl (by rfl) ?_
                     simp only [Act.put, List.setIfInBounds_toArray, List.set_cons_zero, List.set_cons_succ])
                  | (show wpPlan _ _ _ _ ((true, _) :: _) _ _
                     refine plan_take (v := ?_) rfl (by rfl) (fun w' hw' => ?_) ?_
                     rotate_left
                     focus
                       go_simp
                       try with_reducible rfl
                       done
                     simp only [Act.put, List.setIfInBounds_toArray, List.set_cons_zero, List.set_cons_succ]))
              clear hcu
              refine plan_eff rfl (by rfl) (fun K hK => ?_)
              go_wp2_with fail
              refine hT6.out.symm.image1.mono ?_
              rintro e w7 ⟨v, rfl, hv, hb⟩
              rw [← hh.out] at hv
              refine hK _ _ (below_later hb (Nat.le_refl _)) ?_
              clear hK K
              have hT7 := hide (hT6.out.below hb)
              have hb7 := hide (hb6.out.trans (hb.mono hb6.out.size))
              have hcv : ∀ w', Later (fun _ => False) w7 w' → (convert 40 9 v).run Try.prog w' = .ok (.string ⟨dz.has.toArray⟩) w' := fun w' hl => str_conv w' v _ (hv.bs.later0 hl)
              clear hv hb hT6 hb6
              try simp only [Act.put, List.setIfInBounds_toArray, List.set_cons_zero, List.set_cons_succ]
              repeat
                (first
                  | (show wpPlan _ _ _ _ ((true, _) :: _) _ _
                     refine plan_skip rfl (by rfl) ?_
                     simp only [Act.put, List.setIfInBounds_toArray, List.set_cons_zero, List.set_cons_succ])
                  | (show wpPlan _ _ _ _ ((false, _) :: _) _ _
                     refine plan_skip_eff (later_refl _) rfl (by rfl) ?_
                     simp only [Act.put, List.setIfInBounds_toArray, List.set_cons_zero, List.set_cons_succ])
                  | (show wpPlan _ _ _ _ ((true, _) :: _) _ _
                     refine plan_take (v := ?_) rfl (by rfl) (fun w' hw' => ?_) ?_
                     rotate_left
                     focus
                       go_simp
                       try with_reducible rfl
                       done
                     simp only [Act.put, List.setIfInBounds_toArray, List.set_cons_zero, List.set_cons_succ]))
              clear hcv
              refine plan_nil ?_
              go_wp2_with fail
              go_roundw
              case rel => exact ⟨k + 1, by omega, by go_num, dz, xz, _, rfl, hIz.out, hT7.out, by have := hwz.out; omega, hb7.out⟩
              case measure => simp [intOf]; omega
            · rw [if_neg hE0] at hI0
              have hIz := hide hI0.out
              have eE : (E == 0) = false := by simp [hE0]
              clear hE0 hI0
              go_wp2_with fail
              have hq : Q wz wz.drew := Q.drew (Q.refl _)
              have hT5 := hide (hTz.out.below (hq.below _))
              have hb5 := hide (hbz.out.trans (hq.below _))
              have ho := hide (hIz.out.off)
              have hh := hide (hIz.out.has)
              clear hq hTz hbz
              refine region_plan [(true, 0), (true, 1), (true, 2), (true, 3), (true, 4), (true, 6), (false, 5), (false, 7), (true, 8), (true, 9), (true, 10), (true, 11), (true, 14), (false, 12), (true, 13), (false, 15), (true, 16), (true, 17), (true, 18)] (Later fun _ => False) (later_refl _) (later_trans _) (by kernel_rfl) (by kernel_rfl) (fun _ _ d _ _ h => by cases d <;> exact h) ?_
              repeat
                (first
                  | (show wpPlan _ _ _ _ ((true, _) :: _) _ _
                     refine plan_skip rfl (by rfl) ?_
                     simp only [Act.put, List.setIfInBounds_toArray, List.set_cons_zero, List.set_cons_succ])
                  | (show wpPlan _ _ _ _ ((false, _) :: _) _ _
                     refine plan_skip_eff (later_refl _) rfl (by rfl) ?_
                     simp only [Act.put, List.setIfInBounds_toArray, List.set_cons_zero, List.set_cons_succ])
                  | (show wpPlan _ _ _ _ ((true, _) :: _) _ _
                     refine plan_take (v := ?_) rfl (by rfl) (fun w' hw' => ?_) ?_
                     rotate_left
                     focus
                       go_simp
                       try with_reducible rfl
                       done
                     simp only [Act.put, List.setIfInBounds_toArray, List.set_cons_zero, List.set_cons_succ]))
              refine plan_eff rfl (by rfl) (fun K hK => ?_)
              go_wp2_with fail
              refine hT5.out.on1.mono ?_
              rintro e w5 ⟨rfl, rfl⟩
              refine hK _ _ (later_refl _ _) ?_
              clear hK K
              try simp only [Act.put, List.setIfInBounds_toArray, List.set_cons_zero, List.set_cons_succ]
              repeat
                (first
                  | (show wpPlan _ _ _ _ ((true, _) :: _) _ _
                     refine plan_skip rfl (by rfl) ?_
                     simp only [Act.put, List.setIfInBounds_toArray, List.set_cons_zero, List.set_cons_succ])
                  | (show wpPlan _ _ _ _ ((false, _) :: _) _ _
                     refine plan_skip_eff (later_refl _) rfl (by rfl) ?_
                     simp only [Act.put, List.setIfInBounds_toArray, List.set_cons_zero, List.set_cons_succ])
                  | (show wpPlan _ _ _ _ ((true, _) :: _) _ _
                     refine plan_take (v := ?_) rfl (by rfl) (fun w' hw' => ?_) ?_
                     rotate_left
                     focus
                       go_simp
                       try with_reducible rfl
                       done
                     simp only [Act.put, List.setIfInBounds_toArray, List.set_cons_zero, List.set_cons_succ]))
              refine plan_eff rfl (by rfl) (fun K hK => ?_)
              go_wp2_with fail
              refine hT5.out.symm.on1.mono ?_
              rintro e w5 ⟨rfl, rfl⟩
              rw [← ho.out]
              refine hK _ _ (later_refl _ _) ?_
              clear hK K
              try simp only [Act.put, List.setIfInBounds_toArray, List.set_cons_zero, List.set_cons_succ]
              repeat
                (first
                  | (show wpPlan _ _ _ _ ((true, _) :: _) _ _
                     refine plan_skip rfl (by rfl) ?_
                     simp only [Act.put, List.setIfInBounds_toArray, List.set_cons_zero, List.set_cons_succ])
                  | (show wpPlan _ _ _ _ ((false, _) :: _) _ _
                     refine plan_skip_eff (later_refl _) rfl (by rfl) ?_
                     simp only [Act.put, List.setIfInBounds_toArray, List.set_cons_zero, List.set_cons_succ])
                  | (show wpPlan _ _ _ _ ((true, _) :: _) _ _
                     refine plan_take (v := ?_) rfl (by rfl) (fun w' hw' => ?_) ?_
                     rotate_left
                     focus
                       go_simp
                       try with_reducible rfl
                       done
                     simp only [Act.put, List.setIfInBounds_toArray, List.set_cons_zero, List.set_cons_succ]))
              refine plan_eff rfl (by rfl) (fun K hK => ?_)
              go_wp2_with fail
              refine hT5.out.image1.mono ?_
              rintro e w6 ⟨u, rfl, hu, hb⟩
              refine hK _ _ (below_later hb (Nat.le_refl _)) ?_
              clear hK K
              have hT6 := hide (hT5.out.below hb)
              have hb6 := hide (hb5.out.trans (hb.mono hb5.out.size))
              have hcu : ∀ w', Later (fun _ => False) w6 w' → (convert 40 9 u).run Try.prog w' = .ok (.string ⟨dz.has.toArray⟩) w' := fun w' hl => str_conv w' u _ (hu.bs.later0 hl)
              clear hu hb hT5 hb5
              try simp only [Act.put, List.setIfInBounds_toArray, List.set_cons_zero, List.set_cons_succ]
              repeat
                (first
                  | (show wpPlan _ _ _ _ ((true, _) :: _) _ _
                     refine plan_skip rfl (by rfl) ?_
                     simp only [Act.put, List.setIfInBounds_toArray, List.set_cons_zero, List.set_cons_succ])
                  | (show wpPlan _ _ _ _ ((false, _) :: _) _ _
                     refine plan_skip_eff (later_refl _) rfl (by rfl) ?_
                     simp only [Act.put, List.setIfInBounds_toArray, List.set_cons_zero, List.set_cons_succ])
                  | (show wpPlan _ _ _ _ ((true, _) :: _) _ _
                     refine plan_take (v := ?_) rfl (by rfl) (fun w' hw' => ?_) ?_
                     rotate_left
                     focus
                       go_simp
                       try with_reducible rfl
                       done
                     simp only [Act.put, List.setIfInBounds_toArray, List.set_cons_zero, List.set_cons_succ]))
              clear hcu
              refine plan_eff rfl (by rfl) (fun K hK => ?_)
              go_wp2_with fail
              refine hT6.out.symm.image1.mono ?_
              rintro e w7 ⟨v, rfl, hv, hb⟩
              rw [← hh.out] at hv
              refine hK _ _ (below_later hb (Nat.le_refl _)) ?_
              clear hK K
              have hT7 := hide (hT6.out.below hb)
              have hb7 := hide (hb6.out.trans (hb.mono hb6.out.size))
              have hcv : ∀ w', Later (fun _ => False) w7 w' → (convert 40 9 v).run Try.prog w' = .ok (.string ⟨dz.has.toArray⟩) w' := fun w' hl => str_conv w' v _ (hv.bs.later0 hl)
              clear hv hb hT6 hb6
              try simp only [Act.put, List.setIfInBounds_toArray, List.set_cons_zero, List.set_cons_succ]
              repeat
                (first
                  | (show wpPlan _ _ _ _ ((true, _) :: _) _ _
                     refine plan_skip rfl (by rfl) ?_
                     simp only [Act.put, List.setIfInBounds_toArray, List.set_cons_zero, List.set_cons_succ])
                  | (show wpPlan _ _ _ _ ((false, _) :: _) _ _
                     refine plan_skip_eff (later_refl _) rfl (by rfl) ?_
                     simp only [Act.put, List.setIfInBounds_toArray, List.set_cons_zero, List.set_cons_succ])
                  | (show wpPlan _ _ _ _ ((true, _) :: _) _ _
                     refine plan_take (v := ?_) rfl (by rfl) (fun w' hw' => ?_) ?_
                     rotate_left
                     focus
                       go_simp
                       try with_reducible rfl
                       done
                     simp only [Act.put, List.setIfInBounds_toArray, List.set_cons_zero, List.set_cons_succ]))
              clear hcv
              refine plan_nil ?_
              go_wp2_with fail
              go_roundw
              case rel => exact ⟨k + 1, by omega, by go_num, dz, xz, _, rfl, hIz.out, hT7.out, by have := hwz.out; omega, hb7.out⟩
              case measure => simp [intOf]; omega
    · obtain rfl : 40 = k := by omega
      clear hIn hTn hwn
      go_wp2_with fail
      refine (awake05 wr).mono ?_
      rintro e w4 ⟨rfl, hb⟩
      have hb4 := hide (hbn.out.trans (hb.mono hbs))
      clear hb hbn
      go_wp2_with fail
      go_ret
      exact ⟨rfl, hb4.out⟩
end Go.Proofs.Ytamkngpkplflcaa
