/- The law DiskSizes walked. -/
import Derived.Test.YtamkngpkplflcaaDiskAwake
namespace Go.Proofs.Ytamkngpkplflcaa
open Go.RowKit

theorem newDk_sector (n k : Nat) (h : k < n) : (newDk n).sector k = List.replicate 64 0 := by
  unfold Dk.sector newDk
  simp only [List.drop_replicate, List.take_replicate]
  congr 1
  omega

set_option maxRecDepth 100000 in
theorem diskSizes_bad (n : Int) (h : n < 1 ∨ 256 < n) (w : World) :
    Calls Try.prog 5 #[.int .i64 n] w fun e w' => e = .returned (.bool true) ∧ Below w.heap.size w w' := by
  have h' := hide h
  have hp : n < 1 ∨ (¬ n < 1 ∧ 256 < n) := by omega
  clear h
  rcases hp with h | ⟨h, h2⟩
  all_goals
    go_enter Try.func5, Try.ntmps5
    go_wp2_with fail
    refine (dnew_bad n h'.out w).mono ?_
    rintro e w1 ⟨rfl, rfl⟩
    go_wp2_with fail
    refine (awake05 _).mono ?_
    rintro e w2 ⟨rfl, hb⟩
    have hb' := hide hb
    clear hb
    go_wp2_with fail
    go_ret
    exact ⟨rfl, hb'.out⟩

set_option maxRecDepth 100000 in
set_option maxHeartbeats 1000000 in
theorem diskSizes_ok (n : Nat) (h1 : 1 ≤ n) (h2 : n ≤ 256) (w : World) :
    Calls Try.prog 5 #[.int .i64 n] w fun e w' => e = .returned (.bool true) ∧ Below w.heap.size w w' := by
  obtain ⟨m, rfl⟩ : ∃ m, n = m + 1 := ⟨n - 1, by omega⟩
  have i1 : ¬ ((m + 1 : Nat) : Int) < 1 := by omega
  have i2 : ¬ (256 : Int) < ((m + 1 : Nat) : Int) := by omega
  have hsub := hide (show ((m + 1 : Nat) : Int) - 1 = (m : Int) by omega)
  go_enter Try.func5, Try.ntmps5
  go_wp2_with fail
  refine (dnew_dsk (m + 1) h1 h2 w).mono ?_
  rintro e w1 ⟨g, rfl, hg, hD, hb⟩
  have hD1 := hide hD
  have hb1 := hide hb
  clear hD hb
  go_wp2_with fail
  refine (hD1.out.has_ m (by simp [newDk])).mono ?_
  rintro e w2 ⟨b, rfl, hbb, hb⟩
  rw [newDk_sector _ _ (Nat.lt_succ_self m)] at hbb
  have hbb2 := hide hbb
  have hD2 := hide (hD1.out.below hb)
  have hb2 := hide (hb1.out.trans (hb.mono hb1.out.size))
  clear hbb hb hD1 hb1
  go_wp2_with fail
  refine (hD2.out.hasNot_ _ (by simp [newDk])).mono ?_
  rintro e w3 ⟨rfl, rfl⟩
  go_wp2_with fail
  have hq : Q w3 w3.drew := Q.drew (Q.refl _)
  have hD3 := hide (hD2.out.below (hq.below _))
  have hb3 := hide (hb2.out.trans (hq.below _))
  have hbb3 := hide (hbb2.out.below (hq.below _))
  clear hq hD2 hb2 hbb2
  have e4 : ((((m + 1 : Nat) : Int)) == ((m + 1 : Nat) : Int)) = true := by simp
  have e5 : (((m : Int) + 1) == (m : Int) + 1) = true := by simp
  have hcb : ∀ w', Later (fun _ => False) w3.drew w' → (convert 40 9 b).run Try.prog w' = .ok (.string ⟨(List.replicate 64 (0 : UInt8)).toArray⟩) w' := fun w' hl => str_conv w' b _ (hbb3.out.bs.later0 hl)
  refine region_plan [(true, 0), (true, 1), (true, 2), (true, 3), (true, 5), (false, 4), (true, 6), (true, 7), (true, 8), (true, 9), (false, 10), (true, 11), (true, 12), (true, 13), (true, 16), (true, 17), (false, 14), (true, 15), (true, 18), (true, 19), (true, 20), (true, 21), (true, 22), (false, 23), (true, 24), (true, 25), (true, 26), (true, 27), (true, 28), (true, 29), (true, 30), (true, 31), (true, 32), (true, 33), (true, 34), (false, 35), (true, 36), (true, 37)] (Later fun _ => False) (later_refl _) (later_trans _) (by kernel_rfl) (by kernel_rfl) (fun _ _ d _ _ h => by cases d <;> exact h) ?_
  repeat
    (first
      | (show wpPlan _ _ _ _ ((true, _) :: _) _ _
         refine plan_skip rfl (by rfl) ?_
         simp only [Act.put, List.setIfInBounds_toArray, List.set_cons_zero, List.set_cons_succ])
      | (show wpPlan _ _ _ _ ((false, _) :: _) _ _
         refine plan_skip_eff (later_refl _) rfl (by rfl) ?_
         simp only [Act.put, List.setIfInBounds_toArray, List.set_cons_zero, List.set_cons_succ])
      | (show wpPlan _ _ _ _ ((true, _) :: _) _ _
         refine plan_take (v := ?_) rfl (by rfl) (fun w' hw' => ?_) ?_
         rotate_left
         focus
           go_simp
           try with_reducible rfl
           done
         simp only [Act.put, List.setIfInBounds_toArray, List.set_cons_zero, List.set_cons_succ]))
  refine plan_eff rfl (by rfl) (fun K hK => ?_)
  go_wp2_with fail
  refine hD3.out.size_.mono ?_
  rintro e w4 ⟨rfl, rfl⟩
  rw [show (newDk (m + 1)).n = m + 1 from rfl]
  refine hK _ _ (later_refl _ _) ?_
  clear hK K
  try simp only [Act.put, List.setIfInBounds_toArray, List.set_cons_zero, List.set_cons_succ]
  repeat
    (first
      | (show wpPlan _ _ _ _ ((true, _) :: _) _ _
         refine plan_skip rfl (by rfl) ?_
         simp only [Act.put, List.setIfInBounds_toArray, List.set_cons_zero, List.set_cons_succ])
      | (show wpPlan _ _ _ _ ((false, _) :: _) _ _
         refine plan_skip_eff (later_refl _) rfl (by rfl) ?_
         simp only [Act.put, List.setIfInBounds_toArray, List.set_cons_zero, List.set_cons_succ])
      | (show wpPlan _ _ _ _ ((true, _) :: _) _ _
         refine plan_take (v := ?_) rfl (by rfl) (fun w' hw' => ?_) ?_
         rotate_left
         focus
           go_simp
           try with_reducible rfl
           done
         simp only [Act.put, List.setIfInBounds_toArray, List.set_cons_zero, List.set_cons_succ]))
  refine plan_eff rfl (by rfl) (fun K hK => ?_)
  go_wp2_with fail
  refine hD3.out.on_.mono ?_
  rintro e w4 ⟨rfl, rfl⟩
  rw [show (!(newDk (m + 1)).off) = true from rfl]
  refine hK _ _ (later_refl _ _) ?_
  clear hK K
  try simp only [Act.put, List.setIfInBounds_toArray, List.set_cons_zero, List.set_cons_succ]
  repeat
    (first
      | (show wpPlan _ _ _ _ ((true, _) :: _) _ _
         refine plan_skip rfl (by rfl) ?_
         simp only [Act.put, List.setIfInBounds_toArray, List.set_cons_zero, List.set_cons_succ])
      | (show wpPlan _ _ _ _ ((false, _) :: _) _ _
         refine plan_skip_eff (later_refl _) rfl (by rfl) ?_
         simp only [Act.put, List.setIfInBounds_toArray, List.set_cons_zero, List.set_cons_succ])
      | (show wpPlan _ _ _ _ ((true, _) :: _) _ _
         refine plan_take (v := ?_) rfl (by rfl) (fun w' hw' => ?_) ?_
         rotate_left
         focus
           go_simp
           try with_reducible rfl
           done
         simp only [Act.put, List.setIfInBounds_toArray, List.set_cons_zero, List.set_cons_succ]))
  refine plan_eff rfl (by rfl) (fun K hK => ?_)
  go_wp2_with fail
  refine hD3.out.image_.mono ?_
  rintro e w4 ⟨u, rfl, hu, hb⟩
  obtain ⟨A, c, rfl, _⟩ := hu.bs.open_
  rw [show (newDk (m + 1)).has.length = 64 * (m + 1) by simp [newDk]]
  refine hK _ _ (below_later hb (Nat.le_refl _)) ?_
  clear hK K
  have hb4 := hide (hb3.out.trans (hb.mono hb3.out.size))
  have hcb4 : ∀ w', Later (fun _ => False) w4 w' → (convert 40 9 b).run Try.prog w' = .ok (.string ⟨(List.replicate 64 (0 : UInt8)).toArray⟩) w' := fun w' hl => str_conv w' b _ ((hbb3.out.below hb).bs.later0 hl)
  have hmul : IntKind.i64.wrap (64 * ((m : Int) + 1)) = 64 * ((m : Int) + 1) := by rw [IntWalk.i64_in _ (by omega)]
  have hmul2 : IntKind.i64.wrap (64 * ((m + 1 : Nat) : Int)) = 64 * ((m : Int) + 1) := by rw [IntWalk.i64_in _ (by omega)]; omega
  have hc2 : ((64 * (m + 1) : Nat) : Int) = 64 * ((m : Int) + 1) := by omega
  clear hu hb hcb
  try simp only [Act.put, List.setIfInBounds_toArray, List.set_cons_zero, List.set_cons_succ]
  repeat
    (first
      | (show wpPlan _ _ _ _ ((true, _) :: _) _ _
         refine plan_skip rfl (by rfl) ?_
         simp only [Act.put, List.setIfInBounds_toArray, List.set_cons_zero, List.set_cons_succ])
      | (show wpPlan _ _ _ _ ((false, _) :: _) _ _
         refine plan_skip_eff (later_refl _) rfl (by rfl) ?_
         simp only [Act.put, List.setIfInBounds_toArray, List.set_cons_zero, List.set_cons_succ])
      | (show wpPlan _ _ _ _ ((true, _) :: _) _ _
         refine plan_take (v := ?_) rfl (by rfl) (fun w' hw' => ?_) ?_
         rotate_left
         focus
           go_simp
           try with_reducible rfl
           done
         simp only [Act.put, List.setIfInBounds_toArray, List.set_cons_zero, List.set_cons_succ]))
  refine plan_eff rfl (by rfl) (fun K hK => ?_)
  go_wp2_with fail
  refine (noughts_any _).mono ?_
  rintro e w5 ⟨rfl, rfl⟩
  refine hK _ _ (later_refl _ _) ?_
  clear hK K
  try simp only [Act.put, List.setIfInBounds_toArray, List.set_cons_zero, List.set_cons_succ]
  repeat
    (first
      | (show wpPlan _ _ _ _ ((true, _) :: _) _ _
         refine plan_skip rfl (by rfl) ?_
         simp only [Act.put, List.setIfInBounds_toArray, List.set_cons_zero, List.set_cons_succ])
      | (show wpPlan _ _ _ _ ((false, _) :: _) _ _
         refine plan_skip_eff (later_refl _) rfl (by rfl) ?_
         simp only [Act.put, List.setIfInBounds_toArray, List.set_cons_zero, List.set_cons_succ])
      | (show wpPlan _ _ _ _ ((true, _) :: _) _ _
         refine plan_take (v := ?_) rfl (by rfl) (fun w' hw' => ?_) ?_
         rotate_left
         focus
           go_simp
           try with_reducible rfl
           done
         simp only [Act.put, List.setIfInBounds_toArray, List.set_cons_zero, List.set_cons_succ]))
  refine plan_eff rfl (by rfl) (fun K hK => ?_)
  go_wp2_with fail
  refine (awake05 _).mono ?_
  rintro e w6 ⟨rfl, hb⟩
  refine hK _ _ (below_later hb (Nat.le_refl _)) ?_
  clear hK K
  have hb6 := hide (hb4.out.trans (hb.mono hb4.out.size))
  clear hb hcb4
  try simp only [Act.put, List.setIfInBounds_toArray, List.set_cons_zero, List.set_cons_succ]
  repeat
    (first
      | (show wpPlan _ _ _ _ ((true, _) :: _) _ _
         refine plan_skip rfl (by rfl) ?_
         simp only [Act.put, List.setIfInBounds_toArray, List.set_cons_zero, List.set_cons_succ])
      | (show wpPlan _ _ _ _ ((false, _) :: _) _ _
         refine plan_skip_eff (later_refl _) rfl (by rfl) ?_
         simp only [Act.put, List.setIfInBounds_toArray, List.set_cons_zero, List.set_cons_succ])
      | (show wpPlan _ _ _ _ ((true, _) :: _) _ _
         refine plan_take (v := ?_) rfl (by rfl) (fun w' hw' => ?_) ?_
         rotate_left
         focus
           go_simp
           try with_reducible rfl
           done
         simp only [Act.put, List.setIfInBounds_toArray, List.set_cons_zero, List.set_cons_succ]))
  refine plan_nil ?_
  go_wp2_with fail
  go_ret
  exact ⟨rfl, hb6.out⟩

theorem diskSizes_any (n : Int) (w : World) :
    Calls Try.prog 5 #[.int .i64 n] w fun e w' => e = .returned (.bool true) ∧ Below w.heap.size w w' := by
  by_cases h : n < 1 ∨ 256 < n
  · exact diskSizes_bad n h w
  · obtain ⟨k, rfl⟩ : ∃ k : Nat, n = k := ⟨n.toNat, by omega⟩
    exact diskSizes_ok k (by omega) (by omega) w
end Go.Proofs.Ytamkngpkplflcaa
