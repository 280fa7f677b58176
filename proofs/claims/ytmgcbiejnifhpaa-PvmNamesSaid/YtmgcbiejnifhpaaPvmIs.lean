/- law 08's is, at machines as they begin. -/
import Derived.Test.YtmgcbiejnifhpaaPvmRefNew
namespace Go.Proofs.Ytmgcbiejnifhpaa
open Go.RowKit
set_option maxRecDepth 100000 in
set_option maxHeartbeats 4000000 in
theorem is_new (A B : Option Addr) (m cp : Nat) (hm64 : m ≤ 64) (w : World) (ha : Sl w 1 (.slice A m m) m (i64V (List.replicate m 0))) (hb : Sl w 1 (.slice B m cp) m (i64V (List.replicate m 0))) :
    Calls Try.prog 7 #[.agg #[.int .i64 0, .int .i64 0, .int .i64 0, .int .i64 0, .int .i64 0, .int .i64 0, .int .i64 0, .int .i64 0, .int .i64 0, .slice A m m, .int .i64 0, .int .i64 0], .agg #[.int .i64 0, .int .i64 0, .int .i64 0, .int .i64 0, .int .i64 0, .int .i64 0, .int .i64 0, .int .i64 0, .int .i64 0, .slice B m cp, .int .i64 0, .int .i64 0]] w fun e w' => e = .returned (.bool true) ∧ Below w.heap.size w w' := by
  obtain ⟨A', c1, e1, hc1, _, _, hca⟩ := ha
  injection e1 with e1 _ e3
  subst e1 e3
  obtain ⟨B', c2, e2, hc2, hc3, _, hcb⟩ := hb
  injection e2 with e2 _ e4
  subst e2 e4
  have hca' := hide hca
  have hcb' := hide hcb
  unfold maxLen at hc3
  clear hca hcb hc1
  go_enter Try.func7, Try.ntmps7
  go_upto_region 1 with (fail)
  have hM1 := Row.new w 27 [.int .i64 0, .int .i64 0, .int .i64 0, .int .i64 0, .int .i64 0, .int .i64 0, .int .i64 0, .int .i64 0, .int .i64 0, .slice A m m, .int .i64 0, .int .i64 0]
  have hbA : Below w.heap.size w (w.alloc (.cells #[.int .i64 0, .int .i64 0, .int .i64 0, .int .i64 0, .int .i64 0, .int .i64 0, .int .i64 0, .int .i64 0, .int .i64 0, .slice A m m, .int .i64 0, .int .i64 0] 27)) := (Below.refl _ _).alloc (Nat.le_refl _) _
  have hsA : (w.alloc (.cells #[.int .i64 0, .int .i64 0, .int .i64 0, .int .i64 0, .int .i64 0, .int .i64 0, .int .i64 0, .int .i64 0, .int .i64 0, .slice A m m, .int .i64 0, .int .i64 0] 27)).heap.size = w.heap.size + 1 := by simp
  generalize w.alloc (.cells #[.int .i64 0, .int .i64 0, .int .i64 0, .int .i64 0, .int .i64 0, .int .i64 0, .int .i64 0, .int .i64 0, .int .i64 0, .slice A m m, .int .i64 0, .int .i64 0] 27) = wa at *
  have hW1 := Row.new wa 30 [.int .i64 0, .int .i64 0, .int .i64 0, .int .i64 0, .int .i64 0, .int .i64 0, .int .i64 0, .int .i64 0, .int .i64 0, .slice B m cp, .int .i64 0, .int .i64 0]
  have hbB : Below wa.heap.size wa (wa.alloc (.cells #[.int .i64 0, .int .i64 0, .int .i64 0, .int .i64 0, .int .i64 0, .int .i64 0, .int .i64 0, .int .i64 0, .int .i64 0, .slice B m cp, .int .i64 0, .int .i64 0] 30)) := (Below.refl _ _).alloc (Nat.le_refl _) _
  have hM2 := hM1.below hbB
  have hb2 := hide (hbA.trans (hbB.mono hbA.size))
  generalize wa.alloc (.cells #[.int .i64 0, .int .i64 0, .int .i64 0, .int .i64 0, .int .i64 0, .int .i64 0, .int .i64 0, .int .i64 0, .int .i64 0, .slice B m cp, .int .i64 0, .int .i64 0] 30) = wb at *
  rw [hsA] at hW1
  have hwl := hide (Nat.le_of_lt hM2.lt)
  obtain ⟨bm, hbm⟩ : ∃ bm, bm = w.heap.size := ⟨_, rfl⟩
  rw [← hbm] at hM2 hW1 ⊢
  have hbm' := hide hbm
  have hM' := hide hM2
  have hW' := hide hW1
  clear hM1 hbA hsA hW1 hbB hM2 hbm
  have heq : ∀ w' : World, (Op.equalIn 10000 23 (.agg #[.int .i64 0, .int .i64 0, .int .i64 0, .int .i64 0, .int .i64 0, .int .i64 0, .int .i64 0, .int .i64 0]) (.agg #[.int .i64 0, .int .i64 0, .int .i64 0, .int .i64 0, .int .i64 0, .int .i64 0, .int .i64 0, .int .i64 0])).run Try.prog w' = .ok true w' := fun _ => by kernel_rfl
  have x0 := hM'.out.c 0 _ rfl
  have x1 := hM'.out.c 1 _ rfl
  have x2 := hM'.out.c 2 _ rfl
  have x3 := hM'.out.c 3 _ rfl
  have x4 := hM'.out.c 4 _ rfl
  have x5 := hM'.out.c 5 _ rfl
  have x6 := hM'.out.c 6 _ rfl
  have x7 := hM'.out.c 7 _ rfl
  have x8 := hM'.out.c 8 _ rfl
  have x9 := hM'.out.c 9 _ rfl
  have x10 := hM'.out.c 10 _ rfl
  have x11 := hM'.out.c 11 _ rfl
  have y0 := hW'.out.c 0 _ rfl
  have y1 := hW'.out.c 1 _ rfl
  have y2 := hW'.out.c 2 _ rfl
  have y3 := hW'.out.c 3 _ rfl
  have y4 := hW'.out.c 4 _ rfl
  have y5 := hW'.out.c 5 _ rfl
  have y6 := hW'.out.c 6 _ rfl
  have y7 := hW'.out.c 7 _ rfl
  have y8 := hW'.out.c 8 _ rfl
  have y9 := hW'.out.c 9 _ rfl
  have y10 := hW'.out.c 10 _ rfl
  have y11 := hW'.out.c 11 _ rfl
  have hmm : ((m : Int) == (m : Int)) = true := by simp
  have hmm2 : ((m : Int) != (m : Int)) = false := by simp
  go_upto_region 3 with (fail)
  clear x0 x1 x2 x3 x4 x5 x6 x7 x8 x9 x10 x11 y0 y1 y2 y3 y4 y5 y6 y7 y8 y9 y10 y11 heq hmm hmm2
  go_wp2_with fail
  go_loopw [5] (fun i wr => ∃ k : Nat, k ≤ m ∧ i = .int .i64 (k : Nat) ∧ Row wr bm [.int .i64 0, .int .i64 0, .int .i64 0, .int .i64 0, .int .i64 0, .int .i64 0, .int .i64 0, .int .i64 0, .int .i64 0, .slice A m m, .int .i64 0, .int .i64 0] ∧ Row wr (bm + 1) [.int .i64 0, .int .i64 0, .int .i64 0, .int .i64 0, .int .i64 0, .int .i64 0, .int .i64 0, .int .i64 0, .int .i64 0, .slice B m cp, .int .i64 0, .int .i64 0] ∧ Below w.heap.size w wr) (fun i _ => m - (intOf i).toNat)
  case atStart => exact ⟨0, by omega, rfl, hM'.out, hW'.out, hb2.out⟩
  case round =>
    obtain ⟨k, hk, rfl, hM, hW, hb⟩ := hrel
    have hM3 := hide hM
    have hW3 := hide hW
    have hb3 := hide hb
    have hbs := hb.size
    clear hM hW hb hM' hW' hb2
    have x9 := hM3.out.c 9 _ rfl
    by_cases hlt : k < m
    · obtain ⟨b1, o1, rfl, hb1, hcell1⟩ := hca'.out (by omega)
      obtain ⟨b2, o2, rfl, hbb2, hcell2⟩ := hcb'.out (by omega)
      have g1 := hcell1 k (.int .i64 0) (by simp [i64V, hlt])
      have g2 := hcell2 k (.int .i64 0) (by simp [i64V, hlt])
      have hltI : (k : Int) < (m : Int) := by omega
      have hq : Below wr.heap.size wr wr.drew := (Below.refl _ _).drew
      have hM4 := hide (hM3.out.below hq)
      have hW4 := hide (hW3.out.below hq)
      have hb4 := hide (hb3.out.trans (hq.mono hbs))
      have f9 : ∀ w', Later (fun _ => False) wr.drew w' → w'.cell? ⟨bm, 9, none⟩ = some (.slice (some ⟨b1, o1, none⟩) m m) := fun w' hl => (hM4.out.later hl (fun h => h)).c 9 _ rfl
      have h9 : ∀ w', Later (fun _ => False) wr.drew w' → w'.cell? ⟨bm + 1, 9, none⟩ = some (.slice (some ⟨b2, o2, none⟩) m cp) := fun w' hl => (hW4.out.later hl (fun h => h)).c 9 _ rfl
      have fa : ∀ w', Later (fun _ => False) wr.drew w' → w'.cell? ⟨b1, o1 + k, none⟩ = some (.int .i64 0) := fun w' hl => (Later.cell hl (show b1 < wr.drew.heap.size by have : wr.drew.heap.size = wr.heap.size := rfl; omega) (fun h => h)).1.trans ((hb4.out.cell (p := ⟨b1, o1 + k, none⟩) hb1).trans g1)
      have fb : ∀ w', Later (fun _ => False) wr.drew w' → w'.cell? ⟨b2, o2 + k, none⟩ = some (.int .i64 0) := fun w' hl => (Later.cell hl (show b2 < wr.drew.heap.size by have : wr.drew.heap.size = wr.heap.size := rfl; omega) (fun h => h)).1.trans ((hb4.out.cell (p := ⟨b2, o2 + k, none⟩) hbb2).trans g2)
      clear g1 g2 hcell1 hcell2 hq
      go_upto_region 6 with (fail)
      refine region_plan [(true, 0), (true, 1), (true, 2), (true, 3), (true, 4), (true, 5), (true, 6), (true, 7), (true, 8), (true, 9), (true, 10)] (Later fun _ => False) (later_refl _) (later_trans _) (by kernel_rfl) (by kernel_rfl) (fun _ _ d _ _ h => by cases d <;> exact h) ?_
      repeat
        (first
          | (show wpPlan _ _ _ _ ((true, _) :: _) _ _
             refine plan_skip rfl (by rfl) ?_
             simp only [Act.put, List.setIfInBounds_toArray, List.set_cons_zero, List.set_cons_succ])
          | (show wpPlan _ _ _ _ ((false, _) :: _) _ _
             refine plan_skip_eff (later_refl _) rfl (by rfl) ?_
             simp only [Act.put, List.setIfInBounds_toArray, List.set_cons_zero, List.set_cons_succ])
          | (show wpPlan _ _ _ _ ((true, _) :: _) _ _
             refine plan_take (v := ?_) rfl (by rfl) (fun w' hw' => ?_) ?_
             rotate_left
             focus
               go_simp
               try with_reducible rfl
               done
             simp only [Act.put, List.setIfInBounds_toArray, List.set_cons_zero, List.set_cons_succ]))
      clear f9 h9 fa fb
      refine plan_nil ?_
      go_wp2_with fail
      go_roundw
      case rel => exact ⟨k + 1, by omega, by go_num, hM4.out, hW4.out, hb4.out⟩
      case measure => simp [intOf]; omega
    · obtain rfl : m = k := by omega
      go_wp2_with fail
      go_ret
      exact ⟨rfl, hb3.out⟩
end Go.Proofs.Ytmgcbiejnifhpaa
