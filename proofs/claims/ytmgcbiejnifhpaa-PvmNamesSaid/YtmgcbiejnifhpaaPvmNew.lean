/- pvm.New walked. -/
import Derived.Test.YtmgcbiejnifhpaaPvmStep
namespace Go.Proofs.Ytmgcbiejnifhpaa
open Go.RowKit
set_option maxRecDepth 100000 in
set_option maxHeartbeats 4000000 in
theorem pnew_big (x : Int) (hx : 64 < x) (w : World) :
    Calls Try.prog 8 #[.int .i64 (x)] w fun e w' => ∃ A, e = .returned (.agg #[.int .i64 0, .int .i64 0, .int .i64 0, .int .i64 0, .int .i64 0, .int .i64 0, .int .i64 0, .int .i64 0, .int .i64 0, .slice A (64) (64), .int .i64 0, .int .i64 0]) ∧ Sl w' 1 (.slice A (64) (64)) (64) (i64V (List.replicate (64) 0)) ∧ Below w.heap.size w w' := by
  go_enter Try.func8, Try.ntmps8
  go_upto_region 1 with (fail)
  have hZ1 := Row.new w 27 [.int .i64 0, .int .i64 0, .int .i64 0, .int .i64 0, .int .i64 0, .int .i64 0, .int .i64 0, .int .i64 0, .int .i64 0, .slice none 0 0, .int .i64 0, .int .i64 0]
  have hbA : Below w.heap.size w (w.alloc (.cells #[.int .i64 0, .int .i64 0, .int .i64 0, .int .i64 0, .int .i64 0, .int .i64 0, .int .i64 0, .int .i64 0, .int .i64 0, .slice none 0 0, .int .i64 0, .int .i64 0] 27)) := (Below.refl _ _).alloc (Nat.le_refl _) _
  generalize w.alloc (.cells #[.int .i64 0, .int .i64 0, .int .i64 0, .int .i64 0, .int .i64 0, .int .i64 0, .int .i64 0, .int .i64 0, .int .i64 0, .slice none 0 0, .int .i64 0, .int .i64 0] 27) = wa at *
  obtain ⟨bz, hbz⟩ : ∃ bz, bz = w.heap.size := ⟨_, rfl⟩
  rw [← hbz] at hZ1 ⊢
  have hbz' := hide hbz
  have hZ1' := hide hZ1
  have hbA' := hide hbA
  clear hbz hZ1 hbA
  have z0 := hZ1'.out.c 0 _ rfl
  have z1 := hZ1'.out.c 1 _ rfl
  have z2 := hZ1'.out.c 2 _ rfl
  have z3 := hZ1'.out.c 3 _ rfl
  have z4 := hZ1'.out.c 4 _ rfl
  have z5 := hZ1'.out.c 5 _ rfl
  have z6 := hZ1'.out.c 6 _ rfl
  have z7 := hZ1'.out.c 7 _ rfl
  have z8 := hZ1'.out.c 8 _ rfl
  have z9 := hZ1'.out.c 9 _ rfl
  have z10 := hZ1'.out.c 10 _ rfl
  have z11 := hZ1'.out.c 11 _ rfl
  have t0 := hZ1'.out.z 0
  have t1 := hZ1'.out.z 1
  have t2 := hZ1'.out.z 2
  have t3 := hZ1'.out.z 3
  have t4 := hZ1'.out.z 4
  have t5 := hZ1'.out.z 5
  have t6 := hZ1'.out.z 6
  have t7 := hZ1'.out.z 7
  have t8 := hZ1'.out.z 8
  have t9 := hZ1'.out.z 9
  have t10 := hZ1'.out.z 10
  have t11 := hZ1'.out.z 11
  have hlz := hZ1'.out.lt
  go_wp2_with ((at_make; refine list_make Try.underlying24 (z := .int .i64 0) (bytes := 8) (by kernel_rfl) rfl rfl _ _ rfl wa.heap.size .i64 .i64 (64) (64) (64) rfl rfl rfl rfl (by omega) (by simp only [maxLen]; omega) (Nat.le_refl _) ?_))
  intro wb hv hg hlt
  have hb : Below wa.heap.size wa wb := (Below.refl _ _).grown hg (Nat.le_refl _) (by simp)
  have hvs := hide (show Sl wb 1 (.slice (some ⟨wa.heap.size, 0, none⟩) (64) (64)) (64) (i64V (List.replicate (64) 0)) by have := Sl.own hv; simpa [i64V] using this)
  have hZ2 := hide (hZ1'.out.below hb)
  have hb2 := hide (hbA'.out.trans (hb.mono hbA'.out.size))
  clear hv hg hlt hb z0 z1 z2 z3 z4 z5 z6 z7 z8 z9 z10 z11 t0 t1 t2 t3 t4 t5 t6 t7 t8 t9 t10 t11 hZ1' hbA'
  have z0 := hZ2.out.c 0 _ rfl
  have z1 := hZ2.out.c 1 _ rfl
  have z2 := hZ2.out.c 2 _ rfl
  have z3 := hZ2.out.c 3 _ rfl
  have z4 := hZ2.out.c 4 _ rfl
  have z5 := hZ2.out.c 5 _ rfl
  have z6 := hZ2.out.c 6 _ rfl
  have z7 := hZ2.out.c 7 _ rfl
  have z8 := hZ2.out.c 8 _ rfl
  have z9 := hZ2.out.c 9 _ rfl
  have z10 := hZ2.out.c 10 _ rfl
  have z11 := hZ2.out.c 11 _ rfl
  have t0 := hZ2.out.z 0
  have t1 := hZ2.out.z 1
  have t2 := hZ2.out.z 2
  have t3 := hZ2.out.z 3
  have t4 := hZ2.out.z 4
  have t5 := hZ2.out.z 5
  have t6 := hZ2.out.z 6
  have t7 := hZ2.out.z 7
  have t8 := hZ2.out.z 8
  have t9 := hZ2.out.z 9
  have t10 := hZ2.out.z 10
  have t11 := hZ2.out.z 11
  go_wp2_with fail
  have hT5 : Touch (fun y => y = bz) wb ((((((((((((wb.setCell ⟨bz, 0, none⟩ (.int .i64 0)).setCell ⟨bz, 1, none⟩ (.int .i64 0)).setCell ⟨bz, 2, none⟩ (.int .i64 0)).setCell ⟨bz, 3, none⟩ (.int .i64 0)).setCell ⟨bz, 4, none⟩ (.int .i64 0)).setCell ⟨bz, 5, none⟩ (.int .i64 0)).setCell ⟨bz, 6, none⟩ (.int .i64 0)).setCell ⟨bz, 7, none⟩ (.int .i64 0)).setCell ⟨bz, 8, none⟩ (.int .i64 0)).setCell ⟨bz, 9, none⟩ (.slice (some ⟨wa.heap.size, 0, none⟩) (64) (64))).setCell ⟨bz, 10, none⟩ (.int .i64 0)).setCell ⟨bz, 11, none⟩ (.int .i64 0)) := (Touch.setCell (Touch.setCell (Touch.setCell (Touch.setCell (Touch.setCell (Touch.setCell (Touch.setCell (Touch.setCell (Touch.setCell (Touch.setCell (Touch.setCell (Touch.setCell (Touch.refl (fun y => y = bz) wb) (p := ⟨bz, 0, none⟩) rfl (.int .i64 0)) (p := ⟨bz, 1, none⟩) rfl (.int .i64 0)) (p := ⟨bz, 2, none⟩) rfl (.int .i64 0)) (p := ⟨bz, 3, none⟩) rfl (.int .i64 0)) (p := ⟨bz, 4, none⟩) rfl (.int .i64 0)) (p := ⟨bz, 5, none⟩) rfl (.int .i64 0)) (p := ⟨bz, 6, none⟩) rfl (.int .i64 0)) (p := ⟨bz, 7, none⟩) rfl (.int .i64 0)) (p := ⟨bz, 8, none⟩) rfl (.int .i64 0)) (p := ⟨bz, 9, none⟩) rfl (.slice (some ⟨wa.heap.size, 0, none⟩) (64) (64))) (p := ⟨bz, 10, none⟩) rfl (.int .i64 0)) (p := ⟨bz, 11, none⟩) rfl (.int .i64 0))
  have hZ5 : Row ((((((((((((wb.setCell ⟨bz, 0, none⟩ (.int .i64 0)).setCell ⟨bz, 1, none⟩ (.int .i64 0)).setCell ⟨bz, 2, none⟩ (.int .i64 0)).setCell ⟨bz, 3, none⟩ (.int .i64 0)).setCell ⟨bz, 4, none⟩ (.int .i64 0)).setCell ⟨bz, 5, none⟩ (.int .i64 0)).setCell ⟨bz, 6, none⟩ (.int .i64 0)).setCell ⟨bz, 7, none⟩ (.int .i64 0)).setCell ⟨bz, 8, none⟩ (.int .i64 0)).setCell ⟨bz, 9, none⟩ (.slice (some ⟨wa.heap.size, 0, none⟩) (64) (64))).setCell ⟨bz, 10, none⟩ (.int .i64 0)).setCell ⟨bz, 11, none⟩ (.int .i64 0)) bz [.int .i64 0, .int .i64 0, .int .i64 0, .int .i64 0, .int .i64 0, .int .i64 0, .int .i64 0, .int .i64 0, .int .i64 0, .slice (some ⟨wa.heap.size, 0, none⟩) (64) (64), .int .i64 0, .int .i64 0] := (Row.set (Row.set (Row.set (Row.set (Row.set (Row.set (Row.set (Row.set (Row.set (Row.set (Row.set (Row.set hZ2.out 0 (by simp) (.int .i64 0)) 1 (by simp) (.int .i64 0)) 2 (by simp) (.int .i64 0)) 3 (by simp) (.int .i64 0)) 4 (by simp) (.int .i64 0)) 5 (by simp) (.int .i64 0)) 6 (by simp) (.int .i64 0)) 7 (by simp) (.int .i64 0)) 8 (by simp) (.int .i64 0)) 9 (by simp) (.slice (some ⟨wa.heap.size, 0, none⟩) (64) (64))) 10 (by simp) (.int .i64 0)) 11 (by simp) (.int .i64 0))
  have hb5 := hb2.out.trans (hT5.below hb2.out.size (fun y hy e => by have := hbz'.out; omega))
  have hm5 := Sl.kept0P hvs.out hT5.2.1 (fun _ y hy _ => hT5.2.2 y (by cases hy; assumption) (fun e => by cases hy; have e' : wa.heap.size = bz := e; omega))
  clear z0 z1 z2 z3 z4 z5 z6 z7 z8 z9 z10 z11 t0 t1 t2 t3 t4 t5 t6 t7 t8 t9 t10 t11 hT5
  generalize ((((((((((((wb.setCell ⟨bz, 0, none⟩ (.int .i64 0)).setCell ⟨bz, 1, none⟩ (.int .i64 0)).setCell ⟨bz, 2, none⟩ (.int .i64 0)).setCell ⟨bz, 3, none⟩ (.int .i64 0)).setCell ⟨bz, 4, none⟩ (.int .i64 0)).setCell ⟨bz, 5, none⟩ (.int .i64 0)).setCell ⟨bz, 6, none⟩ (.int .i64 0)).setCell ⟨bz, 7, none⟩ (.int .i64 0)).setCell ⟨bz, 8, none⟩ (.int .i64 0)).setCell ⟨bz, 9, none⟩ (.slice (some ⟨wa.heap.size, 0, none⟩) (64) (64))).setCell ⟨bz, 10, none⟩ (.int .i64 0)).setCell ⟨bz, 11, none⟩ (.int .i64 0)) = we at *
  have hZ6 := hide hZ5
  clear hZ5
  have z0 := hZ6.out.c 0 _ rfl
  have z1 := hZ6.out.c 1 _ rfl
  have z2 := hZ6.out.c 2 _ rfl
  have z3 := hZ6.out.c 3 _ rfl
  have z4 := hZ6.out.c 4 _ rfl
  have z5 := hZ6.out.c 5 _ rfl
  have z6 := hZ6.out.c 6 _ rfl
  have z7 := hZ6.out.c 7 _ rfl
  have z8 := hZ6.out.c 8 _ rfl
  have z9 := hZ6.out.c 9 _ rfl
  have z10 := hZ6.out.c 10 _ rfl
  have z11 := hZ6.out.c 11 _ rfl
  refine bodyPost_ret (v := .agg #[.int .i64 0, .int .i64 0, .int .i64 0, .int .i64 0, .int .i64 0, .int .i64 0, .int .i64 0, .int .i64 0, .int .i64 0, .slice (some ⟨wa.heap.size, 0, none⟩) (64) (64), .int .i64 0, .int .i64 0]) (by simp [results, Try.results8, go_sem, z0, z1, z2, z3, z4, z5, z6, z7, z8, z9, z10, z11]) rfl ⟨_, rfl, hm5, hb5⟩
set_option maxRecDepth 100000 in
set_option maxHeartbeats 4000000 in
theorem pnew_mid (m : Nat) (hx : 0 < (m : Int)) (hy : (m : Int) ≤ 64) (w : World) :
    Calls Try.prog 8 #[.int .i64 ((m : Int))] w fun e w' => ∃ A, e = .returned (.agg #[.int .i64 0, .int .i64 0, .int .i64 0, .int .i64 0, .int .i64 0, .int .i64 0, .int .i64 0, .int .i64 0, .int .i64 0, .slice A (m) (m), .int .i64 0, .int .i64 0]) ∧ Sl w' 1 (.slice A (m) (m)) (m) (i64V (List.replicate (m) 0)) ∧ Below w.heap.size w w' := by
  go_enter Try.func8, Try.ntmps8
  go_upto_region 1 with (fail)
  have hZ1 := Row.new w 27 [.int .i64 0, .int .i64 0, .int .i64 0, .int .i64 0, .int .i64 0, .int .i64 0, .int .i64 0, .int .i64 0, .int .i64 0, .slice none 0 0, .int .i64 0, .int .i64 0]
  have hbA : Below w.heap.size w (w.alloc (.cells #[.int .i64 0, .int .i64 0, .int .i64 0, .int .i64 0, .int .i64 0, .int .i64 0, .int .i64 0, .int .i64 0, .int .i64 0, .slice none 0 0, .int .i64 0, .int .i64 0] 27)) := (Below.refl _ _).alloc (Nat.le_refl _) _
  generalize w.alloc (.cells #[.int .i64 0, .int .i64 0, .int .i64 0, .int .i64 0, .int .i64 0, .int .i64 0, .int .i64 0, .int .i64 0, .int .i64 0, .slice none 0 0, .int .i64 0, .int .i64 0] 27) = wa at *
  obtain ⟨bz, hbz⟩ : ∃ bz, bz = w.heap.size := ⟨_, rfl⟩
  rw [← hbz] at hZ1 ⊢
  have hbz' := hide hbz
  have hZ1' := hide hZ1
  have hbA' := hide hbA
  clear hbz hZ1 hbA
  have z0 := hZ1'.out.c 0 _ rfl
  have z1 := hZ1'.out.c 1 _ rfl
  have z2 := hZ1'.out.c 2 _ rfl
  have z3 := hZ1'.out.c 3 _ rfl
  have z4 := hZ1'.out.c 4 _ rfl
  have z5 := hZ1'.out.c 5 _ rfl
  have z6 := hZ1'.out.c 6 _ rfl
  have z7 := hZ1'.out.c 7 _ rfl
  have z8 := hZ1'.out.c 8 _ rfl
  have z9 := hZ1'.out.c 9 _ rfl
  have z10 := hZ1'.out.c 10 _ rfl
  have z11 := hZ1'.out.c 11 _ rfl
  have t0 := hZ1'.out.z 0
  have t1 := hZ1'.out.z 1
  have t2 := hZ1'.out.z 2
  have t3 := hZ1'.out.z 3
  have t4 := hZ1'.out.z 4
  have t5 := hZ1'.out.z 5
  have t6 := hZ1'.out.z 6
  have t7 := hZ1'.out.z 7
  have t8 := hZ1'.out.z 8
  have t9 := hZ1'.out.z 9
  have t10 := hZ1'.out.z 10
  have t11 := hZ1'.out.z 11
  have hlz := hZ1'.out.lt
  go_wp2_with ((at_make; refine list_make Try.underlying24 (z := .int .i64 0) (bytes := 8) (by kernel_rfl) rfl rfl _ _ rfl wa.heap.size .i64 .i64 (m) (m) (m) rfl rfl rfl rfl (by omega) (by simp only [maxLen]; omega) (Nat.le_refl _) ?_))
  intro wb hv hg hlt
  have hb : Below wa.heap.size wa wb := (Below.refl _ _).grown hg (Nat.le_refl _) (by simp)
  have hvs := hide (show Sl wb 1 (.slice (some ⟨wa.heap.size, 0, none⟩) (m) (m)) (m) (i64V (List.replicate (m) 0)) by have := Sl.own hv; simpa [i64V] using this)
  have hZ2 := hide (hZ1'.out.below hb)
  have hb2 := hide (hbA'.out.trans (hb.mono hbA'.out.size))
  clear hv hg hlt hb z0 z1 z2 z3 z4 z5 z6 z7 z8 z9 z10 z11 t0 t1 t2 t3 t4 t5 t6 t7 t8 t9 t10 t11 hZ1' hbA'
  have z0 := hZ2.out.c 0 _ rfl
  have z1 := hZ2.out.c 1 _ rfl
  have z2 := hZ2.out.c 2 _ rfl
  have z3 := hZ2.out.c 3 _ rfl
  have z4 := hZ2.out.c 4 _ rfl
  have z5 := hZ2.out.c 5 _ rfl
  have z6 := hZ2.out.c 6 _ rfl
  have z7 := hZ2.out.c 7 _ rfl
  have z8 := hZ2.out.c 8 _ rfl
  have z9 := hZ2.out.c 9 _ rfl
  have z10 := hZ2.out.c 10 _ rfl
  have z11 := hZ2.out.c 11 _ rfl
  have t0 := hZ2.out.z 0
  have t1 := hZ2.out.z 1
  have t2 := hZ2.out.z 2
  have t3 := hZ2.out.z 3
  have t4 := hZ2.out.z 4
  have t5 := hZ2.out.z 5
  have t6 := hZ2.out.z 6
  have t7 := hZ2.out.z 7
  have t8 := hZ2.out.z 8
  have t9 := hZ2.out.z 9
  have t10 := hZ2.out.z 10
  have t11 := hZ2.out.z 11
  go_wp2_with fail
  have hT5 : Touch (fun y => y = bz) wb ((((((((((((wb.setCell ⟨bz, 0, none⟩ (.int .i64 0)).setCell ⟨bz, 1, none⟩ (.int .i64 0)).setCell ⟨bz, 2, none⟩ (.int .i64 0)).setCell ⟨bz, 3, none⟩ (.int .i64 0)).setCell ⟨bz, 4, none⟩ (.int .i64 0)).setCell ⟨bz, 5, none⟩ (.int .i64 0)).setCell ⟨bz, 6, none⟩ (.int .i64 0)).setCell ⟨bz, 7, none⟩ (.int .i64 0)).setCell ⟨bz, 8, none⟩ (.int .i64 0)).setCell ⟨bz, 9, none⟩ (.slice (some ⟨wa.heap.size, 0, none⟩) (m) (m))).setCell ⟨bz, 10, none⟩ (.int .i64 0)).setCell ⟨bz, 11, none⟩ (.int .i64 0)) := (Touch.setCell (Touch.setCell (Touch.setCell (Touch.setCell (Touch.setCell (Touch.setCell (Touch.setCell (Touch.setCell (Touch.setCell (Touch.setCell (Touch.setCell (Touch.setCell (Touch.refl (fun y => y = bz) wb) (p := ⟨bz, 0, none⟩) rfl (.int .i64 0)) (p := ⟨bz, 1, none⟩) rfl (.int .i64 0)) (p := ⟨bz, 2, none⟩) rfl (.int .i64 0)) (p := ⟨bz, 3, none⟩) rfl (.int .i64 0)) (p := ⟨bz, 4, none⟩) rfl (.int .i64 0)) (p := ⟨bz, 5, none⟩) rfl (.int .i64 0)) (p := ⟨bz, 6, none⟩) rfl (.int .i64 0)) (p := ⟨bz, 7, none⟩) rfl (.int .i64 0)) (p := ⟨bz, 8, none⟩) rfl (.int .i64 0)) (p := ⟨bz, 9, none⟩) rfl (.slice (some ⟨wa.heap.size, 0, none⟩) (m) (m))) (p := ⟨bz, 10, none⟩) rfl (.int .i64 0)) (p := ⟨bz, 11, none⟩) rfl (.int .i64 0))
  have hZ5 : Row ((((((((((((wb.setCell ⟨bz, 0, none⟩ (.int .i64 0)).setCell ⟨bz, 1, none⟩ (.int .i64 0)).setCell ⟨bz, 2, none⟩ (.int .i64 0)).setCell ⟨bz, 3, none⟩ (.int .i64 0)).setCell ⟨bz, 4, none⟩ (.int .i64 0)).setCell ⟨bz, 5, none⟩ (.int .i64 0)).setCell ⟨bz, 6, none⟩ (.int .i64 0)).setCell ⟨bz, 7, none⟩ (.int .i64 0)).setCell ⟨bz, 8, none⟩ (.int .i64 0)).setCell ⟨bz, 9, none⟩ (.slice (some ⟨wa.heap.size, 0, none⟩) (m) (m))).setCell ⟨bz, 10, none⟩ (.int .i64 0)).setCell ⟨bz, 11, none⟩ (.int .i64 0)) bz [.int .i64 0, .int .i64 0, .int .i64 0, .int .i64 0, .int .i64 0, .int .i64 0, .int .i64 0, .int .i64 0, .int .i64 0, .slice (some ⟨wa.heap.size, 0, none⟩) (m) (m), .int .i64 0, .int .i64 0] := (Row.set (Row.set (Row.set (Row.set (Row.set (Row.set (Row.set (Row.set (Row.set (Row.set (Row.set (Row.set hZ2.out 0 (by simp) (.int .i64 0)) 1 (by simp) (.int .i64 0)) 2 (by simp) (.int .i64 0)) 3 (by simp) (.int .i64 0)) 4 (by simp) (.int .i64 0)) 5 (by simp) (.int .i64 0)) 6 (by simp) (.int .i64 0)) 7 (by simp) (.int .i64 0)) 8 (by simp) (.int .i64 0)) 9 (by simp) (.slice (some ⟨wa.heap.size, 0, none⟩) (m) (m))) 10 (by simp) (.int .i64 0)) 11 (by simp) (.int .i64 0))
  have hb5 := hb2.out.trans (hT5.below hb2.out.size (fun y hy e => by have := hbz'.out; omega))
  have hm5 := Sl.kept0P hvs.out hT5.2.1 (fun _ y hy _ => hT5.2.2 y (by cases hy; assumption) (fun e => by cases hy; have e' : wa.heap.size = bz := e; omega))
  clear z0 z1 z2 z3 z4 z5 z6 z7 z8 z9 z10 z11 t0 t1 t2 t3 t4 t5 t6 t7 t8 t9 t10 t11 hT5
  generalize ((((((((((((wb.setCell ⟨bz, 0, none⟩ (.int .i64 0)).setCell ⟨bz, 1, none⟩ (.int .i64 0)).setCell ⟨bz, 2, none⟩ (.int .i64 0)).setCell ⟨bz, 3, none⟩ (.int .i64 0)).setCell ⟨bz, 4, none⟩ (.int .i64 0)).setCell ⟨bz, 5, none⟩ (.int .i64 0)).setCell ⟨bz, 6, none⟩ (.int .i64 0)).setCell ⟨bz, 7, none⟩ (.int .i64 0)).setCell ⟨bz, 8, none⟩ (.int .i64 0)).setCell ⟨bz, 9, none⟩ (.slice (some ⟨wa.heap.size, 0, none⟩) (m) (m))).setCell ⟨bz, 10, none⟩ (.int .i64 0)).setCell ⟨bz, 11, none⟩ (.int .i64 0)) = we at *
  have hZ6 := hide hZ5
  clear hZ5
  have z0 := hZ6.out.c 0 _ rfl
  have z1 := hZ6.out.c 1 _ rfl
  have z2 := hZ6.out.c 2 _ rfl
  have z3 := hZ6.out.c 3 _ rfl
  have z4 := hZ6.out.c 4 _ rfl
  have z5 := hZ6.out.c 5 _ rfl
  have z6 := hZ6.out.c 6 _ rfl
  have z7 := hZ6.out.c 7 _ rfl
  have z8 := hZ6.out.c 8 _ rfl
  have z9 := hZ6.out.c 9 _ rfl
  have z10 := hZ6.out.c 10 _ rfl
  have z11 := hZ6.out.c 11 _ rfl
  refine bodyPost_ret (v := .agg #[.int .i64 0, .int .i64 0, .int .i64 0, .int .i64 0, .int .i64 0, .int .i64 0, .int .i64 0, .int .i64 0, .int .i64 0, .slice (some ⟨wa.heap.size, 0, none⟩) (m) (m), .int .i64 0, .int .i64 0]) (by simp [results, Try.results8, go_sem, z0, z1, z2, z3, z4, z5, z6, z7, z8, z9, z10, z11]) rfl ⟨_, rfl, hm5, hb5⟩
set_option maxRecDepth 100000 in
set_option maxHeartbeats 4000000 in
theorem pnew_none (x : Int) (hx : x ≤ 0) (w : World) :
    Calls Try.prog 8 #[.int .i64 (x)] w fun e w' => ∃ A, e = .returned (.agg #[.int .i64 0, .int .i64 0, .int .i64 0, .int .i64 0, .int .i64 0, .int .i64 0, .int .i64 0, .int .i64 0, .int .i64 0, .slice A (0) (0), .int .i64 0, .int .i64 0]) ∧ Sl w' 1 (.slice A (0) (0)) (0) (i64V (List.replicate (0) 0)) ∧ Below w.heap.size w w' := by
  go_enter Try.func8, Try.ntmps8
  go_upto_region 1 with (fail)
  have hZ1 := Row.new w 27 [.int .i64 0, .int .i64 0, .int .i64 0, .int .i64 0, .int .i64 0, .int .i64 0, .int .i64 0, .int .i64 0, .int .i64 0, .slice none 0 0, .int .i64 0, .int .i64 0]
  have hbA : Below w.heap.size w (w.alloc (.cells #[.int .i64 0, .int .i64 0, .int .i64 0, .int .i64 0, .int .i64 0, .int .i64 0, .int .i64 0, .int .i64 0, .int .i64 0, .slice none 0 0, .int .i64 0, .int .i64 0] 27)) := (Below.refl _ _).alloc (Nat.le_refl _) _
  generalize w.alloc (.cells #[.int .i64 0, .int .i64 0, .int .i64 0, .int .i64 0, .int .i64 0, .int .i64 0, .int .i64 0, .int .i64 0, .int .i64 0, .slice none 0 0, .int .i64 0, .int .i64 0] 27) = wa at *
  obtain ⟨bz, hbz⟩ : ∃ bz, bz = w.heap.size := ⟨_, rfl⟩
  rw [← hbz] at hZ1 ⊢
  have hbz' := hide hbz
  have hZ1' := hide hZ1
  have hbA' := hide hbA
  clear hbz hZ1 hbA
  have z0 := hZ1'.out.c 0 _ rfl
  have z1 := hZ1'.out.c 1 _ rfl
  have z2 := hZ1'.out.c 2 _ rfl
  have z3 := hZ1'.out.c 3 _ rfl
  have z4 := hZ1'.out.c 4 _ rfl
  have z5 := hZ1'.out.c 5 _ rfl
  have z6 := hZ1'.out.c 6 _ rfl
  have z7 := hZ1'.out.c 7 _ rfl
  have z8 := hZ1'.out.c 8 _ rfl
  have z9 := hZ1'.out.c 9 _ rfl
  have z10 := hZ1'.out.c 10 _ rfl
  have z11 := hZ1'.out.c 11 _ rfl
  have t0 := hZ1'.out.z 0
  have t1 := hZ1'.out.z 1
  have t2 := hZ1'.out.z 2
  have t3 := hZ1'.out.z 3
  have t4 := hZ1'.out.z 4
  have t5 := hZ1'.out.z 5
  have t6 := hZ1'.out.z 6
  have t7 := hZ1'.out.z 7
  have t8 := hZ1'.out.z 8
  have t9 := hZ1'.out.z 9
  have t10 := hZ1'.out.z 10
  have t11 := hZ1'.out.z 11
  have hlz := hZ1'.out.lt
  go_wp2_with ((at_make; refine list_make Try.underlying24 (z := .int .i64 0) (bytes := 8) (by kernel_rfl) rfl rfl _ _ rfl wa.heap.size .i64 .i64 (0) (0) (0) rfl rfl rfl rfl (by omega) (by simp only [maxLen]; omega) (Nat.le_refl _) ?_))
  intro wb hv hg hlt
  have hb : Below wa.heap.size wa wb := (Below.refl _ _).grown hg (Nat.le_refl _) (by simp)
  have hvs := hide (show Sl wb 1 (.slice (some ⟨wa.heap.size, 0, none⟩) (0) (0)) (0) (i64V (List.replicate (0) 0)) by have := Sl.own hv; simpa [i64V] using this)
  have hZ2 := hide (hZ1'.out.below hb)
  have hb2 := hide (hbA'.out.trans (hb.mono hbA'.out.size))
  clear hv hg hlt hb z0 z1 z2 z3 z4 z5 z6 z7 z8 z9 z10 z11 t0 t1 t2 t3 t4 t5 t6 t7 t8 t9 t10 t11 hZ1' hbA'
  have z0 := hZ2.out.c 0 _ rfl
  have z1 := hZ2.out.c 1 _ rfl
  have z2 := hZ2.out.c 2 _ rfl
  have z3 := hZ2.out.c 3 _ rfl
  have z4 := hZ2.out.c 4 _ rfl
  have z5 := hZ2.out.c 5 _ rfl
  have z6 := hZ2.out.c 6 _ rfl
  have z7 := hZ2.out.c 7 _ rfl
  have z8 := hZ2.out.c 8 _ rfl
  have z9 := hZ2.out.c 9 _ rfl
  have z10 := hZ2.out.c 10 _ rfl
  have z11 := hZ2.out.c 11 _ rfl
  have t0 := hZ2.out.z 0
  have t1 := hZ2.out.z 1
  have t2 := hZ2.out.z 2
  have t3 := hZ2.out.z 3
  have t4 := hZ2.out.z 4
  have t5 := hZ2.out.z 5
  have t6 := hZ2.out.z 6
  have t7 := hZ2.out.z 7
  have t8 := hZ2.out.z 8
  have t9 := hZ2.out.z 9
  have t10 := hZ2.out.z 10
  have t11 := hZ2.out.z 11
  go_wp2_with fail
  have hT5 : Touch (fun y => y = bz) wb ((((((((((((wb.setCell ⟨bz, 0, none⟩ (.int .i64 0)).setCell ⟨bz, 1, none⟩ (.int .i64 0)).setCell ⟨bz, 2, none⟩ (.int .i64 0)).setCell ⟨bz, 3, none⟩ (.int .i64 0)).setCell ⟨bz, 4, none⟩ (.int .i64 0)).setCell ⟨bz, 5, none⟩ (.int .i64 0)).setCell ⟨bz, 6, none⟩ (.int .i64 0)).setCell ⟨bz, 7, none⟩ (.int .i64 0)).setCell ⟨bz, 8, none⟩ (.int .i64 0)).setCell ⟨bz, 9, none⟩ (.slice (some ⟨wa.heap.size, 0, none⟩) (0) (0))).setCell ⟨bz, 10, none⟩ (.int .i64 0)).setCell ⟨bz, 11, none⟩ (.int .i64 0)) := (Touch.setCell (Touch.setCell (Touch.setCell (Touch.setCell (Touch.setCell (Touch.setCell (Touch.setCell (Touch.setCell (Touch.setCell (Touch.setCell (Touch.setCell (Touch.setCell (Touch.refl (fun y => y = bz) wb) (p := ⟨bz, 0, none⟩) rfl (.int .i64 0)) (p := ⟨bz, 1, none⟩) rfl (.int .i64 0)) (p := ⟨bz, 2, none⟩) rfl (.int .i64 0)) (p := ⟨bz, 3, none⟩) rfl (.int .i64 0)) (p := ⟨bz, 4, none⟩) rfl (.int .i64 0)) (p := ⟨bz, 5, none⟩) rfl (.int .i64 0)) (p := ⟨bz, 6, none⟩) rfl (.int .i64 0)) (p := ⟨bz, 7, none⟩) rfl (.int .i64 0)) (p := ⟨bz, 8, none⟩) rfl (.int .i64 0)) (p := ⟨bz, 9, none⟩) rfl (.slice (some ⟨wa.heap.size, 0, none⟩) (0) (0))) (p := ⟨bz, 10, none⟩) rfl (.int .i64 0)) (p := ⟨bz, 11, none⟩) rfl (.int .i64 0))
  have hZ5 : Row ((((((((((((wb.setCell ⟨bz, 0, none⟩ (.int .i64 0)).setCell ⟨bz, 1, none⟩ (.int .i64 0)).setCell ⟨bz, 2, none⟩ (.int .i64 0)).setCell ⟨bz, 3, none⟩ (.int .i64 0)).setCell ⟨bz, 4, none⟩ (.int .i64 0)).setCell ⟨bz, 5, none⟩ (.int .i64 0)).setCell ⟨bz, 6, none⟩ (.int .i64 0)).setCell ⟨bz, 7, none⟩ (.int .i64 0)).setCell ⟨bz, 8, none⟩ (.int .i64 0)).setCell ⟨bz, 9, none⟩ (.slice (some ⟨wa.heap.size, 0, none⟩) (0) (0))).setCell ⟨bz, 10, none⟩ (.int .i64 0)).setCell ⟨bz, 11, none⟩ (.int .i64 0)) bz [.int .i64 0, .int .i64 0, .int .i64 0, .int .i64 0, .int .i64 0, .int .i64 0, .int .i64 0, .int .i64 0, .int .i64 0, .slice (some ⟨wa.heap.size, 0, none⟩) (0) (0), .int .i64 0, .int .i64 0] := (Row.set (Row.set (Row.set (Row.set (Row.set (Row.set (Row.set (Row.set (Row.set (Row.set (Row.set (Row.set hZ2.out 0 (by simp) (.int .i64 0)) 1 (by simp) (.int .i64 0)) 2 (by simp) (.int .i64 0)) 3 (by simp) (.int .i64 0)) 4 (by simp) (.int .i64 0)) 5 (by simp) (.int .i64 0)) 6 (by simp) (.int .i64 0)) 7 (by simp) (.int .i64 0)) 8 (by simp) (.int .i64 0)) 9 (by simp) (.slice (some ⟨wa.heap.size, 0, none⟩) (0) (0))) 10 (by simp) (.int .i64 0)) 11 (by simp) (.int .i64 0))
  have hb5 := hb2.out.trans (hT5.below hb2.out.size (fun y hy e => by have := hbz'.out; omega))
  have hm5 := Sl.kept0P hvs.out hT5.2.1 (fun _ y hy _ => hT5.2.2 y (by cases hy; assumption) (fun e => by cases hy; have e' : wa.heap.size = bz := e; omega))
  clear z0 z1 z2 z3 z4 z5 z6 z7 z8 z9 z10 z11 t0 t1 t2 t3 t4 t5 t6 t7 t8 t9 t10 t11 hT5
  generalize ((((((((((((wb.setCell ⟨bz, 0, none⟩ (.int .i64 0)).setCell ⟨bz, 1, none⟩ (.int .i64 0)).setCell ⟨bz, 2, none⟩ (.int .i64 0)).setCell ⟨bz, 3, none⟩ (.int .i64 0)).setCell ⟨bz, 4, none⟩ (.int .i64 0)).setCell ⟨bz, 5, none⟩ (.int .i64 0)).setCell ⟨bz, 6, none⟩ (.int .i64 0)).setCell ⟨bz, 7, none⟩ (.int .i64 0)).setCell ⟨bz, 8, none⟩ (.int .i64 0)).setCell ⟨bz, 9, none⟩ (.slice (some ⟨wa.heap.size, 0, none⟩) (0) (0))).setCell ⟨bz, 10, none⟩ (.int .i64 0)).setCell ⟨bz, 11, none⟩ (.int .i64 0)) = we at *
  have hZ6 := hide hZ5
  clear hZ5
  have z0 := hZ6.out.c 0 _ rfl
  have z1 := hZ6.out.c 1 _ rfl
  have z2 := hZ6.out.c 2 _ rfl
  have z3 := hZ6.out.c 3 _ rfl
  have z4 := hZ6.out.c 4 _ rfl
  have z5 := hZ6.out.c 5 _ rfl
  have z6 := hZ6.out.c 6 _ rfl
  have z7 := hZ6.out.c 7 _ rfl
  have z8 := hZ6.out.c 8 _ rfl
  have z9 := hZ6.out.c 9 _ rfl
  have z10 := hZ6.out.c 10 _ rfl
  have z11 := hZ6.out.c 11 _ rfl
  refine bodyPost_ret (v := .agg #[.int .i64 0, .int .i64 0, .int .i64 0, .int .i64 0, .int .i64 0, .int .i64 0, .int .i64 0, .int .i64 0, .int .i64 0, .slice (some ⟨wa.heap.size, 0, none⟩) (0) (0), .int .i64 0, .int .i64 0]) (by simp [results, Try.results8, go_sem, z0, z1, z2, z3, z4, z5, z6, z7, z8, z9, z10, z11]) rfl ⟨_, rfl, hm5, hb5⟩
end Go.Proofs.Ytmgcbiejnifhpaa
