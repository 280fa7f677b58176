/- The document's disk: step, Flush walked. -/
import Derived.Test.YtamkngpkplflcaaRefDisk2
namespace Go.Proofs.Ytamkngpkplflcaa
open Go.RowKit

set_option maxRecDepth 100000 in
set_option maxHeartbeats 1000000 in
theorem rstep_off (B : Nat → Prop) (v : Value) (r : Rk) (w : World) (h : RkAt w B v r) (ho : r.off = true) :
    Calls Try.prog 54 #[v] w fun e w' => ∃ u, e = .returned (.tuple #[u, .bool false]) ∧ RkAt w' (fun y => B y ∨ w.heap.size ≤ y) u r ∧ Below w.heap.size w w' := by
  have ht := h.tight
  obtain ⟨A1, c1, A2, c2, A3, c3, rfl, h1⟩ := h
  rw [ho] at ht ⊢
  have hR := hide ht
  clear h1 ht ho
  go_enter Try.func54, Try.ntmps54
  go_upto_region 1 with (fail)
  have hX1 := RBox.new w 71 (.slice A1 r.has.length c1) (.slice A2 r.waits.length c2) (.bool true) (.int .i64 r.left) (.slice A3 r.surv.length c3)
  have hbA : Below w.heap.size w (w.alloc (.cells #[.slice A1 r.has.length c1, .slice A2 r.waits.length c2, .bool true, .int .i64 r.left, .slice A3 r.surv.length c3] 71)) := (Below.refl _ _).alloc (Nat.le_refl _) _
  have hsA : (w.alloc (.cells #[.slice A1 r.has.length c1, .slice A2 r.waits.length c2, .bool true, .int .i64 r.left, .slice A3 r.surv.length c3] 71)).heap.size = w.heap.size + 1 := by simp
  generalize w.alloc (.cells #[.slice A1 r.has.length c1, .slice A2 r.waits.length c2, .bool true, .int .i64 r.left, .slice A3 r.surv.length c3] 71) = wa at *
  have hZ1 := RBox.new wa 71 (.slice none 0 0) (.slice none 0 0) (.bool false) (.int .i64 0) (.slice none 0 0)
  have hbB : Below wa.heap.size wa (wa.alloc (.cells #[.slice none 0 0, .slice none 0 0, .bool false, .int .i64 0, .slice none 0 0] 71)) := (Below.refl _ _).alloc (Nat.le_refl _) _
  have hX2 := hX1.below hbB
  have hb2 := hbA.trans (hbB.mono hbA.size)
  rw [hsA] at hZ1
  generalize wa.alloc (.cells #[.slice none 0 0, .slice none 0 0, .bool false, .int .i64 0, .slice none 0 0] 71) = wb at *
  have hX' := hide hX2
  have hZ' := hide hZ1
  have hb' := hide hb2
  clear hX1 hbA hsA hZ1 hbB hX2 hb2
  obtain ⟨bx, hbx⟩ : ∃ bx, bx = w.heap.size := ⟨_, rfl⟩
  rw [← hbx] at hX' hZ' ⊢
  have hbx' := hide hbx
  clear hbx
  have hX4 := hX'
  have hZ4 := hZ'
  have hb4 := hb'
  have hbz := hide hZ'.out.lt
  have hu4 := hide ((hR.out.below hb'.out).mono (C := fun y => (B y ∧ y < w.heap.size) ∨ wb.heap.size ≤ y) (fun y hy => .inl hy))
  clear hX' hZ' hR
  obtain ⟨w4, rfl⟩ : ∃ w4 : World, w4 = wb := ⟨_, rfl⟩
  have y0 := hX4.out.c0
  have y1 := hX4.out.c1
  have y2 := hX4.out.c2
  have y3 := hX4.out.c3
  have y4 := hX4.out.c4
  have z0 := hZ4.out.c0
  have z1 := hZ4.out.c1
  have z2 := hZ4.out.c2
  have z3 := hZ4.out.c3
  have z4 := hZ4.out.c4
  have tz0 := hZ4.out.z 0
  have tz1 := hZ4.out.z 1
  have tz2 := hZ4.out.z 2
  have tz3 := hZ4.out.z 3
  have tz4 := hZ4.out.z 4
  go_wp2_with fail
  have hT5 := touch_set5 (fun y => y = bx + 1) w4 (bx + 1) (.slice A1 r.has.length c1) (.slice A2 r.waits.length c2) (.bool true) (.int .i64 r.left) (.slice A3 r.surv.length c3) rfl
  have hZ5 := hZ4.out.set5 (.slice A1 r.has.length c1) (.slice A2 r.waits.length c2) (.bool true) (.int .i64 r.left) (.slice A3 r.surv.length c3)
  have hu5 := hu4.out.later hT5.2 (fun y hy e => by have := hbx'.out; have := hbz.out; rcases hy with hy | hy; have := hy.2; omega; omega)
  have hb5 := hb4.out.trans (hT5.below hb4.out.size (fun y hy e => by have := hbx'.out; omega))
  refine bodyPost_ret (v := .tuple #[.agg #[.slice A1 r.has.length c1, .slice A2 r.waits.length c2, .bool true, .int .i64 r.left, .slice A3 r.surv.length c3], .bool false]) (by simp [results, Try.results54, go_sem, z0, z1, z2, z3, z4]) rfl ⟨_, rfl, ?_, hb5⟩
  refine hu5.mono (fun y hy => ?_)
  have := hb'.out.size
  rcases hy with hy | hy
  · exact .inl hy.1
  · exact .inr (by omega)
set_option maxRecDepth 100000 in
set_option maxHeartbeats 1000000 in
theorem rstep_zero (B : Nat → Prop) (v : Value) (r : Rk) (w : World) (h : RkAt w B v r) (ok : r.Ok) (ho : r.off = false) (hl : r.left = 0) :
    Calls Try.prog 54 #[v] w fun e w' => ∃ u, e = .returned (.tuple #[u, .bool false]) ∧ RkAt w' (fun y => B y ∨ w.heap.size ≤ y) u (r.crash r.surv) ∧ Below w.heap.size w w' := by
  have ht := h.tight
  have h3 := h
  obtain ⟨A1, c1, A2, c2, A3, c3, rfl, _, _, h1, _⟩ := h
  rw [ho] at ht ⊢
  have hR := hide ht
  have hS := hide h1
  have ok' := hide ok
  have ho' := hide ho
  have hl' := hide hl
  clear h1 ht h3 ok ho hl
  go_enter Try.func54, Try.ntmps54
  go_upto_region 1 with (fail)
  have hX1 := RBox.new w 71 (.slice A1 r.has.length c1) (.slice A2 r.waits.length c2) (.bool false) (.int .i64 r.left) (.slice A3 r.surv.length c3)
  have hbA : Below w.heap.size w (w.alloc (.cells #[.slice A1 r.has.length c1, .slice A2 r.waits.length c2, .bool false, .int .i64 r.left, .slice A3 r.surv.length c3] 71)) := (Below.refl _ _).alloc (Nat.le_refl _) _
  have hsA : (w.alloc (.cells #[.slice A1 r.has.length c1, .slice A2 r.waits.length c2, .bool false, .int .i64 r.left, .slice A3 r.surv.length c3] 71)).heap.size = w.heap.size + 1 := by simp
  generalize w.alloc (.cells #[.slice A1 r.has.length c1, .slice A2 r.waits.length c2, .bool false, .int .i64 r.left, .slice A3 r.surv.length c3] 71) = wa at *
  have hZ1 := RBox.new wa 71 (.slice none 0 0) (.slice none 0 0) (.bool false) (.int .i64 0) (.slice none 0 0)
  have hbB : Below wa.heap.size wa (wa.alloc (.cells #[.slice none 0 0, .slice none 0 0, .bool false, .int .i64 0, .slice none 0 0] 71)) := (Below.refl _ _).alloc (Nat.le_refl _) _
  have hX2 := hX1.below hbB
  have hb2 := hbA.trans (hbB.mono hbA.size)
  rw [hsA] at hZ1
  generalize wa.alloc (.cells #[.slice none 0 0, .slice none 0 0, .bool false, .int .i64 0, .slice none 0 0] 71) = wb at *
  have hX' := hide hX2
  have hZ' := hide hZ1
  have hb' := hide hb2
  clear hX1 hbA hsA hZ1 hbB hX2 hb2
  obtain ⟨bx, hbx⟩ : ∃ bx, bx = w.heap.size := ⟨_, rfl⟩
  rw [← hbx] at hX' hZ' ⊢
  have hbx' := hide hbx
  clear hbx
  have hbz := hide hZ'.out.lt
  have y0 := hX'.out.c0
  have y1 := hX'.out.c1
  have y2 := hX'.out.c2
  have y3 := hX'.out.c3
  have y4 := hX'.out.c4
  have hd1 : (r.left == 0) = true := by rw [hl'.out]; rfl
  have hd2 : decide (r.left = 0) = true := by rw [hl'.out]; rfl
  go_upto_region 3 with (fail)
  go_upto_region 4 with (fail)
  go_wp2_with fail
  refine (rcrash_any _ _ r _ r.surv wb (hR.out.below hb'.out) (Sl.below hS.out hb'.out) ok'.out).mono ?_
  rintro e w4 ⟨u, rfl, hu, hb⟩
  have hX4 := hide (hX'.out.below hb)
  have hZ4 := hide (hZ'.out.below hb)
  have hb4 := hide (hb'.out.trans (hb.mono hb'.out.size))
  have hu4 := hide hu
  clear y0 y1 y2 y3 y4 hX' hZ' hb
  generalize hq : r.crash r.surv = q at *
  have hq' := hide hq
  clear hq
  obtain ⟨A5, c5, A6, c6, A7, c7, rfl, _⟩ := hu
  have y0 := hX4.out.c0
  have y1 := hX4.out.c1
  have y2 := hX4.out.c2
  have y3 := hX4.out.c3
  have y4 := hX4.out.c4
  have z0 := hZ4.out.c0
  have z1 := hZ4.out.c1
  have z2 := hZ4.out.c2
  have z3 := hZ4.out.c3
  have z4 := hZ4.out.c4
  have tz0 := hZ4.out.z 0
  have tz1 := hZ4.out.z 1
  have tz2 := hZ4.out.z 2
  have tz3 := hZ4.out.z 3
  have tz4 := hZ4.out.z 4
  go_wp2_with fail
  have hT5 := touch_set5 (fun y => y = bx + 1) w4 (bx + 1) (.slice A5 q.has.length c5) (.slice A6 q.waits.length c6) (.bool q.off) (.int .i64 q.left) (.slice A7 q.surv.length c7) rfl
  have hZ5 := hZ4.out.set5 (.slice A5 q.has.length c5) (.slice A6 q.waits.length c6) (.bool q.off) (.int .i64 q.left) (.slice A7 q.surv.length c7)
  have hu5 := hu4.out.later hT5.2 (fun y hy e => by have := hbx'.out; have := hbz.out; rcases hy with hy | hy; have := hy.2; omega; omega)
  have hb5 := hb4.out.trans (hT5.below hb4.out.size (fun y hy e => by have := hbx'.out; omega))
  refine bodyPost_ret (v := .tuple #[.agg #[.slice A5 q.has.length c5, .slice A6 q.waits.length c6, .bool q.off, .int .i64 q.left, .slice A7 q.surv.length c7], .bool false]) (by simp [results, Try.results54, go_sem, z0, z1, z2, z3, z4]) rfl ⟨_, rfl, ?_, hb5⟩
  have hq := hq'.out
  subst hq
  refine hu5.mono (fun y hy => ?_)
  have := hb'.out.size
  rcases hy with hy | hy
  · exact .inl hy.1
  · exact .inr (by omega)
set_option maxRecDepth 100000 in
set_option maxHeartbeats 1000000 in
theorem rstep_down (B : Nat → Prop) (v : Value) (r : Rk) (w : World) (h : RkAt w B v r) (ho : r.off = false) (hl : 0 < r.left) (hI : I64 r.left) :
    Calls Try.prog 54 #[v] w fun e w' => ∃ u, e = .returned (.tuple #[u, .bool true]) ∧ RkAt w' (fun y => B y ∨ w.heap.size ≤ y) u { r with left := r.left - 1 } ∧ Below w.heap.size w w' := by
  have ht := h.tight
  obtain ⟨A1, c1, A2, c2, A3, c3, rfl, h1⟩ := h
  rw [ho] at ht ⊢
  have hR := hide ht
  have ho' := hide ho
  clear h1 ht ho
  go_enter Try.func54, Try.ntmps54
  go_upto_region 1 with (fail)
  have hX1 := RBox.new w 71 (.slice A1 r.has.length c1) (.slice A2 r.waits.length c2) (.bool false) (.int .i64 r.left) (.slice A3 r.surv.length c3)
  have hbA : Below w.heap.size w (w.alloc (.cells #[.slice A1 r.has.length c1, .slice A2 r.waits.length c2, .bool false, .int .i64 r.left, .slice A3 r.surv.length c3] 71)) := (Below.refl _ _).alloc (Nat.le_refl _) _
  have hsA : (w.alloc (.cells #[.slice A1 r.has.length c1, .slice A2 r.waits.length c2, .bool false, .int .i64 r.left, .slice A3 r.surv.length c3] 71)).heap.size = w.heap.size + 1 := by simp
  generalize w.alloc (.cells #[.slice A1 r.has.length c1, .slice A2 r.waits.length c2, .bool false, .int .i64 r.left, .slice A3 r.surv.length c3] 71) = wa at *
  have hZ1 := RBox.new wa 71 (.slice none 0 0) (.slice none 0 0) (.bool false) (.int .i64 0) (.slice none 0 0)
  have hbB : Below wa.heap.size wa (wa.alloc (.cells #[.slice none 0 0, .slice none 0 0, .bool false, .int .i64 0, .slice none 0 0] 71)) := (Below.refl _ _).alloc (Nat.le_refl _) _
  have hX2 := hX1.below hbB
  have hb2 := hbA.trans (hbB.mono hbA.size)
  rw [hsA] at hZ1
  generalize wa.alloc (.cells #[.slice none 0 0, .slice none 0 0, .bool false, .int .i64 0, .slice none 0 0] 71) = wb at *
  have hX' := hide hX2
  have hZ' := hide hZ1
  have hb' := hide hb2
  clear hX1 hbA hsA hZ1 hbB hX2 hb2
  obtain ⟨bx, hbx⟩ : ∃ bx, bx = w.heap.size := ⟨_, rfl⟩
  rw [← hbx] at hX' hZ' ⊢
  have hbx' := hide hbx
  clear hbx
  have hbz := hide hZ'.out.lt
  have y2 := hX'.out.c2
  have y3 := hX'.out.c3
  have t3 := hX'.out.z 3
  have hd1 : (r.left == 0) = false := by simp; omega
  have hd2 : decide (r.left = 0) = false := decide_eq_false (by omega)
  have hd3 : decide (0 < r.left) = true := decide_eq_true hl
  go_upto_region 3 with (fail)
  go_upto_region 5 with (fail)
  go_upto_region 7 with (fail)
  rw [show wrap64 (r.left - 1) = r.left - 1 by unfold wrap64; unfold I64 at hI; omega]
  have hT4 : Touch (fun y => y = bx) wb (wb.setCell ⟨bx, 3, none⟩ (.int .i64 (r.left - 1))) := (Touch.refl (fun y => y = bx) wb).setCell (p := ⟨bx, 3, none⟩) rfl _
  have hX4 := hide (hX'.out.set3 (.int .i64 (r.left - 1)))
  have hZ4 := hide (hZ'.out.later hT4.2 (by omega))
  have hu4 := hide (((hR.out.below hb'.out).later hT4.2 (fun y hy e => by have := hbx'.out; have := hy.2; omega)).mono (C := fun y => (B y ∧ y < w.heap.size) ∨ wb.heap.size ≤ y) (fun y hy => .inl hy))
  have hb4 := hide (hb'.out.trans (hT4.below hb'.out.size (fun y hy e => by have := hbx'.out; omega)))
  clear y2 y3 t3 hd1 hd2 hd3 hX' hZ' hR hT4
  generalize wb.setCell ⟨bx, 3, none⟩ (.int .i64 (r.left - 1)) = w4 at *
  have y0 := hX4.out.c0
  have y1 := hX4.out.c1
  have y2 := hX4.out.c2
  have y3 := hX4.out.c3
  have y4 := hX4.out.c4
  have z0 := hZ4.out.c0
  have z1 := hZ4.out.c1
  have z2 := hZ4.out.c2
  have z3 := hZ4.out.c3
  have z4 := hZ4.out.c4
  have tz0 := hZ4.out.z 0
  have tz1 := hZ4.out.z 1
  have tz2 := hZ4.out.z 2
  have tz3 := hZ4.out.z 3
  have tz4 := hZ4.out.z 4
  go_wp2_with fail
  have hT5 := touch_set5 (fun y => y = bx + 1) w4 (bx + 1) (.slice A1 r.has.length c1) (.slice A2 r.waits.length c2) (.bool false) (.int .i64 (r.left - 1)) (.slice A3 r.surv.length c3) rfl
  have hZ5 := hZ4.out.set5 (.slice A1 r.has.length c1) (.slice A2 r.waits.length c2) (.bool false) (.int .i64 (r.left - 1)) (.slice A3 r.surv.length c3)
  have hu5 := hu4.out.later hT5.2 (fun y hy e => by have := hbx'.out; have := hbz.out; rcases hy with hy | hy; have := hy.2; omega; omega)
  have hb5 := hb4.out.trans (hT5.below hb4.out.size (fun y hy e => by have := hbx'.out; omega))
  refine bodyPost_ret (v := .tuple #[.agg #[.slice A1 r.has.length c1, .slice A2 r.waits.length c2, .bool false, .int .i64 (r.left - 1), .slice A3 r.surv.length c3], .bool true]) (by simp [results, Try.results54, go_sem, z0, z1, z2, z3, z4]) rfl ⟨_, rfl, ?_, hb5⟩
  have := (hu5.flags false (r.left - 1)).mono (C := fun y => B y ∨ w.heap.size ≤ y) (fun y hy => by
    have := hb'.out.size
    rcases hy with hy | hy
    · exact .inl hy.1
    · exact .inr (by omega))
  simpa only [ho'.out] using this
set_option maxRecDepth 100000 in
set_option maxHeartbeats 1000000 in
theorem rstep_free (B : Nat → Prop) (v : Value) (r : Rk) (w : World) (h : RkAt w B v r) (ho : r.off = false) (hl : r.left < 0) :
    Calls Try.prog 54 #[v] w fun e w' => ∃ u, e = .returned (.tuple #[u, .bool true]) ∧ RkAt w' (fun y => B y ∨ w.heap.size ≤ y) u r ∧ Below w.heap.size w w' := by
  have ht := h.tight
  obtain ⟨A1, c1, A2, c2, A3, c3, rfl, h1⟩ := h
  rw [ho] at ht ⊢
  have hR := hide ht
  clear h1 ht ho
  go_enter Try.func54, Try.ntmps54
  go_upto_region 1 with (fail)
  have hX1 := RBox.new w 71 (.slice A1 r.has.length c1) (.slice A2 r.waits.length c2) (.bool false) (.int .i64 r.left) (.slice A3 r.surv.length c3)
  have hbA : Below w.heap.size w (w.alloc (.cells #[.slice A1 r.has.length c1, .slice A2 r.waits.length c2, .bool false, .int .i64 r.left, .slice A3 r.surv.length c3] 71)) := (Below.refl _ _).alloc (Nat.le_refl _) _
  have hsA : (w.alloc (.cells #[.slice A1 r.has.length c1, .slice A2 r.waits.length c2, .bool false, .int .i64 r.left, .slice A3 r.surv.length c3] 71)).heap.size = w.heap.size + 1 := by simp
  generalize w.alloc (.cells #[.slice A1 r.has.length c1, .slice A2 r.waits.length c2, .bool false, .int .i64 r.left, .slice A3 r.surv.length c3] 71) = wa at *
  have hZ1 := RBox.new wa 71 (.slice none 0 0) (.slice none 0 0) (.bool false) (.int .i64 0) (.slice none 0 0)
  have hbB : Below wa.heap.size wa (wa.alloc (.cells #[.slice none 0 0, .slice none 0 0, .bool false, .int .i64 0, .slice none 0 0] 71)) := (Below.refl _ _).alloc (Nat.le_refl _) _
  have hX2 := hX1.below hbB
  have hb2 := hbA.trans (hbB.mono hbA.size)
  rw [hsA] at hZ1
  generalize wa.alloc (.cells #[.slice none 0 0, .slice none 0 0, .bool false, .int .i64 0, .slice none 0 0] 71) = wb at *
  have hX' := hide hX2
  have hZ' := hide hZ1
  have hb' := hide hb2
  clear hX1 hbA hsA hZ1 hbB hX2 hb2
  obtain ⟨bx, hbx⟩ : ∃ bx, bx = w.heap.size := ⟨_, rfl⟩
  rw [← hbx] at hX' hZ' ⊢
  have hbx' := hide hbx
  clear hbx
  have hX4 := hX'
  have hZ4 := hZ'
  have hb4 := hb'
  have hbz := hide hZ'.out.lt
  have hu4 := hide ((hR.out.below hb'.out).mono (C := fun y => (B y ∧ y < w.heap.size) ∨ wb.heap.size ≤ y) (fun y hy => .inl hy))
  have y2 := hX'.out.c2
  have y3 := hX'.out.c3
  have hd1 : (r.left == 0) = false := by simp; omega
  have hd2 : decide (r.left = 0) = false := decide_eq_false (by omega)
  have hd3 : decide (0 < r.left) = false := decide_eq_false (by omega)
  clear hX' hZ' hR
  go_upto_region 3 with (fail)
  go_upto_region 5 with (fail)
  go_upto_region 7 with (fail)
  clear y2 y3 hd1 hd2 hd3
  obtain ⟨w4, rfl⟩ : ∃ w4 : World, w4 = wb := ⟨_, rfl⟩
  have y0 := hX4.out.c0
  have y1 := hX4.out.c1
  have y2 := hX4.out.c2
  have y3 := hX4.out.c3
  have y4 := hX4.out.c4
  have z0 := hZ4.out.c0
  have z1 := hZ4.out.c1
  have z2 := hZ4.out.c2
  have z3 := hZ4.out.c3
  have z4 := hZ4.out.c4
  have tz0 := hZ4.out.z 0
  have tz1 := hZ4.out.z 1
  have tz2 := hZ4.out.z 2
  have tz3 := hZ4.out.z 3
  have tz4 := hZ4.out.z 4
  go_wp2_with fail
  have hT5 := touch_set5 (fun y => y = bx + 1) w4 (bx + 1) (.slice A1 r.has.length c1) (.slice A2 r.waits.length c2) (.bool false) (.int .i64 r.left) (.slice A3 r.surv.length c3) rfl
  have hZ5 := hZ4.out.set5 (.slice A1 r.has.length c1) (.slice A2 r.waits.length c2) (.bool false) (.int .i64 r.left) (.slice A3 r.surv.length c3)
  have hu5 := hu4.out.later hT5.2 (fun y hy e => by have := hbx'.out; have := hbz.out; rcases hy with hy | hy; have := hy.2; omega; omega)
  have hb5 := hb4.out.trans (hT5.below hb4.out.size (fun y hy e => by have := hbx'.out; omega))
  refine bodyPost_ret (v := .tuple #[.agg #[.slice A1 r.has.length c1, .slice A2 r.waits.length c2, .bool false, .int .i64 r.left, .slice A3 r.surv.length c3], .bool true]) (by simp [results, Try.results54, go_sem, z0, z1, z2, z3, z4]) rfl ⟨_, rfl, ?_, hb5⟩
  refine hu5.mono (fun y hy => ?_)
  have := hb'.out.size
  rcases hy with hy | hy
  · exact .inl hy.1
  · exact .inr (by omega)
theorem rstep_any (B : Nat → Prop) (v : Value) (r : Rk) (w : World) (h : RkAt w B v r) (ok : r.Ok) (hI : I64 r.left) :
    Calls Try.prog 54 #[v] w fun e w' => ∃ u, e = .returned (.tuple #[u, .bool r.step.2]) ∧ RkAt w' (fun y => B y ∨ w.heap.size ≤ y) u r.step.1 ∧ Below w.heap.size w w' := by
  unfold Rk.step
  by_cases ho : r.off = true
  · simp only [ho, if_true]
    exact rstep_off B v r w h ho
  · have ho' : r.off = false := by simpa using ho
    simp only [ho', Bool.false_eq_true, if_false]
    by_cases h0 : r.left = 0
    · rw [if_pos h0]
      exact rstep_zero B v r w h ok ho' h0
    · rw [if_neg h0]
      by_cases hp : 0 < r.left
      · rw [if_pos hp]
        simpa only [ho'] using rstep_down B v r w h ho' hp hI
      · rw [if_neg hp]
        exact rstep_free B v r w h ho' (by omega)
theorem Rk.laid_ok {r : Rk} (ok : r.Ok) (all : Bool) (l : List Bool) : (r.laid all l).Ok :=
  ⟨by show (rlayN _ _ _ _).length ≤ 256; rw [rlayN_length]; exact ok.n, fun w hw => absurd hw (by simp [Rk.laid]), by show 0 ≤ 1000000; omega⟩
theorem Rk.crash_ok {r : Rk} (ok : r.Ok) (l : List Bool) : (r.crash l).Ok := by
  unfold Rk.crash
  split
  · exact ok
  · exact ⟨(Rk.laid_ok ok false l).n, (Rk.laid_ok ok false l).wt, (Rk.laid_ok ok false l).wl⟩
theorem Rk.step_ok {r : Rk} (ok : r.Ok) : r.step.1.Ok := by
  unfold Rk.step
  split
  · exact ok
  · split
    · exact Rk.crash_ok ok _
    · split
      · exact ⟨ok.n, ok.wt, ok.wl⟩
      · exact ok
def Rk.flush (r : Rk) : Rk × Int := if r.step.2 then (r.step.1.laid true [], 0) else (r.step.1, 9)
set_option maxRecDepth 100000 in
set_option maxHeartbeats 1000000 in
theorem rflush_any (B : Nat → Prop) (v : Value) (r : Rk) (w : World) (h : RkAt w B v r) (ok : r.Ok) (hI : I64 r.left) :
    Calls Try.prog 40 #[v] w fun e w' => ∃ u, e = .returned (.tuple #[u, .int .i64 r.flush.2]) ∧ RkAt w' (fun y => B y ∨ w.heap.size ≤ y) u r.flush.1 ∧ Below w.heap.size w w' := by
  have ht := h.tight
  obtain ⟨A1, c1, A2, c2, A3, c3, rfl, h1⟩ := h
  generalize ho : r.off = o at ht ⊢
  have hR := hide ht
  have ok' := hide ok
  have hI' := hide hI
  clear h1 ht ho ok hI
  have hfl := hide (show r.flush = if r.step.2 then (r.step.1.laid true [], 0) else (r.step.1, 9) from rfl)
  generalize r.flush = rf at *
  go_enter Try.func40, Try.ntmps40
  go_upto_region 1 with (fail)
  have hX1 := RBox.new w 71 (.slice A1 r.has.length c1) (.slice A2 r.waits.length c2) (.bool o) (.int .i64 r.left) (.slice A3 r.surv.length c3)
  have hbA : Below w.heap.size w (w.alloc (.cells #[.slice A1 r.has.length c1, .slice A2 r.waits.length c2, .bool o, .int .i64 r.left, .slice A3 r.surv.length c3] 71)) := (Below.refl _ _).alloc (Nat.le_refl _) _
  have hsA : (w.alloc (.cells #[.slice A1 r.has.length c1, .slice A2 r.waits.length c2, .bool o, .int .i64 r.left, .slice A3 r.surv.length c3] 71)).heap.size = w.heap.size + 1 := by simp
  generalize w.alloc (.cells #[.slice A1 r.has.length c1, .slice A2 r.waits.length c2, .bool o, .int .i64 r.left, .slice A3 r.surv.length c3] 71) = wa at *
  have hZ1 := RBox.new wa 71 (.slice none 0 0) (.slice none 0 0) (.bool false) (.int .i64 0) (.slice none 0 0)
  have hbB : Below wa.heap.size wa (wa.alloc (.cells #[.slice none 0 0, .slice none 0 0, .bool false, .int .i64 0, .slice none 0 0] 71)) := (Below.refl _ _).alloc (Nat.le_refl _) _
  have hX2 := hX1.below hbB
  have hb2 := hbA.trans (hbB.mono hbA.size)
  rw [hsA] at hZ1
  generalize wa.alloc (.cells #[.slice none 0 0, .slice none 0 0, .bool false, .int .i64 0, .slice none 0 0] 71) = wb at *
  have hX' := hide hX2
  have hZ' := hide hZ1
  have hb' := hide hb2
  clear hX1 hbA hsA hZ1 hbB hX2 hb2
  obtain ⟨bx, hbx⟩ : ∃ bx, bx = w.heap.size := ⟨_, rfl⟩
  rw [← hbx] at hX' hZ' ⊢
  have hbx' := hide hbx
  clear hbx
  have hbz := hide hZ'.out.lt
  have y0 := hX'.out.c0
  have y1 := hX'.out.c1
  have y2 := hX'.out.c2
  have y3 := hX'.out.c3
  have y4 := hX'.out.c4
  go_wp2_with fail
  refine (rstep_any _ _ r wb (hR.out.below hb'.out) ok'.out hI'.out).mono ?_
  rintro e w2 ⟨u, rfl, hu, hb⟩
  have hst := Rk.step_ok ok'.out
  have hX2 := hX'.out.below hb
  have hZ2 := hide (hZ'.out.below hb)
  have hb2 := hide (hb'.out.trans (hb.mono hb'.out.size))
  have hs2 := hide hb.size
  clear y0 y1 y2 y3 y4 hX' hZ' hb
  generalize hq : r.step = q at *
  have hq' := hide hq
  clear hq
  obtain ⟨q, b⟩ := q
  have hst' := hide hst
  have hu' := hide hu
  obtain ⟨A5, c5, A6, c6, A7, c7, rfl, _⟩ := hu
  have t0 := hX2.z 0
  have t1 := hX2.z 1
  have t2 := hX2.z 2
  have t3 := hX2.z 3
  have t4 := hX2.z 4
  have y0 := hX2.c0
  have y1 := hX2.c1
  have y2 := hX2.c2
  have y3 := hX2.c3
  have y4 := hX2.c4
  have hX2' := hide hX2
  clear hX2 hst
  go_upto_region 2 with (fail)
  have hT3 := touch_set5 (fun y => y = bx) w2 bx (.slice A5 q.has.length c5) (.slice A6 q.waits.length c6) (.bool q.off) (.int .i64 q.left) (.slice A7 q.surv.length c7) rfl
  have hX3 := hide (hX2'.out.set5 (.slice A5 q.has.length c5) (.slice A6 q.waits.length c6) (.bool q.off) (.int .i64 q.left) (.slice A7 q.surv.length c7))
  have hZ3 := hide (hZ2.out.later hT3.2 (by omega))
  have hu3 := hide (hu'.out.later hT3.2 (fun y hy e => by have := hbx'.out; have := hbz.out; rcases hy with hy | hy; have := hy.2; omega; omega))
  have hb3 := hide (hb2.out.trans (hT3.below hb2.out.size (fun y hy e => by have := hbx'.out; omega)))
  have hs3 := hide hT3.2.1
  clear t0 t1 t2 t3 t4 y0 y1 y2 y3 y4 hX2' hZ2 hu' hb2 hT3
  generalize (((((w2.setCell ⟨bx, 0, none⟩ (.slice A5 q.has.length c5)).setCell ⟨bx, 1, none⟩ (.slice A6 q.waits.length c6)).setCell ⟨bx, 2, none⟩ (.bool q.off)).setCell ⟨bx, 3, none⟩ (.int .i64 q.left)).setCell ⟨bx, 4, none⟩ (.slice A7 q.surv.length c7)) = w3 at *
  cases b
  · have e := hfl.out
    simp only [Bool.false_eq_true, if_false] at e
    subst e
    obtain ⟨w4, rfl⟩ : ∃ w4 : World, w4 = w3 := ⟨_, rfl⟩
    have hX4 := hX3
    have hZ4 := hZ3
    have hb4 := hb3
    have hu4 := hu3
    clear hX3 hZ3 hu3 hb3
    have y0 := hX4.out.c0
    have y1 := hX4.out.c1
    have y2 := hX4.out.c2
    have y3 := hX4.out.c3
    have y4 := hX4.out.c4
    have z0 := hZ4.out.c0
    have z1 := hZ4.out.c1
    have z2 := hZ4.out.c2
    have z3 := hZ4.out.c3
    have z4 := hZ4.out.c4
    have tz0 := hZ4.out.z 0
    have tz1 := hZ4.out.z 1
    have tz2 := hZ4.out.z 2
    have tz3 := hZ4.out.z 3
    have tz4 := hZ4.out.z 4
    go_wp2_with fail
    have hT5 := touch_set5 (fun y => y = bx + 1) w4 (bx + 1) (.slice A5 q.has.length c5) (.slice A6 q.waits.length c6) (.bool q.off) (.int .i64 q.left) (.slice A7 q.surv.length c7) rfl
    have hZ5 := hZ4.out.set5 (.slice A5 q.has.length c5) (.slice A6 q.waits.length c6) (.bool q.off) (.int .i64 q.left) (.slice A7 q.surv.length c7)
    have hu5 := hu4.out.later hT5.2 (fun y hy e => by have := hbx'.out; have := hbz.out; rcases hy with hy | hy; have := hy.2; omega; omega)
    have hb5 := hb4.out.trans (hT5.below hb4.out.size (fun y hy e => by have := hbx'.out; omega))
    refine bodyPost_ret (v := .tuple #[.agg #[.slice A5 q.has.length c5, .slice A6 q.waits.length c6, .bool q.off, .int .i64 q.left, .slice A7 q.surv.length c7], .int .i64 9]) (by simp [results, Try.results40, go_sem, z0, z1, z2, z3, z4]) rfl ⟨_, rfl, ?_, hb5⟩
    refine hu5.mono (fun y hy => ?_)
    have := hb'.out.size
    rcases hy with hy | hy
    · exact .inl hy.1
    · exact .inr (by omega)
  · have e := hfl.out
    simp only [if_true] at e
    subst e
    have y0 := hX3.out.c0
    have y1 := hX3.out.c1
    have y2 := hX3.out.c2
    have y3 := hX3.out.c3
    have y4 := hX3.out.c4
    go_wp2_with fail
    refine (rlaid_any _ _ q true (.slice none 0 0) [] w3 hu3.out (Sl.nil _ _) hst'.out).mono ?_
    rintro e w4 ⟨u, rfl, hu, hb⟩
    have hX4 := hide (hX3.out.below hb)
    have hZ4 := hide (hZ3.out.below hb)
    have hb4 := hide (hb3.out.trans (hb.mono hb3.out.size))
    have hu4 := hide (hu.mono (C := fun y => (B y ∧ y < w.heap.size) ∨ wb.heap.size ≤ y) (fun y hy => by
      have := hs2.out
      have := hs3.out
      rcases hy with hy | hy
      · exact hy
      · exact .inr (by omega)))
    clear y0 y1 y2 y3 y4 hX3 hZ3 hb3 hu3 hb
    generalize hq2 : q.laid true [] = p at *
    have hq2' := hide hq2
    clear hq2
    obtain ⟨A8, c8, A9, c9, A0, c0, rfl, _⟩ := hu
    have y0 := hX4.out.c0
    have y1 := hX4.out.c1
    have y2 := hX4.out.c2
    have y3 := hX4.out.c3
    have y4 := hX4.out.c4
    have z0 := hZ4.out.c0
    have z1 := hZ4.out.c1
    have z2 := hZ4.out.c2
    have z3 := hZ4.out.c3
    have z4 := hZ4.out.c4
    have tz0 := hZ4.out.z 0
    have tz1 := hZ4.out.z 1
    have tz2 := hZ4.out.z 2
    have tz3 := hZ4.out.z 3
    have tz4 := hZ4.out.z 4
    go_wp2_with fail
    have hT5 := touch_set5 (fun y => y = bx + 1) w4 (bx + 1) (.slice A8 p.has.length c8) (.slice A9 p.waits.length c9) (.bool p.off) (.int .i64 p.left) (.slice A0 p.surv.length c0) rfl
    have hZ5 := hZ4.out.set5 (.slice A8 p.has.length c8) (.slice A9 p.waits.length c9) (.bool p.off) (.int .i64 p.left) (.slice A0 p.surv.length c0)
    have hu5 := hu4.out.later hT5.2 (fun y hy e => by have := hbx'.out; have := hbz.out; rcases hy with hy | hy; have := hy.2; omega; omega)
    have hb5 := hb4.out.trans (hT5.below hb4.out.size (fun y hy e => by have := hbx'.out; omega))
    refine bodyPost_ret (v := .tuple #[.agg #[.slice A8 p.has.length c8, .slice A9 p.waits.length c9, .bool p.off, .int .i64 p.left, .slice A0 p.surv.length c0], .int .i64 0]) (by simp [results, Try.results40, go_sem, z0, z1, z2, z3, z4]) rfl ⟨_, rfl, ?_, hb5⟩
    have hq2 := hq2'.out
    subst hq2
    refine hu5.mono (fun y hy => ?_)
    have := hb'.out.size
    rcases hy with hy | hy
    · exact .inl hy.1
    · exact .inr (by omega)
def Rk.arm (r : Rk) (n : Int) (l : List Bool) : Rk := if r.off then r else { r with left := if n < 0 then -1 else n, surv := l }
set_option maxRecDepth 100000 in
set_option maxHeartbeats 1000000 in
theorem rarm_off (B : Nat → Prop) (v : Value) (r : Rk) (n : Int) (sv : Value) (w : World) (h : RkAt w B v r) (ho : r.off = true) :
    Calls Try.prog 56 #[v, .int .i64 n, sv] w fun e w' => ∃ u, e = .returned u ∧ RkAt w' (fun y => B y ∨ w.heap.size ≤ y) u r ∧ Below w.heap.size w w' := by
  have ht := h.tight
  obtain ⟨A1, c1, A2, c2, A3, c3, rfl, h1⟩ := h
  rw [ho] at ht ⊢
  have hR := hide ht
  clear h1 ht ho
  go_enter Try.func56, Try.ntmps56
  go_upto_region 1 with (fail)
  have hX1 := RBox.new w 71 (.slice A1 r.has.length c1) (.slice A2 r.waits.length c2) (.bool true) (.int .i64 r.left) (.slice A3 r.surv.length c3)
  have hbA : Below w.heap.size w (w.alloc (.cells #[.slice A1 r.has.length c1, .slice A2 r.waits.length c2, .bool true, .int .i64 r.left, .slice A3 r.surv.length c3] 71)) := (Below.refl _ _).alloc (Nat.le_refl _) _
  have hsA : (w.alloc (.cells #[.slice A1 r.has.length c1, .slice A2 r.waits.length c2, .bool true, .int .i64 r.left, .slice A3 r.surv.length c3] 71)).heap.size = w.heap.size + 1 := by simp
  generalize w.alloc (.cells #[.slice A1 r.has.length c1, .slice A2 r.waits.length c2, .bool true, .int .i64 r.left, .slice A3 r.surv.length c3] 71) = wa at *
  have hZ1 := RBox.new wa 71 (.slice none 0 0) (.slice none 0 0) (.bool false) (.int .i64 0) (.slice none 0 0)
  have hbB : Below wa.heap.size wa (wa.alloc (.cells #[.slice none 0 0, .slice none 0 0, .bool false, .int .i64 0, .slice none 0 0] 71)) := (Below.refl _ _).alloc (Nat.le_refl _) _
  have hX2 := hX1.below hbB
  have hb2 := hbA.trans (hbB.mono hbA.size)
  rw [hsA] at hZ1
  generalize wa.alloc (.cells #[.slice none 0 0, .slice none 0 0, .bool false, .int .i64 0, .slice none 0 0] 71) = wb at *
  have hX' := hide hX2
  have hZ' := hide hZ1
  have hb' := hide hb2
  clear hX1 hbA hsA hZ1 hbB hX2 hb2
  obtain ⟨bx, hbx⟩ : ∃ bx, bx = w.heap.size := ⟨_, rfl⟩
  rw [← hbx] at hX' hZ' ⊢
  have hbx' := hide hbx
  clear hbx
  have hX4 := hX'
  have hZ4 := hZ'
  have hb4 := hb'
  have hbz := hide hZ'.out.lt
  have hu4 := hide ((hR.out.below hb'.out).mono (C := fun y => (B y ∧ y < w.heap.size) ∨ wb.heap.size ≤ y) (fun y hy => .inl hy))
  clear hX' hZ' hR
  obtain ⟨w4, rfl⟩ : ∃ w4 : World, w4 = wb := ⟨_, rfl⟩
  have y0 := hX4.out.c0
  have y1 := hX4.out.c1
  have y2 := hX4.out.c2
  have y3 := hX4.out.c3
  have y4 := hX4.out.c4
  have z0 := hZ4.out.c0
  have z1 := hZ4.out.c1
  have z2 := hZ4.out.c2
  have z3 := hZ4.out.c3
  have z4 := hZ4.out.c4
  have tz0 := hZ4.out.z 0
  have tz1 := hZ4.out.z 1
  have tz2 := hZ4.out.z 2
  have tz3 := hZ4.out.z 3
  have tz4 := hZ4.out.z 4
  go_wp2_with fail
  have hT5 := touch_set5 (fun y => y = bx + 1) w4 (bx + 1) (.slice A1 r.has.length c1) (.slice A2 r.waits.length c2) (.bool true) (.int .i64 r.left) (.slice A3 r.surv.length c3) rfl
  have hZ5 := hZ4.out.set5 (.slice A1 r.has.length c1) (.slice A2 r.waits.length c2) (.bool true) (.int .i64 r.left) (.slice A3 r.surv.length c3)
  have hu5 := hu4.out.later hT5.2 (fun y hy e => by have := hbx'.out; have := hbz.out; rcases hy with hy | hy; have := hy.2; omega; omega)
  have hb5 := hb4.out.trans (hT5.below hb4.out.size (fun y hy e => by have := hbx'.out; omega))
  refine bodyPost_ret (v := .agg #[.slice A1 r.has.length c1, .slice A2 r.waits.length c2, .bool true, .int .i64 r.left, .slice A3 r.surv.length c3]) (by simp [results, Try.results56, go_sem, z0, z1, z2, z3, z4]) rfl ⟨_, rfl, ?_, hb5⟩
  refine hu5.mono (fun y hy => ?_)
  have := hb'.out.size
  rcases hy with hy | hy
  · exact .inl hy.1
  · exact .inr (by omega)
set_option maxRecDepth 100000 in
set_option maxHeartbeats 1000000 in
theorem rarm_on (B : Nat → Prop) (v : Value) (r : Rk) (n : Int) (sv : Value) (l : List Bool) (w : World) (h : RkAt w B v r) (ho : r.off = false) (hs : Bools w sv l) (hsB : OwnIn B l.length sv) :
    Calls Try.prog 56 #[v, .int .i64 n, sv] w fun e w' => ∃ u, e = .returned u ∧ RkAt w' (fun y => B y ∨ w.heap.size ≤ y) u { r with left := if n < 0 then -1 else n, surv := l } ∧ Below w.heap.size w w' := by
  have ht := h.tight
  obtain ⟨A1, c1, A2, c2, A3, c3, rfl, h1⟩ := h
  rw [ho] at ht ⊢
  obtain ⟨A9, c9, rfl⟩ : ∃ A9 c9, sv = .slice A9 l.length c9 := by
    obtain ⟨A, c, e, _⟩ := hs
    exact ⟨A, c, e⟩
  obtain ⟨a1, b1, a2, b2, a3, b3, e, k1, k2, k3, k4, k5, k6⟩ := ht
  simp only [Value.agg.injEq, Array.mk.injEq, List.cons.injEq, and_true] at e
  obtain ⟨e1, e2, -, -, e5⟩ := e
  rw [← e1] at k1 k4
  rw [← e2] at k2 k5
  have hn : OwnIn (fun y => B y ∧ y < w.heap.size) l.length (.slice A9 l.length c9) := fun hp y hy => ⟨hsB hp y hy, Sl.lt0 hs hp y hy⟩
  obtain ⟨m, hm⟩ : ∃ m, m = if n < 0 then -1 else n := ⟨_, rfl⟩
  rw [← hm]
  have hm' := hide hm
  clear hm
  have hR := hide (show RkAt w (fun y => B y ∧ y < w.heap.size) (.agg #[.slice A1 r.has.length c1, .slice A2 r.waits.length c2, .bool r.off, .int .i64 m, .slice A9 l.length c9]) { r with left := m, surv := l } from ⟨A1, c1, A2, c2, A9, c9, rfl, k1, k2, hs, k4, k5, hn⟩)
  rw [ho] at hR
  clear h1 k1 k2 k3 k4 k5 k6 e1 e2 e5 hs hsB hn ho
  go_enter Try.func56, Try.ntmps56
  go_upto_region 1 with (fail)
  have hX1 := RBox.new w 71 (.slice A1 r.has.length c1) (.slice A2 r.waits.length c2) (.bool false) (.int .i64 r.left) (.slice A3 r.surv.length c3)
  have hbA : Below w.heap.size w (w.alloc (.cells #[.slice A1 r.has.length c1, .slice A2 r.waits.length c2, .bool false, .int .i64 r.left, .slice A3 r.surv.length c3] 71)) := (Below.refl _ _).alloc (Nat.le_refl _) _
  have hsA : (w.alloc (.cells #[.slice A1 r.has.length c1, .slice A2 r.waits.length c2, .bool false, .int .i64 r.left, .slice A3 r.surv.length c3] 71)).heap.size = w.heap.size + 1 := by simp
  generalize w.alloc (.cells #[.slice A1 r.has.length c1, .slice A2 r.waits.length c2, .bool false, .int .i64 r.left, .slice A3 r.surv.length c3] 71) = wa at *
  have hZ1 := RBox.new wa 71 (.slice none 0 0) (.slice none 0 0) (.bool false) (.int .i64 0) (.slice none 0 0)
  have hbB : Below wa.heap.size wa (wa.alloc (.cells #[.slice none 0 0, .slice none 0 0, .bool false, .int .i64 0, .slice none 0 0] 71)) := (Below.refl _ _).alloc (Nat.le_refl _) _
  have hX2 := hX1.below hbB
  have hb2 := hbA.trans (hbB.mono hbA.size)
  rw [hsA] at hZ1
  generalize wa.alloc (.cells #[.slice none 0 0, .slice none 0 0, .bool false, .int .i64 0, .slice none 0 0] 71) = wb at *
  have hX' := hide hX2
  have hZ' := hide hZ1
  have hb' := hide hb2
  clear hX1 hbA hsA hZ1 hbB hX2 hb2
  obtain ⟨bx, hbx⟩ : ∃ bx, bx = w.heap.size := ⟨_, rfl⟩
  rw [← hbx] at hX' hZ' ⊢
  have hbx' := hide hbx
  clear hbx
  have hbz := hide hZ'.out.lt
  have y2 := hX'.out.c2
  have y3 := hX'.out.c3
  have y4 := hX'.out.c4
  have t3 := hX'.out.z 3
  have t4 := hX'.out.z 4
  by_cases hneg : n < 0
  · have hd : decide (n < 0) = true := decide_eq_true hneg
    have e := hm'.out
    rw [if_pos hneg] at e
    subst e
    go_upto_region 3 with (fail)
    go_upto_region 4 with (fail)
    go_upto_region 6 with (fail)
    have hT4 : Touch (fun y => y = bx) wb (((wb.setCell ⟨bx, 3, none⟩ (.int .i64 n)).setCell ⟨bx, 4, none⟩ (.slice A9 l.length c9)).setCell ⟨bx, 3, none⟩ (.int .i64 (-1))) := (((Touch.refl (fun y => y = bx) wb).setCell (p := ⟨bx, 3, none⟩) rfl _).setCell (p := ⟨bx, 4, none⟩) rfl _).setCell (p := ⟨bx, 3, none⟩) rfl _
    have hX4 := hide (((hX'.out.set3 (.int .i64 n)).set4 (.slice A9 l.length c9)).set3 (.int .i64 (-1)))
    have hZ4 := hide (hZ'.out.later hT4.2 (by omega))
    have hu4 := hide (((hR.out.below hb'.out).later hT4.2 (fun y hy e => by have := hbx'.out; have := hy.2; omega)).mono (C := fun y => (B y ∧ y < w.heap.size) ∨ wb.heap.size ≤ y) (fun y hy => .inl hy))
    have hb4 := hide (hb'.out.trans (hT4.below hb'.out.size (fun y hy e => by have := hbx'.out; omega)))
    clear y2 y3 y4 t3 t4 hd hX' hZ' hR hT4
    generalize (((wb.setCell ⟨bx, 3, none⟩ (.int .i64 n)).setCell ⟨bx, 4, none⟩ (.slice A9 l.length c9)).setCell ⟨bx, 3, none⟩ (.int .i64 (-1))) = w4 at *
    have y0 := hX4.out.c0
    have y1 := hX4.out.c1
    have y2 := hX4.out.c2
    have y3 := hX4.out.c3
    have y4 := hX4.out.c4
    have z0 := hZ4.out.c0
    have z1 := hZ4.out.c1
    have z2 := hZ4.out.c2
    have z3 := hZ4.out.c3
    have z4 := hZ4.out.c4
    have tz0 := hZ4.out.z 0
    have tz1 := hZ4.out.z 1
    have tz2 := hZ4.out.z 2
    have tz3 := hZ4.out.z 3
    have tz4 := hZ4.out.z 4
    go_wp2_with fail
    have hT5 := touch_set5 (fun y => y = bx + 1) w4 (bx + 1) (.slice A1 r.has.length c1) (.slice A2 r.waits.length c2) (.bool false) (.int .i64 (-1)) (.slice A9 l.length c9) rfl
    have hZ5 := hZ4.out.set5 (.slice A1 r.has.length c1) (.slice A2 r.waits.length c2) (.bool false) (.int .i64 (-1)) (.slice A9 l.length c9)
    have hu5 := hu4.out.later hT5.2 (fun y hy e => by have := hbx'.out; have := hbz.out; rcases hy with hy | hy; have := hy.2; omega; omega)
    have hb5 := hb4.out.trans (hT5.below hb4.out.size (fun y hy e => by have := hbx'.out; omega))
    refine bodyPost_ret (v := .agg #[.slice A1 r.has.length c1, .slice A2 r.waits.length c2, .bool false, .int .i64 (-1), .slice A9 l.length c9]) (by simp [results, Try.results56, go_sem, z0, z1, z2, z3, z4]) rfl ⟨_, rfl, ?_, hb5⟩
    refine hu5.mono (fun y hy => ?_)
    have := hb'.out.size
    rcases hy with hy | hy
    · exact .inl hy.1
    · exact .inr (by omega)
  · have hd : decide (n < 0) = false := decide_eq_false hneg
    have e := hm'.out
    rw [if_neg hneg] at e
    subst e
    go_upto_region 3 with (fail)
    go_upto_region 4 with (fail)
    go_upto_region 6 with (fail)
    have hT4 : Touch (fun y => y = bx) wb ((wb.setCell ⟨bx, 3, none⟩ (.int .i64 m)).setCell ⟨bx, 4, none⟩ (.slice A9 l.length c9)) := ((Touch.refl (fun y => y = bx) wb).setCell (p := ⟨bx, 3, none⟩) rfl _).setCell (p := ⟨bx, 4, none⟩) rfl _
    have hX4 := hide ((hX'.out.set3 (.int .i64 m)).set4 (.slice A9 l.length c9))
    have hZ4 := hide (hZ'.out.later hT4.2 (by omega))
    have hu4 := hide (((hR.out.below hb'.out).later hT4.2 (fun y hy e => by have := hbx'.out; have := hy.2; omega)).mono (C := fun y => (B y ∧ y < w.heap.size) ∨ wb.heap.size ≤ y) (fun y hy => .inl hy))
    have hb4 := hide (hb'.out.trans (hT4.below hb'.out.size (fun y hy e => by have := hbx'.out; omega)))
    clear y2 y3 y4 t3 t4 hd hX' hZ' hR hT4
    generalize ((wb.setCell ⟨bx, 3, none⟩ (.int .i64 m)).setCell ⟨bx, 4, none⟩ (.slice A9 l.length c9)) = w4 at *
    have y0 := hX4.out.c0
    have y1 := hX4.out.c1
    have y2 := hX4.out.c2
    have y3 := hX4.out.c3
    have y4 := hX4.out.c4
    have z0 := hZ4.out.c0
    have z1 := hZ4.out.c1
    have z2 := hZ4.out.c2
    have z3 := hZ4.out.c3
    have z4 := hZ4.out.c4
    have tz0 := hZ4.out.z 0
    have tz1 := hZ4.out.z 1
    have tz2 := hZ4.out.z 2
    have tz3 := hZ4.out.z 3
    have tz4 := hZ4.out.z 4
    go_wp2_with fail
    have hT5 := touch_set5 (fun y => y = bx + 1) w4 (bx + 1) (.slice A1 r.has.length c1) (.slice A2 r.waits.length c2) (.bool false) (.int .i64 m) (.slice A9 l.length c9) rfl
    have hZ5 := hZ4.out.set5 (.slice A1 r.has.length c1) (.slice A2 r.waits.length c2) (.bool false) (.int .i64 m) (.slice A9 l.length c9)
    have hu5 := hu4.out.later hT5.2 (fun y hy e => by have := hbx'.out; have := hbz.out; rcases hy with hy | hy; have := hy.2; omega; omega)
    have hb5 := hb4.out.trans (hT5.below hb4.out.size (fun y hy e => by have := hbx'.out; omega))
    refine bodyPost_ret (v := .agg #[.slice A1 r.has.length c1, .slice A2 r.waits.length c2, .bool false, .int .i64 m, .slice A9 l.length c9]) (by simp [results, Try.results56, go_sem, z0, z1, z2, z3, z4]) rfl ⟨_, rfl, ?_, hb5⟩
    refine hu5.mono (fun y hy => ?_)
    have := hb'.out.size
    rcases hy with hy | hy
    · exact .inl hy.1
    · exact .inr (by omega)
end Go.Proofs.Ytamkngpkplflcaa
