/- The document's disk: Write walked. -/
import Derived.Test.YtamkngpkplflcaaRefDisk4
namespace Go.Proofs.Ytamkngpkplflcaa
open Go.RowKit

set_option maxRecDepth 100000 in
set_option maxHeartbeats 1000000 in
theorem rwrite_neg (B : Nat → Prop) (v : Value) (r : Rk) (a : Int) (b : List UInt8) (w : World) (h : RkAt w B v r) (hs : a < 0) (ok : r.Ok) :
    Calls Try.prog 38 #[v, .int .i64 a, .string ⟨b.toArray⟩] w fun e w' => ∃ u, e = .returned (.tuple #[u, .int .i64 4]) ∧ RkAt w' (fun y => B y ∨ w.heap.size ≤ y) u r ∧ Below w.heap.size w w' := by
  have ht := h.tight
  obtain ⟨A1, c1, A2, c2, A3, c3, rfl, h1, _⟩ := h
  have hcap : r.has.length ≤ c1 := by
    obtain ⟨A, c, e, hc, _⟩ := h1
    cases e
    exact hc
  have hn := ok.n
  generalize ho : r.off = o at ht ⊢
  have hR := hide ht
  clear h1 ht ho ok
  have hd : decide (a < 0) = true := decide_eq_true hs
  go_enter Try.func38, Try.ntmps38
  go_upto_region 1 with (fail)
  have hX1 := RBox.new w 71 (.slice A1 r.has.length c1) (.slice A2 r.waits.length c2) (.bool o) (.int .i64 r.left) (.slice A3 r.surv.length c3)
  have hbA : Below w.heap.size w (w.alloc (.cells #[.slice A1 r.has.length c1, .slice A2 r.waits.length c2, .bool o, .int .i64 r.left, .slice A3 r.surv.length c3] 71)) := (Below.refl _ _).alloc (Nat.le_refl _) _
  have hsA : (w.alloc (.cells #[.slice A1 r.has.length c1, .slice A2 r.waits.length c2, .bool o, .int .i64 r.left, .slice A3 r.surv.length c3] 71)).heap.size = w.heap.size + 1 := by simp
  generalize w.alloc (.cells #[.slice A1 r.has.length c1, .slice A2 r.waits.length c2, .bool o, .int .i64 r.left, .slice A3 r.surv.length c3] 71) = wa at *
  have hZ1 := RBox.new wa 71 (.slice none 0 0) (.slice none 0 0) (.bool false) (.int .i64 0) (.slice none 0 0)
  have hbB : Below wa.heap.size wa (wa.alloc (.cells #[.slice none 0 0, .slice none 0 0, .bool false, .int .i64 0, .slice none 0 0] 71)) := (Below.refl _ _).alloc (Nat.le_refl _) _
  have hX2 := hX1.below hbB
  have hb2 := hbA.trans (hbB.mono hbA.size)
  rw [hsA] at hZ1
  generalize wa.alloc (.cells #[.slice none 0 0, .slice none 0 0, .bool false, .int .i64 0, .slice none 0 0] 71) = wb at *
  have hX' := hide hX2
  have hZ' := hide hZ1
  have hb' := hide hb2
  clear hX1 hbA hsA hZ1 hbB hX2 hb2
  obtain ⟨bx, hbx⟩ : ∃ bx, bx = w.heap.size := ⟨_, rfl⟩
  rw [← hbx] at hX' hZ' ⊢
  have hbx' := hide hbx
  clear hbx
  have hX4 := hX'
  have hZ4 := hZ'
  have hb4 := hb'
  have hbz := hide hZ'.out.lt
  have hu4 := hide ((hR.out.below hb'.out).mono (C := fun y => (B y ∧ y < w.heap.size) ∨ wb.heap.size ≤ y) (fun y hy => .inl hy))
  clear hX' hZ' hR
  obtain ⟨w4, rfl⟩ : ∃ w4 : World, w4 = wb := ⟨_, rfl⟩
  have y0 := hX4.out.c0
  have y1 := hX4.out.c1
  have y2 := hX4.out.c2
  have y3 := hX4.out.c3
  have y4 := hX4.out.c4
  have z0 := hZ4.out.c0
  have z1 := hZ4.out.c1
  have z2 := hZ4.out.c2
  have z3 := hZ4.out.c3
  have z4 := hZ4.out.c4
  have tz0 := hZ4.out.z 0
  have tz1 := hZ4.out.z 1
  have tz2 := hZ4.out.z 2
  have tz3 := hZ4.out.z 3
  have tz4 := hZ4.out.z 4
  go_wp2_with fail
  have hT5 := touch_set5 (fun y => y = bx + 1) w4 (bx + 1) (.slice A1 r.has.length c1) (.slice A2 r.waits.length c2) (.bool o) (.int .i64 r.left) (.slice A3 r.surv.length c3) rfl
  have hZ5 := hZ4.out.set5 (.slice A1 r.has.length c1) (.slice A2 r.waits.length c2) (.bool o) (.int .i64 r.left) (.slice A3 r.surv.length c3)
  have hu5 := hu4.out.later hT5.2 (fun y hy e => by have := hbx'.out; have := hbz.out; rcases hy with hy | hy; have := hy.2; omega; omega)
  have hb5 := hb4.out.trans (hT5.below hb4.out.size (fun y hy e => by have := hbx'.out; omega))
  refine bodyPost_ret (v := .tuple #[.agg #[.slice A1 r.has.length c1, .slice A2 r.waits.length c2, .bool o, .int .i64 r.left, .slice A3 r.surv.length c3], .int .i64 4]) (by simp [results, Try.results38, go_sem, z0, z1, z2, z3, z4]) rfl ⟨_, rfl, ?_, hb5⟩
  refine hu5.mono (fun y hy => ?_)
  have := hb'.out.size
  rcases hy with hy | hy
  · exact .inl hy.1
  · exact .inr (by omega)
set_option maxRecDepth 100000 in
set_option maxHeartbeats 1000000 in
theorem rwrite_big (B : Nat → Prop) (v : Value) (r : Rk) (a : Int) (b : List UInt8) (w : World) (h : RkAt w B v r) (h0 : ¬ a < 0) (hs : (r.has.length : Int) ≤ a) (ok : r.Ok) :
    Calls Try.prog 38 #[v, .int .i64 a, .string ⟨b.toArray⟩] w fun e w' => ∃ u, e = .returned (.tuple #[u, .int .i64 4]) ∧ RkAt w' (fun y => B y ∨ w.heap.size ≤ y) u r ∧ Below w.heap.size w w' := by
  have ht := h.tight
  obtain ⟨A1, c1, A2, c2, A3, c3, rfl, h1, _⟩ := h
  have hcap : r.has.length ≤ c1 := by
    obtain ⟨A, c, e, hc, _⟩ := h1
    cases e
    exact hc
  have hn := ok.n
  generalize ho : r.off = o at ht ⊢
  have hR := hide ht
  clear h1 ht ho ok
  have hd : decide (a < 0) = false := decide_eq_false h0
  have hd2 : decide ((r.has.length : Int) ≤ a) = true := decide_eq_true hs
  go_enter Try.func38, Try.ntmps38
  go_upto_region 1 with (fail)
  have hX1 := RBox.new w 71 (.slice A1 r.has.length c1) (.slice A2 r.waits.length c2) (.bool o) (.int .i64 r.left) (.slice A3 r.surv.length c3)
  have hbA : Below w.heap.size w (w.alloc (.cells #[.slice A1 r.has.length c1, .slice A2 r.waits.length c2, .bool o, .int .i64 r.left, .slice A3 r.surv.length c3] 71)) := (Below.refl _ _).alloc (Nat.le_refl _) _
  have hsA : (w.alloc (.cells #[.slice A1 r.has.length c1, .slice A2 r.waits.length c2, .bool o, .int .i64 r.left, .slice A3 r.surv.length c3] 71)).heap.size = w.heap.size + 1 := by simp
  generalize w.alloc (.cells #[.slice A1 r.has.length c1, .slice A2 r.waits.length c2, .bool o, .int .i64 r.left, .slice A3 r.surv.length c3] 71) = wa at *
  have hZ1 := RBox.new wa 71 (.slice none 0 0) (.slice none 0 0) (.bool false) (.int .i64 0) (.slice none 0 0)
  have hbB : Below wa.heap.size wa (wa.alloc (.cells #[.slice none 0 0, .slice none 0 0, .bool false, .int .i64 0, .slice none 0 0] 71)) := (Below.refl _ _).alloc (Nat.le_refl _) _
  have hX2 := hX1.below hbB
  have hb2 := hbA.trans (hbB.mono hbA.size)
  rw [hsA] at hZ1
  generalize wa.alloc (.cells #[.slice none 0 0, .slice none 0 0, .bool false, .int .i64 0, .slice none 0 0] 71) = wb at *
  have hX' := hide hX2
  have hZ' := hide hZ1
  have hb' := hide hb2
  clear hX1 hbA hsA hZ1 hbB hX2 hb2
  obtain ⟨bx, hbx⟩ : ∃ bx, bx = w.heap.size := ⟨_, rfl⟩
  rw [← hbx] at hX' hZ' ⊢
  have hbx' := hide hbx
  clear hbx
  have hX4 := hX'
  have hZ4 := hZ'
  have hb4 := hb'
  have hbz := hide hZ'.out.lt
  have hu4 := hide ((hR.out.below hb'.out).mono (C := fun y => (B y ∧ y < w.heap.size) ∨ wb.heap.size ≤ y) (fun y hy => .inl hy))
  clear hX' hZ' hR
  obtain ⟨w4, rfl⟩ : ∃ w4 : World, w4 = wb := ⟨_, rfl⟩
  have y0 := hX4.out.c0
  have y1 := hX4.out.c1
  have y2 := hX4.out.c2
  have y3 := hX4.out.c3
  have y4 := hX4.out.c4
  have z0 := hZ4.out.c0
  have z1 := hZ4.out.c1
  have z2 := hZ4.out.c2
  have z3 := hZ4.out.c3
  have z4 := hZ4.out.c4
  have tz0 := hZ4.out.z 0
  have tz1 := hZ4.out.z 1
  have tz2 := hZ4.out.z 2
  have tz3 := hZ4.out.z 3
  have tz4 := hZ4.out.z 4
  go_wp2_with fail
  have hT5 := touch_set5 (fun y => y = bx + 1) w4 (bx + 1) (.slice A1 r.has.length c1) (.slice A2 r.waits.length c2) (.bool o) (.int .i64 r.left) (.slice A3 r.surv.length c3) rfl
  have hZ5 := hZ4.out.set5 (.slice A1 r.has.length c1) (.slice A2 r.waits.length c2) (.bool o) (.int .i64 r.left) (.slice A3 r.surv.length c3)
  have hu5 := hu4.out.later hT5.2 (fun y hy e => by have := hbx'.out; have := hbz.out; rcases hy with hy | hy; have := hy.2; omega; omega)
  have hb5 := hb4.out.trans (hT5.below hb4.out.size (fun y hy e => by have := hbx'.out; omega))
  refine bodyPost_ret (v := .tuple #[.agg #[.slice A1 r.has.length c1, .slice A2 r.waits.length c2, .bool o, .int .i64 r.left, .slice A3 r.surv.length c3], .int .i64 4]) (by simp [results, Try.results38, go_sem, z0, z1, z2, z3, z4]) rfl ⟨_, rfl, ?_, hb5⟩
  refine hu5.mono (fun y hy => ?_)
  have := hb'.out.size
  rcases hy with hy | hy
  · exact .inl hy.1
  · exact .inr (by omega)
set_option maxRecDepth 100000 in
set_option maxHeartbeats 1000000 in
theorem rwrite_size (B : Nat → Prop) (v : Value) (r : Rk) (a : Int) (b : List UInt8) (w : World) (h : RkAt w B v r) (h0 : ¬ a < 0) (hs : ¬ (r.has.length : Int) ≤ a) (hz : b.length ≠ 64) (ok : r.Ok) :
    Calls Try.prog 38 #[v, .int .i64 a, .string ⟨b.toArray⟩] w fun e w' => ∃ u, e = .returned (.tuple #[u, .int .i64 1]) ∧ RkAt w' (fun y => B y ∨ w.heap.size ≤ y) u r ∧ Below w.heap.size w w' := by
  have ht := h.tight
  obtain ⟨A1, c1, A2, c2, A3, c3, rfl, h1, _⟩ := h
  have hcap : r.has.length ≤ c1 := by
    obtain ⟨A, c, e, hc, _⟩ := h1
    cases e
    exact hc
  have hn := ok.n
  generalize ho : r.off = o at ht ⊢
  have hR := hide ht
  clear h1 ht ho ok
  have hd : decide (a < 0) = false := decide_eq_false h0
  have hd2 : decide ((r.has.length : Int) ≤ a) = false := decide_eq_false hs
  have hd3 : ((b.length : Int) == 64) = false := by simp; omega
  have hd4 : decide ((b.length : Int) = 64) = false := decide_eq_false (by omega)
  have hd5 : (b.length == 64) = false := by simpa using hz
  have hd6 : decide (b.length = 64) = false := decide_eq_false hz
  go_enter Try.func38, Try.ntmps38
  go_upto_region 1 with (fail)
  have hX1 := RBox.new w 71 (.slice A1 r.has.length c1) (.slice A2 r.waits.length c2) (.bool o) (.int .i64 r.left) (.slice A3 r.surv.length c3)
  have hbA : Below w.heap.size w (w.alloc (.cells #[.slice A1 r.has.length c1, .slice A2 r.waits.length c2, .bool o, .int .i64 r.left, .slice A3 r.surv.length c3] 71)) := (Below.refl _ _).alloc (Nat.le_refl _) _
  have hsA : (w.alloc (.cells #[.slice A1 r.has.length c1, .slice A2 r.waits.length c2, .bool o, .int .i64 r.left, .slice A3 r.surv.length c3] 71)).heap.size = w.heap.size + 1 := by simp
  generalize w.alloc (.cells #[.slice A1 r.has.length c1, .slice A2 r.waits.length c2, .bool o, .int .i64 r.left, .slice A3 r.surv.length c3] 71) = wa at *
  have hZ1 := RBox.new wa 71 (.slice none 0 0) (.slice none 0 0) (.bool false) (.int .i64 0) (.slice none 0 0)
  have hbB : Below wa.heap.size wa (wa.alloc (.cells #[.slice none 0 0, .slice none 0 0, .bool false, .int .i64 0, .slice none 0 0] 71)) := (Below.refl _ _).alloc (Nat.le_refl _) _
  have hX2 := hX1.below hbB
  have hb2 := hbA.trans (hbB.mono hbA.size)
  rw [hsA] at hZ1
  generalize wa.alloc (.cells #[.slice none 0 0, .slice none 0 0, .bool false, .int .i64 0, .slice none 0 0] 71) = wb at *
  have hX' := hide hX2
  have hZ' := hide hZ1
  have hb' := hide hb2
  clear hX1 hbA hsA hZ1 hbB hX2 hb2
  obtain ⟨bx, hbx⟩ : ∃ bx, bx = w.heap.size := ⟨_, rfl⟩
  rw [← hbx] at hX' hZ' ⊢
  have hbx' := hide hbx
  clear hbx
  have hX4 := hX'
  have hZ4 := hZ'
  have hb4 := hb'
  have hbz := hide hZ'.out.lt
  have hu4 := hide ((hR.out.below hb'.out).mono (C := fun y => (B y ∧ y < w.heap.size) ∨ wb.heap.size ≤ y) (fun y hy => .inl hy))
  clear hX' hZ' hR
  obtain ⟨w4, rfl⟩ : ∃ w4 : World, w4 = wb := ⟨_, rfl⟩
  have y0 := hX4.out.c0
  have y1 := hX4.out.c1
  have y2 := hX4.out.c2
  have y3 := hX4.out.c3
  have y4 := hX4.out.c4
  have z0 := hZ4.out.c0
  have z1 := hZ4.out.c1
  have z2 := hZ4.out.c2
  have z3 := hZ4.out.c3
  have z4 := hZ4.out.c4
  have tz0 := hZ4.out.z 0
  have tz1 := hZ4.out.z 1
  have tz2 := hZ4.out.z 2
  have tz3 := hZ4.out.z 3
  have tz4 := hZ4.out.z 4
  go_wp2_with fail
  have hT5 := touch_set5 (fun y => y = bx + 1) w4 (bx + 1) (.slice A1 r.has.length c1) (.slice A2 r.waits.length c2) (.bool o) (.int .i64 r.left) (.slice A3 r.surv.length c3) rfl
  have hZ5 := hZ4.out.set5 (.slice A1 r.has.length c1) (.slice A2 r.waits.length c2) (.bool o) (.int .i64 r.left) (.slice A3 r.surv.length c3)
  have hu5 := hu4.out.later hT5.2 (fun y hy e => by have := hbx'.out; have := hbz.out; rcases hy with hy | hy; have := hy.2; omega; omega)
  have hb5 := hb4.out.trans (hT5.below hb4.out.size (fun y hy e => by have := hbx'.out; omega))
  refine bodyPost_ret (v := .tuple #[.agg #[.slice A1 r.has.length c1, .slice A2 r.waits.length c2, .bool o, .int .i64 r.left, .slice A3 r.surv.length c3], .int .i64 1]) (by simp [results, Try.results38, go_sem, z0, z1, z2, z3, z4]) rfl ⟨_, rfl, ?_, hb5⟩
  refine hu5.mono (fun y hy => ?_)
  have := hb'.out.size
  rcases hy with hy | hy
  · exact .inl hy.1
  · exact .inr (by omega)
end Go.Proofs.Ytamkngpkplflcaa
