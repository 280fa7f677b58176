/- The document's disk: Crash, step, Power, Flush walked. -/
import Derived.Test.YtamkngpkplflcaaRefDisk
import Derived.Deep.DeepCutAuto
namespace Go.Proofs.Ytamkngpkplflcaa
open Go.RowKit

section
variable {w : World} {b : Nat} {v0 v1 v2 v3 v4 : Value}
theorem later_set1 (F : Nat → Prop) (w : World) (b o : Nat) (u : Value) (hF : F b) : Later F w (w.setCell ⟨b, o, none⟩ u) := later_setCell (F := F) w (p := ⟨b, o, none⟩) u hF
theorem RBox.set1 (h : RBox w b v0 v1 v2 v3 v4) (u : Value) : RBox (w.setCell ⟨b, 1, none⟩ u) b v0 u v2 v3 v4 :=
  ⟨Nat.lt_of_lt_of_le h.lt (later_set1 (fun _ => True) w b 1 u trivial).1, (World.cell?_setCell_other _ _ _ _ (by simp)).trans h.c0, World.cell?_setCell_same _ _ _ h.c1, (World.cell?_setCell_other _ _ _ _ (by simp)).trans h.c2, (World.cell?_setCell_other _ _ _ _ (by simp)).trans h.c3, (World.cell?_setCell_other _ _ _ _ (by simp)).trans h.c4, fun j => by rw [World.frozen?_setCell]; exact h.z j⟩
theorem RBox.set2 (h : RBox w b v0 v1 v2 v3 v4) (u : Value) : RBox (w.setCell ⟨b, 2, none⟩ u) b v0 v1 u v3 v4 :=
  ⟨Nat.lt_of_lt_of_le h.lt (later_set1 (fun _ => True) w b 2 u trivial).1, (World.cell?_setCell_other _ _ _ _ (by simp)).trans h.c0, (World.cell?_setCell_other _ _ _ _ (by simp)).trans h.c1, World.cell?_setCell_same _ _ _ h.c2, (World.cell?_setCell_other _ _ _ _ (by simp)).trans h.c3, (World.cell?_setCell_other _ _ _ _ (by simp)).trans h.c4, fun j => by rw [World.frozen?_setCell]; exact h.z j⟩
theorem RBox.set3 (h : RBox w b v0 v1 v2 v3 v4) (u : Value) : RBox (w.setCell ⟨b, 3, none⟩ u) b v0 v1 v2 u v4 :=
  ⟨Nat.lt_of_lt_of_le h.lt (later_set1 (fun _ => True) w b 3 u trivial).1, (World.cell?_setCell_other _ _ _ _ (by simp)).trans h.c0, (World.cell?_setCell_other _ _ _ _ (by simp)).trans h.c1, (World.cell?_setCell_other _ _ _ _ (by simp)).trans h.c2, World.cell?_setCell_same _ _ _ h.c3, (World.cell?_setCell_other _ _ _ _ (by simp)).trans h.c4, fun j => by rw [World.frozen?_setCell]; exact h.z j⟩
theorem RBox.set4 (h : RBox w b v0 v1 v2 v3 v4) (u : Value) : RBox (w.setCell ⟨b, 4, none⟩ u) b v0 v1 v2 v3 u :=
  ⟨Nat.lt_of_lt_of_le h.lt (later_set1 (fun _ => True) w b 4 u trivial).1, (World.cell?_setCell_other _ _ _ _ (by simp)).trans h.c0, (World.cell?_setCell_other _ _ _ _ (by simp)).trans h.c1, (World.cell?_setCell_other _ _ _ _ (by simp)).trans h.c2, (World.cell?_setCell_other _ _ _ _ (by simp)).trans h.c3, World.cell?_setCell_same _ _ _ h.c4, fun j => by rw [World.frozen?_setCell]; exact h.z j⟩
/-- a whole variable stored -/
theorem RBox.set5 (h : RBox w b v0 v1 v2 v3 v4) (u0 u1 u2 u3 u4 : Value) : RBox (((((w.setCell ⟨b, 0, none⟩ u0).setCell ⟨b, 1, none⟩ u1).setCell ⟨b, 2, none⟩ u2).setCell ⟨b, 3, none⟩ u3).setCell ⟨b, 4, none⟩ u4) b u0 u1 u2 u3 u4 := ((((h.set0 u0).set1 u1).set2 u2).set3 u3).set4 u4
theorem touch_set5 (F : Nat → Prop) (w : World) (b : Nat) (u0 u1 u2 u3 u4 : Value) (hF : F b) : Touch F w (((((w.setCell ⟨b, 0, none⟩ u0).setCell ⟨b, 1, none⟩ u1).setCell ⟨b, 2, none⟩ u2).setCell ⟨b, 3, none⟩ u3).setCell ⟨b, 4, none⟩ u4) :=
  (((((Touch.refl F w).setCell (p := ⟨b, 0, none⟩) hF _).setCell (p := ⟨b, 1, none⟩) hF _).setCell (p := ⟨b, 2, none⟩) hF _).setCell (p := ⟨b, 3, none⟩) hF _).setCell (p := ⟨b, 4, none⟩) hF _
end
theorem RkAt.flags {w : World} {B : Nat → Prop} {s1 s2 x y s3 : Value} {q : Rk} (h : RkAt w B (.agg #[s1, s2, x, y, s3]) q) (o : Bool) (l : Int) : RkAt w B (.agg #[s1, s2, .bool o, .int .i64 l, s3]) { q with off := o, left := l } := by
  obtain ⟨A1, c1, A2, c2, A3, c3, e, k⟩ := h
  simp only [Value.agg.injEq, Array.mk.injEq, List.cons.injEq, and_true] at e
  obtain ⟨e1, e2, _, _, e5⟩ := e
  exact ⟨A1, c1, A2, c2, A3, c3, by rw [e1, e2, e5], k⟩
def Rk.crash (r : Rk) (l : List Bool) : Rk := if r.off then r else { r.laid false l with off := true, left := -1 }
set_option maxRecDepth 100000 in
set_option maxHeartbeats 1000000 in
theorem rcrash_on (B : Nat → Prop) (v : Value) (r : Rk) (sv : Value) (l : List Bool) (w : World) (h : RkAt w B v r) (hs : Bools w sv l) (ok : r.Ok) (ho : r.off = false) :
    Calls Try.prog 44 #[v, sv] w fun e w' => ∃ u, e = .returned u ∧ RkAt w' (fun y => B y ∨ w.heap.size ≤ y) u { r.laid false l with off := true, left := -1 } ∧ Below w.heap.size w w' := by
  have ht := h.tight
  obtain ⟨A1, c1, A2, c2, A3, c3, rfl, h1⟩ := h
  rw [ho] at ht ⊢
  have hR := hide ht
  have hs' := hide hs
  have ok' := hide ok
  clear h1 ht hs ok ho
  go_enter Try.func44, Try.ntmps44
  go_wp2_with fail
  have hX1 := RBox.new w 71 (.slice A1 r.has.length c1) (.slice A2 r.waits.length c2) (.bool false) (.int .i64 r.left) (.slice A3 r.surv.length c3)
  have hbA : Below w.heap.size w (w.alloc (.cells #[.slice A1 r.has.length c1, .slice A2 r.waits.length c2, .bool false, .int .i64 r.left, .slice A3 r.surv.length c3] 71)) := (Below.refl _ _).alloc (Nat.le_refl _) _
  have hsA : (w.alloc (.cells #[.slice A1 r.has.length c1, .slice A2 r.waits.length c2, .bool false, .int .i64 r.left, .slice A3 r.surv.length c3] 71)).heap.size = w.heap.size + 1 := by simp
  generalize w.alloc (.cells #[.slice A1 r.has.length c1, .slice A2 r.waits.length c2, .bool false, .int .i64 r.left, .slice A3 r.surv.length c3] 71) = wa at *
  have hZ1 := RBox.new wa 71 (.slice none 0 0) (.slice none 0 0) (.bool false) (.int .i64 0) (.slice none 0 0)
  have hbB : Below wa.heap.size wa (wa.alloc (.cells #[.slice none 0 0, .slice none 0 0, .bool false, .int .i64 0, .slice none 0 0] 71)) := (Below.refl _ _).alloc (Nat.le_refl _) _
  have hX2 := hX1.below hbB
  have hb2 := hbA.trans (hbB.mono hbA.size)
  rw [hsA] at hZ1
  generalize wa.alloc (.cells #[.slice none 0 0, .slice none 0 0, .bool false, .int .i64 0, .slice none 0 0] 71) = wb at *
  have hX' := hide hX2
  have hZ' := hide hZ1
  have hb' := hide hb2
  clear hX1 hbA hsA hZ1 hbB hX2 hb2
  obtain ⟨bx, hbx⟩ : ∃ bx, bx = w.heap.size := ⟨_, rfl⟩
  rw [← hbx] at hX' hZ' ⊢
  have hbx' := hide hbx
  clear hbx
  refine (rlaid_any _ _ r false sv l wb (hR.out.below hb'.out) (Sl.below hs'.out hb'.out) ok'.out).mono ?_
  rintro e w2 ⟨u, rfl, hu, hb⟩
  have hu' := hide hu
  obtain ⟨A5, c5, A6, c6, A7, c7, rfl, _⟩ := hu
  have hX := hX'.out.below hb
  have hZ := hZ'.out.below hb
  have hb2 := hide (hb'.out.trans (hb.mono hb'.out.size))
  have hbz := hide hZ'.out.lt
  generalize hq : r.laid false l = q at *
  have hq' := hide hq
  clear hq
  have t0 := hX.z 0
  have t1 := hX.z 1
  have t2 := hX.z 2
  have t3 := hX.z 3
  have t4 := hX.z 4
  have y0 := hX.c0
  have y1 := hX.c1
  have y2 := hX.c2
  have y3 := hX.c3
  have y4 := hX.c4
  have hbs := hb2.out.size
  have hX' := hide hX
  have hZ' := hide hZ
  clear hX hZ hb
  go_upto_region 4 with (fail)
  have hX3 := hide (hX'.out.set5 (.slice A5 q.has.length c5) (.slice A6 q.waits.length c6) (.bool q.off) (.int .i64 q.left) (.slice A7 q.surv.length c7))
  have hT3 := touch_set5 (fun y => y = bx) w2 bx (.slice A5 q.has.length c5) (.slice A6 q.waits.length c6) (.bool q.off) (.int .i64 q.left) (.slice A7 q.surv.length c7) rfl
  have hZ3 := hide (hZ'.out.later hT3.2 (by omega))
  have hu3 := hide (hu'.out.later hT3.2 (fun y hy e => by have := hbx'.out; have := hbz.out; rcases hy with hy | hy; have := hy.2; omega; omega))
  have hb3 := hide (hb2.out.trans (hT3.below hbs (fun y hy e => by have := hbx'.out; omega)))
  have hs3 := hT3.size
  clear t0 t1 t2 t3 t4 y0 y1 y2 y3 y4 hX' hZ' hu' hb2 hT3
  generalize (((((w2.setCell ⟨bx, 0, none⟩ (.slice A5 q.has.length c5)).setCell ⟨bx, 1, none⟩ (.slice A6 q.waits.length c6)).setCell ⟨bx, 2, none⟩ (.bool q.off)).setCell ⟨bx, 3, none⟩ (.int .i64 q.left)).setCell ⟨bx, 4, none⟩ (.slice A7 q.surv.length c7)) = w3 at *
  have t2 := hX3.out.z 2
  have t3 := hX3.out.z 3
  have y2 := hX3.out.c2
  have y3 := hX3.out.c3
  go_upto_region 5 with (fail)
  have hT4 : Touch (fun y => y = bx) w3 ((w3.setCell ⟨bx, 2, none⟩ (.bool true)).setCell ⟨bx, 3, none⟩ (.int .i64 (-1))) := ((Touch.refl (fun y => y = bx) w3).setCell (p := ⟨bx, 2, none⟩) rfl _).setCell (p := ⟨bx, 3, none⟩) rfl _
  have hX4 := hide ((hX3.out.set2 (.bool true)).set3 (.int .i64 (-1)))
  have hZ4 := hide (hZ3.out.later hT4.2 (by omega))
  have hu4 := hide (hu3.out.later hT4.2 (fun y hy e => by have := hbx'.out; have := hbz.out; rcases hy with hy | hy; have := hy.2; omega; omega))
  have hb4 := hide (hb3.out.trans (hT4.below hb3.out.size (fun y hy e => by have := hbx'.out; omega)))
  clear t2 t3 y2 y3 hX3 hZ3 hu3 hb3 hT4
  generalize (w3.setCell ⟨bx, 2, none⟩ (.bool true)).setCell ⟨bx, 3, none⟩ (.int .i64 (-1)) = w4 at *
  have y0 := hX4.out.c0
  have y1 := hX4.out.c1
  have y2 := hX4.out.c2
  have y3 := hX4.out.c3
  have y4 := hX4.out.c4
  have z0 := hZ4.out.c0
  have z1 := hZ4.out.c1
  have z2 := hZ4.out.c2
  have z3 := hZ4.out.c3
  have z4 := hZ4.out.c4
  have tz0 := hZ4.out.z 0
  have tz1 := hZ4.out.z 1
  have tz2 := hZ4.out.z 2
  have tz3 := hZ4.out.z 3
  have tz4 := hZ4.out.z 4
  go_wp2_with fail
  have hT5 := touch_set5 (fun y => y = bx + 1) w4 (bx + 1) (.slice A5 q.has.length c5) (.slice A6 q.waits.length c6) (.bool true) (.int .i64 (-1)) (.slice A7 q.surv.length c7) rfl
  have hZ5 := hZ4.out.set5 (.slice A5 q.has.length c5) (.slice A6 q.waits.length c6) (.bool true) (.int .i64 (-1)) (.slice A7 q.surv.length c7)
  have hu5 := hu4.out.later hT5.2 (fun y hy e => by have := hbx'.out; have := hbz.out; rcases hy with hy | hy; have := hy.2; omega; omega)
  have hb5 := hb4.out.trans (hT5.below hb4.out.size (fun y hy e => by have := hbx'.out; omega))
  refine bodyPost_ret (v := .agg #[.slice A5 q.has.length c5, .slice A6 q.waits.length c6, .bool true, .int .i64 (-1), .slice A7 q.surv.length c7]) (by simp [results, Try.results44, go_sem, z0, z1, z2, z3, z4]) rfl ⟨_, rfl, ?_, hb5⟩
  have hq := hq'.out
  subst hq
  refine (hu5.flags true (-1)).mono (fun y hy => ?_)
  have := hb'.out.size
  rcases hy with hy | hy
  · exact .inl hy.1
  · exact .inr (by omega)

set_option maxRecDepth 100000 in
set_option maxHeartbeats 1000000 in
theorem rcrash_off (B : Nat → Prop) (v : Value) (r : Rk) (sv : Value) (w : World) (h : RkAt w B v r) (ho : r.off = true) :
    Calls Try.prog 44 #[v, sv] w fun e w' => ∃ u, e = .returned u ∧ RkAt w' (fun y => B y ∨ w.heap.size ≤ y) u r ∧ Below w.heap.size w w' := by
  have ht := h.tight
  obtain ⟨A1, c1, A2, c2, A3, c3, rfl, h1⟩ := h
  rw [ho] at ht ⊢
  have hR := hide ht
  clear h1 ht ho
  go_enter Try.func44, Try.ntmps44
  go_upto_region 1 with (fail)
  have hX1 := RBox.new w 71 (.slice A1 r.has.length c1) (.slice A2 r.waits.length c2) (.bool true) (.int .i64 r.left) (.slice A3 r.surv.length c3)
  have hbA : Below w.heap.size w (w.alloc (.cells #[.slice A1 r.has.length c1, .slice A2 r.waits.length c2, .bool true, .int .i64 r.left, .slice A3 r.surv.length c3] 71)) := (Below.refl _ _).alloc (Nat.le_refl _) _
  have hsA : (w.alloc (.cells #[.slice A1 r.has.length c1, .slice A2 r.waits.length c2, .bool true, .int .i64 r.left, .slice A3 r.surv.length c3] 71)).heap.size = w.heap.size + 1 := by simp
  generalize w.alloc (.cells #[.slice A1 r.has.length c1, .slice A2 r.waits.length c2, .bool true, .int .i64 r.left, .slice A3 r.surv.length c3] 71) = wa at *
  have hZ1 := RBox.new wa 71 (.slice none 0 0) (.slice none 0 0) (.bool false) (.int .i64 0) (.slice none 0 0)
  have hbB : Below wa.heap.size wa (wa.alloc (.cells #[.slice none 0 0, .slice none 0 0, .bool false, .int .i64 0, .slice none 0 0] 71)) := (Below.refl _ _).alloc (Nat.le_refl _) _
  have hX2 := hX1.below hbB
  have hb2 := hbA.trans (hbB.mono hbA.size)
  rw [hsA] at hZ1
  generalize wa.alloc (.cells #[.slice none 0 0, .slice none 0 0, .bool false, .int .i64 0, .slice none 0 0] 71) = wb at *
  have hX' := hide hX2
  have hZ' := hide hZ1
  have hb' := hide hb2
  clear hX1 hbA hsA hZ1 hbB hX2 hb2
  obtain ⟨bx, hbx⟩ : ∃ bx, bx = w.heap.size := ⟨_, rfl⟩
  rw [← hbx] at hX' hZ' ⊢
  have hbx' := hide hbx
  clear hbx
  have hX4 := hX'
  have hZ4 := hZ'
  have hb4 := hb'
  have hbz := hide hZ'.out.lt
  have hu4 := hide ((hR.out.below hb'.out).mono (C := fun y => (B y ∧ y < w.heap.size) ∨ wb.heap.size ≤ y) (fun y hy => .inl hy))
  clear hX' hZ' hR
  obtain ⟨w4, rfl⟩ : ∃ w4 : World, w4 = wb := ⟨_, rfl⟩
  have y0 := hX4.out.c0
  have y1 := hX4.out.c1
  have y2 := hX4.out.c2
  have y3 := hX4.out.c3
  have y4 := hX4.out.c4
  have z0 := hZ4.out.c0
  have z1 := hZ4.out.c1
  have z2 := hZ4.out.c2
  have z3 := hZ4.out.c3
  have z4 := hZ4.out.c4
  have tz0 := hZ4.out.z 0
  have tz1 := hZ4.out.z 1
  have tz2 := hZ4.out.z 2
  have tz3 := hZ4.out.z 3
  have tz4 := hZ4.out.z 4
  go_wp2_with fail
  have hT5 := touch_set5 (fun y => y = bx + 1) w4 (bx + 1) (.slice A1 r.has.length c1) (.slice A2 r.waits.length c2) (.bool true) (.int .i64 r.left) (.slice A3 r.surv.length c3) rfl
  have hZ5 := hZ4.out.set5 (.slice A1 r.has.length c1) (.slice A2 r.waits.length c2) (.bool true) (.int .i64 r.left) (.slice A3 r.surv.length c3)
  have hu5 := hu4.out.later hT5.2 (fun y hy e => by have := hbx'.out; have := hbz.out; rcases hy with hy | hy; have := hy.2; omega; omega)
  have hb5 := hb4.out.trans (hT5.below hb4.out.size (fun y hy e => by have := hbx'.out; omega))
  refine bodyPost_ret (v := .agg #[.slice A1 r.has.length c1, .slice A2 r.waits.length c2, .bool true, .int .i64 r.left, .slice A3 r.surv.length c3]) (by simp [results, Try.results44, go_sem, z0, z1, z2, z3, z4]) rfl ⟨_, rfl, ?_, hb5⟩
  refine hu5.mono (fun y hy => ?_)
  have := hb'.out.size
  rcases hy with hy | hy
  · exact .inl hy.1
  · exact .inr (by omega)
theorem rcrash_any (B : Nat → Prop) (v : Value) (r : Rk) (sv : Value) (l : List Bool) (w : World) (h : RkAt w B v r) (hs : Bools w sv l) (ok : r.Ok) :
    Calls Try.prog 44 #[v, sv] w fun e w' => ∃ u, e = .returned u ∧ RkAt w' (fun y => B y ∨ w.heap.size ≤ y) u (r.crash l) ∧ Below w.heap.size w w' := by
  unfold Rk.crash
  by_cases ho : r.off = true
  · rw [if_pos ho]
    exact rcrash_off B v r sv w h ho
  · rw [if_neg ho]
    exact rcrash_on B v r sv l w h hs ok (by simpa using ho)

/-- a call that comes to do something -/
def Rk.step (r : Rk) : Rk × Bool := if r.off then (r, false) else if r.left = 0 then (r.crash r.surv, false) else if 0 < r.left then ({ r with left := r.left - 1 }, true) else (r, true)
def Rk.power (r : Rk) : Rk := { r with waits := [], off := false, left := -1 }
set_option maxRecDepth 100000 in
set_option maxHeartbeats 1000000 in
theorem rpower_any (B : Nat → Prop) (v : Value) (r : Rk) (w : World) (h : RkAt w B v r) :
    Calls Try.prog 46 #[v] w fun e w' => ∃ u, e = .returned u ∧ RkAt w' (fun y => B y ∨ w.heap.size ≤ y) u r.power ∧ Below w.heap.size w w' := by
  have ht := h.tight
  obtain ⟨A1, c1, A2, c2, A3, c3, rfl, h1⟩ := h
  have hR := hide ht
  clear h1 ht
  go_enter Try.func46, Try.ntmps46
  go_upto_region 1 with (fail)
  generalize ho : r.off = o at *
  have ho' := hide ho
  clear ho
  have hX1 := RBox.new w 71 (.slice A1 r.has.length c1) (.slice A2 r.waits.length c2) (.bool o) (.int .i64 r.left) (.slice A3 r.surv.length c3)
  have hbA : Below w.heap.size w (w.alloc (.cells #[.slice A1 r.has.length c1, .slice A2 r.waits.length c2, .bool o, .int .i64 r.left, .slice A3 r.surv.length c3] 71)) := (Below.refl _ _).alloc (Nat.le_refl _) _
  have hsA : (w.alloc (.cells #[.slice A1 r.has.length c1, .slice A2 r.waits.length c2, .bool o, .int .i64 r.left, .slice A3 r.surv.length c3] 71)).heap.size = w.heap.size + 1 := by simp
  generalize w.alloc (.cells #[.slice A1 r.has.length c1, .slice A2 r.waits.length c2, .bool o, .int .i64 r.left, .slice A3 r.surv.length c3] 71) = wa at *
  have hZ1 := RBox.new wa 71 (.slice none 0 0) (.slice none 0 0) (.bool false) (.int .i64 0) (.slice none 0 0)
  have hbB : Below wa.heap.size wa (wa.alloc (.cells #[.slice none 0 0, .slice none 0 0, .bool false, .int .i64 0, .slice none 0 0] 71)) := (Below.refl _ _).alloc (Nat.le_refl _) _
  have hX2 := hX1.below hbB
  have hb2 := hbA.trans (hbB.mono hbA.size)
  rw [hsA] at hZ1
  generalize wa.alloc (.cells #[.slice none 0 0, .slice none 0 0, .bool false, .int .i64 0, .slice none 0 0] 71) = wb at *
  have hX' := hide hX2
  have hZ' := hide hZ1
  have hb' := hide hb2
  clear hX1 hbA hsA hZ1 hbB hX2 hb2
  obtain ⟨bx, hbx⟩ : ∃ bx, bx = w.heap.size := ⟨_, rfl⟩
  rw [← hbx] at hX' hZ' ⊢
  have hbx' := hide hbx
  clear hbx
  have hbz := hide hZ'.out.lt
  have t1 := hX'.out.z 1
  have t2 := hX'.out.z 2
  have t3 := hX'.out.z 3
  have y1 := hX'.out.c1
  have y2 := hX'.out.c2
  have y3 := hX'.out.c3
  go_upto_region 2 with (fail)
  have hT4 : Touch (fun y => y = bx) wb (((wb.setCell ⟨bx, 1, none⟩ (.slice none 0 0)).setCell ⟨bx, 2, none⟩ (.bool false)).setCell ⟨bx, 3, none⟩ (.int .i64 (-1))) := (((Touch.refl (fun y => y = bx) wb).setCell (p := ⟨bx, 1, none⟩) rfl _).setCell (p := ⟨bx, 2, none⟩) rfl _).setCell (p := ⟨bx, 3, none⟩) rfl _
  have hX4 := hide (((hX'.out.set1 (.slice none 0 0)).set2 (.bool false)).set3 (.int .i64 (-1)))
  have hZ4 := hide (hZ'.out.later hT4.2 (by omega))
  have hu4 := hide (((hR.out.below hb'.out).later hT4.2 (fun y hy e => by have := hbx'.out; have := hy.2; omega)).mono (C := fun y => (B y ∧ y < w.heap.size) ∨ wb.heap.size ≤ y) (fun y hy => .inl hy))
  have hb4 := hide (hb'.out.trans (hT4.below hb'.out.size (fun y hy e => by have := hbx'.out; omega)))
  clear t1 t2 t3 y1 y2 y3 hX' hZ' hR hT4
  generalize ((wb.setCell ⟨bx, 1, none⟩ (.slice none 0 0)).setCell ⟨bx, 2, none⟩ (.bool false)).setCell ⟨bx, 3, none⟩ (.int .i64 (-1)) = w4 at *
  have y0 := hX4.out.c0
  have y1 := hX4.out.c1
  have y2 := hX4.out.c2
  have y3 := hX4.out.c3
  have y4 := hX4.out.c4
  have z0 := hZ4.out.c0
  have z1 := hZ4.out.c1
  have z2 := hZ4.out.c2
  have z3 := hZ4.out.c3
  have z4 := hZ4.out.c4
  have tz0 := hZ4.out.z 0
  have tz1 := hZ4.out.z 1
  have tz2 := hZ4.out.z 2
  have tz3 := hZ4.out.z 3
  have tz4 := hZ4.out.z 4
  go_wp2_with fail
  have hT5 := touch_set5 (fun y => y = bx + 1) w4 (bx + 1) (.slice A1 r.has.length c1) (.slice none 0 0) (.bool false) (.int .i64 (-1)) (.slice A3 r.surv.length c3) rfl
  have hZ5 := hZ4.out.set5 (.slice A1 r.has.length c1) (.slice none 0 0) (.bool false) (.int .i64 (-1)) (.slice A3 r.surv.length c3)
  have hu5 := hu4.out.later hT5.2 (fun y hy e => by have := hbx'.out; have := hbz.out; rcases hy with hy | hy; have := hy.2; omega; omega)
  have hb5 := hb4.out.trans (hT5.below hb4.out.size (fun y hy e => by have := hbx'.out; omega))
  refine bodyPost_ret (v := .agg #[.slice A1 r.has.length c1, .slice none 0 0, .bool false, .int .i64 (-1), .slice A3 r.surv.length c3]) (by simp [results, Try.results46, go_sem, z0, z1, z2, z3, z4]) rfl ⟨_, rfl, ?_, hb5⟩
  obtain ⟨a1, b1, a2, b2, a3, b3, e, k1, _, k3, k4, _, k6⟩ := hu5
  simp only [Value.agg.injEq, Array.mk.injEq, List.cons.injEq, and_true] at e
  obtain ⟨e1, _, _, _, e5⟩ := e
  have hs := hb'.out.size
  refine ⟨a1, b1, none, 0, a3, b3, by rw [e1, e5]; rfl, k1, Sl.nil _ _, k3, fun hp y hy => ?_, fun h => absurd h (Nat.lt_irrefl _), fun hp y hy => ?_⟩
  · rcases k4 hp y hy with h | h
    · exact .inl h.1
    · exact .inr (by omega)
  · rcases k6 hp y hy with h | h
    · exact .inl h.1
    · exact .inr (by omega)
end Go.Proofs.Ytamkngpkplflcaa
