/- law 05: Do walked (Read, Load, Has). -/
import Derived.Test.YtamkngpkplflcaaDoWalk2
namespace Go.Proofs.Ytamkngpkplflcaa
open Go.RowKit
set_option maxRecDepth 100000 in
set_option maxHeartbeats 1000000 in
theorem do_read (base g : Nat) (X : Nat → Prop) (d : Dk) (u : Value) (r : Rk) (k : Nat) (at_ off : Int) (fill : UInt8) (kv : Value) (w : World) (p : Pair base X 0 0 w g d u r) (gr : GoodR r k) (gd : GoodD d k) (hbase : base ≤ w.heap.size) :
    Calls Try.prog 53 #[.pointer (some ⟨g, 0, none⟩), u, .agg #[.int .i64 5, .int .i64 at_, .int .i64 off, .int .u8 (fill.toNat : Int), kv]] w fun e w' => ∃ u' bl, e = .returned (.tuple #[u', .bool bl]) ∧ (∃ d' r', Pair base X 0 0 w' g d' u' r' ∧ GoodR r' (k + 1) ∧ GoodD d' (k + 1)) ∧ Bel base X w w' := by
  obtain ⟨A1, c1, A2, n2, c2, o, lf, A3, n3, c3, rfl, hstr, hcap⟩ := p.shape 4 gr.n
  have hstr' := hide hstr
  clear hstr
  have p' := hide p
  have gr' := hide gr
  have gd' := hide gd
  have hbase' := hide hbase
  clear p gr gd hbase
  go_enter Try.func53, Try.ntmps53
  go_upto_region 2 with (fail)
  have hM1 := RBox.new w 71 (.slice A1 4 c1) (.slice A2 n2 c2) (.bool o) (.int .i64 lf) (.slice A3 n3 c3)
  have hbA : Below w.heap.size w (w.alloc (.cells #[.slice A1 4 c1, .slice A2 n2 c2, .bool o, .int .i64 lf, .slice A3 n3 c3] 71)) := (Below.refl _ _).alloc (Nat.le_refl _) _
  have hsA : (w.alloc (.cells #[.slice A1 4 c1, .slice A2 n2 c2, .bool o, .int .i64 lf, .slice A3 n3 c3] 71)).heap.size = w.heap.size + 1 := by simp
  generalize w.alloc (.cells #[.slice A1 4 c1, .slice A2 n2 c2, .bool o, .int .i64 lf, .slice A3 n3 c3] 71) = wa at *
  have hA1 := RBox.new wa 51 (.int .i64 5) (.int .i64 at_) (.int .i64 off) (.int .u8 (fill.toNat : Int)) kv
  have hbB : Below wa.heap.size wa (wa.alloc (.cells #[.int .i64 5, .int .i64 at_, .int .i64 off, .int .u8 (fill.toNat : Int), kv] 51)) := (Below.refl _ _).alloc (Nat.le_refl _) _
  have hsB : (wa.alloc (.cells #[.int .i64 5, .int .i64 at_, .int .i64 off, .int .u8 (fill.toNat : Int), kv] 51)).heap.size = wa.heap.size + 1 := by simp
  have hM2 := hM1.below hbB
  generalize wa.alloc (.cells #[.int .i64 5, .int .i64 at_, .int .i64 off, .int .u8 (fill.toNat : Int), kv] 51) = wb at *
  have hZ1 := RBox.new wb 71 (.slice none 0 0) (.slice none 0 0) (.bool false) (.int .i64 0) (.slice none 0 0)
  have hbC : Below wb.heap.size wb (wb.alloc (.cells #[.slice none 0 0, .slice none 0 0, .bool false, .int .i64 0, .slice none 0 0] 71)) := (Below.refl _ _).alloc (Nat.le_refl _) _
  have hsC : (wb.alloc (.cells #[.slice none 0 0, .slice none 0 0, .bool false, .int .i64 0, .slice none 0 0] 71)).heap.size = wb.heap.size + 1 := by simp
  have hM3 := hM2.below hbC
  have hA3 := hA1.below hbC
  generalize wb.alloc (.cells #[.slice none 0 0, .slice none 0 0, .bool false, .int .i64 0, .slice none 0 0] 71) = wc at *
  have hbABC : Below w.heap.size w wc := (hbA.trans (hbB.mono hbA.size)).trans (hbC.mono (Nat.le_trans hbA.size hbB.size))
  have hsc : wc.heap.size = w.heap.size + 3 := by omega
  have hP := ((p'.out.wide (lo' := w.heap.size) (hi' := w.heap.size + 3) (fun y hy e => by omega))).below hbABC
  rw [hsA] at hA3
  rw [show wb.heap.size = w.heap.size + 2 by omega] at hZ1
  obtain ⟨bm, hbm⟩ : ∃ bm, bm = w.heap.size := ⟨_, rfl⟩
  have hbm' := hide hbm
  have hXb := hide (show ∀ y, X y → y < bm by
    obtain ⟨B, C, _, _, _, _, h5⟩ := p'.out
    intro y hy
    have := (h5 y hy).2.1
    omega)
  rw [← hbm] at hM3 hA3 hZ1 hP hsc hbABC ⊢
  have hM' := hide hM3
  have hw0 := hide (show Below w.heap.size w wc by rw [← hbm]; exact hbABC)
  have hA' := hide hA3
  have hZ' := hide hZ1
  have hP' := hide hP
  have hbA' := hide (show Bel base X w wc from ⟨hbABC.mono (show base ≤ bm by rw [hbm]; exact hbase'.out), fun y hy hl => hbABC.block y (by rw [hbm]; exact hl)⟩)
  have hbb := hide (show base ≤ bm by rw [hbm]; exact hbase'.out)
  clear hM1 hbA hsA hA1 hbB hsB hM2 hZ1 hbC hsC hM3 hA3 hbABC hP hbm p' hbase'
  have a0 := hA'.out.c0
  have a1 := hA'.out.c1
  have hM2 := hM'.out
  have m0 := hM2.c0
  have m1 := hM2.c1
  have m2 := hM2.c2
  have m3 := hM2.c3
  have m4 := hM2.c4
  clear hM2
  go_wp2_with fail
  refine (hP'.out.rread at_ gr'.out.ok).mono ?_
  rintro e w1 ⟨rfl, hb⟩
  have hP1 := hide (hP'.out.fresh hb hsc.symm)
  have hM1 := hide (hM'.out.below hb)
  have hA1 := hide (hA'.out.below hb)
  have hZ1 := hide (hZ'.out.below hb)
  have hb1 := hide (hbA'.out.trans (Bel.of hb (show base ≤ wc.heap.size by have := hbb.out; omega)))
  have hs1 := hb.size
  generalize (r.read at_).1 = S1 at *
  generalize (r.read at_).2 = n1 at *
  have a1 := hA1.out.c1
  clear hM' hA' hZ' hP' hbA' hb m0 m1 m2 m3 m4 a0
  go_wp2_with fail
  refine (hP1.out.dread at_).mono ?_
  rintro e w6 ⟨bv, rfl, hbv, hb⟩
  have hP6 := hide (hP1.out.fresh hb rfl)
  have hM6 := hide (hM1.out.below hb)
  have hZ6 := hide (hZ1.out.below hb)
  have hb6 := hide (hb1.out.trans (Bel.of hb (show base ≤ w1.heap.size by have := hbb.out; omega)))
  have hs6 := hb.size
  unfold OwnB at hbv
  generalize (d.reads at_).1 = l0 at *
  generalize (d.reads at_).2 = e2 at *
  obtain ⟨nb, hnb⟩ : ∃ nb, nb = l0.length := ⟨_, rfl⟩
  obtain ⟨A8, c8, rfl, hc8, hm8, _⟩ := Sl.own hbv
  have hbs1 := hide (show Bs w6 (.slice A8 l0.length c8) l0 from Sl.own hbv)
  have hcv := str_conv w6 _ _ hbs1.out
  have hvl := hide (show ∀ x, (Value.slice A8 l0.length c8).ownBlock = some x → bm + 3 ≤ x ∧ x < w6.heap.size from fun x hx => by have := hbv.lt x hx; omega)
  rw [← hnb] at hbv hvl hcv hc8 ⊢
  have hnb' := hide hnb
  have hv6 := hide hbv
  have gr2 := gr'
  have gd4 := gd'
  clear hP1 hM1 hA1 hZ1 hb1 hb hbs1 hnb hbv a1 gr' gd'
  unfold maxLen at hm8
  obtain ⟨A5, c5, A6, n6, c6, o6, lf6, A7, n7, c7, hEQ⟩ : ∃ A5 c5 A6 n6 c6 o6 lf6 A7 n7 c7, (A5, c5, A6, n6, c6, o6, lf6, A7, n7, c7) = (A1, c1, A2, n2, c2, o, lf, A3, n3, c3) := ⟨_, _, _, _, _, _, _, _, _, _, rfl⟩
  simp only [Prod.mk.injEq] at hEQ
  obtain ⟨rfl, rfl, rfl, rfl, rfl, rfl, rfl, rfl, rfl, rfl⟩ := hEQ
  by_cases hq : l0 = S1
  · have hd1 : decide (l0 = S1) = true := by simp [hq]
    have hd2 := strEq l0 S1
    rw [hd1] at hd2
    go_wp2_with fail
    go_loopw [17] (fun i wr => ∃ (j : Nat) (l : List UInt8), j ≤ nb ∧ i = .int .i64 (j : Nat) ∧ l.length = nb ∧ wr.ownsRow w1.heap.size 5 1 (.slice A8 nb c8) nb (bytesV l) ∧ Touch (fun y => bm + 3 ≤ y ∧ y < w6.heap.size) w6 wr) (fun i _ => nb - (intOf i).toNat)
    case atStart => exact ⟨0, l0, by omega, rfl, hnb'.out.symm, hv6.out, Touch.refl _ _⟩
    case round =>
      obtain ⟨j, l, hj, rfl, hll2, hown, hT⟩ := hrel
      have hT' := hide hT
      clear hT
      by_cases hlt : j < nb
      · obtain ⟨b8, hA8⟩ : ∃ b8, A8 = some ⟨b8, 0, none⟩ := by
          rcases hown.2 with ⟨_, h0⟩ | ⟨b8, cap, _, h0, _⟩
          · omega
          · injection h0 with h0; exact ⟨b8, h0⟩
        subst hA8
        have hcj : wr.cell? ⟨b8, j, none⟩ = some (.int .u8 ((l[j]'(by omega)).toNat : Int)) := (hown.cellAt j (by omega)).trans (by simp [bytesV, List.getElem?_eq_getElem (show j < l.length by omega)])
        have hfj := hown.frozenAt j
        have hst := (hown.stored j (.int .u8 98)).1
        rw [show (bytesV l).set j (.int .u8 98) = bytesV (l.set j 98) by simp [bytesV, List.map_set]] at hst
        have hst' := hide hst
        have hjI : (j : Int) < (nb : Int) := by omega
        have hb8 := hide (hvl.out b8 rfl)
        clear hown hst
        go_wp2_with fail
        go_roundw
        case rel => exact ⟨j + 1, l.set j 98, by omega, by go_num, by rw [List.length_set]; exact hll2, hst'.out, hT'.out.setCell (p := ⟨b8, j, none⟩) hb8.out _⟩
        case measure => simp [intOf]; omega
      · obtain rfl : nb = j := by omega
        obtain ⟨w4, rfl⟩ : ∃ w4 : World, w4 = wr := ⟨_, rfl⟩
        have hM2 := hM6.out.later hT'.out.2 (by omega)
        have hZ4 := hZ6.out.later hT'.out.2 (by omega)
        have hP4 := hide (hP6.out.touch hT'.out (fun y hy => by omega))
        have hb4 := hide (hb6.out.trans (Bel.touch hT'.out (show base ≤ w6.heap.size by have := hbb.out; omega) (fun y hy e => by have := hbb.out; omega) (fun y e hx => by have := hXb.out y hx; omega)))
        have hs4 := hT'.out.size
        have m0 := hM2.c0
        have m1 := hM2.c1
        have m2 := hM2.c2
        have m3 := hM2.c3
        have m4 := hM2.c4
        have z0 := hZ4.c0
        have z1 := hZ4.c1
        have z2 := hZ4.c2
        have z3 := hZ4.c3
        have z4 := hZ4.c4
        have tz0 := hZ4.z 0
        have tz1 := hZ4.z 1
        have tz2 := hZ4.z 2
        have tz3 := hZ4.z 3
        have tz4 := hZ4.z 4
        clear hZ4
        clear hM6 hZ6 hP6 hb6 hT' hv6 hown hM2 hd1 hd2
        go_wp2_with fail
        have hT5 := touch_set5 (fun y => y = bm + 2) w4 (bm + 2) (.slice A5 4 c5) (.slice A6 n6 c6) (.bool o6) (.int .i64 lf6) (.slice A7 n7 c7) rfl
        have hP5 := (hP4.out.touch hT5 (fun y e => by omega)).wide (lo' := 0) (hi' := 0) (fun y _ e => by omega)
        have hb5 := hb4.out.trans (Bel.touch hT5 (show base ≤ w4.heap.size by have := hbb.out; omega) (fun y hy e => by have := hbb.out; omega) (fun y e hx => by have := hXb.out y hx; omega))
        refine bodyPost_ret (v := .tuple #[.agg #[.slice A5 4 c5, .slice A6 n6 c6, .bool o6, .int .i64 lf6, .slice A7 n7 c7], _]) (by simp [results, Try.results53, go_sem, z0, z1, z2, z3, z4]; rfl) rfl ⟨_, _, rfl, ⟨_, _, hP5, gr2.out.up, gd4.out.up⟩, hb5⟩
  · have hd1 : decide (l0 = S1) = false := by simp [hq]
    have hd2 := strEq l0 S1
    rw [hd1] at hd2
    go_wp2_with fail
    go_loopw [17] (fun i wr => ∃ (j : Nat) (l : List UInt8), j ≤ nb ∧ i = .int .i64 (j : Nat) ∧ l.length = nb ∧ wr.ownsRow w1.heap.size 5 1 (.slice A8 nb c8) nb (bytesV l) ∧ Touch (fun y => bm + 3 ≤ y ∧ y < w6.heap.size) w6 wr) (fun i _ => nb - (intOf i).toNat)
    case atStart => exact ⟨0, l0, by omega, rfl, hnb'.out.symm, hv6.out, Touch.refl _ _⟩
    case round =>
      obtain ⟨j, l, hj, rfl, hll2, hown, hT⟩ := hrel
      have hT' := hide hT
      clear hT
      by_cases hlt : j < nb
      · obtain ⟨b8, hA8⟩ : ∃ b8, A8 = some ⟨b8, 0, none⟩ := by
          rcases hown.2 with ⟨_, h0⟩ | ⟨b8, cap, _, h0, _⟩
          · omega
          · injection h0 with h0; exact ⟨b8, h0⟩
        subst hA8
        have hcj : wr.cell? ⟨b8, j, none⟩ = some (.int .u8 ((l[j]'(by omega)).toNat : Int)) := (hown.cellAt j (by omega)).trans (by simp [bytesV, List.getElem?_eq_getElem (show j < l.length by omega)])
        have hfj := hown.frozenAt j
        have hst := (hown.stored j (.int .u8 98)).1
        rw [show (bytesV l).set j (.int .u8 98) = bytesV (l.set j 98) by simp [bytesV, List.map_set]] at hst
        have hst' := hide hst
        have hjI : (j : Int) < (nb : Int) := by omega
        have hb8 := hide (hvl.out b8 rfl)
        clear hown hst
        go_wp2_with fail
        go_roundw
        case rel => exact ⟨j + 1, l.set j 98, by omega, by go_num, by rw [List.length_set]; exact hll2, hst'.out, hT'.out.setCell (p := ⟨b8, j, none⟩) hb8.out _⟩
        case measure => simp [intOf]; omega
      · obtain rfl : nb = j := by omega
        obtain ⟨w4, rfl⟩ : ∃ w4 : World, w4 = wr := ⟨_, rfl⟩
        have hM2 := hM6.out.later hT'.out.2 (by omega)
        have hZ4 := hZ6.out.later hT'.out.2 (by omega)
        have hP4 := hide (hP6.out.touch hT'.out (fun y hy => by omega))
        have hb4 := hide (hb6.out.trans (Bel.touch hT'.out (show base ≤ w6.heap.size by have := hbb.out; omega) (fun y hy e => by have := hbb.out; omega) (fun y e hx => by have := hXb.out y hx; omega)))
        have hs4 := hT'.out.size
        have m0 := hM2.c0
        have m1 := hM2.c1
        have m2 := hM2.c2
        have m3 := hM2.c3
        have m4 := hM2.c4
        have z0 := hZ4.c0
        have z1 := hZ4.c1
        have z2 := hZ4.c2
        have z3 := hZ4.c3
        have z4 := hZ4.c4
        have tz0 := hZ4.z 0
        have tz1 := hZ4.z 1
        have tz2 := hZ4.z 2
        have tz3 := hZ4.z 3
        have tz4 := hZ4.z 4
        clear hZ4
        clear hM6 hZ6 hP6 hb6 hT' hv6 hown hM2 hd1 hd2
        go_wp2_with fail
        have hT5 := touch_set5 (fun y => y = bm + 2) w4 (bm + 2) (.slice A5 4 c5) (.slice A6 n6 c6) (.bool o6) (.int .i64 lf6) (.slice A7 n7 c7) rfl
        have hP5 := (hP4.out.touch hT5 (fun y e => by omega)).wide (lo' := 0) (hi' := 0) (fun y _ e => by omega)
        have hb5 := hb4.out.trans (Bel.touch hT5 (show base ≤ w4.heap.size by have := hbb.out; omega) (fun y hy e => by have := hbb.out; omega) (fun y e hx => by have := hXb.out y hx; omega))
        refine bodyPost_ret (v := .tuple #[.agg #[.slice A5 4 c5, .slice A6 n6 c6, .bool o6, .int .i64 lf6, .slice A7 n7 c7], _]) (by simp [results, Try.results53, go_sem, z0, z1, z2, z3, z4]; rfl) rfl ⟨_, _, rfl, ⟨_, _, hP5, gr2.out.up, gd4.out.up⟩, hb5⟩
end Go.Proofs.Ytamkngpkplflcaa
