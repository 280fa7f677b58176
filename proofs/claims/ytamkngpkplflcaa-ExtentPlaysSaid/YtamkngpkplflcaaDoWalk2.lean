/- law 05: Do walked (Write). -/
import Derived.Test.YtamkngpkplflcaaDoWalk
namespace Go.Proofs.Ytamkngpkplflcaa
open Go.RowKit
theorem sec_len (c : UInt8) (off : Int) : 1 ≤ (sec c off).length ∧ (sec c off).length ≤ 127 := by
  unfold sec secN
  rw [List.length_replicate]
  split <;> omega
set_option maxRecDepth 100000 in
set_option maxHeartbeats 1000000 in
theorem do_write0 (base g : Nat) (X : Nat → Prop) (d : Dk) (u : Value) (r : Rk) (k : Nat) (hk : k ≤ 1000) (at_ off : Int) (fill : UInt8) (kv : Value) (w : World) (p : Pair base X 0 0 w g d u r) (gr : GoodR r k) (gd : GoodD d k) (hbase : base ≤ w.heap.size) :
    Calls Try.prog 53 #[.pointer (some ⟨g, 0, none⟩), u, .agg #[.int .i64 0, .int .i64 at_, .int .i64 off, .int .u8 (fill.toNat : Int), kv]] w fun e w' => ∃ u' bl, e = .returned (.tuple #[u', .bool bl]) ∧ (∃ d' r', Pair base X 0 0 w' g d' u' r' ∧ GoodR r' (k + 1) ∧ GoodD d' (k + 1)) ∧ Bel base X w w' := by
  obtain ⟨A1, c1, A2, n2, c2, o, lf, A3, n3, c3, rfl, hstr, hcap⟩ := p.shape 4 gr.n
  have hstr' := hide hstr
  clear hstr
  have p' := hide p
  have gr' := hide gr
  have gd' := hide gd
  have hbase' := hide hbase
  clear p gr gd hbase
  go_enter Try.func53, Try.ntmps53
  go_upto_region 2 with (fail)
  have hM1 := RBox.new w 71 (.slice A1 4 c1) (.slice A2 n2 c2) (.bool o) (.int .i64 lf) (.slice A3 n3 c3)
  have hbA : Below w.heap.size w (w.alloc (.cells #[.slice A1 4 c1, .slice A2 n2 c2, .bool o, .int .i64 lf, .slice A3 n3 c3] 71)) := (Below.refl _ _).alloc (Nat.le_refl _) _
  have hsA : (w.alloc (.cells #[.slice A1 4 c1, .slice A2 n2 c2, .bool o, .int .i64 lf, .slice A3 n3 c3] 71)).heap.size = w.heap.size + 1 := by simp
  generalize w.alloc (.cells #[.slice A1 4 c1, .slice A2 n2 c2, .bool o, .int .i64 lf, .slice A3 n3 c3] 71) = wa at *
  have hA1 := RBox.new wa 51 (.int .i64 0) (.int .i64 at_) (.int .i64 off) (.int .u8 (fill.toNat : Int)) kv
  have hbB : Below wa.heap.size wa (wa.alloc (.cells #[.int .i64 0, .int .i64 at_, .int .i64 off, .int .u8 (fill.toNat : Int), kv] 51)) := (Below.refl _ _).alloc (Nat.le_refl _) _
  have hsB : (wa.alloc (.cells #[.int .i64 0, .int .i64 at_, .int .i64 off, .int .u8 (fill.toNat : Int), kv] 51)).heap.size = wa.heap.size + 1 := by simp
  have hM2 := hM1.below hbB
  generalize wa.alloc (.cells #[.int .i64 0, .int .i64 at_, .int .i64 off, .int .u8 (fill.toNat : Int), kv] 51) = wb at *
  have hZ1 := RBox.new wb 71 (.slice none 0 0) (.slice none 0 0) (.bool false) (.int .i64 0) (.slice none 0 0)
  have hbC : Below wb.heap.size wb (wb.alloc (.cells #[.slice none 0 0, .slice none 0 0, .bool false, .int .i64 0, .slice none 0 0] 71)) := (Below.refl _ _).alloc (Nat.le_refl _) _
  have hsC : (wb.alloc (.cells #[.slice none 0 0, .slice none 0 0, .bool false, .int .i64 0, .slice none 0 0] 71)).heap.size = wb.heap.size + 1 := by simp
  have hM3 := hM2.below hbC
  have hA3 := hA1.below hbC
  generalize wb.alloc (.cells #[.slice none 0 0, .slice none 0 0, .bool false, .int .i64 0, .slice none 0 0] 71) = wc at *
  have hbABC : Below w.heap.size w wc := (hbA.trans (hbB.mono hbA.size)).trans (hbC.mono (Nat.le_trans hbA.size hbB.size))
  have hsc : wc.heap.size = w.heap.size + 3 := by omega
  have hP := ((p'.out.wide (lo' := w.heap.size) (hi' := w.heap.size + 3) (fun y hy e => by omega))).below hbABC
  rw [hsA] at hA3
  rw [show wb.heap.size = w.heap.size + 2 by omega] at hZ1
  obtain ⟨bm, hbm⟩ : ∃ bm, bm = w.heap.size := ⟨_, rfl⟩
  have hbm' := hide hbm
  have hXb := hide (show ∀ y, X y → y < bm by
    obtain ⟨B, C, _, _, _, _, h5⟩ := p'.out
    intro y hy
    have := (h5 y hy).2.1
    omega)
  rw [← hbm] at hM3 hA3 hZ1 hP hsc hbABC ⊢
  have hM' := hide hM3
  have hw0 := hide (show Below w.heap.size w wc by rw [← hbm]; exact hbABC)
  have hA' := hide hA3
  have hZ' := hide hZ1
  have hP' := hide hP
  have hbA' := hide (show Bel base X w wc from ⟨hbABC.mono (show base ≤ bm by rw [hbm]; exact hbase'.out), fun y hy hl => hbABC.block y (by rw [hbm]; exact hl)⟩)
  have hbb := hide (show base ≤ bm by rw [hbm]; exact hbase'.out)
  clear hM1 hbA hsA hA1 hbB hsB hM2 hZ1 hbC hsC hM3 hA3 hbABC hP hbm p' hbase'
  have a0 := hA'.out.c0
  have a2 := hA'.out.c2
  have a3 := hA'.out.c3
  go_wp2_with fail
  refine (sector_any fill off wc).mono ?_
  rintro e w1 ⟨bv, rfl, hbv, hb⟩
  have hsl := sec_len fill off
  unfold OwnB at hbv
  generalize sec fill off = l0 at *
  obtain ⟨nb, hnb⟩ : ∃ nb, nb = l0.length := ⟨_, rfl⟩
  obtain ⟨A8, c8, rfl, hc8, hm8, _⟩ := Sl.own hbv
  have hbs1 := hide (show Bs w1 (.slice A8 l0.length c8) l0 from Sl.own hbv)
  have hcv := str_conv w1 _ _ hbs1.out
  have hvl := hide (show ∀ x, (Value.slice A8 l0.length c8).ownBlock = some x → bm + 3 ≤ x ∧ x < w1.heap.size from fun x hx => by have := hbv.lt x hx; omega)
  rw [← hnb] at hbv hvl hcv hc8 hsl ⊢
  have hnb' := hide hnb
  have hP1 := hide (hP'.out.fresh hb hsc.symm)
  have hM1 := hM'.out.below hb
  have hA1 := hA'.out.below hb
  have hZ1 := hide (hZ'.out.below hb)
  have hb1 := hide (hbA'.out.trans (Bel.of hb (show base ≤ wc.heap.size by have := hbb.out; omega)))
  have hs1 := hb.size
  have hv1 := hide hbv
  have m0 := hM1.c0
  have m1 := hM1.c1
  have m2 := hM1.c2
  have m3 := hM1.c3
  have m4 := hM1.c4
  have a1 := hA1.c1
  have hM1' := hide hM1
  have hA1' := hide hA1
  clear hM' hA' hZ' hP' hbA' a0 a2 a3 hb hbv hM1 hA1 hnb
  go_wp2_with fail
  refine (hP1.out.rwrite (Nat.le_refl _) at_ l0 gr'.out.ok gr'.out.l (by have := gr'.out.w; omega)).mono ?_
  rintro e w2 ⟨u2, rfl, hp, hb⟩
  have gr2 := hide (gr'.out.write hk at_ l0)
  generalize (r.write at_ l0).1 = r2 at *
  generalize (r.write at_ l0).2 = n1 at *
  obtain ⟨A5, c5, A6, n6, c6, o6, lf6, A7, n7, c7, rfl, _, _⟩ := hp.shape 4 gr2.out.n
  have hM2 := hM1'.out.below hb
  have hA2 := hide (hA1'.out.below hb)
  have hZ2 := hide (hZ1.out.below hb)
  have hP2 := hide hp
  have hb2 := hide (hb1.out.trans (Bel.of hb (show base ≤ w1.heap.size by have := hbb.out; omega)))
  have hs2 := hb.size
  have hv2 := hide (own_later hv1.out (below_later hb (Nat.le_refl _)) (fun _ _ h => h))
  clear m0 m1 m2 m3 m4 a1 hM1' hA1' hZ1 hP1 hb1 hb hp gr' hv1 hbs1 hcv
  have t0 := hM2.z 0
  have t1 := hM2.z 1
  have t2 := hM2.z 2
  have t3 := hM2.z 3
  have t4 := hM2.z 4
  have m0 := hM2.c0
  have m1 := hM2.c1
  have m2 := hM2.c2
  have m3 := hM2.c3
  have m4 := hM2.c4
  have hM2' := hide hM2
  clear hM2
  go_upto_region 9 with (fail)
  have hT3 := touch_set5 (fun y => y = bm) w2 bm (.slice A5 4 c5) (.slice A6 n6 c6) (.bool o6) (.int .i64 lf6) (.slice A7 n7 c7) rfl
  have hM3 := hide (hM2'.out.set5 (.slice A5 4 c5) (.slice A6 n6 c6) (.bool o6) (.int .i64 lf6) (.slice A7 n7 c7))
  have hA3 := hide (hA2.out.later hT3.2 (by omega))
  have hZ3 := hide (hZ2.out.later hT3.2 (by omega))
  have hP3 := hide (hP2.out.touch hT3 (fun y e => by omega))
  have hb3 := hide (hb2.out.trans (Bel.touch hT3 (show base ≤ w2.heap.size by have := hbb.out; omega) (fun y hy e => by have := hbb.out; omega) (fun y e hx => by have := hXb.out y hx; omega)))
  have hs3 := hT3.2.1
  have hL3 := hide hT3.2
  clear t0 t1 t2 t3 t4 m0 m1 m2 m3 m4 hM2' hA2 hZ2 hP2 hb2 hT3
  generalize (((((w2.setCell ⟨bm, 0, none⟩ (.slice A5 4 c5)).setCell ⟨bm, 1, none⟩ (.slice A6 n6 c6)).setCell ⟨bm, 2, none⟩ (.bool o6)).setCell ⟨bm, 3, none⟩ (.int .i64 lf6)).setCell ⟨bm, 4, none⟩ (.slice A7 n7 c7)) = w3 at *
  have hv3 := hide (own_later hv2.out hL3.out (fun b hb e => by have := hvl.out b hb; omega))
  clear hv2 hL3
  have a1 := hA3.out.c1
  go_wp2_with fail
  refine (hP3.out.dwrite (show base ≤ w3.heap.size by have := hbb.out; omega) (show w1.heap.size ≤ w3.heap.size by omega) at_ (.slice A8 nb c8) l0 (fun x hx => by have := hvl.out x hx; omega) (by have := Sl.own hv3.out; unfold Bs; rw [← hnb'.out]; exact this) (by have := gd'.out.2; omega)).mono ?_
  rintro e w6 ⟨rfl, hp, hb, hkp⟩
  have gd4 := hide (gd'.out.write at_ l0)
  generalize (d.write at_ l0).1 = d4 at *
  generalize (d.write at_ l0).2 = n2 at *
  have hM6 := hide (hM3.out.later hkp (by omega))
  have hZ6 := hide (hZ3.out.later hkp (by omega))
  have hP6 := hide hp
  have hb6 := hide (hb3.out.trans hb)
  have hv6 := hide (own_later hv3.out hkp (fun b hb e => by have := hvl.out b hb; omega))
  have hs6 := hkp.1
  clear hp hb hkp hM3 hA3 hZ3 hP3 hb3 hv3 a1
  go_wp2_with fail
  go_loopw [11] (fun i wr => ∃ (j : Nat) (l : List UInt8), j ≤ nb ∧ i = .int .i64 (j : Nat) ∧ l.length = nb ∧ wr.ownsRow wc.heap.size 5 1 (.slice A8 nb c8) nb (bytesV l) ∧ Touch (fun y => bm + 3 ≤ y ∧ y < w1.heap.size) w6 wr) (fun i _ => nb - (intOf i).toNat)
  case atStart => exact ⟨0, l0, by omega, rfl, hnb'.out.symm, hv6.out, Touch.refl _ _⟩
  case round =>
    obtain ⟨j, l, hj, rfl, hll2, hown, hT⟩ := hrel
    have hT' := hide hT
    clear hT
    by_cases hlt : j < nb
    · obtain ⟨b8, hA8⟩ : ∃ b8, A8 = some ⟨b8, 0, none⟩ := by
        rcases hown.2 with ⟨_, h0⟩ | ⟨b8, cap, _, h0, _⟩
        · omega
        · injection h0 with h0; exact ⟨b8, h0⟩
      subst hA8
      have hcj : wr.cell? ⟨b8, j, none⟩ = some (.int .u8 ((l[j]'(by omega)).toNat : Int)) := (hown.cellAt j (by omega)).trans (by simp [bytesV, List.getElem?_eq_getElem (show j < l.length by omega)])
      have hfj := hown.frozenAt j
      have hst := (hown.stored j (.int .u8 99)).1
      rw [show (bytesV l).set j (.int .u8 99) = bytesV (l.set j 99) by simp [bytesV, List.map_set]] at hst
      have hst' := hide hst
      have hjI : (j : Int) < (nb : Int) := by omega
      have hb8 := hide (hvl.out b8 rfl)
      clear hown hst
      go_wp2_with fail
      go_roundw
      case rel => exact ⟨j + 1, l.set j 99, by omega, by go_num, by rw [List.length_set]; exact hll2, hst'.out, hT'.out.setCell (p := ⟨b8, j, none⟩) hb8.out _⟩
      case measure => simp [intOf]; omega
    · obtain rfl : nb = j := by omega
      obtain ⟨w4, rfl⟩ : ∃ w4 : World, w4 = wr := ⟨_, rfl⟩
      have hM2 := hM6.out.later hT'.out.2 (by omega)
      have hZ4 := hZ6.out.later hT'.out.2 (by omega)
      have hP4 := hide (hP6.out.touch hT'.out (fun y hy => by omega))
      have hb4 := hide (hb6.out.trans (Bel.touch hT'.out (show base ≤ w6.heap.size by have := hbb.out; omega) (fun y hy e => by have := hbb.out; omega) (fun y e hx => by have := hXb.out y hx; omega)))
      have hs4 := hT'.out.size
      have m0 := hM2.c0
      have m1 := hM2.c1
      have m2 := hM2.c2
      have m3 := hM2.c3
      have m4 := hM2.c4
      have z0 := hZ4.c0
      have z1 := hZ4.c1
      have z2 := hZ4.c2
      have z3 := hZ4.c3
      have z4 := hZ4.c4
      have tz0 := hZ4.z 0
      have tz1 := hZ4.z 1
      have tz2 := hZ4.z 2
      have tz3 := hZ4.z 3
      have tz4 := hZ4.z 4
      clear hZ4
      clear hM6 hZ6 hP6 hb6 hT' hv6 hown hM2
      go_wp2_with fail
      have hT5 := touch_set5 (fun y => y = bm + 2) w4 (bm + 2) (.slice A5 4 c5) (.slice A6 n6 c6) (.bool o6) (.int .i64 lf6) (.slice A7 n7 c7) rfl
      have hP5 := (hP4.out.touch hT5 (fun y e => by omega)).wide (lo' := 0) (hi' := 0) (fun y _ e => by omega)
      have hb5 := hb4.out.trans (Bel.touch hT5 (show base ≤ w4.heap.size by have := hbb.out; omega) (fun y hy e => by have := hbb.out; omega) (fun y e hx => by have := hXb.out y hx; omega))
      refine bodyPost_ret (v := .tuple #[.agg #[.slice A5 4 c5, .slice A6 n6 c6, .bool o6, .int .i64 lf6, .slice A7 n7 c7], _]) (by simp [results, Try.results53, go_sem, z0, z1, z2, z3, z4]; rfl) rfl ⟨_, _, rfl, ⟨_, _, hP5, gr2.out, gd4.out⟩, hb5⟩
set_option maxRecDepth 100000 in
set_option maxHeartbeats 1000000 in
theorem do_write1 (base g : Nat) (X : Nat → Prop) (d : Dk) (u : Value) (r : Rk) (k : Nat) (hk : k ≤ 1000) (at_ off : Int) (fill : UInt8) (kv : Value) (w : World) (p : Pair base X 0 0 w g d u r) (gr : GoodR r k) (gd : GoodD d k) (hbase : base ≤ w.heap.size) :
    Calls Try.prog 53 #[.pointer (some ⟨g, 0, none⟩), u, .agg #[.int .i64 1, .int .i64 at_, .int .i64 off, .int .u8 (fill.toNat : Int), kv]] w fun e w' => ∃ u' bl, e = .returned (.tuple #[u', .bool bl]) ∧ (∃ d' r', Pair base X 0 0 w' g d' u' r' ∧ GoodR r' (k + 1) ∧ GoodD d' (k + 1)) ∧ Bel base X w w' := by
  obtain ⟨A1, c1, A2, n2, c2, o, lf, A3, n3, c3, rfl, hstr, hcap⟩ := p.shape 4 gr.n
  have hstr' := hide hstr
  clear hstr
  have p' := hide p
  have gr' := hide gr
  have gd' := hide gd
  have hbase' := hide hbase
  clear p gr gd hbase
  go_enter Try.func53, Try.ntmps53
  go_upto_region 2 with (fail)
  have hM1 := RBox.new w 71 (.slice A1 4 c1) (.slice A2 n2 c2) (.bool o) (.int .i64 lf) (.slice A3 n3 c3)
  have hbA : Below w.heap.size w (w.alloc (.cells #[.slice A1 4 c1, .slice A2 n2 c2, .bool o, .int .i64 lf, .slice A3 n3 c3] 71)) := (Below.refl _ _).alloc (Nat.le_refl _) _
  have hsA : (w.alloc (.cells #[.slice A1 4 c1, .slice A2 n2 c2, .bool o, .int .i64 lf, .slice A3 n3 c3] 71)).heap.size = w.heap.size + 1 := by simp
  generalize w.alloc (.cells #[.slice A1 4 c1, .slice A2 n2 c2, .bool o, .int .i64 lf, .slice A3 n3 c3] 71) = wa at *
  have hA1 := RBox.new wa 51 (.int .i64 1) (.int .i64 at_) (.int .i64 off) (.int .u8 (fill.toNat : Int)) kv
  have hbB : Below wa.heap.size wa (wa.alloc (.cells #[.int .i64 1, .int .i64 at_, .int .i64 off, .int .u8 (fill.toNat : Int), kv] 51)) := (Below.refl _ _).alloc (Nat.le_refl _) _
  have hsB : (wa.alloc (.cells #[.int .i64 1, .int .i64 at_, .int .i64 off, .int .u8 (fill.toNat : Int), kv] 51)).heap.size = wa.heap.size + 1 := by simp
  have hM2 := hM1.below hbB
  generalize wa.alloc (.cells #[.int .i64 1, .int .i64 at_, .int .i64 off, .int .u8 (fill.toNat : Int), kv] 51) = wb at *
  have hZ1 := RBox.new wb 71 (.slice none 0 0) (.slice none 0 0) (.bool false) (.int .i64 0) (.slice none 0 0)
  have hbC : Below wb.heap.size wb (wb.alloc (.cells #[.slice none 0 0, .slice none 0 0, .bool false, .int .i64 0, .slice none 0 0] 71)) := (Below.refl _ _).alloc (Nat.le_refl _) _
  have hsC : (wb.alloc (.cells #[.slice none 0 0, .slice none 0 0, .bool false, .int .i64 0, .slice none 0 0] 71)).heap.size = wb.heap.size + 1 := by simp
  have hM3 := hM2.below hbC
  have hA3 := hA1.below hbC
  generalize wb.alloc (.cells #[.slice none 0 0, .slice none 0 0, .bool false, .int .i64 0, .slice none 0 0] 71) = wc at *
  have hbABC : Below w.heap.size w wc := (hbA.trans (hbB.mono hbA.size)).trans (hbC.mono (Nat.le_trans hbA.size hbB.size))
  have hsc : wc.heap.size = w.heap.size + 3 := by omega
  have hP := ((p'.out.wide (lo' := w.heap.size) (hi' := w.heap.size + 3) (fun y hy e => by omega))).below hbABC
  rw [hsA] at hA3
  rw [show wb.heap.size = w.heap.size + 2 by omega] at hZ1
  obtain ⟨bm, hbm⟩ : ∃ bm, bm = w.heap.size := ⟨_, rfl⟩
  have hbm' := hide hbm
  have hXb := hide (show ∀ y, X y → y < bm by
    obtain ⟨B, C, _, _, _, _, h5⟩ := p'.out
    intro y hy
    have := (h5 y hy).2.1
    omega)
  rw [← hbm] at hM3 hA3 hZ1 hP hsc hbABC ⊢
  have hM' := hide hM3
  have hw0 := hide (show Below w.heap.size w wc by rw [← hbm]; exact hbABC)
  have hA' := hide hA3
  have hZ' := hide hZ1
  have hP' := hide hP
  have hbA' := hide (show Bel base X w wc from ⟨hbABC.mono (show base ≤ bm by rw [hbm]; exact hbase'.out), fun y hy hl => hbABC.block y (by rw [hbm]; exact hl)⟩)
  have hbb := hide (show base ≤ bm by rw [hbm]; exact hbase'.out)
  clear hM1 hbA hsA hA1 hbB hsB hM2 hZ1 hbC hsC hM3 hA3 hbABC hP hbm p' hbase'
  have a0 := hA'.out.c0
  have a2 := hA'.out.c2
  have a3 := hA'.out.c3
  go_wp2_with fail
  refine (sector_any fill off wc).mono ?_
  rintro e w1 ⟨bv, rfl, hbv, hb⟩
  have hsl := sec_len fill off
  unfold OwnB at hbv
  generalize sec fill off = l0 at *
  obtain ⟨nb, hnb⟩ : ∃ nb, nb = l0.length := ⟨_, rfl⟩
  obtain ⟨A8, c8, rfl, hc8, hm8, _⟩ := Sl.own hbv
  have hbs1 := hide (show Bs w1 (.slice A8 l0.length c8) l0 from Sl.own hbv)
  have hcv := str_conv w1 _ _ hbs1.out
  have hvl := hide (show ∀ x, (Value.slice A8 l0.length c8).ownBlock = some x → bm + 3 ≤ x ∧ x < w1.heap.size from fun x hx => by have := hbv.lt x hx; omega)
  rw [← hnb] at hbv hvl hcv hc8 hsl ⊢
  have hnb' := hide hnb
  have hP1 := hide (hP'.out.fresh hb hsc.symm)
  have hM1 := hM'.out.below hb
  have hA1 := hA'.out.below hb
  have hZ1 := hide (hZ'.out.below hb)
  have hb1 := hide (hbA'.out.trans (Bel.of hb (show base ≤ wc.heap.size by have := hbb.out; omega)))
  have hs1 := hb.size
  have hv1 := hide hbv
  have m0 := hM1.c0
  have m1 := hM1.c1
  have m2 := hM1.c2
  have m3 := hM1.c3
  have m4 := hM1.c4
  have a1 := hA1.c1
  have hM1' := hide hM1
  have hA1' := hide hA1
  clear hM' hA' hZ' hP' hbA' a0 a2 a3 hb hbv hM1 hA1 hnb
  go_wp2_with fail
  refine (hP1.out.rwrite (Nat.le_refl _) at_ l0 gr'.out.ok gr'.out.l (by have := gr'.out.w; omega)).mono ?_
  rintro e w2 ⟨u2, rfl, hp, hb⟩
  have gr2 := hide (gr'.out.write hk at_ l0)
  generalize (r.write at_ l0).1 = r2 at *
  generalize (r.write at_ l0).2 = n1 at *
  obtain ⟨A5, c5, A6, n6, c6, o6, lf6, A7, n7, c7, rfl, _, _⟩ := hp.shape 4 gr2.out.n
  have hM2 := hM1'.out.below hb
  have hA2 := hide (hA1'.out.below hb)
  have hZ2 := hide (hZ1.out.below hb)
  have hP2 := hide hp
  have hb2 := hide (hb1.out.trans (Bel.of hb (show base ≤ w1.heap.size by have := hbb.out; omega)))
  have hs2 := hb.size
  have hv2 := hide (own_later hv1.out (below_later hb (Nat.le_refl _)) (fun _ _ h => h))
  clear m0 m1 m2 m3 m4 a1 hM1' hA1' hZ1 hP1 hb1 hb hp gr' hv1 hbs1 hcv
  have t0 := hM2.z 0
  have t1 := hM2.z 1
  have t2 := hM2.z 2
  have t3 := hM2.z 3
  have t4 := hM2.z 4
  have m0 := hM2.c0
  have m1 := hM2.c1
  have m2 := hM2.c2
  have m3 := hM2.c3
  have m4 := hM2.c4
  have hM2' := hide hM2
  clear hM2
  go_upto_region 9 with (fail)
  have hT3 := touch_set5 (fun y => y = bm) w2 bm (.slice A5 4 c5) (.slice A6 n6 c6) (.bool o6) (.int .i64 lf6) (.slice A7 n7 c7) rfl
  have hM3 := hide (hM2'.out.set5 (.slice A5 4 c5) (.slice A6 n6 c6) (.bool o6) (.int .i64 lf6) (.slice A7 n7 c7))
  have hA3 := hide (hA2.out.later hT3.2 (by omega))
  have hZ3 := hide (hZ2.out.later hT3.2 (by omega))
  have hP3 := hide (hP2.out.touch hT3 (fun y e => by omega))
  have hb3 := hide (hb2.out.trans (Bel.touch hT3 (show base ≤ w2.heap.size by have := hbb.out; omega) (fun y hy e => by have := hbb.out; omega) (fun y e hx => by have := hXb.out y hx; omega)))
  have hs3 := hT3.2.1
  have hL3 := hide hT3.2
  clear t0 t1 t2 t3 t4 m0 m1 m2 m3 m4 hM2' hA2 hZ2 hP2 hb2 hT3
  generalize (((((w2.setCell ⟨bm, 0, none⟩ (.slice A5 4 c5)).setCell ⟨bm, 1, none⟩ (.slice A6 n6 c6)).setCell ⟨bm, 2, none⟩ (.bool o6)).setCell ⟨bm, 3, none⟩ (.int .i64 lf6)).setCell ⟨bm, 4, none⟩ (.slice A7 n7 c7)) = w3 at *
  have hv3 := hide (own_later hv2.out hL3.out (fun b hb e => by have := hvl.out b hb; omega))
  clear hv2 hL3
  have a1 := hA3.out.c1
  go_wp2_with fail
  refine (hP3.out.dwrite (show base ≤ w3.heap.size by have := hbb.out; omega) (show w1.heap.size ≤ w3.heap.size by omega) at_ (.slice A8 nb c8) l0 (fun x hx => by have := hvl.out x hx; omega) (by have := Sl.own hv3.out; unfold Bs; rw [← hnb'.out]; exact this) (by have := gd'.out.2; omega)).mono ?_
  rintro e w6 ⟨rfl, hp, hb, hkp⟩
  have gd4 := hide (gd'.out.write at_ l0)
  generalize (d.write at_ l0).1 = d4 at *
  generalize (d.write at_ l0).2 = n2 at *
  have hM6 := hide (hM3.out.later hkp (by omega))
  have hZ6 := hide (hZ3.out.later hkp (by omega))
  have hP6 := hide hp
  have hb6 := hide (hb3.out.trans hb)
  have hv6 := hide (own_later hv3.out hkp (fun b hb e => by have := hvl.out b hb; omega))
  have hs6 := hkp.1
  clear hp hb hkp hM3 hA3 hZ3 hP3 hb3 hv3 a1
  go_wp2_with fail
  go_loopw [11] (fun i wr => ∃ (j : Nat) (l : List UInt8), j ≤ nb ∧ i = .int .i64 (j : Nat) ∧ l.length = nb ∧ wr.ownsRow wc.heap.size 5 1 (.slice A8 nb c8) nb (bytesV l) ∧ Touch (fun y => bm + 3 ≤ y ∧ y < w1.heap.size) w6 wr) (fun i _ => nb - (intOf i).toNat)
  case atStart => exact ⟨0, l0, by omega, rfl, hnb'.out.symm, hv6.out, Touch.refl _ _⟩
  case round =>
    obtain ⟨j, l, hj, rfl, hll2, hown, hT⟩ := hrel
    have hT' := hide hT
    clear hT
    by_cases hlt : j < nb
    · obtain ⟨b8, hA8⟩ : ∃ b8, A8 = some ⟨b8, 0, none⟩ := by
        rcases hown.2 with ⟨_, h0⟩ | ⟨b8, cap, _, h0, _⟩
        · omega
        · injection h0 with h0; exact ⟨b8, h0⟩
      subst hA8
      have hcj : wr.cell? ⟨b8, j, none⟩ = some (.int .u8 ((l[j]'(by omega)).toNat : Int)) := (hown.cellAt j (by omega)).trans (by simp [bytesV, List.getElem?_eq_getElem (show j < l.length by omega)])
      have hfj := hown.frozenAt j
      have hst := (hown.stored j (.int .u8 99)).1
      rw [show (bytesV l).set j (.int .u8 99) = bytesV (l.set j 99) by simp [bytesV, List.map_set]] at hst
      have hst' := hide hst
      have hjI : (j : Int) < (nb : Int) := by omega
      have hb8 := hide (hvl.out b8 rfl)
      clear hown hst
      go_wp2_with fail
      go_roundw
      case rel => exact ⟨j + 1, l.set j 99, by omega, by go_num, by rw [List.length_set]; exact hll2, hst'.out, hT'.out.setCell (p := ⟨b8, j, none⟩) hb8.out _⟩
      case measure => simp [intOf]; omega
    · obtain rfl : nb = j := by omega
      obtain ⟨w4, rfl⟩ : ∃ w4 : World, w4 = wr := ⟨_, rfl⟩
      have hM2 := hM6.out.later hT'.out.2 (by omega)
      have hZ4 := hZ6.out.later hT'.out.2 (by omega)
      have hP4 := hide (hP6.out.touch hT'.out (fun y hy => by omega))
      have hb4 := hide (hb6.out.trans (Bel.touch hT'.out (show base ≤ w6.heap.size by have := hbb.out; omega) (fun y hy e => by have := hbb.out; omega) (fun y e hx => by have := hXb.out y hx; omega)))
      have hs4 := hT'.out.size
      have m0 := hM2.c0
      have m1 := hM2.c1
      have m2 := hM2.c2
      have m3 := hM2.c3
      have m4 := hM2.c4
      have z0 := hZ4.c0
      have z1 := hZ4.c1
      have z2 := hZ4.c2
      have z3 := hZ4.c3
      have z4 := hZ4.c4
      have tz0 := hZ4.z 0
      have tz1 := hZ4.z 1
      have tz2 := hZ4.z 2
      have tz3 := hZ4.z 3
      have tz4 := hZ4.z 4
      clear hZ4
      clear hM6 hZ6 hP6 hb6 hT' hv6 hown hM2
      go_wp2_with fail
      have hT5 := touch_set5 (fun y => y = bm + 2) w4 (bm + 2) (.slice A5 4 c5) (.slice A6 n6 c6) (.bool o6) (.int .i64 lf6) (.slice A7 n7 c7) rfl
      have hP5 := (hP4.out.touch hT5 (fun y e => by omega)).wide (lo' := 0) (hi' := 0) (fun y _ e => by omega)
      have hb5 := hb4.out.trans (Bel.touch hT5 (show base ≤ w4.heap.size by have := hbb.out; omega) (fun y hy e => by have := hbb.out; omega) (fun y e hx => by have := hXb.out y hx; omega))
      refine bodyPost_ret (v := .tuple #[.agg #[.slice A5 4 c5, .slice A6 n6 c6, .bool o6, .int .i64 lf6, .slice A7 n7 c7], _]) (by simp [results, Try.results53, go_sem, z0, z1, z2, z3, z4]; rfl) rfl ⟨_, _, rfl, ⟨_, _, hP5, gr2.out, gd4.out⟩, hb5⟩
set_option maxRecDepth 100000 in
set_option maxHeartbeats 1000000 in
theorem do_write2 (base g : Nat) (X : Nat → Prop) (d : Dk) (u : Value) (r : Rk) (k : Nat) (hk : k ≤ 1000) (at_ off : Int) (fill : UInt8) (kv : Value) (w : World) (p : Pair base X 0 0 w g d u r) (gr : GoodR r k) (gd : GoodD d k) (hbase : base ≤ w.heap.size) :
    Calls Try.prog 53 #[.pointer (some ⟨g, 0, none⟩), u, .agg #[.int .i64 2, .int .i64 at_, .int .i64 off, .int .u8 (fill.toNat : Int), kv]] w fun e w' => ∃ u' bl, e = .returned (.tuple #[u', .bool bl]) ∧ (∃ d' r', Pair base X 0 0 w' g d' u' r' ∧ GoodR r' (k + 1) ∧ GoodD d' (k + 1)) ∧ Bel base X w w' := by
  obtain ⟨A1, c1, A2, n2, c2, o, lf, A3, n3, c3, rfl, hstr, hcap⟩ := p.shape 4 gr.n
  have hstr' := hide hstr
  clear hstr
  have p' := hide p
  have gr' := hide gr
  have gd' := hide gd
  have hbase' := hide hbase
  clear p gr gd hbase
  go_enter Try.func53, Try.ntmps53
  go_upto_region 2 with (fail)
  have hM1 := RBox.new w 71 (.slice A1 4 c1) (.slice A2 n2 c2) (.bool o) (.int .i64 lf) (.slice A3 n3 c3)
  have hbA : Below w.heap.size w (w.alloc (.cells #[.slice A1 4 c1, .slice A2 n2 c2, .bool o, .int .i64 lf, .slice A3 n3 c3] 71)) := (Below.refl _ _).alloc (Nat.le_refl _) _
  have hsA : (w.alloc (.cells #[.slice A1 4 c1, .slice A2 n2 c2, .bool o, .int .i64 lf, .slice A3 n3 c3] 71)).heap.size = w.heap.size + 1 := by simp
  generalize w.alloc (.cells #[.slice A1 4 c1, .slice A2 n2 c2, .bool o, .int .i64 lf, .slice A3 n3 c3] 71) = wa at *
  have hA1 := RBox.new wa 51 (.int .i64 2) (.int .i64 at_) (.int .i64 off) (.int .u8 (fill.toNat : Int)) kv
  have hbB : Below wa.heap.size wa (wa.alloc (.cells #[.int .i64 2, .int .i64 at_, .int .i64 off, .int .u8 (fill.toNat : Int), kv] 51)) := (Below.refl _ _).alloc (Nat.le_refl _) _
  have hsB : (wa.alloc (.cells #[.int .i64 2, .int .i64 at_, .int .i64 off, .int .u8 (fill.toNat : Int), kv] 51)).heap.size = wa.heap.size + 1 := by simp
  have hM2 := hM1.below hbB
  generalize wa.alloc (.cells #[.int .i64 2, .int .i64 at_, .int .i64 off, .int .u8 (fill.toNat : Int), kv] 51) = wb at *
  have hZ1 := RBox.new wb 71 (.slice none 0 0) (.slice none 0 0) (.bool false) (.int .i64 0) (.slice none 0 0)
  have hbC : Below wb.heap.size wb (wb.alloc (.cells #[.slice none 0 0, .slice none 0 0, .bool false, .int .i64 0, .slice none 0 0] 71)) := (Below.refl _ _).alloc (Nat.le_refl _) _
  have hsC : (wb.alloc (.cells #[.slice none 0 0, .slice none 0 0, .bool false, .int .i64 0, .slice none 0 0] 71)).heap.size = wb.heap.size + 1 := by simp
  have hM3 := hM2.below hbC
  have hA3 := hA1.below hbC
  generalize wb.alloc (.cells #[.slice none 0 0, .slice none 0 0, .bool false, .int .i64 0, .slice none 0 0] 71) = wc at *
  have hbABC : Below w.heap.size w wc := (hbA.trans (hbB.mono hbA.size)).trans (hbC.mono (Nat.le_trans hbA.size hbB.size))
  have hsc : wc.heap.size = w.heap.size + 3 := by omega
  have hP := ((p'.out.wide (lo' := w.heap.size) (hi' := w.heap.size + 3) (fun y hy e => by omega))).below hbABC
  rw [hsA] at hA3
  rw [show wb.heap.size = w.heap.size + 2 by omega] at hZ1
  obtain ⟨bm, hbm⟩ : ∃ bm, bm = w.heap.size := ⟨_, rfl⟩
  have hbm' := hide hbm
  have hXb := hide (show ∀ y, X y → y < bm by
    obtain ⟨B, C, _, _, _, _, h5⟩ := p'.out
    intro y hy
    have := (h5 y hy).2.1
    omega)
  rw [← hbm] at hM3 hA3 hZ1 hP hsc hbABC ⊢
  have hM' := hide hM3
  have hw0 := hide (show Below w.heap.size w wc by rw [← hbm]; exact hbABC)
  have hA' := hide hA3
  have hZ' := hide hZ1
  have hP' := hide hP
  have hbA' := hide (show Bel base X w wc from ⟨hbABC.mono (show base ≤ bm by rw [hbm]; exact hbase'.out), fun y hy hl => hbABC.block y (by rw [hbm]; exact hl)⟩)
  have hbb := hide (show base ≤ bm by rw [hbm]; exact hbase'.out)
  clear hM1 hbA hsA hA1 hbB hsB hM2 hZ1 hbC hsC hM3 hA3 hbABC hP hbm p' hbase'
  have a0 := hA'.out.c0
  have a2 := hA'.out.c2
  have a3 := hA'.out.c3
  go_wp2_with fail
  refine (sector_any fill off wc).mono ?_
  rintro e w1 ⟨bv, rfl, hbv, hb⟩
  have hsl := sec_len fill off
  unfold OwnB at hbv
  generalize sec fill off = l0 at *
  obtain ⟨nb, hnb⟩ : ∃ nb, nb = l0.length := ⟨_, rfl⟩
  obtain ⟨A8, c8, rfl, hc8, hm8, _⟩ := Sl.own hbv
  have hbs1 := hide (show Bs w1 (.slice A8 l0.length c8) l0 from Sl.own hbv)
  have hcv := str_conv w1 _ _ hbs1.out
  have hvl := hide (show ∀ x, (Value.slice A8 l0.length c8).ownBlock = some x → bm + 3 ≤ x ∧ x < w1.heap.size from fun x hx => by have := hbv.lt x hx; omega)
  rw [← hnb] at hbv hvl hcv hc8 hsl ⊢
  have hnb' := hide hnb
  have hP1 := hide (hP'.out.fresh hb hsc.symm)
  have hM1 := hM'.out.below hb
  have hA1 := hA'.out.below hb
  have hZ1 := hide (hZ'.out.below hb)
  have hb1 := hide (hbA'.out.trans (Bel.of hb (show base ≤ wc.heap.size by have := hbb.out; omega)))
  have hs1 := hb.size
  have hv1 := hide hbv
  have m0 := hM1.c0
  have m1 := hM1.c1
  have m2 := hM1.c2
  have m3 := hM1.c3
  have m4 := hM1.c4
  have a1 := hA1.c1
  have hM1' := hide hM1
  have hA1' := hide hA1
  clear hM' hA' hZ' hP' hbA' a0 a2 a3 hb hbv hM1 hA1 hnb
  go_wp2_with fail
  refine (hP1.out.rwrite (Nat.le_refl _) at_ l0 gr'.out.ok gr'.out.l (by have := gr'.out.w; omega)).mono ?_
  rintro e w2 ⟨u2, rfl, hp, hb⟩
  have gr2 := hide (gr'.out.write hk at_ l0)
  generalize (r.write at_ l0).1 = r2 at *
  generalize (r.write at_ l0).2 = n1 at *
  obtain ⟨A5, c5, A6, n6, c6, o6, lf6, A7, n7, c7, rfl, _, _⟩ := hp.shape 4 gr2.out.n
  have hM2 := hM1'.out.below hb
  have hA2 := hide (hA1'.out.below hb)
  have hZ2 := hide (hZ1.out.below hb)
  have hP2 := hide hp
  have hb2 := hide (hb1.out.trans (Bel.of hb (show base ≤ w1.heap.size by have := hbb.out; omega)))
  have hs2 := hb.size
  have hv2 := hide (own_later hv1.out (below_later hb (Nat.le_refl _)) (fun _ _ h => h))
  clear m0 m1 m2 m3 m4 a1 hM1' hA1' hZ1 hP1 hb1 hb hp gr' hv1 hbs1 hcv
  have t0 := hM2.z 0
  have t1 := hM2.z 1
  have t2 := hM2.z 2
  have t3 := hM2.z 3
  have t4 := hM2.z 4
  have m0 := hM2.c0
  have m1 := hM2.c1
  have m2 := hM2.c2
  have m3 := hM2.c3
  have m4 := hM2.c4
  have hM2' := hide hM2
  clear hM2
  go_upto_region 9 with (fail)
  have hT3 := touch_set5 (fun y => y = bm) w2 bm (.slice A5 4 c5) (.slice A6 n6 c6) (.bool o6) (.int .i64 lf6) (.slice A7 n7 c7) rfl
  have hM3 := hide (hM2'.out.set5 (.slice A5 4 c5) (.slice A6 n6 c6) (.bool o6) (.int .i64 lf6) (.slice A7 n7 c7))
  have hA3 := hide (hA2.out.later hT3.2 (by omega))
  have hZ3 := hide (hZ2.out.later hT3.2 (by omega))
  have hP3 := hide (hP2.out.touch hT3 (fun y e => by omega))
  have hb3 := hide (hb2.out.trans (Bel.touch hT3 (show base ≤ w2.heap.size by have := hbb.out; omega) (fun y hy e => by have := hbb.out; omega) (fun y e hx => by have := hXb.out y hx; omega)))
  have hs3 := hT3.2.1
  have hL3 := hide hT3.2
  clear t0 t1 t2 t3 t4 m0 m1 m2 m3 m4 hM2' hA2 hZ2 hP2 hb2 hT3
  generalize (((((w2.setCell ⟨bm, 0, none⟩ (.slice A5 4 c5)).setCell ⟨bm, 1, none⟩ (.slice A6 n6 c6)).setCell ⟨bm, 2, none⟩ (.bool o6)).setCell ⟨bm, 3, none⟩ (.int .i64 lf6)).setCell ⟨bm, 4, none⟩ (.slice A7 n7 c7)) = w3 at *
  have hv3 := hide (own_later hv2.out hL3.out (fun b hb e => by have := hvl.out b hb; omega))
  clear hv2 hL3
  have a1 := hA3.out.c1
  go_wp2_with fail
  refine (hP3.out.dwrite (show base ≤ w3.heap.size by have := hbb.out; omega) (show w1.heap.size ≤ w3.heap.size by omega) at_ (.slice A8 nb c8) l0 (fun x hx => by have := hvl.out x hx; omega) (by have := Sl.own hv3.out; unfold Bs; rw [← hnb'.out]; exact this) (by have := gd'.out.2; omega)).mono ?_
  rintro e w6 ⟨rfl, hp, hb, hkp⟩
  have gd4 := hide (gd'.out.write at_ l0)
  generalize (d.write at_ l0).1 = d4 at *
  generalize (d.write at_ l0).2 = n2 at *
  have hM6 := hide (hM3.out.later hkp (by omega))
  have hZ6 := hide (hZ3.out.later hkp (by omega))
  have hP6 := hide hp
  have hb6 := hide (hb3.out.trans hb)
  have hv6 := hide (own_later hv3.out hkp (fun b hb e => by have := hvl.out b hb; omega))
  have hs6 := hkp.1
  clear hp hb hkp hM3 hA3 hZ3 hP3 hb3 hv3 a1
  go_wp2_with fail
  go_loopw [11] (fun i wr => ∃ (j : Nat) (l : List UInt8), j ≤ nb ∧ i = .int .i64 (j : Nat) ∧ l.length = nb ∧ wr.ownsRow wc.heap.size 5 1 (.slice A8 nb c8) nb (bytesV l) ∧ Touch (fun y => bm + 3 ≤ y ∧ y < w1.heap.size) w6 wr) (fun i _ => nb - (intOf i).toNat)
  case atStart => exact ⟨0, l0, by omega, rfl, hnb'.out.symm, hv6.out, Touch.refl _ _⟩
  case round =>
    obtain ⟨j, l, hj, rfl, hll2, hown, hT⟩ := hrel
    have hT' := hide hT
    clear hT
    by_cases hlt : j < nb
    · obtain ⟨b8, hA8⟩ : ∃ b8, A8 = some ⟨b8, 0, none⟩ := by
        rcases hown.2 with ⟨_, h0⟩ | ⟨b8, cap, _, h0, _⟩
        · omega
        · injection h0 with h0; exact ⟨b8, h0⟩
      subst hA8
      have hcj : wr.cell? ⟨b8, j, none⟩ = some (.int .u8 ((l[j]'(by omega)).toNat : Int)) := (hown.cellAt j (by omega)).trans (by simp [bytesV, List.getElem?_eq_getElem (show j < l.length by omega)])
      have hfj := hown.frozenAt j
      have hst := (hown.stored j (.int .u8 99)).1
      rw [show (bytesV l).set j (.int .u8 99) = bytesV (l.set j 99) by simp [bytesV, List.map_set]] at hst
      have hst' := hide hst
      have hjI : (j : Int) < (nb : Int) := by omega
      have hb8 := hide (hvl.out b8 rfl)
      clear hown hst
      go_wp2_with fail
      go_roundw
      case rel => exact ⟨j + 1, l.set j 99, by omega, by go_num, by rw [List.length_set]; exact hll2, hst'.out, hT'.out.setCell (p := ⟨b8, j, none⟩) hb8.out _⟩
      case measure => simp [intOf]; omega
    · obtain rfl : nb = j := by omega
      obtain ⟨w4, rfl⟩ : ∃ w4 : World, w4 = wr := ⟨_, rfl⟩
      have hM2 := hM6.out.later hT'.out.2 (by omega)
      have hZ4 := hZ6.out.later hT'.out.2 (by omega)
      have hP4 := hide (hP6.out.touch hT'.out (fun y hy => by omega))
      have hb4 := hide (hb6.out.trans (Bel.touch hT'.out (show base ≤ w6.heap.size by have := hbb.out; omega) (fun y hy e => by have := hbb.out; omega) (fun y e hx => by have := hXb.out y hx; omega)))
      have hs4 := hT'.out.size
      have m0 := hM2.c0
      have m1 := hM2.c1
      have m2 := hM2.c2
      have m3 := hM2.c3
      have m4 := hM2.c4
      have z0 := hZ4.c0
      have z1 := hZ4.c1
      have z2 := hZ4.c2
      have z3 := hZ4.c3
      have z4 := hZ4.c4
      have tz0 := hZ4.z 0
      have tz1 := hZ4.z 1
      have tz2 := hZ4.z 2
      have tz3 := hZ4.z 3
      have tz4 := hZ4.z 4
      clear hZ4
      clear hM6 hZ6 hP6 hb6 hT' hv6 hown hM2
      go_wp2_with fail
      have hT5 := touch_set5 (fun y => y = bm + 2) w4 (bm + 2) (.slice A5 4 c5) (.slice A6 n6 c6) (.bool o6) (.int .i64 lf6) (.slice A7 n7 c7) rfl
      have hP5 := (hP4.out.touch hT5 (fun y e => by omega)).wide (lo' := 0) (hi' := 0) (fun y _ e => by omega)
      have hb5 := hb4.out.trans (Bel.touch hT5 (show base ≤ w4.heap.size by have := hbb.out; omega) (fun y hy e => by have := hbb.out; omega) (fun y e hx => by have := hXb.out y hx; omega))
      refine bodyPost_ret (v := .tuple #[.agg #[.slice A5 4 c5, .slice A6 n6 c6, .bool o6, .int .i64 lf6, .slice A7 n7 c7], _]) (by simp [results, Try.results53, go_sem, z0, z1, z2, z3, z4]; rfl) rfl ⟨_, _, rfl, ⟨_, _, hP5, gr2.out, gd4.out⟩, hb5⟩
set_option maxRecDepth 100000 in
set_option maxHeartbeats 1000000 in
theorem do_write3 (base g : Nat) (X : Nat → Prop) (d : Dk) (u : Value) (r : Rk) (k : Nat) (hk : k ≤ 1000) (at_ off : Int) (fill : UInt8) (kv : Value) (w : World) (p : Pair base X 0 0 w g d u r) (gr : GoodR r k) (gd : GoodD d k) (hbase : base ≤ w.heap.size) :
    Calls Try.prog 53 #[.pointer (some ⟨g, 0, none⟩), u, .agg #[.int .i64 3, .int .i64 at_, .int .i64 off, .int .u8 (fill.toNat : Int), kv]] w fun e w' => ∃ u' bl, e = .returned (.tuple #[u', .bool bl]) ∧ (∃ d' r', Pair base X 0 0 w' g d' u' r' ∧ GoodR r' (k + 1) ∧ GoodD d' (k + 1)) ∧ Bel base X w w' := by
  obtain ⟨A1, c1, A2, n2, c2, o, lf, A3, n3, c3, rfl, hstr, hcap⟩ := p.shape 4 gr.n
  have hstr' := hide hstr
  clear hstr
  have p' := hide p
  have gr' := hide gr
  have gd' := hide gd
  have hbase' := hide hbase
  clear p gr gd hbase
  go_enter Try.func53, Try.ntmps53
  go_upto_region 2 with (fail)
  have hM1 := RBox.new w 71 (.slice A1 4 c1) (.slice A2 n2 c2) (.bool o) (.int .i64 lf) (.slice A3 n3 c3)
  have hbA : Below w.heap.size w (w.alloc (.cells #[.slice A1 4 c1, .slice A2 n2 c2, .bool o, .int .i64 lf, .slice A3 n3 c3] 71)) := (Below.refl _ _).alloc (Nat.le_refl _) _
  have hsA : (w.alloc (.cells #[.slice A1 4 c1, .slice A2 n2 c2, .bool o, .int .i64 lf, .slice A3 n3 c3] 71)).heap.size = w.heap.size + 1 := by simp
  generalize w.alloc (.cells #[.slice A1 4 c1, .slice A2 n2 c2, .bool o, .int .i64 lf, .slice A3 n3 c3] 71) = wa at *
  have hA1 := RBox.new wa 51 (.int .i64 3) (.int .i64 at_) (.int .i64 off) (.int .u8 (fill.toNat : Int)) kv
  have hbB : Below wa.heap.size wa (wa.alloc (.cells #[.int .i64 3, .int .i64 at_, .int .i64 off, .int .u8 (fill.toNat : Int), kv] 51)) := (Below.refl _ _).alloc (Nat.le_refl _) _
  have hsB : (wa.alloc (.cells #[.int .i64 3, .int .i64 at_, .int .i64 off, .int .u8 (fill.toNat : Int), kv] 51)).heap.size = wa.heap.size + 1 := by simp
  have hM2 := hM1.below hbB
  generalize wa.alloc (.cells #[.int .i64 3, .int .i64 at_, .int .i64 off, .int .u8 (fill.toNat : Int), kv] 51) = wb at *
  have hZ1 := RBox.new wb 71 (.slice none 0 0) (.slice none 0 0) (.bool false) (.int .i64 0) (.slice none 0 0)
  have hbC : Below wb.heap.size wb (wb.alloc (.cells #[.slice none 0 0, .slice none 0 0, .bool false, .int .i64 0, .slice none 0 0] 71)) := (Below.refl _ _).alloc (Nat.le_refl _) _
  have hsC : (wb.alloc (.cells #[.slice none 0 0, .slice none 0 0, .bool false, .int .i64 0, .slice none 0 0] 71)).heap.size = wb.heap.size + 1 := by simp
  have hM3 := hM2.below hbC
  have hA3 := hA1.below hbC
  generalize wb.alloc (.cells #[.slice none 0 0, .slice none 0 0, .bool false, .int .i64 0, .slice none 0 0] 71) = wc at *
  have hbABC : Below w.heap.size w wc := (hbA.trans (hbB.mono hbA.size)).trans (hbC.mono (Nat.le_trans hbA.size hbB.size))
  have hsc : wc.heap.size = w.heap.size + 3 := by omega
  have hP := ((p'.out.wide (lo' := w.heap.size) (hi' := w.heap.size + 3) (fun y hy e => by omega))).below hbABC
  rw [hsA] at hA3
  rw [show wb.heap.size = w.heap.size + 2 by omega] at hZ1
  obtain ⟨bm, hbm⟩ : ∃ bm, bm = w.heap.size := ⟨_, rfl⟩
  have hbm' := hide hbm
  have hXb := hide (show ∀ y, X y → y < bm by
    obtain ⟨B, C, _, _, _, _, h5⟩ := p'.out
    intro y hy
    have := (h5 y hy).2.1
    omega)
  rw [← hbm] at hM3 hA3 hZ1 hP hsc hbABC ⊢
  have hM' := hide hM3
  have hw0 := hide (show Below w.heap.size w wc by rw [← hbm]; exact hbABC)
  have hA' := hide hA3
  have hZ' := hide hZ1
  have hP' := hide hP
  have hbA' := hide (show Bel base X w wc from ⟨hbABC.mono (show base ≤ bm by rw [hbm]; exact hbase'.out), fun y hy hl => hbABC.block y (by rw [hbm]; exact hl)⟩)
  have hbb := hide (show base ≤ bm by rw [hbm]; exact hbase'.out)
  clear hM1 hbA hsA hA1 hbB hsB hM2 hZ1 hbC hsC hM3 hA3 hbABC hP hbm p' hbase'
  have a0 := hA'.out.c0
  have a2 := hA'.out.c2
  have a3 := hA'.out.c3
  go_wp2_with fail
  refine (sector_any fill off wc).mono ?_
  rintro e w1 ⟨bv, rfl, hbv, hb⟩
  have hsl := sec_len fill off
  unfold OwnB at hbv
  generalize sec fill off = l0 at *
  obtain ⟨nb, hnb⟩ : ∃ nb, nb = l0.length := ⟨_, rfl⟩
  obtain ⟨A8, c8, rfl, hc8, hm8, _⟩ := Sl.own hbv
  have hbs1 := hide (show Bs w1 (.slice A8 l0.length c8) l0 from Sl.own hbv)
  have hcv := str_conv w1 _ _ hbs1.out
  have hvl := hide (show ∀ x, (Value.slice A8 l0.length c8).ownBlock = some x → bm + 3 ≤ x ∧ x < w1.heap.size from fun x hx => by have := hbv.lt x hx; omega)
  rw [← hnb] at hbv hvl hcv hc8 hsl ⊢
  have hnb' := hide hnb
  have hP1 := hide (hP'.out.fresh hb hsc.symm)
  have hM1 := hM'.out.below hb
  have hA1 := hA'.out.below hb
  have hZ1 := hide (hZ'.out.below hb)
  have hb1 := hide (hbA'.out.trans (Bel.of hb (show base ≤ wc.heap.size by have := hbb.out; omega)))
  have hs1 := hb.size
  have hv1 := hide hbv
  have m0 := hM1.c0
  have m1 := hM1.c1
  have m2 := hM1.c2
  have m3 := hM1.c3
  have m4 := hM1.c4
  have a1 := hA1.c1
  have hM1' := hide hM1
  have hA1' := hide hA1
  clear hM' hA' hZ' hP' hbA' a0 a2 a3 hb hbv hM1 hA1 hnb
  go_wp2_with fail
  refine (hP1.out.rwrite (Nat.le_refl _) at_ l0 gr'.out.ok gr'.out.l (by have := gr'.out.w; omega)).mono ?_
  rintro e w2 ⟨u2, rfl, hp, hb⟩
  have gr2 := hide (gr'.out.write hk at_ l0)
  generalize (r.write at_ l0).1 = r2 at *
  generalize (r.write at_ l0).2 = n1 at *
  obtain ⟨A5, c5, A6, n6, c6, o6, lf6, A7, n7, c7, rfl, _, _⟩ := hp.shape 4 gr2.out.n
  have hM2 := hM1'.out.below hb
  have hA2 := hide (hA1'.out.below hb)
  have hZ2 := hide (hZ1.out.below hb)
  have hP2 := hide hp
  have hb2 := hide (hb1.out.trans (Bel.of hb (show base ≤ w1.heap.size by have := hbb.out; omega)))
  have hs2 := hb.size
  have hv2 := hide (own_later hv1.out (below_later hb (Nat.le_refl _)) (fun _ _ h => h))
  clear m0 m1 m2 m3 m4 a1 hM1' hA1' hZ1 hP1 hb1 hb hp gr' hv1 hbs1 hcv
  have t0 := hM2.z 0
  have t1 := hM2.z 1
  have t2 := hM2.z 2
  have t3 := hM2.z 3
  have t4 := hM2.z 4
  have m0 := hM2.c0
  have m1 := hM2.c1
  have m2 := hM2.c2
  have m3 := hM2.c3
  have m4 := hM2.c4
  have hM2' := hide hM2
  clear hM2
  go_upto_region 9 with (fail)
  have hT3 := touch_set5 (fun y => y = bm) w2 bm (.slice A5 4 c5) (.slice A6 n6 c6) (.bool o6) (.int .i64 lf6) (.slice A7 n7 c7) rfl
  have hM3 := hide (hM2'.out.set5 (.slice A5 4 c5) (.slice A6 n6 c6) (.bool o6) (.int .i64 lf6) (.slice A7 n7 c7))
  have hA3 := hide (hA2.out.later hT3.2 (by omega))
  have hZ3 := hide (hZ2.out.later hT3.2 (by omega))
  have hP3 := hide (hP2.out.touch hT3 (fun y e => by omega))
  have hb3 := hide (hb2.out.trans (Bel.touch hT3 (show base ≤ w2.heap.size by have := hbb.out; omega) (fun y hy e => by have := hbb.out; omega) (fun y e hx => by have := hXb.out y hx; omega)))
  have hs3 := hT3.2.1
  have hL3 := hide hT3.2
  clear t0 t1 t2 t3 t4 m0 m1 m2 m3 m4 hM2' hA2 hZ2 hP2 hb2 hT3
  generalize (((((w2.setCell ⟨bm, 0, none⟩ (.slice A5 4 c5)).setCell ⟨bm, 1, none⟩ (.slice A6 n6 c6)).setCell ⟨bm, 2, none⟩ (.bool o6)).setCell ⟨bm, 3, none⟩ (.int .i64 lf6)).setCell ⟨bm, 4, none⟩ (.slice A7 n7 c7)) = w3 at *
  have hv3 := hide (own_later hv2.out hL3.out (fun b hb e => by have := hvl.out b hb; omega))
  clear hv2 hL3
  have a1 := hA3.out.c1
  go_wp2_with fail
  refine (hP3.out.dwrite (show base ≤ w3.heap.size by have := hbb.out; omega) (show w1.heap.size ≤ w3.heap.size by omega) at_ (.slice A8 nb c8) l0 (fun x hx => by have := hvl.out x hx; omega) (by have := Sl.own hv3.out; unfold Bs; rw [← hnb'.out]; exact this) (by have := gd'.out.2; omega)).mono ?_
  rintro e w6 ⟨rfl, hp, hb, hkp⟩
  have gd4 := hide (gd'.out.write at_ l0)
  generalize (d.write at_ l0).1 = d4 at *
  generalize (d.write at_ l0).2 = n2 at *
  have hM6 := hide (hM3.out.later hkp (by omega))
  have hZ6 := hide (hZ3.out.later hkp (by omega))
  have hP6 := hide hp
  have hb6 := hide (hb3.out.trans hb)
  have hv6 := hide (own_later hv3.out hkp (fun b hb e => by have := hvl.out b hb; omega))
  have hs6 := hkp.1
  clear hp hb hkp hM3 hA3 hZ3 hP3 hb3 hv3 a1
  go_wp2_with fail
  go_loopw [11] (fun i wr => ∃ (j : Nat) (l : List UInt8), j ≤ nb ∧ i = .int .i64 (j : Nat) ∧ l.length = nb ∧ wr.ownsRow wc.heap.size 5 1 (.slice A8 nb c8) nb (bytesV l) ∧ Touch (fun y => bm + 3 ≤ y ∧ y < w1.heap.size) w6 wr) (fun i _ => nb - (intOf i).toNat)
  case atStart => exact ⟨0, l0, by omega, rfl, hnb'.out.symm, hv6.out, Touch.refl _ _⟩
  case round =>
    obtain ⟨j, l, hj, rfl, hll2, hown, hT⟩ := hrel
    have hT' := hide hT
    clear hT
    by_cases hlt : j < nb
    · obtain ⟨b8, hA8⟩ : ∃ b8, A8 = some ⟨b8, 0, none⟩ := by
        rcases hown.2 with ⟨_, h0⟩ | ⟨b8, cap, _, h0, _⟩
        · omega
        · injection h0 with h0; exact ⟨b8, h0⟩
      subst hA8
      have hcj : wr.cell? ⟨b8, j, none⟩ = some (.int .u8 ((l[j]'(by omega)).toNat : Int)) := (hown.cellAt j (by omega)).trans (by simp [bytesV, List.getElem?_eq_getElem (show j < l.length by omega)])
      have hfj := hown.frozenAt j
      have hst := (hown.stored j (.int .u8 99)).1
      rw [show (bytesV l).set j (.int .u8 99) = bytesV (l.set j 99) by simp [bytesV, List.map_set]] at hst
      have hst' := hide hst
      have hjI : (j : Int) < (nb : Int) := by omega
      have hb8 := hide (hvl.out b8 rfl)
      clear hown hst
      go_wp2_with fail
      go_roundw
      case rel => exact ⟨j + 1, l.set j 99, by omega, by go_num, by rw [List.length_set]; exact hll2, hst'.out, hT'.out.setCell (p := ⟨b8, j, none⟩) hb8.out _⟩
      case measure => simp [intOf]; omega
    · obtain rfl : nb = j := by omega
      obtain ⟨w4, rfl⟩ : ∃ w4 : World, w4 = wr := ⟨_, rfl⟩
      have hM2 := hM6.out.later hT'.out.2 (by omega)
      have hZ4 := hZ6.out.later hT'.out.2 (by omega)
      have hP4 := hide (hP6.out.touch hT'.out (fun y hy => by omega))
      have hb4 := hide (hb6.out.trans (Bel.touch hT'.out (show base ≤ w6.heap.size by have := hbb.out; omega) (fun y hy e => by have := hbb.out; omega) (fun y e hx => by have := hXb.out y hx; omega)))
      have hs4 := hT'.out.size
      have m0 := hM2.c0
      have m1 := hM2.c1
      have m2 := hM2.c2
      have m3 := hM2.c3
      have m4 := hM2.c4
      have z0 := hZ4.c0
      have z1 := hZ4.c1
      have z2 := hZ4.c2
      have z3 := hZ4.c3
      have z4 := hZ4.c4
      have tz0 := hZ4.z 0
      have tz1 := hZ4.z 1
      have tz2 := hZ4.z 2
      have tz3 := hZ4.z 3
      have tz4 := hZ4.z 4
      clear hZ4
      clear hM6 hZ6 hP6 hb6 hT' hv6 hown hM2
      go_wp2_with fail
      have hT5 := touch_set5 (fun y => y = bm + 2) w4 (bm + 2) (.slice A5 4 c5) (.slice A6 n6 c6) (.bool o6) (.int .i64 lf6) (.slice A7 n7 c7) rfl
      have hP5 := (hP4.out.touch hT5 (fun y e => by omega)).wide (lo' := 0) (hi' := 0) (fun y _ e => by omega)
      have hb5 := hb4.out.trans (Bel.touch hT5 (show base ≤ w4.heap.size by have := hbb.out; omega) (fun y hy e => by have := hbb.out; omega) (fun y e hx => by have := hXb.out y hx; omega))
      refine bodyPost_ret (v := .tuple #[.agg #[.slice A5 4 c5, .slice A6 n6 c6, .bool o6, .int .i64 lf6, .slice A7 n7 c7], _]) (by simp [results, Try.results53, go_sem, z0, z1, z2, z3, z4]; rfl) rfl ⟨_, _, rfl, ⟨_, _, hP5, gr2.out, gd4.out⟩, hb5⟩
end Go.Proofs.Ytamkngpkplflcaa
