/- law 05: Do walked (Has). -/
import Derived.Test.YtamkngpkplflcaaDoWalk3
namespace Go.Proofs.Ytamkngpkplflcaa
open Go.RowKit
set_option maxRecDepth 100000 in
set_option maxHeartbeats 1000000 in
theorem do_has (base g : Nat) (X : Nat → Prop) (d : Dk) (u : Value) (r : Rk) (k : Nat) (do_ : Int) (hdo : do_ < 0 ∨ 9 < do_) (s : Nat) (hs : s < 4) (off : Int) (fill : UInt8) (kv : Value) (w : World) (p : Pair base X 0 0 w g d u r) (gr : GoodR r k) (gd : GoodD d k) (hbase : base ≤ w.heap.size) :
    Calls Try.prog 53 #[.pointer (some ⟨g, 0, none⟩), u, .agg #[.int .i64 do_, .int .i64 (s : Nat), .int .i64 off, .int .u8 (fill.toNat : Int), kv]] w fun e w' => ∃ u' bl, e = .returned (.tuple #[u', .bool bl]) ∧ (∃ d' r', Pair base X 0 0 w' g d' u' r' ∧ GoodR r' (k + 1) ∧ GoodD d' (k + 1)) ∧ Bel base X w w' := by
  obtain ⟨at_, hat⟩ : ∃ at_ : Int, at_ = (s : Int) := ⟨_, rfl⟩
  rw [← hat]
  have hat' := hide hat
  clear hat
  obtain ⟨A1, c1, A2, n2, c2, o, lf, A3, n3, c3, rfl, hstr, hcap⟩ := p.shape 4 gr.n
  have hstr' := hide hstr
  clear hstr
  have p' := hide p
  have gr' := hide gr
  have gd' := hide gd
  have hbase' := hide hbase
  clear p gr gd hbase
  go_enter Try.func53, Try.ntmps53
  go_upto_region 2 with (fail)
  have hM1 := RBox.new w 71 (.slice A1 4 c1) (.slice A2 n2 c2) (.bool o) (.int .i64 lf) (.slice A3 n3 c3)
  have hbA : Below w.heap.size w (w.alloc (.cells #[.slice A1 4 c1, .slice A2 n2 c2, .bool o, .int .i64 lf, .slice A3 n3 c3] 71)) := (Below.refl _ _).alloc (Nat.le_refl _) _
  have hsA : (w.alloc (.cells #[.slice A1 4 c1, .slice A2 n2 c2, .bool o, .int .i64 lf, .slice A3 n3 c3] 71)).heap.size = w.heap.size + 1 := by simp
  generalize w.alloc (.cells #[.slice A1 4 c1, .slice A2 n2 c2, .bool o, .int .i64 lf, .slice A3 n3 c3] 71) = wa at *
  have hA1 := RBox.new wa 51 (.int .i64 do_) (.int .i64 at_) (.int .i64 off) (.int .u8 (fill.toNat : Int)) kv
  have hbB : Below wa.heap.size wa (wa.alloc (.cells #[.int .i64 do_, .int .i64 at_, .int .i64 off, .int .u8 (fill.toNat : Int), kv] 51)) := (Below.refl _ _).alloc (Nat.le_refl _) _
  have hsB : (wa.alloc (.cells #[.int .i64 do_, .int .i64 at_, .int .i64 off, .int .u8 (fill.toNat : Int), kv] 51)).heap.size = wa.heap.size + 1 := by simp
  have hM2 := hM1.below hbB
  generalize wa.alloc (.cells #[.int .i64 do_, .int .i64 at_, .int .i64 off, .int .u8 (fill.toNat : Int), kv] 51) = wb at *
  have hZ1 := RBox.new wb 71 (.slice none 0 0) (.slice none 0 0) (.bool false) (.int .i64 0) (.slice none 0 0)
  have hbC : Below wb.heap.size wb (wb.alloc (.cells #[.slice none 0 0, .slice none 0 0, .bool false, .int .i64 0, .slice none 0 0] 71)) := (Below.refl _ _).alloc (Nat.le_refl _) _
  have hsC : (wb.alloc (.cells #[.slice none 0 0, .slice none 0 0, .bool false, .int .i64 0, .slice none 0 0] 71)).heap.size = wb.heap.size + 1 := by simp
  have hM3 := hM2.below hbC
  have hA3 := hA1.below hbC
  generalize wb.alloc (.cells #[.slice none 0 0, .slice none 0 0, .bool false, .int .i64 0, .slice none 0 0] 71) = wc at *
  have hbABC : Below w.heap.size w wc := (hbA.trans (hbB.mono hbA.size)).trans (hbC.mono (Nat.le_trans hbA.size hbB.size))
  have hsc : wc.heap.size = w.heap.size + 3 := by omega
  have hP := ((p'.out.wide (lo' := w.heap.size) (hi' := w.heap.size + 3) (fun y hy e => by omega))).below hbABC
  rw [hsA] at hA3
  rw [show wb.heap.size = w.heap.size + 2 by omega] at hZ1
  obtain ⟨bm, hbm⟩ : ∃ bm, bm = w.heap.size := ⟨_, rfl⟩
  have hbm' := hide hbm
  have hXb := hide (show ∀ y, X y → y < bm by
    obtain ⟨B, C, _, _, _, _, h5⟩ := p'.out
    intro y hy
    have := (h5 y hy).2.1
    omega)
  rw [← hbm] at hM3 hA3 hZ1 hP hsc hbABC ⊢
  have hM' := hide hM3
  have hw0 := hide (show Below w.heap.size w wc by rw [← hbm]; exact hbABC)
  have hA' := hide hA3
  have hZ' := hide hZ1
  have hP' := hide hP
  have hbA' := hide (show Bel base X w wc from ⟨hbABC.mono (show base ≤ bm by rw [hbm]; exact hbase'.out), fun y hy hl => hbABC.block y (by rw [hbm]; exact hl)⟩)
  have hbb := hide (show base ≤ bm by rw [hbm]; exact hbase'.out)
  clear hM1 hbA hsA hA1 hbB hsB hM2 hZ1 hbC hsC hM3 hA3 hbABC hP hbm p' hbase'
  have a0 := hA'.out.c0
  have hat := hat'.out
  subst hat
  have q0 : decide (do_ = 0) = false := decide_eq_false (by omega)
  have q1 : decide (do_ = 1) = false := decide_eq_false (by omega)
  have q2 : decide (do_ = 2) = false := decide_eq_false (by omega)
  have q3 : decide (do_ = 3) = false := decide_eq_false (by omega)
  have q4 : decide (do_ = 4) = false := decide_eq_false (by omega)
  have q5 : decide (do_ = 5) = false := decide_eq_false (by omega)
  have q6 : decide (do_ = 6) = false := decide_eq_false (by omega)
  have q7 : decide (do_ = 7) = false := decide_eq_false (by omega)
  have q8 : decide (do_ = 8) = false := decide_eq_false (by omega)
  have q9 : decide (do_ = 9) = false := decide_eq_false (by omega)
  have p0 : (do_ == 0) = false := by simp; omega
  have p1 : (do_ == 1) = false := by simp; omega
  have p2 : (do_ == 2) = false := by simp; omega
  have p3 : (do_ == 3) = false := by simp; omega
  have p4 : (do_ == 4) = false := by simp; omega
  have p5 : (do_ == 5) = false := by simp; omega
  have p6 : (do_ == 6) = false := by simp; omega
  have p7 : (do_ == 7) = false := by simp; omega
  have p8 : (do_ == 8) = false := by simp; omega
  have p9 : (do_ == 9) = false := by simp; omega
  have a1 := hA'.out.c1
  go_wp2_with fail
  refine (hP'.out.dhas s (by rw [gd'.out.1]; exact hs)).mono ?_
  rintro e w6 ⟨bv, rfl, hbv, hb⟩
  have hP6 := hide (hP'.out.fresh hb hsc.symm)
  have hM6 := hide (hM'.out.below hb)
  have hA6 := hide (hA'.out.below hb)
  have hZ6 := hide (hZ'.out.below hb)
  have hb6 := hide (hbA'.out.trans (Bel.of hb (show base ≤ wc.heap.size by have := hbb.out; omega)))
  have hs6 := hb.size
  have hn4 := gr'.out.n
  obtain ⟨A, c, e, hcap2, _, _, hcell⟩ := (show Strs w (.slice A1 4 c1) r.has from hstr'.out)
  injection e with e1 e2 e3
  subst e1 e3
  clear e2
  obtain ⟨b9, o9, rfl, hb9, hcell9⟩ := hcell (by omega)
  have g0 := hcell9 s _ (strsV_get r.has s (by omega))
  have g1 : w6.cell? ⟨b9, o9 + s, none⟩ = some (.string ⟨(r.has[s]'(by omega)).toArray⟩) := (hb.cell (p := ⟨b9, o9 + s, none⟩) (show b9 < wc.heap.size by have := hbm'.out; omega)).trans ((hw0.out.cell (p := ⟨b9, o9 + s, none⟩) hb9).trans g0)
  generalize d.sector s = l0 at *
  have hbs := hide hbv.bs
  have hbl := hide (show ∀ y, bv.ownBlock = some y → bm + 3 ≤ y from fun y hy => by have := hbv.lt y hy; omega)
  have gr2 := gr'
  have gd4 := gd'
  have m0 := hM6.out.c0
  have a1 := hA6.out.c1
  have hsI : (s : Int) < 4 := by omega
  have hsJ : decide ((s : Int) < 0) = false := decide_eq_false (by omega)
  have hsK : decide ((4 : Int) ≤ (s : Int)) = false := decide_eq_false (by omega)
  clear hP' hM' hA' hZ' hbA' hb hbv hcell hcell9 g0 hcap2
  obtain ⟨c5, A6, n6, c6, o6, lf6, A7, n7, c7, hEQ⟩ : ∃ c5 A6 n6 c6 o6 lf6 A7 n7 c7, (c5, A6, n6, c6, o6, lf6, A7, n7, c7) = (c1, A2, n2, c2, o, lf, A3, n3, c3) := ⟨_, _, _, _, _, _, _, _, _, rfl⟩
  simp only [Prod.mk.injEq] at hEQ
  obtain ⟨rfl, rfl, rfl, rfl, rfl, rfl, rfl, rfl, rfl⟩ := hEQ
  go_upto_region 50 with (fail)
  clear q0 q1 q2 q3 q4 q5 q6 q7 q8 q9 p0 p1 p2 p3 p4 p5 p6 p7 p8 p9 m0
  obtain ⟨Fz, hFz⟩ : ∃ Fz : Nat → Prop, ∀ y, Fz y ↔ y = bm + 2 := ⟨_, fun _ => Iff.rfl⟩
  have hLd := hide (later_drew (F := Fz) w6)
  have f := fun w' (hl : Later Fz w6.drew w') => hM6.out.later (later_trans _ _ _ _ hLd.out hl) (fun h => by have := (hFz bm).1 h; omega)
  have f0 := fun w' hl => (f w' hl).c0
  have f1 := fun w' hl => (f w' hl).c1
  have f2 := fun w' hl => (f w' hl).c2
  have f3 := fun w' hl => (f w' hl).c3
  have f4 := fun w' hl => (f w' hl).c4
  have fa : ∀ w', Later Fz w6.drew w' → w'.cell? ⟨bm + 1, 1, none⟩ = some (.int .i64 (s : Nat)) := fun w' hl => (hA6.out.later (later_trans _ _ _ _ hLd.out hl) (fun h => by have := (hFz (bm + 1)).1 h; omega)).c1
  have fg : ∀ w', Later Fz w6.drew w' → w'.cell? ⟨b9, o9 + s, none⟩ = some (.string ⟨(r.has[s]'(by omega)).toArray⟩) := fun w' hl => (Later.cell (later_trans _ _ _ _ hLd.out hl) (show b9 < w6.heap.size by have := hbm'.out; omega) (fun h => by have := (hFz b9).1 h; have := hbm'.out; omega)).1.trans g1
  have fc : ∀ w', Later Fz w6.drew w' → (convert 40 9 bv).run Try.prog w' = .ok (.string ⟨l0.toArray⟩) w' := fun w' hl => str_conv w' bv _ (hbs.out.later (later_trans _ _ _ _ hLd.out hl) (fun y hy h => by have := (hFz y).1 h; have := hbl.out y hy; omega))
  clear f g1
  by_cases hq : l0 = r.has[s]'(by omega)
  · have hd1 : decide (l0 = r.has[s]'(by omega)) = true := by simp [hq]
    have hd2 := strEq l0 (r.has[s]'(by omega))
    rw [hd1] at hd2
    have hd3 : (l0 == r.has[s]'(by omega)) = true := by simp [hq]
    refine region_plan [(true, 0), (true, 1), (true, 2), (true, 3), (true, 4), (true, 5), (true, 6), (true, 7), (true, 8), (true, 9), (true, 10), (true, 11), (true, 12), (true, 13), (false, 14), (true, 15)] (Later Fz) (later_refl _) (later_trans _) (by kernel_rfl) (by kernel_rfl) (fun _ _ d _ _ h => by cases d <;> exact h) ?_
    repeat
      (first
        | (show wpPlan _ _ _ _ ((true, _) :: _) _ _
           refine plan_skip rfl (by rfl) ?_
           simp only [Act.put, List.setIfInBounds_toArray, List.set_cons_zero, List.set_cons_succ])
        | (show wpPlan _ _ _ _ ((false, _) :: _) _ _
           refine plan_skip_eff (later_refl _) rfl (by rfl) ?_
           simp only [Act.put, List.setIfInBounds_toArray, List.set_cons_zero, List.set_cons_succ])
        | (show wpPlan _ _ _ _ ((true, _) :: _) _ _
           refine plan_take (v := ?_) rfl (by rfl) (fun w' hw' => ?_) ?_
           rotate_left
           focus
             go_simp
             try with_reducible rfl
             done
           simp only [Act.put, List.setIfInBounds_toArray, List.set_cons_zero, List.set_cons_succ]))
    have hq5 : Below w6.heap.size w6 w6.drew := (Below.refl _ _).drew
    have hZ4 := hZ6.out.below hq5
    have hP4 := hide (hP6.out.below hq5)
    have hb4 := hide (hb6.out.trans (Bel.of hq5 (show base ≤ w6.heap.size by have := hbb.out; omega)))
    have hs4 : w6.heap.size ≤ w6.drew.heap.size := Nat.le_refl _
    clear f0 f1 f2 f3 f4 fa fg fc hd1 hd2 hd3 hM6 hA6 hZ6 hP6 hb6 hq5 hLd
    generalize w6.drew = w4 at *
    have z0 := hZ4.c0
    have z1 := hZ4.c1
    have z2 := hZ4.c2
    have z3 := hZ4.c3
    have z4 := hZ4.c4
    have tz0 := hZ4.z 0
    have tz1 := hZ4.z 1
    have tz2 := hZ4.z 2
    have tz3 := hZ4.z 3
    have tz4 := hZ4.z 4
    clear hZ4
    refine plan_eff rfl (by rfl) (fun K hK => ?_)
    go_wp2_with fail
    refine hK _ _ (touch_set5 Fz w4 (bm + 2) (.slice (some ⟨b9, o9, none⟩) 4 c5) (.slice A6 n6 c6) (.bool o6) (.int .i64 lf6) (.slice A7 n7 c7) ((hFz (bm + 2)).2 rfl)).2 ?_
    clear hK K
    try simp only [Act.put, List.setIfInBounds_toArray, List.set_cons_zero, List.set_cons_succ]
    repeat
      (first
        | (show wpPlan _ _ _ _ ((true, _) :: _) _ _
           refine plan_skip rfl (by rfl) ?_
           simp only [Act.put, List.setIfInBounds_toArray, List.set_cons_zero, List.set_cons_succ])
        | (show wpPlan _ _ _ _ ((false, _) :: _) _ _
           refine plan_skip_eff (later_refl _) rfl (by rfl) ?_
           simp only [Act.put, List.setIfInBounds_toArray, List.set_cons_zero, List.set_cons_succ])
        | (show wpPlan _ _ _ _ ((true, _) :: _) _ _
           refine plan_take (v := ?_) rfl (by rfl) (fun w' hw' => ?_) ?_
           rotate_left
           focus
             go_simp
             try with_reducible rfl
             done
           simp only [Act.put, List.setIfInBounds_toArray, List.set_cons_zero, List.set_cons_succ]))
    refine plan_nil ?_
    go_wp2_with fail
    have hT5 := touch_set5 (fun y => y = bm + 2) w4 (bm + 2) (.slice (some ⟨b9, o9, none⟩) 4 c5) (.slice A6 n6 c6) (.bool o6) (.int .i64 lf6) (.slice A7 n7 c7) rfl
    have hP5 := (hP4.out.touch hT5 (fun y e => by omega)).wide (lo' := 0) (hi' := 0) (fun y _ e => by omega)
    have hb5 := hb4.out.trans (Bel.touch hT5 (show base ≤ w4.heap.size by have := hbb.out; omega) (fun y hy e => by have := hbb.out; omega) (fun y e hx => by have := hXb.out y hx; omega))
    refine bodyPost_ret (v := .tuple #[.agg #[.slice (some ⟨b9, o9, none⟩) 4 c5, .slice A6 n6 c6, .bool o6, .int .i64 lf6, .slice A7 n7 c7], _]) (by simp [results, Try.results53, go_sem, z0, z1, z2, z3, z4]; rfl) rfl ⟨_, _, rfl, ⟨_, _, hP5, gr2.out.up, gd4.out.up⟩, hb5⟩
  · have hd1 : decide (l0 = r.has[s]'(by omega)) = false := by simp [hq]
    have hd2 := strEq l0 (r.has[s]'(by omega))
    rw [hd1] at hd2
    have hd3 : (l0 == r.has[s]'(by omega)) = false := by simp [hq]
    refine region_plan [(true, 0), (true, 1), (true, 2), (true, 3), (true, 4), (true, 5), (true, 6), (true, 7), (true, 8), (true, 9), (true, 10), (true, 11), (true, 12), (true, 13), (false, 14), (true, 15)] (Later Fz) (later_refl _) (later_trans _) (by kernel_rfl) (by kernel_rfl) (fun _ _ d _ _ h => by cases d <;> exact h) ?_
    repeat
      (first
        | (show wpPlan _ _ _ _ ((true, _) :: _) _ _
           refine plan_skip rfl (by rfl) ?_
           simp only [Act.put, List.setIfInBounds_toArray, List.set_cons_zero, List.set_cons_succ])
        | (show wpPlan _ _ _ _ ((false, _) :: _) _ _
           refine plan_skip_eff (later_refl _) rfl (by rfl) ?_
           simp only [Act.put, List.setIfInBounds_toArray, List.set_cons_zero, List.set_cons_succ])
        | (show wpPlan _ _ _ _ ((true, _) :: _) _ _
           refine plan_take (v := ?_) rfl (by rfl) (fun w' hw' => ?_) ?_
           rotate_left
           focus
             go_simp
             try with_reducible rfl
             done
           simp only [Act.put, List.setIfInBounds_toArray, List.set_cons_zero, List.set_cons_succ]))
    have hq5 : Below w6.heap.size w6 w6.drew := (Below.refl _ _).drew
    have hZ4 := hZ6.out.below hq5
    have hP4 := hide (hP6.out.below hq5)
    have hb4 := hide (hb6.out.trans (Bel.of hq5 (show base ≤ w6.heap.size by have := hbb.out; omega)))
    have hs4 : w6.heap.size ≤ w6.drew.heap.size := Nat.le_refl _
    clear f0 f1 f2 f3 f4 fa fg fc hd1 hd2 hd3 hM6 hA6 hZ6 hP6 hb6 hq5 hLd
    generalize w6.drew = w4 at *
    have z0 := hZ4.c0
    have z1 := hZ4.c1
    have z2 := hZ4.c2
    have z3 := hZ4.c3
    have z4 := hZ4.c4
    have tz0 := hZ4.z 0
    have tz1 := hZ4.z 1
    have tz2 := hZ4.z 2
    have tz3 := hZ4.z 3
    have tz4 := hZ4.z 4
    clear hZ4
    refine plan_eff rfl (by rfl) (fun K hK => ?_)
    go_wp2_with fail
    refine hK _ _ (touch_set5 Fz w4 (bm + 2) (.slice (some ⟨b9, o9, none⟩) 4 c5) (.slice A6 n6 c6) (.bool o6) (.int .i64 lf6) (.slice A7 n7 c7) ((hFz (bm + 2)).2 rfl)).2 ?_
    clear hK K
    try simp only [Act.put, List.setIfInBounds_toArray, List.set_cons_zero, List.set_cons_succ]
    repeat
      (first
        | (show wpPlan _ _ _ _ ((true, _) :: _) _ _
           refine plan_skip rfl (by rfl) ?_
           simp only [Act.put, List.setIfInBounds_toArray, List.set_cons_zero, List.set_cons_succ])
        | (show wpPlan _ _ _ _ ((false, _) :: _) _ _
           refine plan_skip_eff (later_refl _) rfl (by rfl) ?_
           simp only [Act.put, List.setIfInBounds_toArray, List.set_cons_zero, List.set_cons_succ])
        | (show wpPlan _ _ _ _ ((true, _) :: _) _ _
           refine plan_take (v := ?_) rfl (by rfl) (fun w' hw' => ?_) ?_
           rotate_left
           focus
             go_simp
             try with_reducible rfl
             done
           simp only [Act.put, List.setIfInBounds_toArray, List.set_cons_zero, List.set_cons_succ]))
    refine plan_nil ?_
    go_wp2_with fail
    have hT5 := touch_set5 (fun y => y = bm + 2) w4 (bm + 2) (.slice (some ⟨b9, o9, none⟩) 4 c5) (.slice A6 n6 c6) (.bool o6) (.int .i64 lf6) (.slice A7 n7 c7) rfl
    have hP5 := (hP4.out.touch hT5 (fun y e => by omega)).wide (lo' := 0) (hi' := 0) (fun y _ e => by omega)
    have hb5 := hb4.out.trans (Bel.touch hT5 (show base ≤ w4.heap.size by have := hbb.out; omega) (fun y hy e => by have := hbb.out; omega) (fun y e hx => by have := hXb.out y hx; omega))
    refine bodyPost_ret (v := .tuple #[.agg #[.slice (some ⟨b9, o9, none⟩) 4 c5, .slice A6 n6 c6, .bool o6, .int .i64 lf6, .slice A7 n7 c7], _]) (by simp [results, Try.results53, go_sem, z0, z1, z2, z3, z4]; rfl) rfl ⟨_, _, rfl, ⟨_, _, hP5, gr2.out.up, gd4.out.up⟩, hb5⟩
end Go.Proofs.Ytamkngpkplflcaa
