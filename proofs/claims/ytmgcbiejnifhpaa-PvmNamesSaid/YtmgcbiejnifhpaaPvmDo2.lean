/- pvm's do walked: Set, a division by 0. -/
import Derived.Test.YtmgcbiejnifhpaaPvmDo
namespace Go.Proofs.Ytmgcbiejnifhpaa
open Go.RowKit
theorem later_falseP {F : Nat → Prop} {w w' : World} (h : Later (fun _ => False) w w') : Later F w w' := ⟨h.1, fun k hk _ => h.2 k hk (fun h => h)⟩
theorem mc_get (p : Int) (r : Nat → Int) (sl : Value) (st tr : Int) (a : Nat) (ha : a < 8) : ([.int .i64 p, .int .i64 (r 0), .int .i64 (r 1), .int .i64 (r 2), .int .i64 (r 3), .int .i64 (r 4), .int .i64 (r 5), .int .i64 (r 6), .int .i64 (r 7), sl, .int .i64 st, .int .i64 tr] : List Value)[1 + a]? = some (.int .i64 (r a)) := by
  match a, ha with
  | 0, _ => rfl
  | 1, _ => rfl
  | 2, _ => rfl
  | 3, _ => rfl
  | 4, _ => rfl
  | 5, _ => rfl
  | 6, _ => rfl
  | 7, _ => rfl
theorem mc_set (p : Int) (r : Nat → Int) (sl : Value) (st tr : Int) (a : Nat) (ha : a < 8) (v : Int) : ([.int .i64 p, .int .i64 (r 0), .int .i64 (r 1), .int .i64 (r 2), .int .i64 (r 3), .int .i64 (r 4), .int .i64 (r 5), .int .i64 (r 6), .int .i64 (r 7), sl, .int .i64 st, .int .i64 tr] : List Value).set (1 + a) (.int .i64 v) = [.int .i64 p, .int .i64 (upd8 r a v 0), .int .i64 (upd8 r a v 1), .int .i64 (upd8 r a v 2), .int .i64 (upd8 r a v 3), .int .i64 (upd8 r a v 4), .int .i64 (upd8 r a v 5), .int .i64 (upd8 r a v 6), .int .i64 (upd8 r a v 7), sl, .int .i64 st, .int .i64 tr] := by
  match a, ha with
  | 0, _ => rfl
  | 1, _ => rfl
  | 2, _ => rfl
  | 3, _ => rfl
  | 4, _ => rfl
  | 5, _ => rfl
  | 6, _ => rfl
  | 7, _ => rfl
set_option maxRecDepth 100000 in
set_option maxHeartbeats 4000000 in
theorem do_set8 (p : Int) (hp : -9223372036854775808 ≤ p) (hp1 : p < 9223372036854775807) (r : Nat → Int) (A : Option Addr) (n cp : Nat) (st tr : Int) (a b c : Nat) (ha : a < 8) (ok : (⟨1, a, b, c⟩ : Ins).Ok) (w : World) :
    Calls Try.prog 22 #[.agg #[.int .i64 p, .int .i64 (r 0), .int .i64 (r 1), .int .i64 (r 2), .int .i64 (r 3), .int .i64 (r 4), .int .i64 (r 5), .int .i64 (r 6), .int .i64 (r 7), .slice A n cp, .int .i64 st, .int .i64 tr], .agg #[.int .u8 1, .int .u8 (a : Nat), .int .u8 (b : Nat), .int .u8 (c : Nat)]] w fun e w' => e = .returned (.tuple #[.agg #[.int .i64 (p + 1), .int .i64 (upd8 r a (Ins.num ⟨1, a, b, c⟩) 0), .int .i64 (upd8 r a (Ins.num ⟨1, a, b, c⟩) 1), .int .i64 (upd8 r a (Ins.num ⟨1, a, b, c⟩) 2), .int .i64 (upd8 r a (Ins.num ⟨1, a, b, c⟩) 3), .int .i64 (upd8 r a (Ins.num ⟨1, a, b, c⟩) 4), .int .i64 (upd8 r a (Ins.num ⟨1, a, b, c⟩) 5), .int .i64 (upd8 r a (Ins.num ⟨1, a, b, c⟩) 6), .int .i64 (upd8 r a (Ins.num ⟨1, a, b, c⟩) 7), .slice A n cp, .int .i64 st, .int .i64 tr], .agg #[.int .i64 0, .int .i64 0]]) ∧ Below w.heap.size w w' := by
  obtain ⟨N, hN⟩ : ∃ N : Int, N = Ins.num ⟨1, a, b, c⟩ := ⟨_, rfl⟩
  rw [← hN]
  have hN' := hide hN
  have ok' := hide ok
  obtain ⟨q, hq⟩ : ∃ q, q = upd8 r a N := ⟨_, rfl⟩
  rw [← hq]
  have hq' := hide hq
  clear hN ok hq
  go_enter Try.func22, Try.ntmps22
  go_upto_region 1 with (fail)
  have hM1 := Row.new w 27 [.int .i64 p, .int .i64 (r 0), .int .i64 (r 1), .int .i64 (r 2), .int .i64 (r 3), .int .i64 (r 4), .int .i64 (r 5), .int .i64 (r 6), .int .i64 (r 7), .slice A n cp, .int .i64 st, .int .i64 tr]
  have hbA : Below w.heap.size w (w.alloc (.cells #[.int .i64 p, .int .i64 (r 0), .int .i64 (r 1), .int .i64 (r 2), .int .i64 (r 3), .int .i64 (r 4), .int .i64 (r 5), .int .i64 (r 6), .int .i64 (r 7), .slice A n cp, .int .i64 st, .int .i64 tr] 27)) := (Below.refl _ _).alloc (Nat.le_refl _) _
  have hsA : (w.alloc (.cells #[.int .i64 p, .int .i64 (r 0), .int .i64 (r 1), .int .i64 (r 2), .int .i64 (r 3), .int .i64 (r 4), .int .i64 (r 5), .int .i64 (r 6), .int .i64 (r 7), .slice A n cp, .int .i64 st, .int .i64 tr] 27)).heap.size = w.heap.size + 1 := by simp
  generalize w.alloc (.cells #[.int .i64 p, .int .i64 (r 0), .int .i64 (r 1), .int .i64 (r 2), .int .i64 (r 3), .int .i64 (r 4), .int .i64 (r 5), .int .i64 (r 6), .int .i64 (r 7), .slice A n cp, .int .i64 st, .int .i64 tr] 27) = wa at *
  have hI1 := Row.new wa 56 [.int .u8 (1), .int .u8 (a : Nat), .int .u8 (b : Nat), .int .u8 (c : Nat)]
  have hbB : Below wa.heap.size wa (wa.alloc (.cells #[.int .u8 (1), .int .u8 (a : Nat), .int .u8 (b : Nat), .int .u8 (c : Nat)] 56)) := (Below.refl _ _).alloc (Nat.le_refl _) _
  have hsB : (wa.alloc (.cells #[.int .u8 (1), .int .u8 (a : Nat), .int .u8 (b : Nat), .int .u8 (c : Nat)] 56)).heap.size = wa.heap.size + 1 := by simp
  have hM2 := hM1.below hbB
  generalize wa.alloc (.cells #[.int .u8 (1), .int .u8 (a : Nat), .int .u8 (b : Nat), .int .u8 (c : Nat)] 56) = wb at *
  have hZ1 := Row.new wb 27 [.int .i64 0, .int .i64 0, .int .i64 0, .int .i64 0, .int .i64 0, .int .i64 0, .int .i64 0, .int .i64 0, .int .i64 0, .slice none 0 0, .int .i64 0, .int .i64 0]
  have hbC : Below wb.heap.size wb (wb.alloc (.cells #[.int .i64 0, .int .i64 0, .int .i64 0, .int .i64 0, .int .i64 0, .int .i64 0, .int .i64 0, .int .i64 0, .int .i64 0, .slice none 0 0, .int .i64 0, .int .i64 0] 27)) := (Below.refl _ _).alloc (Nat.le_refl _) _
  have hsC : (wb.alloc (.cells #[.int .i64 0, .int .i64 0, .int .i64 0, .int .i64 0, .int .i64 0, .int .i64 0, .int .i64 0, .int .i64 0, .int .i64 0, .slice none 0 0, .int .i64 0, .int .i64 0] 27)).heap.size = wb.heap.size + 1 := by simp
  have hM3 := hM2.below hbC
  have hI3 := hI1.below hbC
  generalize wb.alloc (.cells #[.int .i64 0, .int .i64 0, .int .i64 0, .int .i64 0, .int .i64 0, .int .i64 0, .int .i64 0, .int .i64 0, .int .i64 0, .slice none 0 0, .int .i64 0, .int .i64 0] 27) = wc at *
  have hE1 := Row.new wc 38 [.int .i64 0, .int .i64 0]
  have hbD : Below wc.heap.size wc (wc.alloc (.cells #[.int .i64 0, .int .i64 0] 38)) := (Below.refl _ _).alloc (Nat.le_refl _) _
  have hM4 := hM3.below hbD
  have hI4 := hI3.below hbD
  have hZ4 := hZ1.below hbD
  generalize wc.alloc (.cells #[.int .i64 0, .int .i64 0] 38) = wd at *
  obtain ⟨bm, hbm⟩ : ∃ bm, bm = w.heap.size := ⟨_, rfl⟩
  rw [show wa.heap.size = bm + 1 by omega] at hI4
  rw [show wb.heap.size = bm + 2 by omega] at hZ4
  rw [show wc.heap.size = bm + 3 by omega] at hE1
  have hb' := hide (((hbA.trans (hbB.mono hbA.size)).trans (hbC.mono (Nat.le_trans hbA.size hbB.size))).trans (hbD.mono (Nat.le_trans (Nat.le_trans hbA.size hbB.size) hbC.size)))
  rw [← hbm] at hM4 ⊢
  have hM' := hide hM4
  have hbm' := hide hbm
  have hcl := hE1.lt
  obtain ⟨be, hbe⟩ : ∃ be, be = bm + 1 + 1 + 1 := ⟨_, rfl⟩
  obtain ⟨bz, hbz⟩ : ∃ bz, bz = bm + 1 + 1 := ⟨_, rfl⟩
  obtain ⟨bi, hbi⟩ : ∃ bi, bi = bm + 1 := ⟨_, rfl⟩
  rw [show bm + 3 = be by omega] at hE1 hcl
  rw [show bm + 2 = bz by omega] at hZ4
  rw [← hbi] at hI4
  have hE' := hide hE1
  have hZ' := hide hZ4
  have hI' := hide hI4
  rw [← hbe]
  rw [← hbz]
  rw [← hbi]
  have hlt0 : bm < bi := by omega
  have hlt1 : bi < bz := by omega
  have hlt2 : bz < be := by omega
  clear hM1 hbA hsA hI1 hbB hsB hM2 hZ1 hbC hsC hM3 hI3 hE1 hbD hM4 hI4 hZ4 hbm hbe hbz hbi
  have x0 := hM'.out.c 0 _ rfl
  have i0 := hI'.out.c 0 _ rfl
  go_upto_region 17 with (fail)
  obtain ⟨Fz, hFz⟩ : ∃ Fz : Nat → Prop, ∀ y, Fz y ↔ y = bm := ⟨_, fun _ => Iff.rfl⟩
  have fi := fun w' (hl : Later Fz wd.drew w') => hI'.out.later (later_trans _ _ _ _ (later_drew (F := Fz) wd) hl) (fun h => by have := (hFz bi).1 h; omega)
  have f0 := fun w' hl => (fi w' hl).c 0 _ rfl
  have f1 := fun w' hl => (fi w' hl).c 1 _ rfl
  have f2 := fun w' hl => (fi w' hl).c 2 _ rfl
  have f3 := fun w' hl => (fi w' hl).c 3 _ rfl
  have hqd : Below wd.heap.size wd wd.drew := (Below.refl _ _).drew
  replace hM' := hide (hM'.out.below hqd)
  replace hZ' := hide (hZ'.out.below hqd)
  replace hE' := hide (hE'.out.below hqd)
  replace hb' := hide (hb'.out.trans (hqd.mono hb'.out.size))
  have haI : (a : Int) < 8 := by omega
  clear hqd fi hI' x0 i0
  refine region_plan [(true, 0), (true, 1), (true, 2), (true, 4), (false, 3), (true, 5), (false, 6)] (Later Fz) (later_refl _) (later_trans _) (by kernel_rfl) (by kernel_rfl) (fun _ _ d _ _ h => by cases d <;> exact h) ?_
  repeat
    (first
      | (show wpPlan _ _ _ _ ((true, _) :: _) _ _
         refine plan_skip rfl (by rfl) ?_
         simp only [Act.put, List.setIfInBounds_toArray, List.set_cons_zero, List.set_cons_succ])
      | (show wpPlan _ _ _ _ ((false, _) :: _) _ _
         refine plan_skip_eff (later_refl _) rfl (by rfl) ?_
         simp only [Act.put, List.setIfInBounds_toArray, List.set_cons_zero, List.set_cons_succ])
      | (show wpPlan _ _ _ _ ((true, _) :: _) _ _
         refine plan_take (v := ?_) rfl (by rfl) (fun w' hw' => ?_) ?_
         rotate_left
         focus
           go_simp
           try with_reducible rfl
           done
         simp only [Act.put, List.setIfInBounds_toArray, List.set_cons_zero, List.set_cons_succ]))
  clear f0 f1 f2 f3
  generalize wd.drew = wx at *
  refine plan_eff rfl (by rfl) (fun K hK => ?_)
  go_wp2_with fail
  refine (number_any ⟨1, a, b, c⟩ ok'.out wx).mono ?_
  rintro e wy ⟨rfl, hb⟩
  rw [← hN'.out]
  refine hK _ _ (later_falseP (below_later hb (Nat.le_refl _))) ?_
  clear hK K
  have hM2 := hide (hM'.out.below hb)
  have hZ2 := hide (hZ'.out.below hb)
  have hE2 := hide (hE'.out.below hb)
  have hb2 := hide (hb'.out.trans (hb.mono hb'.out.size))
  have xa := hM2.out.c (1 + a) _ (mc_get _ _ _ _ _ a ha)
  have ta := hM2.out.z (1 + a)
  clear hb hM' hZ' hE' hb'
  try simp only [Act.put, List.setIfInBounds_toArray, List.set_cons_zero, List.set_cons_succ]
  repeat
    (first
      | (show wpPlan _ _ _ _ ((true, _) :: _) _ _
         refine plan_skip rfl (by rfl) ?_
         simp only [Act.put, List.setIfInBounds_toArray, List.set_cons_zero, List.set_cons_succ])
      | (show wpPlan _ _ _ _ ((false, _) :: _) _ _
         refine plan_skip_eff (later_refl _) rfl (by rfl) ?_
         simp only [Act.put, List.setIfInBounds_toArray, List.set_cons_zero, List.set_cons_succ])
      | (show wpPlan _ _ _ _ ((true, _) :: _) _ _
         refine plan_take (v := ?_) rfl (by rfl) (fun w' hw' => ?_) ?_
         rotate_left
         focus
           go_simp
           try with_reducible rfl
           done
         simp only [Act.put, List.setIfInBounds_toArray, List.set_cons_zero, List.set_cons_succ]))
  refine plan_eff rfl (by rfl) (fun K hK => ?_)
  go_wp2_with fail
  refine hK _ _ (later_setCell (F := Fz) wy (p := ⟨bm, 1 + a, none⟩) _ ((hFz bm).2 rfl)) ?_
  clear hK K xa ta
  have hT3 : Touch (fun y => y = bm) wy (wy.setCell ⟨bm, 1 + a, none⟩ (.int .i64 N)) := (Touch.refl (fun y => y = bm) wy).setCell (p := ⟨bm, 1 + a, none⟩) rfl _
  have hM3 := hide (show Row (wy.setCell ⟨bm, 1 + a, none⟩ (.int .i64 N)) bm [.int .i64 p, .int .i64 (q 0), .int .i64 (q 1), .int .i64 (q 2), .int .i64 (q 3), .int .i64 (q 4), .int .i64 (q 5), .int .i64 (q 6), .int .i64 (q 7), .slice A n cp, .int .i64 st, .int .i64 tr] by
    have := hM2.out.set (1 + a) (by simp; omega) (.int .i64 N)
    rw [mc_set _ _ _ _ _ a ha, ← hq'.out] at this
    exact this)
  have hZ3 := hide (hZ2.out.later hT3.2 (by omega))
  have hE3 := hide (hE2.out.later hT3.2 (by omega))
  have hb3 := hide (hb2.out.trans (hT3.below hb2.out.size (fun y hy e => by have := hbm'.out; omega)))
  clear hT3 hM2 hZ2 hE2 hb2
  generalize wy.setCell ⟨bm, 1 + a, none⟩ (.int .i64 N) = wv at *
  try simp only [Act.put, List.setIfInBounds_toArray, List.set_cons_zero, List.set_cons_succ]
  repeat
    (first
      | (show wpPlan _ _ _ _ ((true, _) :: _) _ _
         refine plan_skip rfl (by rfl) ?_
         simp only [Act.put, List.setIfInBounds_toArray, List.set_cons_zero, List.set_cons_succ])
      | (show wpPlan _ _ _ _ ((false, _) :: _) _ _
         refine plan_skip_eff (later_refl _) rfl (by rfl) ?_
         simp only [Act.put, List.setIfInBounds_toArray, List.set_cons_zero, List.set_cons_succ])
      | (show wpPlan _ _ _ _ ((true, _) :: _) _ _
         refine plan_take (v := ?_) rfl (by rfl) (fun w' hw' => ?_) ?_
         rotate_left
         focus
           go_simp
           try with_reducible rfl
           done
         simp only [Act.put, List.setIfInBounds_toArray, List.set_cons_zero, List.set_cons_succ]))
  refine plan_nil ?_
  have x0 := hM3.out.c 0 _ rfl
  have t0 := hM3.out.z 0
  go_upto_region 31 with (fail)
  have hT4 : Touch (fun y => y = bm) wv (wv.setCell ⟨bm, 0, none⟩ (.int .i64 (p + 1))) := (Touch.refl (fun y => y = bm) wv).setCell (p := ⟨bm, 0, none⟩) rfl _
  have hM4 := hide (show Row (wv.setCell ⟨bm, 0, none⟩ (.int .i64 (p + 1))) bm [.int .i64 (p + 1), .int .i64 (q 0), .int .i64 (q 1), .int .i64 (q 2), .int .i64 (q 3), .int .i64 (q 4), .int .i64 (q 5), .int .i64 (q 6), .int .i64 (q 7), .slice A n cp, .int .i64 st, .int .i64 tr] from hM3.out.set 0 (by simp) (.int .i64 (p + 1)))
  have hZ2 := hide (hZ3.out.later hT4.2 (by omega))
  have hE2 := hide (hE3.out.later hT4.2 (by omega))
  have hb2 := hide (hb3.out.trans (hT4.below hb3.out.size (fun y hy e => by have := hbm'.out; omega)))
  clear hT4 hM3 hZ3 hE3 hb3 x0 t0
  generalize wv.setCell ⟨bm, 0, none⟩ (.int .i64 (p + 1)) = wd at *
  have x0 := hM4.out.c 0 _ rfl
  have x1 := hM4.out.c 1 _ rfl
  have x2 := hM4.out.c 2 _ rfl
  have x3 := hM4.out.c 3 _ rfl
  have x4 := hM4.out.c 4 _ rfl
  have x5 := hM4.out.c 5 _ rfl
  have x6 := hM4.out.c 6 _ rfl
  have x7 := hM4.out.c 7 _ rfl
  have x8 := hM4.out.c 8 _ rfl
  have x9 := hM4.out.c 9 _ rfl
  have x10 := hM4.out.c 10 _ rfl
  have x11 := hM4.out.c 11 _ rfl
  have z0 := hZ2.out.c 0 _ rfl
  have z1 := hZ2.out.c 1 _ rfl
  have z2 := hZ2.out.c 2 _ rfl
  have z3 := hZ2.out.c 3 _ rfl
  have z4 := hZ2.out.c 4 _ rfl
  have z5 := hZ2.out.c 5 _ rfl
  have z6 := hZ2.out.c 6 _ rfl
  have z7 := hZ2.out.c 7 _ rfl
  have z8 := hZ2.out.c 8 _ rfl
  have z9 := hZ2.out.c 9 _ rfl
  have z10 := hZ2.out.c 10 _ rfl
  have z11 := hZ2.out.c 11 _ rfl
  have t0 := hZ2.out.z 0
  have t1 := hZ2.out.z 1
  have t2 := hZ2.out.z 2
  have t3 := hZ2.out.z 3
  have t4 := hZ2.out.z 4
  have t5 := hZ2.out.z 5
  have t6 := hZ2.out.z 6
  have t7 := hZ2.out.z 7
  have t8 := hZ2.out.z 8
  have t9 := hZ2.out.z 9
  have t10 := hZ2.out.z 10
  have t11 := hZ2.out.z 11
  have q0 := hE2.out.c 0 _ rfl
  have q1 := hE2.out.c 1 _ rfl
  have s0 := hE2.out.z 0
  have s1 := hE2.out.z 1
  go_wp2_with fail
  have hT5 : Touch (fun y => y = bz) wd ((((((((((((wd.setCell ⟨bz, 0, none⟩ (.int .i64 (p + 1))).setCell ⟨bz, 1, none⟩ (.int .i64 (q 0))).setCell ⟨bz, 2, none⟩ (.int .i64 (q 1))).setCell ⟨bz, 3, none⟩ (.int .i64 (q 2))).setCell ⟨bz, 4, none⟩ (.int .i64 (q 3))).setCell ⟨bz, 5, none⟩ (.int .i64 (q 4))).setCell ⟨bz, 6, none⟩ (.int .i64 (q 5))).setCell ⟨bz, 7, none⟩ (.int .i64 (q 6))).setCell ⟨bz, 8, none⟩ (.int .i64 (q 7))).setCell ⟨bz, 9, none⟩ (.slice A n cp)).setCell ⟨bz, 10, none⟩ (.int .i64 (st))).setCell ⟨bz, 11, none⟩ (.int .i64 (tr))) := (Touch.setCell (Touch.setCell (Touch.setCell (Touch.setCell (Touch.setCell (Touch.setCell (Touch.setCell (Touch.setCell (Touch.setCell (Touch.setCell (Touch.setCell (Touch.setCell (Touch.refl (fun y => y = bz) wd) (p := ⟨bz, 0, none⟩) rfl (.int .i64 (p + 1))) (p := ⟨bz, 1, none⟩) rfl (.int .i64 (q 0))) (p := ⟨bz, 2, none⟩) rfl (.int .i64 (q 1))) (p := ⟨bz, 3, none⟩) rfl (.int .i64 (q 2))) (p := ⟨bz, 4, none⟩) rfl (.int .i64 (q 3))) (p := ⟨bz, 5, none⟩) rfl (.int .i64 (q 4))) (p := ⟨bz, 6, none⟩) rfl (.int .i64 (q 5))) (p := ⟨bz, 7, none⟩) rfl (.int .i64 (q 6))) (p := ⟨bz, 8, none⟩) rfl (.int .i64 (q 7))) (p := ⟨bz, 9, none⟩) rfl (.slice A n cp)) (p := ⟨bz, 10, none⟩) rfl (.int .i64 (st))) (p := ⟨bz, 11, none⟩) rfl (.int .i64 (tr)))
  have hZ5 : Row ((((((((((((wd.setCell ⟨bz, 0, none⟩ (.int .i64 (p + 1))).setCell ⟨bz, 1, none⟩ (.int .i64 (q 0))).setCell ⟨bz, 2, none⟩ (.int .i64 (q 1))).setCell ⟨bz, 3, none⟩ (.int .i64 (q 2))).setCell ⟨bz, 4, none⟩ (.int .i64 (q 3))).setCell ⟨bz, 5, none⟩ (.int .i64 (q 4))).setCell ⟨bz, 6, none⟩ (.int .i64 (q 5))).setCell ⟨bz, 7, none⟩ (.int .i64 (q 6))).setCell ⟨bz, 8, none⟩ (.int .i64 (q 7))).setCell ⟨bz, 9, none⟩ (.slice A n cp)).setCell ⟨bz, 10, none⟩ (.int .i64 (st))).setCell ⟨bz, 11, none⟩ (.int .i64 (tr))) (bz) [.int .i64 (p + 1), .int .i64 (q 0), .int .i64 (q 1), .int .i64 (q 2), .int .i64 (q 3), .int .i64 (q 4), .int .i64 (q 5), .int .i64 (q 6), .int .i64 (q 7), .slice A n cp, .int .i64 (st), .int .i64 (tr)] := (Row.set (Row.set (Row.set (Row.set (Row.set (Row.set (Row.set (Row.set (Row.set (Row.set (Row.set (Row.set hZ2.out 0 (by simp) (.int .i64 (p + 1))) 1 (by simp) (.int .i64 (q 0))) 2 (by simp) (.int .i64 (q 1))) 3 (by simp) (.int .i64 (q 2))) 4 (by simp) (.int .i64 (q 3))) 5 (by simp) (.int .i64 (q 4))) 6 (by simp) (.int .i64 (q 5))) 7 (by simp) (.int .i64 (q 6))) 8 (by simp) (.int .i64 (q 7))) 9 (by simp) (.slice A n cp)) 10 (by simp) (.int .i64 (st))) 11 (by simp) (.int .i64 (tr)))
  have hE5 := hE2.out.later hT5.2 (by omega)
  have hb5 := hb2.out.trans (hT5.below hb2.out.size (fun y hy e => by have := hbm'.out; omega))
  have hL5 := hide (show Later (fun y => y = bz ∨ y = be) wd _ from ⟨hT5.2.1, fun k hk hf => hT5.2.2 k hk (fun e => hf (.inl e))⟩)
  clear z0 z1 z2 z3 z4 z5 z6 z7 z8 z9 z10 z11 t0 t1 t2 t3 t4 t5 t6 t7 t8 t9 t10 t11 q0 q1 s0 s1 hT5
  generalize ((((((((((((wd.setCell ⟨bz, 0, none⟩ (.int .i64 (p + 1))).setCell ⟨bz, 1, none⟩ (.int .i64 (q 0))).setCell ⟨bz, 2, none⟩ (.int .i64 (q 1))).setCell ⟨bz, 3, none⟩ (.int .i64 (q 2))).setCell ⟨bz, 4, none⟩ (.int .i64 (q 3))).setCell ⟨bz, 5, none⟩ (.int .i64 (q 4))).setCell ⟨bz, 6, none⟩ (.int .i64 (q 5))).setCell ⟨bz, 7, none⟩ (.int .i64 (q 6))).setCell ⟨bz, 8, none⟩ (.int .i64 (q 7))).setCell ⟨bz, 9, none⟩ (.slice A n cp)).setCell ⟨bz, 10, none⟩ (.int .i64 (st))).setCell ⟨bz, 11, none⟩ (.int .i64 (tr))) = we at *
  have hT6 : Touch (fun y => y = be) we ((we.setCell ⟨be, 0, none⟩ (.int .i64 (0))).setCell ⟨be, 1, none⟩ (.int .i64 (0))) := ((Touch.refl (fun y => y = be) we).setCell (p := ⟨be, 0, none⟩) rfl _).setCell (p := ⟨be, 1, none⟩) rfl _
  have hE6 : Row ((we.setCell ⟨be, 0, none⟩ (.int .i64 (0))).setCell ⟨be, 1, none⟩ (.int .i64 (0))) (be) [.int .i64 (0), .int .i64 (0)] := (hE5.set 0 (by simp) (.int .i64 (0))).set 1 (by simp) (.int .i64 (0))
  have hZ6 := hide (hZ5.later hT6.2 (by omega))
  have hb6 := hb5.trans (hT6.below hb5.size (fun y hy e => by have := hbm'.out; omega))
  have hL6 := hide (show Later (fun y => y = bz ∨ y = be) wd _ from later_trans _ _ _ _ hL5.out ⟨hT6.2.1, fun k hk hf => hT6.2.2 k hk (fun e => hf (.inr e))⟩)
  clear hT6 hZ5 hE5 hb5 hL5
  generalize (we.setCell ⟨be, 0, none⟩ (.int .i64 (0))).setCell ⟨be, 1, none⟩ (.int .i64 (0)) = wf at *
  have z0 := hZ6.out.c 0 _ rfl
  have z1 := hZ6.out.c 1 _ rfl
  have z2 := hZ6.out.c 2 _ rfl
  have z3 := hZ6.out.c 3 _ rfl
  have z4 := hZ6.out.c 4 _ rfl
  have z5 := hZ6.out.c 5 _ rfl
  have z6 := hZ6.out.c 6 _ rfl
  have z7 := hZ6.out.c 7 _ rfl
  have z8 := hZ6.out.c 8 _ rfl
  have z9 := hZ6.out.c 9 _ rfl
  have z10 := hZ6.out.c 10 _ rfl
  have z11 := hZ6.out.c 11 _ rfl
  have q0 := hE6.c 0 _ rfl
  have q1 := hE6.c 1 _ rfl
  refine bodyPost_ret (v := .tuple #[.agg #[.int .i64 (p + 1), .int .i64 (q 0), .int .i64 (q 1), .int .i64 (q 2), .int .i64 (q 3), .int .i64 (q 4), .int .i64 (q 5), .int .i64 (q 6), .int .i64 (q 7), .slice A n cp, .int .i64 (st), .int .i64 (tr)], .agg #[.int .i64 (0), .int .i64 (0)]]) (by simp [results, Try.results22, go_sem, z0, z1, z2, z3, z4, z5, z6, z7, z8, z9, z10, z11, q0, q1]) rfl ?_
  exact ⟨rfl, hb6⟩
set_option maxRecDepth 100000 in
set_option maxHeartbeats 4000000 in
theorem do_div0 (p : Int) (hp : -9223372036854775808 ≤ p) (hp1 : p < 9223372036854775807) (r : Nat → Int) (A : Option Addr) (n cp : Nat) (st tr : Int) (a b c : Nat) (hc : c < 8) (h0 : r c = 0) (w : World) :
    Calls Try.prog 22 #[.agg #[.int .i64 p, .int .i64 (r 0), .int .i64 (r 1), .int .i64 (r 2), .int .i64 (r 3), .int .i64 (r 4), .int .i64 (r 5), .int .i64 (r 6), .int .i64 (r 7), .slice A n cp, .int .i64 st, .int .i64 tr], .agg #[.int .u8 6, .int .u8 (a : Nat), .int .u8 (b : Nat), .int .u8 (c : Nat)]] w fun e w' => e = .returned (.tuple #[.agg #[.int .i64 p, .int .i64 (r 0), .int .i64 (r 1), .int .i64 (r 2), .int .i64 (r 3), .int .i64 (r 4), .int .i64 (r 5), .int .i64 (r 6), .int .i64 (r 7), .slice A n cp, .int .i64 2, .int .i64 80], .agg #[.int .i64 3, .int .i64 80]]) ∧ Below w.heap.size w w' := by
  have h0' := hide h0
  clear h0
  go_enter Try.func22, Try.ntmps22
  go_upto_region 1 with (fail)
  have hM1 := Row.new w 27 [.int .i64 p, .int .i64 (r 0), .int .i64 (r 1), .int .i64 (r 2), .int .i64 (r 3), .int .i64 (r 4), .int .i64 (r 5), .int .i64 (r 6), .int .i64 (r 7), .slice A n cp, .int .i64 st, .int .i64 tr]
  have hbA : Below w.heap.size w (w.alloc (.cells #[.int .i64 p, .int .i64 (r 0), .int .i64 (r 1), .int .i64 (r 2), .int .i64 (r 3), .int .i64 (r 4), .int .i64 (r 5), .int .i64 (r 6), .int .i64 (r 7), .slice A n cp, .int .i64 st, .int .i64 tr] 27)) := (Below.refl _ _).alloc (Nat.le_refl _) _
  have hsA : (w.alloc (.cells #[.int .i64 p, .int .i64 (r 0), .int .i64 (r 1), .int .i64 (r 2), .int .i64 (r 3), .int .i64 (r 4), .int .i64 (r 5), .int .i64 (r 6), .int .i64 (r 7), .slice A n cp, .int .i64 st, .int .i64 tr] 27)).heap.size = w.heap.size + 1 := by simp
  generalize w.alloc (.cells #[.int .i64 p, .int .i64 (r 0), .int .i64 (r 1), .int .i64 (r 2), .int .i64 (r 3), .int .i64 (r 4), .int .i64 (r 5), .int .i64 (r 6), .int .i64 (r 7), .slice A n cp, .int .i64 st, .int .i64 tr] 27) = wa at *
  have hI1 := Row.new wa 56 [.int .u8 (6), .int .u8 (a : Nat), .int .u8 (b : Nat), .int .u8 (c : Nat)]
  have hbB : Below wa.heap.size wa (wa.alloc (.cells #[.int .u8 (6), .int .u8 (a : Nat), .int .u8 (b : Nat), .int .u8 (c : Nat)] 56)) := (Below.refl _ _).alloc (Nat.le_refl _) _
  have hsB : (wa.alloc (.cells #[.int .u8 (6), .int .u8 (a : Nat), .int .u8 (b : Nat), .int .u8 (c : Nat)] 56)).heap.size = wa.heap.size + 1 := by simp
  have hM2 := hM1.below hbB
  generalize wa.alloc (.cells #[.int .u8 (6), .int .u8 (a : Nat), .int .u8 (b : Nat), .int .u8 (c : Nat)] 56) = wb at *
  have hZ1 := Row.new wb 27 [.int .i64 0, .int .i64 0, .int .i64 0, .int .i64 0, .int .i64 0, .int .i64 0, .int .i64 0, .int .i64 0, .int .i64 0, .slice none 0 0, .int .i64 0, .int .i64 0]
  have hbC : Below wb.heap.size wb (wb.alloc (.cells #[.int .i64 0, .int .i64 0, .int .i64 0, .int .i64 0, .int .i64 0, .int .i64 0, .int .i64 0, .int .i64 0, .int .i64 0, .slice none 0 0, .int .i64 0, .int .i64 0] 27)) := (Below.refl _ _).alloc (Nat.le_refl _) _
  have hsC : (wb.alloc (.cells #[.int .i64 0, .int .i64 0, .int .i64 0, .int .i64 0, .int .i64 0, .int .i64 0, .int .i64 0, .int .i64 0, .int .i64 0, .slice none 0 0, .int .i64 0, .int .i64 0] 27)).heap.size = wb.heap.size + 1 := by simp
  have hM3 := hM2.below hbC
  have hI3 := hI1.below hbC
  generalize wb.alloc (.cells #[.int .i64 0, .int .i64 0, .int .i64 0, .int .i64 0, .int .i64 0, .int .i64 0, .int .i64 0, .int .i64 0, .int .i64 0, .slice none 0 0, .int .i64 0, .int .i64 0] 27) = wc at *
  have hE1 := Row.new wc 38 [.int .i64 0, .int .i64 0]
  have hbD : Below wc.heap.size wc (wc.alloc (.cells #[.int .i64 0, .int .i64 0] 38)) := (Below.refl _ _).alloc (Nat.le_refl _) _
  have hM4 := hM3.below hbD
  have hI4 := hI3.below hbD
  have hZ4 := hZ1.below hbD
  generalize wc.alloc (.cells #[.int .i64 0, .int .i64 0] 38) = wd at *
  obtain ⟨bm, hbm⟩ : ∃ bm, bm = w.heap.size := ⟨_, rfl⟩
  rw [show wa.heap.size = bm + 1 by omega] at hI4
  rw [show wb.heap.size = bm + 2 by omega] at hZ4
  rw [show wc.heap.size = bm + 3 by omega] at hE1
  have hb' := hide (((hbA.trans (hbB.mono hbA.size)).trans (hbC.mono (Nat.le_trans hbA.size hbB.size))).trans (hbD.mono (Nat.le_trans (Nat.le_trans hbA.size hbB.size) hbC.size)))
  rw [← hbm] at hM4 ⊢
  have hM' := hide hM4
  have hbm' := hide hbm
  have hcl := hE1.lt
  obtain ⟨be, hbe⟩ : ∃ be, be = bm + 1 + 1 + 1 := ⟨_, rfl⟩
  obtain ⟨bz, hbz⟩ : ∃ bz, bz = bm + 1 + 1 := ⟨_, rfl⟩
  obtain ⟨bi, hbi⟩ : ∃ bi, bi = bm + 1 := ⟨_, rfl⟩
  rw [show bm + 3 = be by omega] at hE1 hcl
  rw [show bm + 2 = bz by omega] at hZ4
  rw [← hbi] at hI4
  have hE' := hide hE1
  have hZ' := hide hZ4
  have hI' := hide hI4
  rw [← hbe]
  rw [← hbz]
  rw [← hbi]
  have hlt0 : bm < bi := by omega
  have hlt1 : bi < bz := by omega
  have hlt2 : bz < be := by omega
  clear hM1 hbA hsA hI1 hbB hsB hM2 hZ1 hbC hsC hM3 hI3 hE1 hbD hM4 hI4 hZ4 hbm hbe hbz hbi
  have x0 := hM'.out.c 0 _ rfl
  have i0 := hI'.out.c 0 _ rfl
  have i3 := hI'.out.c 3 _ rfl
  have xc : wd.cell? ⟨bm, 1 + c, none⟩ = some (.int .i64 0) := by rw [← h0'.out]; exact hM'.out.c (1 + c) _ (mc_get _ _ _ _ _ c hc)
  have hcI : (c : Int) < 8 := by omega
  go_upto_region 28 with (fail)
  clear x0
  have x0 := hM'.out.c 0 _ rfl
  have x1 := hM'.out.c 1 _ rfl
  have x2 := hM'.out.c 2 _ rfl
  have x3 := hM'.out.c 3 _ rfl
  have x4 := hM'.out.c 4 _ rfl
  have x5 := hM'.out.c 5 _ rfl
  have x6 := hM'.out.c 6 _ rfl
  have x7 := hM'.out.c 7 _ rfl
  have x8 := hM'.out.c 8 _ rfl
  have x9 := hM'.out.c 9 _ rfl
  have x10 := hM'.out.c 10 _ rfl
  have x11 := hM'.out.c 11 _ rfl
  go_wp2_with fail
  refine (trap_any p r A n cp st tr 80 wd).mono ?_
  rintro e wd ⟨rfl, hb⟩
  have hZ2 := hide (hZ'.out.below hb)
  have hE2 := hide (hE'.out.below hb)
  have hb2 := hide (hb'.out.trans (hb.mono hb'.out.size))
  clear x0 x1 x2 x3 x4 x5 x6 x7 x8 x9 x10 x11 xc i0 i3 hb hM' hI' hZ' hE' hb'
  have z0 := hZ2.out.c 0 _ rfl
  have z1 := hZ2.out.c 1 _ rfl
  have z2 := hZ2.out.c 2 _ rfl
  have z3 := hZ2.out.c 3 _ rfl
  have z4 := hZ2.out.c 4 _ rfl
  have z5 := hZ2.out.c 5 _ rfl
  have z6 := hZ2.out.c 6 _ rfl
  have z7 := hZ2.out.c 7 _ rfl
  have z8 := hZ2.out.c 8 _ rfl
  have z9 := hZ2.out.c 9 _ rfl
  have z10 := hZ2.out.c 10 _ rfl
  have z11 := hZ2.out.c 11 _ rfl
  have t0 := hZ2.out.z 0
  have t1 := hZ2.out.z 1
  have t2 := hZ2.out.z 2
  have t3 := hZ2.out.z 3
  have t4 := hZ2.out.z 4
  have t5 := hZ2.out.z 5
  have t6 := hZ2.out.z 6
  have t7 := hZ2.out.z 7
  have t8 := hZ2.out.z 8
  have t9 := hZ2.out.z 9
  have t10 := hZ2.out.z 10
  have t11 := hZ2.out.z 11
  have q0 := hE2.out.c 0 _ rfl
  have q1 := hE2.out.c 1 _ rfl
  have s0 := hE2.out.z 0
  have s1 := hE2.out.z 1
  go_wp2_with fail
  have hT5 : Touch (fun y => y = bz) wd ((((((((((((wd.setCell ⟨bz, 0, none⟩ (.int .i64 (p))).setCell ⟨bz, 1, none⟩ (.int .i64 (r 0))).setCell ⟨bz, 2, none⟩ (.int .i64 (r 1))).setCell ⟨bz, 3, none⟩ (.int .i64 (r 2))).setCell ⟨bz, 4, none⟩ (.int .i64 (r 3))).setCell ⟨bz, 5, none⟩ (.int .i64 (r 4))).setCell ⟨bz, 6, none⟩ (.int .i64 (r 5))).setCell ⟨bz, 7, none⟩ (.int .i64 (r 6))).setCell ⟨bz, 8, none⟩ (.int .i64 (r 7))).setCell ⟨bz, 9, none⟩ (.slice A n cp)).setCell ⟨bz, 10, none⟩ (.int .i64 (2))).setCell ⟨bz, 11, none⟩ (.int .i64 (80))) := (Touch.setCell (Touch.setCell (Touch.setCell (Touch.setCell (Touch.setCell (Touch.setCell (Touch.setCell (Touch.setCell (Touch.setCell (Touch.setCell (Touch.setCell (Touch.setCell (Touch.refl (fun y => y = bz) wd) (p := ⟨bz, 0, none⟩) rfl (.int .i64 (p))) (p := ⟨bz, 1, none⟩) rfl (.int .i64 (r 0))) (p := ⟨bz, 2, none⟩) rfl (.int .i64 (r 1))) (p := ⟨bz, 3, none⟩) rfl (.int .i64 (r 2))) (p := ⟨bz, 4, none⟩) rfl (.int .i64 (r 3))) (p := ⟨bz, 5, none⟩) rfl (.int .i64 (r 4))) (p := ⟨bz, 6, none⟩) rfl (.int .i64 (r 5))) (p := ⟨bz, 7, none⟩) rfl (.int .i64 (r 6))) (p := ⟨bz, 8, none⟩) rfl (.int .i64 (r 7))) (p := ⟨bz, 9, none⟩) rfl (.slice A n cp)) (p := ⟨bz, 10, none⟩) rfl (.int .i64 (2))) (p := ⟨bz, 11, none⟩) rfl (.int .i64 (80)))
  have hZ5 : Row ((((((((((((wd.setCell ⟨bz, 0, none⟩ (.int .i64 (p))).setCell ⟨bz, 1, none⟩ (.int .i64 (r 0))).setCell ⟨bz, 2, none⟩ (.int .i64 (r 1))).setCell ⟨bz, 3, none⟩ (.int .i64 (r 2))).setCell ⟨bz, 4, none⟩ (.int .i64 (r 3))).setCell ⟨bz, 5, none⟩ (.int .i64 (r 4))).setCell ⟨bz, 6, none⟩ (.int .i64 (r 5))).setCell ⟨bz, 7, none⟩ (.int .i64 (r 6))).setCell ⟨bz, 8, none⟩ (.int .i64 (r 7))).setCell ⟨bz, 9, none⟩ (.slice A n cp)).setCell ⟨bz, 10, none⟩ (.int .i64 (2))).setCell ⟨bz, 11, none⟩ (.int .i64 (80))) (bz) [.int .i64 (p), .int .i64 (r 0), .int .i64 (r 1), .int .i64 (r 2), .int .i64 (r 3), .int .i64 (r 4), .int .i64 (r 5), .int .i64 (r 6), .int .i64 (r 7), .slice A n cp, .int .i64 (2), .int .i64 (80)] := (Row.set (Row.set (Row.set (Row.set (Row.set (Row.set (Row.set (Row.set (Row.set (Row.set (Row.set (Row.set hZ2.out 0 (by simp) (.int .i64 (p))) 1 (by simp) (.int .i64 (r 0))) 2 (by simp) (.int .i64 (r 1))) 3 (by simp) (.int .i64 (r 2))) 4 (by simp) (.int .i64 (r 3))) 5 (by simp) (.int .i64 (r 4))) 6 (by simp) (.int .i64 (r 5))) 7 (by simp) (.int .i64 (r 6))) 8 (by simp) (.int .i64 (r 7))) 9 (by simp) (.slice A n cp)) 10 (by simp) (.int .i64 (2))) 11 (by simp) (.int .i64 (80)))
  have hE5 := hE2.out.later hT5.2 (by omega)
  have hb5 := hb2.out.trans (hT5.below hb2.out.size (fun y hy e => by have := hbm'.out; omega))
  have hL5 := hide (show Later (fun y => y = bz ∨ y = be) wd _ from ⟨hT5.2.1, fun k hk hf => hT5.2.2 k hk (fun e => hf (.inl e))⟩)
  clear z0 z1 z2 z3 z4 z5 z6 z7 z8 z9 z10 z11 t0 t1 t2 t3 t4 t5 t6 t7 t8 t9 t10 t11 q0 q1 s0 s1 hT5
  generalize ((((((((((((wd.setCell ⟨bz, 0, none⟩ (.int .i64 (p))).setCell ⟨bz, 1, none⟩ (.int .i64 (r 0))).setCell ⟨bz, 2, none⟩ (.int .i64 (r 1))).setCell ⟨bz, 3, none⟩ (.int .i64 (r 2))).setCell ⟨bz, 4, none⟩ (.int .i64 (r 3))).setCell ⟨bz, 5, none⟩ (.int .i64 (r 4))).setCell ⟨bz, 6, none⟩ (.int .i64 (r 5))).setCell ⟨bz, 7, none⟩ (.int .i64 (r 6))).setCell ⟨bz, 8, none⟩ (.int .i64 (r 7))).setCell ⟨bz, 9, none⟩ (.slice A n cp)).setCell ⟨bz, 10, none⟩ (.int .i64 (2))).setCell ⟨bz, 11, none⟩ (.int .i64 (80))) = we at *
  have hT6 : Touch (fun y => y = be) we ((we.setCell ⟨be, 0, none⟩ (.int .i64 (3))).setCell ⟨be, 1, none⟩ (.int .i64 (80))) := ((Touch.refl (fun y => y = be) we).setCell (p := ⟨be, 0, none⟩) rfl _).setCell (p := ⟨be, 1, none⟩) rfl _
  have hE6 : Row ((we.setCell ⟨be, 0, none⟩ (.int .i64 (3))).setCell ⟨be, 1, none⟩ (.int .i64 (80))) (be) [.int .i64 (3), .int .i64 (80)] := (hE5.set 0 (by simp) (.int .i64 (3))).set 1 (by simp) (.int .i64 (80))
  have hZ6 := hide (hZ5.later hT6.2 (by omega))
  have hb6 := hb5.trans (hT6.below hb5.size (fun y hy e => by have := hbm'.out; omega))
  have hL6 := hide (show Later (fun y => y = bz ∨ y = be) wd _ from later_trans _ _ _ _ hL5.out ⟨hT6.2.1, fun k hk hf => hT6.2.2 k hk (fun e => hf (.inr e))⟩)
  clear hT6 hZ5 hE5 hb5 hL5
  generalize (we.setCell ⟨be, 0, none⟩ (.int .i64 (3))).setCell ⟨be, 1, none⟩ (.int .i64 (80)) = wf at *
  have z0 := hZ6.out.c 0 _ rfl
  have z1 := hZ6.out.c 1 _ rfl
  have z2 := hZ6.out.c 2 _ rfl
  have z3 := hZ6.out.c 3 _ rfl
  have z4 := hZ6.out.c 4 _ rfl
  have z5 := hZ6.out.c 5 _ rfl
  have z6 := hZ6.out.c 6 _ rfl
  have z7 := hZ6.out.c 7 _ rfl
  have z8 := hZ6.out.c 8 _ rfl
  have z9 := hZ6.out.c 9 _ rfl
  have z10 := hZ6.out.c 10 _ rfl
  have z11 := hZ6.out.c 11 _ rfl
  have q0 := hE6.c 0 _ rfl
  have q1 := hE6.c 1 _ rfl
  refine bodyPost_ret (v := .tuple #[.agg #[.int .i64 (p), .int .i64 (r 0), .int .i64 (r 1), .int .i64 (r 2), .int .i64 (r 3), .int .i64 (r 4), .int .i64 (r 5), .int .i64 (r 6), .int .i64 (r 7), .slice A n cp, .int .i64 (2), .int .i64 (80)], .agg #[.int .i64 (3), .int .i64 (80)]]) (by simp [results, Try.results22, go_sem, z0, z1, z2, z3, z4, z5, z6, z7, z8, z9, z10, z11, q0, q1]) rfl ?_
  exact ⟨rfl, hb6⟩
end Go.Proofs.Ytmgcbiejnifhpaa
