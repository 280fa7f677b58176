/- pvm's do walked: Call, Halt, Set. -/
import Derived.Test.YtmgcbiejnifhpaaPvmTrap
namespace Go.Proofs.Ytmgcbiejnifhpaa
open Go.RowKit
def upd8 (r : Nat → Int) (k : Nat) (v : Int) : Nat → Int := fun j => if j = k then v else r j
set_option maxRecDepth 100000 in
set_option maxHeartbeats 4000000 in
theorem do_call8 (p : Int) (hp : -9223372036854775808 ≤ p) (hp1 : p < 9223372036854775807) (r : Nat → Int) (A : Option Addr) (n cp : Nat) (st tr : Int) (a b c : Nat) (ha : a < 256) (w : World) :
    Calls Try.prog 22 #[.agg #[.int .i64 p, .int .i64 (r 0), .int .i64 (r 1), .int .i64 (r 2), .int .i64 (r 3), .int .i64 (r 4), .int .i64 (r 5), .int .i64 (r 6), .int .i64 (r 7), .slice A n cp, .int .i64 st, .int .i64 tr], .agg #[.int .u8 17, .int .u8 (a : Nat), .int .u8 (b : Nat), .int .u8 (c : Nat)]] w fun e w' => e = .returned (.tuple #[.agg #[.int .i64 (p + 1), .int .i64 (r 0), .int .i64 (r 1), .int .i64 (r 2), .int .i64 (r 3), .int .i64 (r 4), .int .i64 (r 5), .int .i64 (r 6), .int .i64 (r 7), .slice A n cp, .int .i64 st, .int .i64 tr], .agg #[.int .i64 1, .int .i64 (a : Nat)]]) ∧ Below w.heap.size w w' := by
  go_enter Try.func22, Try.ntmps22
  go_upto_region 1 with (fail)
  have hM1 := Row.new w 27 [.int .i64 p, .int .i64 (r 0), .int .i64 (r 1), .int .i64 (r 2), .int .i64 (r 3), .int .i64 (r 4), .int .i64 (r 5), .int .i64 (r 6), .int .i64 (r 7), .slice A n cp, .int .i64 st, .int .i64 tr]
  have hbA : Below w.heap.size w (w.alloc (.cells #[.int .i64 p, .int .i64 (r 0), .int .i64 (r 1), .int .i64 (r 2), .int .i64 (r 3), .int .i64 (r 4), .int .i64 (r 5), .int .i64 (r 6), .int .i64 (r 7), .slice A n cp, .int .i64 st, .int .i64 tr] 27)) := (Below.refl _ _).alloc (Nat.le_refl _) _
  have hsA : (w.alloc (.cells #[.int .i64 p, .int .i64 (r 0), .int .i64 (r 1), .int .i64 (r 2), .int .i64 (r 3), .int .i64 (r 4), .int .i64 (r 5), .int .i64 (r 6), .int .i64 (r 7), .slice A n cp, .int .i64 st, .int .i64 tr] 27)).heap.size = w.heap.size + 1 := by simp
  generalize w.alloc (.cells #[.int .i64 p, .int .i64 (r 0), .int .i64 (r 1), .int .i64 (r 2), .int .i64 (r 3), .int .i64 (r 4), .int .i64 (r 5), .int .i64 (r 6), .int .i64 (r 7), .slice A n cp, .int .i64 st, .int .i64 tr] 27) = wa at *
  have hI1 := Row.new wa 56 [.int .u8 (17), .int .u8 (a : Nat), .int .u8 (b : Nat), .int .u8 (c : Nat)]
  have hbB : Below wa.heap.size wa (wa.alloc (.cells #[.int .u8 (17), .int .u8 (a : Nat), .int .u8 (b : Nat), .int .u8 (c : Nat)] 56)) := (Below.refl _ _).alloc (Nat.le_refl _) _
  have hsB : (wa.alloc (.cells #[.int .u8 (17), .int .u8 (a : Nat), .int .u8 (b : Nat), .int .u8 (c : Nat)] 56)).heap.size = wa.heap.size + 1 := by simp
  have hM2 := hM1.below hbB
  generalize wa.alloc (.cells #[.int .u8 (17), .int .u8 (a : Nat), .int .u8 (b : Nat), .int .u8 (c : Nat)] 56) = wb at *
  have hZ1 := Row.new wb 27 [.int .i64 0, .int .i64 0, .int .i64 0, .int .i64 0, .int .i64 0, .int .i64 0, .int .i64 0, .int .i64 0, .int .i64 0, .slice none 0 0, .int .i64 0, .int .i64 0]
  have hbC : Below wb.heap.size wb (wb.alloc (.cells #[.int .i64 0, .int .i64 0, .int .i64 0, .int .i64 0, .int .i64 0, .int .i64 0, .int .i64 0, .int .i64 0, .int .i64 0, .slice none 0 0, .int .i64 0, .int .i64 0] 27)) := (Below.refl _ _).alloc (Nat.le_refl _) _
  have hsC : (wb.alloc (.cells #[.int .i64 0, .int .i64 0, .int .i64 0, .int .i64 0, .int .i64 0, .int .i64 0, .int .i64 0, .int .i64 0, .int .i64 0, .slice none 0 0, .int .i64 0, .int .i64 0] 27)).heap.size = wb.heap.size + 1 := by simp
  have hM3 := hM2.below hbC
  have hI3 := hI1.below hbC
  generalize wb.alloc (.cells #[.int .i64 0, .int .i64 0, .int .i64 0, .int .i64 0, .int .i64 0, .int .i64 0, .int .i64 0, .int .i64 0, .int .i64 0, .slice none 0 0, .int .i64 0, .int .i64 0] 27) = wc at *
  have hE1 := Row.new wc 38 [.int .i64 0, .int .i64 0]
  have hbD : Below wc.heap.size wc (wc.alloc (.cells #[.int .i64 0, .int .i64 0] 38)) := (Below.refl _ _).alloc (Nat.le_refl _) _
  have hM4 := hM3.below hbD
  have hI4 := hI3.below hbD
  have hZ4 := hZ1.below hbD
  generalize wc.alloc (.cells #[.int .i64 0, .int .i64 0] 38) = wd at *
  obtain ⟨bm, hbm⟩ : ∃ bm, bm = w.heap.size := ⟨_, rfl⟩
  rw [show wa.heap.size = bm + 1 by omega] at hI4
  rw [show wb.heap.size = bm + 2 by omega] at hZ4
  rw [show wc.heap.size = bm + 3 by omega] at hE1
  have hb' := hide (((hbA.trans (hbB.mono hbA.size)).trans (hbC.mono (Nat.le_trans hbA.size hbB.size))).trans (hbD.mono (Nat.le_trans (Nat.le_trans hbA.size hbB.size) hbC.size)))
  rw [← hbm] at hM4 ⊢
  have hM' := hide hM4
  have hbm' := hide hbm
  have hcl := hE1.lt
  obtain ⟨be, hbe⟩ : ∃ be, be = bm + 1 + 1 + 1 := ⟨_, rfl⟩
  obtain ⟨bz, hbz⟩ : ∃ bz, bz = bm + 1 + 1 := ⟨_, rfl⟩
  obtain ⟨bi, hbi⟩ : ∃ bi, bi = bm + 1 := ⟨_, rfl⟩
  rw [show bm + 3 = be by omega] at hE1 hcl
  rw [show bm + 2 = bz by omega] at hZ4
  rw [← hbi] at hI4
  have hE' := hide hE1
  have hZ' := hide hZ4
  have hI' := hide hI4
  rw [← hbe]
  rw [← hbz]
  rw [← hbi]
  have hlt0 : bm < bi := by omega
  have hlt1 : bi < bz := by omega
  have hlt2 : bz < be := by omega
  clear hM1 hbA hsA hI1 hbB hsB hM2 hZ1 hbC hsC hM3 hI3 hE1 hbD hM4 hI4 hZ4 hbm hbe hbz hbi
  have x0 := hM'.out.c 0 _ rfl
  have i0 := hI'.out.c 0 _ rfl
  have i1 := hI'.out.c 1 _ rfl
  have t0 := hM'.out.z 0
  go_upto_region 16 with (fail)
  have hT2 : Touch (fun y => y = bm) wd (wd.setCell ⟨bm, 0, none⟩ (.int .i64 (p + 1))) := (Touch.refl (fun y => y = bm) wd).setCell (p := ⟨bm, 0, none⟩) rfl _
  have hM2 := hide (show Row (wd.setCell ⟨bm, 0, none⟩ (.int .i64 (p + 1))) bm [.int .i64 (p + 1), .int .i64 (r 0), .int .i64 (r 1), .int .i64 (r 2), .int .i64 (r 3), .int .i64 (r 4), .int .i64 (r 5), .int .i64 (r 6), .int .i64 (r 7), .slice A n cp, .int .i64 st, .int .i64 tr] from hM'.out.set 0 (by simp) (.int .i64 (p + 1)))
  have hI2 := hide (hI'.out.later hT2.2 (by omega))
  have hZ2 := hide (hZ'.out.later hT2.2 (by omega))
  have hE2 := hide (hE'.out.later hT2.2 (by omega))
  have hb2 := hide (hb'.out.trans (hT2.below hb'.out.size (fun y hy e => by have := hbm'.out; omega)))
  clear x0 i0 i1 t0 hM' hI' hZ' hE' hb' hT2
  generalize wd.setCell ⟨bm, 0, none⟩ (.int .i64 (p + 1)) = wx at *
  obtain ⟨Fz, hFz⟩ : ∃ Fz : Nat → Prop, ∀ y, Fz y ↔ (y = bz ∨ y = be) := ⟨_, fun _ => Iff.rfl⟩
  have f := fun w' (hl : Later Fz wx.drew w') => hM2.out.later (later_trans _ _ _ _ (later_drew (F := Fz) wx) hl) (fun h => by have := (hFz bm).1 h; omega)
  have f0 := fun w' hl => (f w' hl).c 0 _ rfl
  have f1 := fun w' hl => (f w' hl).c 1 _ rfl
  have f2 := fun w' hl => (f w' hl).c 2 _ rfl
  have f3 := fun w' hl => (f w' hl).c 3 _ rfl
  have f4 := fun w' hl => (f w' hl).c 4 _ rfl
  have f5 := fun w' hl => (f w' hl).c 5 _ rfl
  have f6 := fun w' hl => (f w' hl).c 6 _ rfl
  have f7 := fun w' hl => (f w' hl).c 7 _ rfl
  have f8 := fun w' hl => (f w' hl).c 8 _ rfl
  have f9 := fun w' hl => (f w' hl).c 9 _ rfl
  have f10 := fun w' hl => (f w' hl).c 10 _ rfl
  have f11 := fun w' hl => (f w' hl).c 11 _ rfl
  clear f
  have fi : ∀ w', Later Fz wx.drew w' → w'.cell? ⟨bi, 1, none⟩ = some (.int .u8 (a : Nat)) := fun w' hl => (hI2.out.later (later_trans _ _ _ _ (later_drew (F := Fz) wx) hl) (fun h => by have := (hFz bi).1 h; omega)).c 1 _ rfl
  have hqd : Below wx.heap.size wx wx.drew := (Below.refl _ _).drew
  replace hZ2 := hide (hZ2.out.below hqd)
  replace hE2 := hide (hE2.out.below hqd)
  replace hb2 := hide (hb2.out.trans (hqd.mono hb2.out.size))
  clear hqd hM2 hI2
  refine region_plan [(true, 0), (true, 1), (true, 2), (true, 3), (true, 4), (false, 5), (false, 6)] (Later Fz) (later_refl _) (later_trans _) (by kernel_rfl) (by kernel_rfl) (fun _ _ d _ _ h => by cases d <;> exact h) ?_
  repeat
    (first
      | (show wpPlan _ _ _ _ ((true, _) :: _) _ _
         refine plan_skip rfl (by rfl) ?_
         simp only [Act.put, List.setIfInBounds_toArray, List.set_cons_zero, List.set_cons_succ])
      | (show wpPlan _ _ _ _ ((false, _) :: _) _ _
         refine plan_skip_eff (later_refl _) rfl (by rfl) ?_
         simp only [Act.put, List.setIfInBounds_toArray, List.set_cons_zero, List.set_cons_succ])
      | (show wpPlan _ _ _ _ ((true, _) :: _) _ _
         refine plan_take (v := ?_) rfl (by rfl) (fun w' hw' => ?_) ?_
         rotate_left
         focus
           go_simp
           try with_reducible rfl
           done
         simp only [Act.put, List.setIfInBounds_toArray, List.set_cons_zero, List.set_cons_succ]))
  clear f0 f1 f2 f3 f4 f5 f6 f7 f8 f9 f10 f11 fi
  generalize wx.drew = wd at *
  have z0 := hZ2.out.c 0 _ rfl
  have z1 := hZ2.out.c 1 _ rfl
  have z2 := hZ2.out.c 2 _ rfl
  have z3 := hZ2.out.c 3 _ rfl
  have z4 := hZ2.out.c 4 _ rfl
  have z5 := hZ2.out.c 5 _ rfl
  have z6 := hZ2.out.c 6 _ rfl
  have z7 := hZ2.out.c 7 _ rfl
  have z8 := hZ2.out.c 8 _ rfl
  have z9 := hZ2.out.c 9 _ rfl
  have z10 := hZ2.out.c 10 _ rfl
  have z11 := hZ2.out.c 11 _ rfl
  have t0 := hZ2.out.z 0
  have t1 := hZ2.out.z 1
  have t2 := hZ2.out.z 2
  have t3 := hZ2.out.z 3
  have t4 := hZ2.out.z 4
  have t5 := hZ2.out.z 5
  have t6 := hZ2.out.z 6
  have t7 := hZ2.out.z 7
  have t8 := hZ2.out.z 8
  have t9 := hZ2.out.z 9
  have t10 := hZ2.out.z 10
  have t11 := hZ2.out.z 11
  refine plan_eff rfl (by rfl) (fun K hK => ?_)
  go_wp2_with fail
  have hT5 : Touch (fun y => y = bz) wd ((((((((((((wd.setCell ⟨bz, 0, none⟩ (.int .i64 (p + 1))).setCell ⟨bz, 1, none⟩ (.int .i64 (r 0))).setCell ⟨bz, 2, none⟩ (.int .i64 (r 1))).setCell ⟨bz, 3, none⟩ (.int .i64 (r 2))).setCell ⟨bz, 4, none⟩ (.int .i64 (r 3))).setCell ⟨bz, 5, none⟩ (.int .i64 (r 4))).setCell ⟨bz, 6, none⟩ (.int .i64 (r 5))).setCell ⟨bz, 7, none⟩ (.int .i64 (r 6))).setCell ⟨bz, 8, none⟩ (.int .i64 (r 7))).setCell ⟨bz, 9, none⟩ (.slice A n cp)).setCell ⟨bz, 10, none⟩ (.int .i64 (st))).setCell ⟨bz, 11, none⟩ (.int .i64 (tr))) := (Touch.setCell (Touch.setCell (Touch.setCell (Touch.setCell (Touch.setCell (Touch.setCell (Touch.setCell (Touch.setCell (Touch.setCell (Touch.setCell (Touch.setCell (Touch.setCell (Touch.refl (fun y => y = bz) wd) (p := ⟨bz, 0, none⟩) rfl (.int .i64 (p + 1))) (p := ⟨bz, 1, none⟩) rfl (.int .i64 (r 0))) (p := ⟨bz, 2, none⟩) rfl (.int .i64 (r 1))) (p := ⟨bz, 3, none⟩) rfl (.int .i64 (r 2))) (p := ⟨bz, 4, none⟩) rfl (.int .i64 (r 3))) (p := ⟨bz, 5, none⟩) rfl (.int .i64 (r 4))) (p := ⟨bz, 6, none⟩) rfl (.int .i64 (r 5))) (p := ⟨bz, 7, none⟩) rfl (.int .i64 (r 6))) (p := ⟨bz, 8, none⟩) rfl (.int .i64 (r 7))) (p := ⟨bz, 9, none⟩) rfl (.slice A n cp)) (p := ⟨bz, 10, none⟩) rfl (.int .i64 (st))) (p := ⟨bz, 11, none⟩) rfl (.int .i64 (tr)))
  have hZ5 : Row ((((((((((((wd.setCell ⟨bz, 0, none⟩ (.int .i64 (p + 1))).setCell ⟨bz, 1, none⟩ (.int .i64 (r 0))).setCell ⟨bz, 2, none⟩ (.int .i64 (r 1))).setCell ⟨bz, 3, none⟩ (.int .i64 (r 2))).setCell ⟨bz, 4, none⟩ (.int .i64 (r 3))).setCell ⟨bz, 5, none⟩ (.int .i64 (r 4))).setCell ⟨bz, 6, none⟩ (.int .i64 (r 5))).setCell ⟨bz, 7, none⟩ (.int .i64 (r 6))).setCell ⟨bz, 8, none⟩ (.int .i64 (r 7))).setCell ⟨bz, 9, none⟩ (.slice A n cp)).setCell ⟨bz, 10, none⟩ (.int .i64 (st))).setCell ⟨bz, 11, none⟩ (.int .i64 (tr))) bz [.int .i64 (p + 1), .int .i64 (r 0), .int .i64 (r 1), .int .i64 (r 2), .int .i64 (r 3), .int .i64 (r 4), .int .i64 (r 5), .int .i64 (r 6), .int .i64 (r 7), .slice A n cp, .int .i64 (st), .int .i64 (tr)] := (Row.set (Row.set (Row.set (Row.set (Row.set (Row.set (Row.set (Row.set (Row.set (Row.set (Row.set (Row.set hZ2.out 0 (by simp) (.int .i64 (p + 1))) 1 (by simp) (.int .i64 (r 0))) 2 (by simp) (.int .i64 (r 1))) 3 (by simp) (.int .i64 (r 2))) 4 (by simp) (.int .i64 (r 3))) 5 (by simp) (.int .i64 (r 4))) 6 (by simp) (.int .i64 (r 5))) 7 (by simp) (.int .i64 (r 6))) 8 (by simp) (.int .i64 (r 7))) 9 (by simp) (.slice A n cp)) 10 (by simp) (.int .i64 (st))) 11 (by simp) (.int .i64 (tr)))
  have hE5 := hE2.out.later hT5.2 (by omega)
  have hb5 := hb2.out.trans (hT5.below hb2.out.size (fun y hy e => by have := hbm'.out; omega))
  refine hK _ _ (hT5.mono (G := Fz) (fun y _ e => (hFz y).2 (.inl e))).2 ?_
  clear hK K z0 z1 z2 z3 z4 z5 z6 z7 z8 z9 z10 z11 t0 t1 t2 t3 t4 t5 t6 t7 t8 t9 t10 t11 hT5
  generalize ((((((((((((wd.setCell ⟨bz, 0, none⟩ (.int .i64 (p + 1))).setCell ⟨bz, 1, none⟩ (.int .i64 (r 0))).setCell ⟨bz, 2, none⟩ (.int .i64 (r 1))).setCell ⟨bz, 3, none⟩ (.int .i64 (r 2))).setCell ⟨bz, 4, none⟩ (.int .i64 (r 3))).setCell ⟨bz, 5, none⟩ (.int .i64 (r 4))).setCell ⟨bz, 6, none⟩ (.int .i64 (r 5))).setCell ⟨bz, 7, none⟩ (.int .i64 (r 6))).setCell ⟨bz, 8, none⟩ (.int .i64 (r 7))).setCell ⟨bz, 9, none⟩ (.slice A n cp)).setCell ⟨bz, 10, none⟩ (.int .i64 (st))).setCell ⟨bz, 11, none⟩ (.int .i64 (tr))) = we at *
  have q0 := hE5.c 0 _ rfl
  have q1 := hE5.c 1 _ rfl
  have s0 := hE5.z 0
  have s1 := hE5.z 1
  try simp only [Act.put, List.setIfInBounds_toArray, List.set_cons_zero, List.set_cons_succ]
  repeat
    (first
      | (show wpPlan _ _ _ _ ((true, _) :: _) _ _
         refine plan_skip rfl (by rfl) ?_
         simp only [Act.put, List.setIfInBounds_toArray, List.set_cons_zero, List.set_cons_succ])
      | (show wpPlan _ _ _ _ ((false, _) :: _) _ _
         refine plan_skip_eff (later_refl _) rfl (by rfl) ?_
         simp only [Act.put, List.setIfInBounds_toArray, List.set_cons_zero, List.set_cons_succ])
      | (show wpPlan _ _ _ _ ((true, _) :: _) _ _
         refine plan_take (v := ?_) rfl (by rfl) (fun w' hw' => ?_) ?_
         rotate_left
         focus
           go_simp
           try with_reducible rfl
           done
         simp only [Act.put, List.setIfInBounds_toArray, List.set_cons_zero, List.set_cons_succ]))
  refine plan_eff rfl (by rfl) (fun K hK => ?_)
  go_wp2_with fail
  have hT6 : Touch (fun y => y = be) we ((we.setCell ⟨be, 0, none⟩ (.int .i64 (1))).setCell ⟨be, 1, none⟩ (.int .i64 ((a : Nat)))) := ((Touch.refl (fun y => y = be) we).setCell (p := ⟨be, 0, none⟩) rfl _).setCell (p := ⟨be, 1, none⟩) rfl _
  have hE6 : Row ((we.setCell ⟨be, 0, none⟩ (.int .i64 (1))).setCell ⟨be, 1, none⟩ (.int .i64 ((a : Nat)))) be [.int .i64 (1), .int .i64 ((a : Nat))] := (hE5.set 0 (by simp) (.int .i64 (1))).set 1 (by simp) (.int .i64 ((a : Nat)))
  have hZ6 := hide (hZ5.later hT6.2 (by omega))
  have hb6 := hb5.trans (hT6.below hb5.size (fun y hy e => by have := hbm'.out; omega))
  refine hK _ _ (hT6.mono (G := Fz) (fun y _ e => (hFz y).2 (.inr e))).2 ?_
  clear hK K hT6 hZ5 hE5 hb5 q0 q1 s0 s1
  generalize (we.setCell ⟨be, 0, none⟩ (.int .i64 (1))).setCell ⟨be, 1, none⟩ (.int .i64 ((a : Nat))) = wf at *
  try simp only [Act.put, List.setIfInBounds_toArray, List.set_cons_zero, List.set_cons_succ]
  repeat
    (first
      | (show wpPlan _ _ _ _ ((true, _) :: _) _ _
         refine plan_skip rfl (by rfl) ?_
         simp only [Act.put, List.setIfInBounds_toArray, List.set_cons_zero, List.set_cons_succ])
      | (show wpPlan _ _ _ _ ((false, _) :: _) _ _
         refine plan_skip_eff (later_refl _) rfl (by rfl) ?_
         simp only [Act.put, List.setIfInBounds_toArray, List.set_cons_zero, List.set_cons_succ])
      | (show wpPlan _ _ _ _ ((true, _) :: _) _ _
         refine plan_take (v := ?_) rfl (by rfl) (fun w' hw' => ?_) ?_
         rotate_left
         focus
           go_simp
           try with_reducible rfl
           done
         simp only [Act.put, List.setIfInBounds_toArray, List.set_cons_zero, List.set_cons_succ]))
  refine plan_nil ?_
  go_wp2_with fail
  have z0 := hZ6.out.c 0 _ rfl
  have z1 := hZ6.out.c 1 _ rfl
  have z2 := hZ6.out.c 2 _ rfl
  have z3 := hZ6.out.c 3 _ rfl
  have z4 := hZ6.out.c 4 _ rfl
  have z5 := hZ6.out.c 5 _ rfl
  have z6 := hZ6.out.c 6 _ rfl
  have z7 := hZ6.out.c 7 _ rfl
  have z8 := hZ6.out.c 8 _ rfl
  have z9 := hZ6.out.c 9 _ rfl
  have z10 := hZ6.out.c 10 _ rfl
  have z11 := hZ6.out.c 11 _ rfl
  have q0 := hE6.c 0 _ rfl
  have q1 := hE6.c 1 _ rfl
  refine bodyPost_ret (v := .tuple #[.agg #[.int .i64 (p + 1), .int .i64 (r 0), .int .i64 (r 1), .int .i64 (r 2), .int .i64 (r 3), .int .i64 (r 4), .int .i64 (r 5), .int .i64 (r 6), .int .i64 (r 7), .slice A n cp, .int .i64 (st), .int .i64 (tr)], .agg #[.int .i64 (1), .int .i64 ((a : Nat))]]) (by simp [results, Try.results22, go_sem, z0, z1, z2, z3, z4, z5, z6, z7, z8, z9, z10, z11, q0, q1]) rfl ?_
  exact ⟨rfl, hb6⟩
end Go.Proofs.Ytmgcbiejnifhpaa
