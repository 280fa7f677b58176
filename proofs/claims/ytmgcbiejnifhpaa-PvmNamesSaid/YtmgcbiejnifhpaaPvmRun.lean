/- pvm's Run walked where the first step is an event. -/
import Derived.Test.YtmgcbiejnifhpaaPvmStep
namespace Go.Proofs.Ytmgcbiejnifhpaa
open Go.RowKit
set_option maxRecDepth 100000 in
set_option maxHeartbeats 4000000 in
theorem run_first (lv : Value) (l : List Ins) (p : Int) (r : Nat → Int) (mem : List Int) (hm : mem.length ≤ 1000000) (A : Option Addr) (n cp : Nat) (hn : n = mem.length) (tr : Int) (w : World) (h : Inss w lv l) (hmem : Sl w 1 (.slice A n cp) n (i64V mem))
    (p' : Int) (r' : Nat → Int) (st' tr' k1 k2 : Int) (hk1 : (k1 == 0) = false) (lim : Int) (hlim : decide (0 < lim) = true)
    (hs : ∀ (A : Option Addr) (cp : Nat) (w : World), Inss w lv l → Sl w 1 (.slice A n cp) n (i64V mem) → Calls Try.prog 13 #[lv, .agg #[.int .i64 p, .int .i64 (r 0), .int .i64 (r 1), .int .i64 (r 2), .int .i64 (r 3), .int .i64 (r 4), .int .i64 (r 5), .int .i64 (r 6), .int .i64 (r 7), .slice A n cp, .int .i64 0, .int .i64 tr]] w fun e w' => ∃ A' cp', e = .returned (.tuple #[.agg #[.int .i64 p', .int .i64 (r' 0), .int .i64 (r' 1), .int .i64 (r' 2), .int .i64 (r' 3), .int .i64 (r' 4), .int .i64 (r' 5), .int .i64 (r' 6), .int .i64 (r' 7), .slice A' n cp', .int .i64 st', .int .i64 tr'], .agg #[.int .i64 k1, .int .i64 k2]]) ∧ Sl w' 1 (.slice A' n cp') n (i64V mem) ∧ Below w.heap.size w w') :
    Calls Try.prog 19 #[lv, .agg #[.int .i64 p, .int .i64 (r 0), .int .i64 (r 1), .int .i64 (r 2), .int .i64 (r 3), .int .i64 (r 4), .int .i64 (r 5), .int .i64 (r 6), .int .i64 (r 7), .slice A n cp, .int .i64 0, .int .i64 tr], .int .i64 lim] w fun e w' => ∃ A' cp', e = .returned (.tuple #[.agg #[.int .i64 p', .int .i64 (r' 0), .int .i64 (r' 1), .int .i64 (r' 2), .int .i64 (r' 3), .int .i64 (r' 4), .int .i64 (r' 5), .int .i64 (r' 6), .int .i64 (r' 7), .slice A' n cp', .int .i64 st', .int .i64 tr'], .agg #[.int .i64 k1, .int .i64 k2], .int .i64 1]) ∧ Below w.heap.size w w' := by
  have h' := hide h
  have hs' := hide hs
  have hmem' := hide hmem
  have hn' := hide hn
  have hnl : n ≤ 1000000 := by rw [hn]; exact hm
  clear h hs hmem hn
  go_enter Try.func19, Try.ntmps19
  go_upto_region 1 with (fail)
  have hM1 := Row.new w 27 [.int .i64 (p), .int .i64 (r 0), .int .i64 (r 1), .int .i64 (r 2), .int .i64 (r 3), .int .i64 (r 4), .int .i64 (r 5), .int .i64 (r 6), .int .i64 (r 7), .slice A n cp, .int .i64 (0), .int .i64 tr]
  have hbA : Below w.heap.size w (w.alloc (.cells #[.int .i64 (p), .int .i64 (r 0), .int .i64 (r 1), .int .i64 (r 2), .int .i64 (r 3), .int .i64 (r 4), .int .i64 (r 5), .int .i64 (r 6), .int .i64 (r 7), .slice A n cp, .int .i64 (0), .int .i64 tr] 27)) := (Below.refl _ _).alloc (Nat.le_refl _) _
  have hsA : (w.alloc (.cells #[.int .i64 (p), .int .i64 (r 0), .int .i64 (r 1), .int .i64 (r 2), .int .i64 (r 3), .int .i64 (r 4), .int .i64 (r 5), .int .i64 (r 6), .int .i64 (r 7), .slice A n cp, .int .i64 (0), .int .i64 tr] 27)).heap.size = w.heap.size + 1 := by simp
  generalize w.alloc (.cells #[.int .i64 (p), .int .i64 (r 0), .int .i64 (r 1), .int .i64 (r 2), .int .i64 (r 3), .int .i64 (r 4), .int .i64 (r 5), .int .i64 (r 6), .int .i64 (r 7), .slice A n cp, .int .i64 (0), .int .i64 tr] 27) = wa at *
  have hZ1 := Row.new wa 27 [.int .i64 0, .int .i64 0, .int .i64 0, .int .i64 0, .int .i64 0, .int .i64 0, .int .i64 0, .int .i64 0, .int .i64 0, .slice none 0 0, .int .i64 0, .int .i64 0]
  have hbB : Below wa.heap.size wa (wa.alloc (.cells #[.int .i64 0, .int .i64 0, .int .i64 0, .int .i64 0, .int .i64 0, .int .i64 0, .int .i64 0, .int .i64 0, .int .i64 0, .slice none 0 0, .int .i64 0, .int .i64 0] 27)) := (Below.refl _ _).alloc (Nat.le_refl _) _
  have hsB : (wa.alloc (.cells #[.int .i64 0, .int .i64 0, .int .i64 0, .int .i64 0, .int .i64 0, .int .i64 0, .int .i64 0, .int .i64 0, .int .i64 0, .slice none 0 0, .int .i64 0, .int .i64 0] 27)).heap.size = wa.heap.size + 1 := by simp
  have hM2 := hM1.below hbB
  generalize wa.alloc (.cells #[.int .i64 0, .int .i64 0, .int .i64 0, .int .i64 0, .int .i64 0, .int .i64 0, .int .i64 0, .int .i64 0, .int .i64 0, .slice none 0 0, .int .i64 0, .int .i64 0] 27) = wb at *
  have hE1 := Row.new wb 38 [.int .i64 0, .int .i64 0]
  have hbC : Below wb.heap.size wb (wb.alloc (.cells #[.int .i64 0, .int .i64 0] 38)) := (Below.refl _ _).alloc (Nat.le_refl _) _
  have hM3 := hM2.below hbC
  have hZ3 := hZ1.below hbC
  generalize wb.alloc (.cells #[.int .i64 0, .int .i64 0] 38) = wc at *
  obtain ⟨bm, hbm⟩ : ∃ bm, bm = w.heap.size := ⟨_, rfl⟩
  rw [show wa.heap.size = bm + 1 by omega] at hZ3
  rw [show wb.heap.size = bm + 2 by omega] at hE1
  have hb' := hide ((hbA.trans (hbB.mono hbA.size)).trans (hbC.mono (Nat.le_trans hbA.size hbB.size)))
  rw [← hbm] at hM3 ⊢
  have hM' := hide hM3
  have hZ' := hide hZ3
  have hE' := hide hE1
  have hbm' := hide hbm
  have hcl := hE1.lt
  obtain ⟨be, hbe⟩ : ∃ be, be = bm + 1 + 1 := ⟨_, rfl⟩
  obtain ⟨bz, hbz⟩ : ∃ bz, bz = bm + 1 := ⟨_, rfl⟩
  rw [show bm + 2 = be by omega] at hE'
  rw [← hbz] at hZ'
  rw [← hbe]
  rw [← hbz]
  have hlt1 : bm < bz := by omega
  have hlt2 : bz < be := by omega
  have hcl2 : be < wc.heap.size := by omega
  clear hM1 hbA hsA hZ1 hbB hsB hM2 hE1 hbC hM3 hZ3 hbm hbe hbz
  have x9 := hM'.out.c 9 _ rfl
  have t9 := hM'.out.z 9
  have hmem2 := hide (Sl.below hmem'.out hb'.out)
  have hwb := hide hb'.out.size
  go_wp2_with ((at_builtin; refine list_app_any elem_i64s rfl (.const (.slice none 0 0)) (.tmp 13) rfl wc.heap.size (.slice none 0 0) 0 [] rfl (World.ownsRow_nil _ _ _ _) (.slice A n cp) n (i64V mem) rfl hmem2.out (i64V_one _) (by simp only [maxLen]; omega) (by omega) (Nat.le_refl _) ?_))
  intro v5 w5 hv hg hat
  have hb35 : Below wc.heap.size wc w5 := (Below.refl _ _).grown hg (Nat.le_refl _) (by simp [Value.ownBlock])
  obtain ⟨A8, c8, rfl, _⟩ := Sl.own hv
  have hvl := hide (show ∀ y, (Value.slice A8 n c8).ownBlock = some y → wc.heap.size ≤ y from fun y hy => (World.ownsRow.lt hv y hy).1)
  have hvs := hide (Sl.own hv)
  have hM3 := hide (hM'.out.below hb35)
  have hZ3 := hide (hZ'.out.below hb35)
  have hE3 := hide (hE'.out.below hb35)
  have hb3 := hide (hb'.out.trans (hb35.mono hb'.out.size))
  have hs35 := hb35.size
  clear hv hg hat hb35 hM' hZ' hE' hb' hmem2 x9 t9
  have x9 := hM3.out.c 9 _ rfl
  have t9 := hM3.out.z 9
  go_upto_region 2 with (fail)
  have hT4 : Touch (fun y => y = bm) w5 (w5.setCell ⟨bm, 9, none⟩ (.slice A8 n c8)) := (Touch.refl (fun y => y = bm) w5).setCell (p := ⟨bm, 9, none⟩) rfl _
  have hM4 := hide (show Row (w5.setCell ⟨bm, 9, none⟩ (.slice A8 n c8)) bm [.int .i64 p, .int .i64 (r 0), .int .i64 (r 1), .int .i64 (r 2), .int .i64 (r 3), .int .i64 (r 4), .int .i64 (r 5), .int .i64 (r 6), .int .i64 (r 7), .slice A8 n c8, .int .i64 0, .int .i64 tr] from hM3.out.set 9 (by simp) (.slice A8 n c8))
  have hZ4 := hide (hZ3.out.later hT4.2 (by omega))
  have hE4 := hide (hE3.out.later hT4.2 (by omega))
  have hvs4 := hide (Sl.kept0P hvs.out hT4.2.1 (fun _ y hy hlt => hT4.2.2 y hlt (fun e => by have := hvl.out y hy; omega)))
  have hb4 := hide (hb3.out.trans (hT4.below hb3.out.size (fun y hy e => by have := hbm'.out; omega)))
  clear hT4 hM3 hZ3 hE3 hvs hb3 x9 t9
  generalize w5.setCell ⟨bm, 9, none⟩ (.slice A8 n c8) = w6 at *
  go_wp2_with fail
  go_loopw [9] (fun i wr => i = .int .i64 0 ∧ wr = w6) (fun _ _ => 0)
  case atStart => exact ⟨rfl, rfl⟩
  case round =>
    obtain ⟨rfl, rfl⟩ := hrel
    have x0 := hM4.out.c 0 _ rfl
    have x1 := hM4.out.c 1 _ rfl
    have x2 := hM4.out.c 2 _ rfl
    have x3 := hM4.out.c 3 _ rfl
    have x4 := hM4.out.c 4 _ rfl
    have x5 := hM4.out.c 5 _ rfl
    have x6 := hM4.out.c 6 _ rfl
    have x7 := hM4.out.c 7 _ rfl
    have x8 := hM4.out.c 8 _ rfl
    have x9 := hM4.out.c 9 _ rfl
    have x10 := hM4.out.c 10 _ rfl
    have x11 := hM4.out.c 11 _ rfl
    go_wp2_with fail
    refine (hs'.out A8 c8 wr (Sl.below h'.out hb4.out) hvs4.out).mono ?_
    rintro e w7 ⟨A9, c9, rfl, hsl, hb⟩
    have hM5 := hide (hM4.out.below hb)
    have hZ5 := hide (hZ4.out.below hb)
    have hE5 := hide (hE4.out.below hb)
    have hb5 := hide (hb4.out.trans (hb.mono hb4.out.size))
    have hcl7 := hide hE4.out.lt
    have hs7 := hb.size
    clear x0 x1 x2 x3 x4 x5 x6 x7 x8 x9 x10 x11 hsl hb hM4 hZ4 hE4 hb4
    go_upto_region 8 with (fail)
    have hT8 := Row.new w7 27 [.int .i64 p', .int .i64 (r' 0), .int .i64 (r' 1), .int .i64 (r' 2), .int .i64 (r' 3), .int .i64 (r' 4), .int .i64 (r' 5), .int .i64 (r' 6), .int .i64 (r' 7), .slice A9 n c9, .int .i64 st', .int .i64 tr']
    have hbT : Below w7.heap.size w7 (w7.alloc (.cells #[.int .i64 p', .int .i64 (r' 0), .int .i64 (r' 1), .int .i64 (r' 2), .int .i64 (r' 3), .int .i64 (r' 4), .int .i64 (r' 5), .int .i64 (r' 6), .int .i64 (r' 7), .slice A9 n c9, .int .i64 st', .int .i64 tr'] 27)) := (Below.refl _ _).alloc (Nat.le_refl _) _
    have hsT : (w7.alloc (.cells #[.int .i64 p', .int .i64 (r' 0), .int .i64 (r' 1), .int .i64 (r' 2), .int .i64 (r' 3), .int .i64 (r' 4), .int .i64 (r' 5), .int .i64 (r' 6), .int .i64 (r' 7), .slice A9 n c9, .int .i64 st', .int .i64 tr'] 27)).heap.size = w7.heap.size + 1 := by simp
    generalize w7.alloc (.cells #[.int .i64 p', .int .i64 (r' 0), .int .i64 (r' 1), .int .i64 (r' 2), .int .i64 (r' 3), .int .i64 (r' 4), .int .i64 (r' 5), .int .i64 (r' 6), .int .i64 (r' 7), .slice A9 n c9, .int .i64 st', .int .i64 tr'] 27) = w8 at *
    have hV9 := Row.new w8 38 [.int .i64 k1, .int .i64 k2]
    have hbV : Below w8.heap.size w8 (w8.alloc (.cells #[.int .i64 k1, .int .i64 k2] 38)) := (Below.refl _ _).alloc (Nat.le_refl _) _
    have hT9 := hide (hT8.below hbV)
    have hbb := hbT.trans (hbV.mono hbT.size)
    have hM9 := hide (hM5.out.below hbb)
    have hZ9 := hide (hZ5.out.below hbb)
    have hE9 := hide (hE5.out.below hbb)
    have hb9 := hide (hb5.out.trans (hbb.mono hb5.out.size))
    generalize w8.alloc (.cells #[.int .i64 k1, .int .i64 k2] 38) = w9 at *
    obtain ⟨bt, hbt⟩ : ∃ bt, bt = w7.heap.size := ⟨_, rfl⟩
    obtain ⟨bv, hbv⟩ : ∃ bv, bv = bt + 1 := ⟨_, rfl⟩
    rw [hsT, ← hbt, ← hbv] at hV9
    rw [← hbt]
    rw [← hbv]
    have hbeb : be < bt := by have := hcl7.out; omega
    have hbtv : bt < bv := by omega
    have hV9' := hide hV9
    clear hT8 hbT hsT hV9 hbV hbb hM5 hZ5 hE5 hb5
    rw [← hbt] at hT9
    clear hbt hbv
    have y0 := hT9.out.c 0 _ rfl
    have y1 := hT9.out.c 1 _ rfl
    have y2 := hT9.out.c 2 _ rfl
    have y3 := hT9.out.c 3 _ rfl
    have y4 := hT9.out.c 4 _ rfl
    have y5 := hT9.out.c 5 _ rfl
    have y6 := hT9.out.c 6 _ rfl
    have y7 := hT9.out.c 7 _ rfl
    have y8 := hT9.out.c 8 _ rfl
    have y9 := hT9.out.c 9 _ rfl
    have y10 := hT9.out.c 10 _ rfl
    have y11 := hT9.out.c 11 _ rfl
    have x0 := hM9.out.c 0 _ rfl
    have x1 := hM9.out.c 1 _ rfl
    have x2 := hM9.out.c 2 _ rfl
    have x3 := hM9.out.c 3 _ rfl
    have x4 := hM9.out.c 4 _ rfl
    have x5 := hM9.out.c 5 _ rfl
    have x6 := hM9.out.c 6 _ rfl
    have x7 := hM9.out.c 7 _ rfl
    have x8 := hM9.out.c 8 _ rfl
    have x9 := hM9.out.c 9 _ rfl
    have x10 := hM9.out.c 10 _ rfl
    have x11 := hM9.out.c 11 _ rfl
    have t0 := hM9.out.z 0
    have t1 := hM9.out.z 1
    have t2 := hM9.out.z 2
    have t3 := hM9.out.z 3
    have t4 := hM9.out.z 4
    have t5 := hM9.out.z 5
    have t6 := hM9.out.z 6
    have t7 := hM9.out.z 7
    have t8 := hM9.out.z 8
    have t9 := hM9.out.z 9
    have t10 := hM9.out.z 10
    have t11 := hM9.out.z 11
    go_upto_region 9 with (fail)
    have hT10 : Touch (fun y => y = bm) w9 ((((((((((((w9.setCell ⟨bm, 0, none⟩ (.int .i64 p')).setCell ⟨bm, 1, none⟩ (.int .i64 (r' 0))).setCell ⟨bm, 2, none⟩ (.int .i64 (r' 1))).setCell ⟨bm, 3, none⟩ (.int .i64 (r' 2))).setCell ⟨bm, 4, none⟩ (.int .i64 (r' 3))).setCell ⟨bm, 5, none⟩ (.int .i64 (r' 4))).setCell ⟨bm, 6, none⟩ (.int .i64 (r' 5))).setCell ⟨bm, 7, none⟩ (.int .i64 (r' 6))).setCell ⟨bm, 8, none⟩ (.int .i64 (r' 7))).setCell ⟨bm, 9, none⟩ (.slice A9 n c9)).setCell ⟨bm, 10, none⟩ (.int .i64 st')).setCell ⟨bm, 11, none⟩ (.int .i64 tr')) := (Touch.setCell (Touch.setCell (Touch.setCell (Touch.setCell (Touch.setCell (Touch.setCell (Touch.setCell (Touch.setCell (Touch.setCell (Touch.setCell (Touch.setCell (Touch.setCell (Touch.refl (fun y => y = bm) w9) (p := ⟨bm, 0, none⟩) rfl (.int .i64 p')) (p := ⟨bm, 1, none⟩) rfl (.int .i64 (r' 0))) (p := ⟨bm, 2, none⟩) rfl (.int .i64 (r' 1))) (p := ⟨bm, 3, none⟩) rfl (.int .i64 (r' 2))) (p := ⟨bm, 4, none⟩) rfl (.int .i64 (r' 3))) (p := ⟨bm, 5, none⟩) rfl (.int .i64 (r' 4))) (p := ⟨bm, 6, none⟩) rfl (.int .i64 (r' 5))) (p := ⟨bm, 7, none⟩) rfl (.int .i64 (r' 6))) (p := ⟨bm, 8, none⟩) rfl (.int .i64 (r' 7))) (p := ⟨bm, 9, none⟩) rfl (.slice A9 n c9)) (p := ⟨bm, 10, none⟩) rfl (.int .i64 st')) (p := ⟨bm, 11, none⟩) rfl (.int .i64 tr'))
    have hM10 := hide (show Row ((((((((((((w9.setCell ⟨bm, 0, none⟩ (.int .i64 p')).setCell ⟨bm, 1, none⟩ (.int .i64 (r' 0))).setCell ⟨bm, 2, none⟩ (.int .i64 (r' 1))).setCell ⟨bm, 3, none⟩ (.int .i64 (r' 2))).setCell ⟨bm, 4, none⟩ (.int .i64 (r' 3))).setCell ⟨bm, 5, none⟩ (.int .i64 (r' 4))).setCell ⟨bm, 6, none⟩ (.int .i64 (r' 5))).setCell ⟨bm, 7, none⟩ (.int .i64 (r' 6))).setCell ⟨bm, 8, none⟩ (.int .i64 (r' 7))).setCell ⟨bm, 9, none⟩ (.slice A9 n c9)).setCell ⟨bm, 10, none⟩ (.int .i64 st')).setCell ⟨bm, 11, none⟩ (.int .i64 tr')) bm [.int .i64 p', .int .i64 (r' 0), .int .i64 (r' 1), .int .i64 (r' 2), .int .i64 (r' 3), .int .i64 (r' 4), .int .i64 (r' 5), .int .i64 (r' 6), .int .i64 (r' 7), .slice A9 n c9, .int .i64 st', .int .i64 tr'] from (Row.set (Row.set (Row.set (Row.set (Row.set (Row.set (Row.set (Row.set (Row.set (Row.set (Row.set (Row.set hM9.out 0 (by simp) (.int .i64 p')) 1 (by simp) (.int .i64 (r' 0))) 2 (by simp) (.int .i64 (r' 1))) 3 (by simp) (.int .i64 (r' 2))) 4 (by simp) (.int .i64 (r' 3))) 5 (by simp) (.int .i64 (r' 4))) 6 (by simp) (.int .i64 (r' 5))) 7 (by simp) (.int .i64 (r' 6))) 8 (by simp) (.int .i64 (r' 7))) 9 (by simp) (.slice A9 n c9)) 10 (by simp) (.int .i64 st')) 11 (by simp) (.int .i64 tr')))
    have hZ10 := hide (hZ9.out.later hT10.2 (by omega))
    have hE10 := hide (hE9.out.later hT10.2 (by omega))
    have hV10 := hide (hV9'.out.later hT10.2 (by omega))
    have hb10 := hide (hb9.out.trans (hT10.below hb9.out.size (fun y hy e => by have := hbm'.out; omega)))
    clear x0 x1 x2 x3 x4 x5 x6 x7 x8 x9 x10 x11 y0 y1 y2 y3 y4 y5 y6 y7 y8 y9 y10 y11 t0 t1 t2 t3 t4 t5 t6 t7 t8 t9 t10 t11 hT9 hM9 hZ9 hE9 hb9 hV9' hT10
    generalize ((((((((((((w9.setCell ⟨bm, 0, none⟩ (.int .i64 p')).setCell ⟨bm, 1, none⟩ (.int .i64 (r' 0))).setCell ⟨bm, 2, none⟩ (.int .i64 (r' 1))).setCell ⟨bm, 3, none⟩ (.int .i64 (r' 2))).setCell ⟨bm, 4, none⟩ (.int .i64 (r' 3))).setCell ⟨bm, 5, none⟩ (.int .i64 (r' 4))).setCell ⟨bm, 6, none⟩ (.int .i64 (r' 5))).setCell ⟨bm, 7, none⟩ (.int .i64 (r' 6))).setCell ⟨bm, 8, none⟩ (.int .i64 (r' 7))).setCell ⟨bm, 9, none⟩ (.slice A9 n c9)).setCell ⟨bm, 10, none⟩ (.int .i64 st')).setCell ⟨bm, 11, none⟩ (.int .i64 tr')) = wx at *
    have v0 := hV10.out.c 0 _ rfl
    have hk2 : (k1 != 0) = true := by simp [bne, hk1]
    go_upto_region 10 with (fail)
    clear v0
    obtain ⟨Fz, hFz⟩ : ∃ Fz : Nat → Prop, ∀ y, Fz y ↔ (y = bz ∨ y = be) := ⟨_, fun _ => Iff.rfl⟩
    have f := fun w' (hl : Later Fz wx.drew w') => hM10.out.later (later_trans _ _ _ _ (later_drew (F := Fz) wx) hl) (fun h => by have := (hFz bm).1 h; omega)
    have f0 := fun w' hl => (f w' hl).c 0 _ rfl
    have f1 := fun w' hl => (f w' hl).c 1 _ rfl
    have f2 := fun w' hl => (f w' hl).c 2 _ rfl
    have f3 := fun w' hl => (f w' hl).c 3 _ rfl
    have f4 := fun w' hl => (f w' hl).c 4 _ rfl
    have f5 := fun w' hl => (f w' hl).c 5 _ rfl
    have f6 := fun w' hl => (f w' hl).c 6 _ rfl
    have f7 := fun w' hl => (f w' hl).c 7 _ rfl
    have f8 := fun w' hl => (f w' hl).c 8 _ rfl
    have f9 := fun w' hl => (f w' hl).c 9 _ rfl
    have f10 := fun w' hl => (f w' hl).c 10 _ rfl
    have f11 := fun w' hl => (f w' hl).c 11 _ rfl
    clear f
    have fv := fun w' (hl : Later Fz wx.drew w') => hV10.out.later (later_trans _ _ _ _ (later_drew (F := Fz) wx) hl) (fun h => by have := (hFz bv).1 h; omega)
    have g0 := fun w' hl => (fv w' hl).c 0 _ rfl
    have g1 := fun w' hl => (fv w' hl).c 1 _ rfl
    have hqd : Below wx.heap.size wx wx.drew := (Below.refl _ _).drew
    have hZ2 := hide (hZ10.out.below hqd)
    have hE2 := hide (hE10.out.below hqd)
    have hb2 := hide (hb10.out.trans (hqd.mono hb10.out.size))
    clear hqd fv hM10 hZ10 hE10 hb10 hV10
    refine region_plan [(true, 0), (true, 1), (true, 2), (true, 3), (false, 4), (false, 5), (true, 6)] (Later Fz) (later_refl _) (later_trans _) (by kernel_rfl) (by kernel_rfl) (fun _ _ d _ _ h => by cases d <;> exact h) ?_
    repeat
      (first
        | (show wpPlan _ _ _ _ ((true, _) :: _) _ _
           refine plan_skip rfl (by rfl) ?_
           simp only [Act.put, List.setIfInBounds_toArray, List.set_cons_zero, List.set_cons_succ])
        | (show wpPlan _ _ _ _ ((false, _) :: _) _ _
           refine plan_skip_eff (later_refl _) rfl (by rfl) ?_
           simp only [Act.put, List.setIfInBounds_toArray, List.set_cons_zero, List.set_cons_succ])
        | (show wpPlan _ _ _ _ ((true, _) :: _) _ _
           refine plan_take (v := ?_) rfl (by rfl) (fun w' hw' => ?_) ?_
           rotate_left
           focus
             go_simp
             try with_reducible rfl
             done
           simp only [Act.put, List.setIfInBounds_toArray, List.set_cons_zero, List.set_cons_succ]))
    clear f0 f1 f2 f3 f4 f5 f6 f7 f8 f9 f10 f11 g0 g1
    generalize wx.drew = wd at *
    have z0 := hZ2.out.c 0 _ rfl
    have z1 := hZ2.out.c 1 _ rfl
    have z2 := hZ2.out.c 2 _ rfl
    have z3 := hZ2.out.c 3 _ rfl
    have z4 := hZ2.out.c 4 _ rfl
    have z5 := hZ2.out.c 5 _ rfl
    have z6 := hZ2.out.c 6 _ rfl
    have z7 := hZ2.out.c 7 _ rfl
    have z8 := hZ2.out.c 8 _ rfl
    have z9 := hZ2.out.c 9 _ rfl
    have z10 := hZ2.out.c 10 _ rfl
    have z11 := hZ2.out.c 11 _ rfl
    have t0 := hZ2.out.z 0
    have t1 := hZ2.out.z 1
    have t2 := hZ2.out.z 2
    have t3 := hZ2.out.z 3
    have t4 := hZ2.out.z 4
    have t5 := hZ2.out.z 5
    have t6 := hZ2.out.z 6
    have t7 := hZ2.out.z 7
    have t8 := hZ2.out.z 8
    have t9 := hZ2.out.z 9
    have t10 := hZ2.out.z 10
    have t11 := hZ2.out.z 11
    refine plan_eff rfl (by rfl) (fun K hK => ?_)
    go_wp2_with fail
    have hT5 : Touch (fun y => y = bz) wd ((((((((((((wd.setCell ⟨bz, 0, none⟩ (.int .i64 (p'))).setCell ⟨bz, 1, none⟩ (.int .i64 (r' 0))).setCell ⟨bz, 2, none⟩ (.int .i64 (r' 1))).setCell ⟨bz, 3, none⟩ (.int .i64 (r' 2))).setCell ⟨bz, 4, none⟩ (.int .i64 (r' 3))).setCell ⟨bz, 5, none⟩ (.int .i64 (r' 4))).setCell ⟨bz, 6, none⟩ (.int .i64 (r' 5))).setCell ⟨bz, 7, none⟩ (.int .i64 (r' 6))).setCell ⟨bz, 8, none⟩ (.int .i64 (r' 7))).setCell ⟨bz, 9, none⟩ (.slice A9 n c9)).setCell ⟨bz, 10, none⟩ (.int .i64 (st'))).setCell ⟨bz, 11, none⟩ (.int .i64 (tr'))) := (Touch.setCell (Touch.setCell (Touch.setCell (Touch.setCell (Touch.setCell (Touch.setCell (Touch.setCell (Touch.setCell (Touch.setCell (Touch.setCell (Touch.setCell (Touch.setCell (Touch.refl (fun y => y = bz) wd) (p := ⟨bz, 0, none⟩) rfl (.int .i64 (p'))) (p := ⟨bz, 1, none⟩) rfl (.int .i64 (r' 0))) (p := ⟨bz, 2, none⟩) rfl (.int .i64 (r' 1))) (p := ⟨bz, 3, none⟩) rfl (.int .i64 (r' 2))) (p := ⟨bz, 4, none⟩) rfl (.int .i64 (r' 3))) (p := ⟨bz, 5, none⟩) rfl (.int .i64 (r' 4))) (p := ⟨bz, 6, none⟩) rfl (.int .i64 (r' 5))) (p := ⟨bz, 7, none⟩) rfl (.int .i64 (r' 6))) (p := ⟨bz, 8, none⟩) rfl (.int .i64 (r' 7))) (p := ⟨bz, 9, none⟩) rfl (.slice A9 n c9)) (p := ⟨bz, 10, none⟩) rfl (.int .i64 (st'))) (p := ⟨bz, 11, none⟩) rfl (.int .i64 (tr')))
    have hZ5 : Row ((((((((((((wd.setCell ⟨bz, 0, none⟩ (.int .i64 (p'))).setCell ⟨bz, 1, none⟩ (.int .i64 (r' 0))).setCell ⟨bz, 2, none⟩ (.int .i64 (r' 1))).setCell ⟨bz, 3, none⟩ (.int .i64 (r' 2))).setCell ⟨bz, 4, none⟩ (.int .i64 (r' 3))).setCell ⟨bz, 5, none⟩ (.int .i64 (r' 4))).setCell ⟨bz, 6, none⟩ (.int .i64 (r' 5))).setCell ⟨bz, 7, none⟩ (.int .i64 (r' 6))).setCell ⟨bz, 8, none⟩ (.int .i64 (r' 7))).setCell ⟨bz, 9, none⟩ (.slice A9 n c9)).setCell ⟨bz, 10, none⟩ (.int .i64 (st'))).setCell ⟨bz, 11, none⟩ (.int .i64 (tr'))) bz [.int .i64 (p'), .int .i64 (r' 0), .int .i64 (r' 1), .int .i64 (r' 2), .int .i64 (r' 3), .int .i64 (r' 4), .int .i64 (r' 5), .int .i64 (r' 6), .int .i64 (r' 7), .slice A9 n c9, .int .i64 (st'), .int .i64 (tr')] := (Row.set (Row.set (Row.set (Row.set (Row.set (Row.set (Row.set (Row.set (Row.set (Row.set (Row.set (Row.set hZ2.out 0 (by simp) (.int .i64 (p'))) 1 (by simp) (.int .i64 (r' 0))) 2 (by simp) (.int .i64 (r' 1))) 3 (by simp) (.int .i64 (r' 2))) 4 (by simp) (.int .i64 (r' 3))) 5 (by simp) (.int .i64 (r' 4))) 6 (by simp) (.int .i64 (r' 5))) 7 (by simp) (.int .i64 (r' 6))) 8 (by simp) (.int .i64 (r' 7))) 9 (by simp) (.slice A9 n c9)) 10 (by simp) (.int .i64 (st'))) 11 (by simp) (.int .i64 (tr')))
    have hE5 := hE2.out.later hT5.2 (by omega)
    have hb5 := hb2.out.trans (hT5.below hb2.out.size (fun y hy e => by have := hbm'.out; omega))
    refine hK _ _ (hT5.mono (G := Fz) (fun y _ e => (hFz y).2 (.inl e))).2 ?_
    clear hK K z0 z1 z2 z3 z4 z5 z6 z7 z8 z9 z10 z11 t0 t1 t2 t3 t4 t5 t6 t7 t8 t9 t10 t11 hT5
    generalize ((((((((((((wd.setCell ⟨bz, 0, none⟩ (.int .i64 (p'))).setCell ⟨bz, 1, none⟩ (.int .i64 (r' 0))).setCell ⟨bz, 2, none⟩ (.int .i64 (r' 1))).setCell ⟨bz, 3, none⟩ (.int .i64 (r' 2))).setCell ⟨bz, 4, none⟩ (.int .i64 (r' 3))).setCell ⟨bz, 5, none⟩ (.int .i64 (r' 4))).setCell ⟨bz, 6, none⟩ (.int .i64 (r' 5))).setCell ⟨bz, 7, none⟩ (.int .i64 (r' 6))).setCell ⟨bz, 8, none⟩ (.int .i64 (r' 7))).setCell ⟨bz, 9, none⟩ (.slice A9 n c9)).setCell ⟨bz, 10, none⟩ (.int .i64 (st'))).setCell ⟨bz, 11, none⟩ (.int .i64 (tr'))) = we at *
    have q0 := hE5.c 0 _ rfl
    have q1 := hE5.c 1 _ rfl
    have s0 := hE5.z 0
    have s1 := hE5.z 1
    try simp only [Act.put, List.setIfInBounds_toArray, List.set_cons_zero, List.set_cons_succ]
    repeat
      (first
        | (show wpPlan _ _ _ _ ((true, _) :: _) _ _
           refine plan_skip rfl (by rfl) ?_
           simp only [Act.put, List.setIfInBounds_toArray, List.set_cons_zero, List.set_cons_succ])
        | (show wpPlan _ _ _ _ ((false, _) :: _) _ _
           refine plan_skip_eff (later_refl _) rfl (by rfl) ?_
           simp only [Act.put, List.setIfInBounds_toArray, List.set_cons_zero, List.set_cons_succ])
        | (show wpPlan _ _ _ _ ((true, _) :: _) _ _
           refine plan_take (v := ?_) rfl (by rfl) (fun w' hw' => ?_) ?_
           rotate_left
           focus
             go_simp
             try with_reducible rfl
             done
           simp only [Act.put, List.setIfInBounds_toArray, List.set_cons_zero, List.set_cons_succ]))
    refine plan_eff rfl (by rfl) (fun K hK => ?_)
    go_wp2_with fail
    have hT6 : Touch (fun y => y = be) we ((we.setCell ⟨be, 0, none⟩ (.int .i64 (k1))).setCell ⟨be, 1, none⟩ (.int .i64 (k2))) := ((Touch.refl (fun y => y = be) we).setCell (p := ⟨be, 0, none⟩) rfl _).setCell (p := ⟨be, 1, none⟩) rfl _
    have hE6 : Row ((we.setCell ⟨be, 0, none⟩ (.int .i64 (k1))).setCell ⟨be, 1, none⟩ (.int .i64 (k2))) be [.int .i64 (k1), .int .i64 (k2)] := (hE5.set 0 (by simp) (.int .i64 (k1))).set 1 (by simp) (.int .i64 (k2))
    have hZ6 := hide (hZ5.later hT6.2 (by omega))
    have hb6 := hb5.trans (hT6.below hb5.size (fun y hy e => by have := hbm'.out; omega))
    refine hK _ _ (hT6.mono (G := Fz) (fun y _ e => (hFz y).2 (.inr e))).2 ?_
    clear hK K hT6 hZ5 hE5 hb5 q0 q1 s0 s1
    generalize (we.setCell ⟨be, 0, none⟩ (.int .i64 (k1))).setCell ⟨be, 1, none⟩ (.int .i64 (k2)) = wf at *
    try simp only [Act.put, List.setIfInBounds_toArray, List.set_cons_zero, List.set_cons_succ]
    repeat
      (first
        | (show wpPlan _ _ _ _ ((true, _) :: _) _ _
           refine plan_skip rfl (by rfl) ?_
           simp only [Act.put, List.setIfInBounds_toArray, List.set_cons_zero, List.set_cons_succ])
        | (show wpPlan _ _ _ _ ((false, _) :: _) _ _
           refine plan_skip_eff (later_refl _) rfl (by rfl) ?_
           simp only [Act.put, List.setIfInBounds_toArray, List.set_cons_zero, List.set_cons_succ])
        | (show wpPlan _ _ _ _ ((true, _) :: _) _ _
           refine plan_take (v := ?_) rfl (by rfl) (fun w' hw' => ?_) ?_
           rotate_left
           focus
             go_simp
             try with_reducible rfl
             done
           simp only [Act.put, List.setIfInBounds_toArray, List.set_cons_zero, List.set_cons_succ]))
    refine plan_nil ?_
    go_wp2_with fail
    have z0 := hZ6.out.c 0 _ rfl
    have z1 := hZ6.out.c 1 _ rfl
    have z2 := hZ6.out.c 2 _ rfl
    have z3 := hZ6.out.c 3 _ rfl
    have z4 := hZ6.out.c 4 _ rfl
    have z5 := hZ6.out.c 5 _ rfl
    have z6 := hZ6.out.c 6 _ rfl
    have z7 := hZ6.out.c 7 _ rfl
    have z8 := hZ6.out.c 8 _ rfl
    have z9 := hZ6.out.c 9 _ rfl
    have z10 := hZ6.out.c 10 _ rfl
    have z11 := hZ6.out.c 11 _ rfl
    have q0 := hE6.c 0 _ rfl
    have q1 := hE6.c 1 _ rfl
    refine bodyPost_ret (v := .tuple #[.agg #[.int .i64 (p'), .int .i64 (r' 0), .int .i64 (r' 1), .int .i64 (r' 2), .int .i64 (r' 3), .int .i64 (r' 4), .int .i64 (r' 5), .int .i64 (r' 6), .int .i64 (r' 7), .slice A9 n c9, .int .i64 (st'), .int .i64 (tr')],   .agg #[.int .i64 (k1), .int .i64 (k2)], .int .i64 1]) (by simp [results, Try.results19, go_sem, z0, z1, z2, z3, z4, z5, z6, z7, z8, z9, z10, z11, q0, q1]; rfl) rfl ?_
    exact ⟨A9, c9, rfl, hb6⟩
end Go.Proofs.Ytmgcbiejnifhpaa
