/- The law ExtentPlays walked: more acts than count. -/
import Derived.Test.YtamkngpkplflcaaExtPlays0
namespace Go.Proofs.Ytamkngpkplflcaa
open Go.RowKit
set_option maxRecDepth 100000 in
set_option maxHeartbeats 40000000 in
theorem plays_gt (f c : Nat) (hc1 : 1 ≤ c) (hfc : f + c ≤ 9) (A : Option Addr) (b off n ca : Nat) (G : Nat → DAct) (w : World) (hA : 0 < n → A = some ⟨b, off, none⟩) (hn : n ≤ 9223372036854775807) (h50 : 50 < n) (h : DActs w w.heap.size b off n G) :
    Calls Try.prog 9 #[.agg #[.int .i64 f, .int .i64 c], .slice A n ca] w fun e w' => e = .returned (.bool true) ∧ Below w.heap.size w w' := by
  have hA' := hide hA
  have h' := hide h
  have hlx := hide (show liesV f c 9 = true from decide_eq_true (by omega))
  have h50b : (50 : Int) < (n : Int) := by omega
  clear hA h
  go_enter Try.func9, Try.ntmps9
  go_wp2_with fail
  have hE0 := hide (EBox.new w 25 f c)
  have hb0 := hide (show Below w.heap.size w (w.alloc (.cells #[.int .i64 f, .int .i64 c] 25)) from (Below.refl _ _).alloc (Nat.le_refl _) _)
  have hsz : (w.alloc (.cells #[.int .i64 f, .int .i64 c] 25)).heap.size = w.heap.size + 1 := by simp
  generalize w.alloc (.cells #[.int .i64 f, .int .i64 c] 25) = w0 at *
  obtain ⟨bx, hbx⟩ : ∃ bx, bx = w.heap.size := ⟨_, rfl⟩
  rw [← hbx] at hE0 ⊢
  have hs0 : w.heap.size ≤ w0.heap.size := by omega
  have hbx' := hide hbx
  clear hbx
  have hsz' := hide hsz
  clear hsz
  refine (dnew_dsk 9 (by omega) (by omega) w0).mono ?_
  rintro e w1 ⟨g, rfl, hgd, hD, hb⟩
  have hD1 := hide hD
  have hE1 := hide (hE0.out.below hb)
  have hb1 := hide (hb0.out.trans (hb.mono hs0))
  have s1 := hb.size
  clear hD hb hE0 hb0
  go_wp2_with fail
  refine (rnew_any 9 w1 (by omega) (by omega)).mono ?_
  rintro e w2 ⟨u, rfl, hR, hb⟩
  have hP2 : Pair w.heap.size (fun y => y = bx) 0 0 w2 g (newDk 9) u (newRk 9) := ⟨_, _, hD1.out.below hb, hR.tight, fun y hy => ⟨by omega, by have := hb.size; omega, by omega⟩, fun y hy => ⟨hy.2, fun e => by have := hy.1; have := e.2; omega, by omega⟩, fun y hy => by
    have := hbx'.out
    have := hsz'.out
    have := hb.size
    have := s1
    subst hy
    exact ⟨by omega, by omega, fun e => by have := e.1; omega, fun e => by have := e.1; omega⟩⟩
  obtain ⟨A5, c5, A6, n6, c6, o6, lf6, A7, n7, c7, rfl, _, _⟩ := hP2.shape 9 (by simp [newRk])
  have hE2 := hide (hE1.out.below hb)
  have hb2 := hide (hb1.out.trans (hb.mono (by omega)))
  have hP2' := hide hP2
  have s2 := hb.size
  clear hR hb hD1 hb1 hP2 hE1
  go_upto_region 3 with (fail)
  have hX3 := RBox.new w2 71 (.slice A5 9 c5) (.slice A6 n6 c6) (.bool o6) (.int .i64 lf6) (.slice A7 n7 c7)
  have hb3 : Below w2.heap.size w2 (w2.alloc (.cells #[.slice A5 9 c5, .slice A6 n6 c6, .bool o6, .int .i64 lf6, .slice A7 n7 c7] 71)) := (Below.refl _ _).alloc (Nat.le_refl _) _
  have hs3 : (w2.alloc (.cells #[.slice A5 9 c5, .slice A6 n6 c6, .bool o6, .int .i64 lf6, .slice A7 n7 c7] 71)).heap.size = w2.heap.size + 1 := by simp
  generalize w2.alloc (.cells #[.slice A5 9 c5, .slice A6 n6 c6, .bool o6, .int .i64 lf6, .slice A7 n7 c7] 71) = w3 at *
  obtain ⟨bm, hbm⟩ : ∃ bm, bm = w2.heap.size := ⟨_, rfl⟩
  rw [← hbm] at hX3 hs3 ⊢
  have hX3' := hide hX3
  have hbm' := hide hbm
  have hE3 := hide (hE2.out.below hb3)
  have hP3 := hide (hP2'.out.newX hb3 bm (by omega) (by omega) (by omega))
  have hb3' := hide (hb2.out.trans (hb3.mono (by omega)))
  have x0 := hE3.out.c0
  have x1 := hE3.out.c1
  clear hb3 hX3 hE2 hP2' hb2 hbm
  go_wp2_with fail
  have hd0 := hP3.out
  obtain ⟨B, C, hD, _⟩ := hd0
  refine (enew_any g B (newDk 9) f c (by unfold I64; omega) (by unfold I64; omega) w3 hD).mono ?_
  rintro e w4 ⟨hb, hp⟩
  rw [show (((newDk 9).n : Nat) : Int) = 9 from rfl, if_pos hlx.out] at hp
  obtain ⟨q, rfl, hpl, hPt⟩ := hp
  have hE4 := hide (hE3.out.below hb)
  have hb4 := hide (hb3'.out.trans (hb.mono hb3'.out.size))
  have hX4 := hide (hX3'.out.below hb)
  have hT4 := hide hPt
  have hP4 := hide (((hP3.out.newX hb q hpl hPt.lt (Nat.le_trans hb3'.out.size hpl)).lessX (Y := EX bx bm q) (fun y hy => by
    rcases hy with hy | hy | hy
    · exact .inl (.inl hy)
    · exact .inl (.inr hy)
    · exact .inr hy)))
  have x0 := hE4.out.c0
  have x1 := hE4.out.c1
  have hs4 := hb.size
  clear hb hPt hE3 hb3' hX3' hP3 hD
  go_wp2_with fail
  refine (refLies_any f c 9 _ (by unfold I64; omega) (by unfold I64; omega) (by unfold I64; omega)).mono ?_
  rintro e w5 ⟨rfl, rfl⟩
  rw [hlx.out]
  go_upto_region 8 with (fail)
  have hq : Below w5.heap.size w5 w5.drew := (Below.refl _ _).drew
  have f1 : ∀ w', Later (fun _ => False) w5.drew w' → w'.cell? ⟨bx, 1, none⟩ = some (.int .i64 (c : Nat)) := fun w' hl => ((hE4.out.below hq).later hl (fun h => h)).c1
  have hrel0 := hide (show ERel w g q bx bm f c 0 w5.drew (newDk 9) (newRk 9) A5 c5 A6 n6 c6 o6 lf6 A7 n7 c7 from ⟨hP4.out.below hq, Sim.new 9 (by omega) (by omega), rfl, Nat.le_refl _, hX4.out.below hq, hT4.out.below hq, hE4.out.below hq, hb4.out.trans (hq.mono hb4.out.size)⟩)
  have hTd := hide (hT4.out.below hq)
  have hcc : ((c : Int) == (c : Int)) = true := by simp
  have hcc1 : ((c : Int) != (c : Int)) = false := by simp
  have hcd := hide (show w.heap.size ≤ w5.heap.size from hb4.out.size)
  have hbxm : bx < bm := by have := hbx'.out; have := hsz'.out; have := hbm'.out; omega
  have hbmq : bm < q := by omega
  clear hP4 hX4 hT4 hE4 hb4 hq x0 x1 hs4 hs3 hgd s1 s2 hs0 hpl
  refine region_plan [(true, 0), (true, 1), (true, 2), (true, 3), (true, 5), (true, 6), (false, 4), (true, 7), (true, 8)] (Later fun _ => False) (later_refl _) (later_trans _) (by kernel_rfl) (by kernel_rfl) (fun _ _ d _ _ h => by cases d <;> exact h) ?_
  repeat
    (first
      | (show wpPlan _ _ _ _ ((true, _) :: _) _ _
         refine plan_skip rfl (by rfl) ?_
         simp only [Act.put, List.setIfInBounds_toArray, List.set_cons_zero, List.set_cons_succ])
      | (show wpPlan _ _ _ _ ((false, _) :: _) _ _
         refine plan_skip_eff (later_refl _) rfl (by rfl) ?_
         simp only [Act.put, List.setIfInBounds_toArray, List.set_cons_zero, List.set_cons_succ])
      | (show wpPlan _ _ _ _ ((true, _) :: _) _ _
         refine plan_take (v := ?_) rfl (by rfl) (fun w' hw' => ?_) ?_
         rotate_left
         focus
           go_simp
           try with_reducible rfl
           done
         simp only [Act.put, List.setIfInBounds_toArray, List.set_cons_zero, List.set_cons_succ]))
  generalize w5.drew = w6 at *
  refine plan_eff rfl (by rfl) (fun K hK => ?_)
  go_wp2_with fail
  refine (esize_any hTd.out).mono ?_
  rintro e w7 ⟨rfl, rfl⟩
  refine hK _ _ (later_refl _ _) ?_
  clear hK K f1
  try simp only [Act.put, List.setIfInBounds_toArray, List.set_cons_zero, List.set_cons_succ]
  repeat
    (first
      | (show wpPlan _ _ _ _ ((true, _) :: _) _ _
         refine plan_skip rfl (by rfl) ?_
         simp only [Act.put, List.setIfInBounds_toArray, List.set_cons_zero, List.set_cons_succ])
      | (show wpPlan _ _ _ _ ((false, _) :: _) _ _
         refine plan_skip_eff (later_refl _) rfl (by rfl) ?_
         simp only [Act.put, List.setIfInBounds_toArray, List.set_cons_zero, List.set_cons_succ])
      | (show wpPlan _ _ _ _ ((true, _) :: _) _ _
         refine plan_take (v := ?_) rfl (by rfl) (fun w' hw' => ?_) ?_
         rotate_left
         focus
           go_simp
           try with_reducible rfl
           done
         simp only [Act.put, List.setIfInBounds_toArray, List.set_cons_zero, List.set_cons_succ]))
  refine plan_nil ?_
  clear hTd hcc hcc1
  go_wp2_with fail
  go_loopw [11] (fun i wr => ∃ j : Nat, j ≤ 50 ∧ i = .int .i64 (j : Nat) ∧ ∃ d r A5 c5 A6 n6 c6 o6 lf6 A7 n7 c7, ERel w g q bx bm f c j wr d r A5 c5 A6 n6 c6 o6 lf6 A7 n7 c7) (fun i _ => 50 - (intOf i).toNat)
  case atStart => exact ⟨0, by omega, rfl, _, _, _, _, _, _, _, _, _, _, _, _, hrel0.out⟩
  case round =>
    obtain ⟨j, hj, rfl, d, r, A5, c5, A6, n6, c6, o6, lf6, A7, n7, c7, hr⟩ := hrel
    clear hrel0
    by_cases hlt : j < 50
    · obtain rfl : A = some ⟨b, off, none⟩ := hA'.out (by omega)
      have hltn : j < n := by omega
      have hltI : (j : Int) < (n : Int) := by omega
      have hlt50 : (j : Int) < 50 := by omega
      have hA := h'.out.below hr.b
      have a0 := hA.c0 j hltn
      have a1 := hA.c1 j hltn
      have a2 := hA.c2 j hltn
      have a3 := hA.c3 j hltn
      have a4 := hA.c4 j hltn
      have hblt : b < wr.heap.size := Nat.lt_of_lt_of_le (hA.lt (by omega)) hr.b.size
      obtain ⟨A4, n4, n4c, hkv⟩ : ∃ A m c, (G j).kv = .slice A m c := by
        obtain ⟨A, c, h, _⟩ := (h'.out.k j hltn).1
        exact ⟨A, _, c, h⟩
      have hka := hide (show BoolsB wr w.heap.size (.slice A4 n4 n4c) (G j).kl by rw [← hkv]; exact hA.k j hltn)
      rw [hkv] at a4
      have hia := hide ((h'.out.r0 j hltn).2.1)
      generalize (G j).do_ = do_ at *
      generalize (G j).at_ = at_ at *
      generalize (G j).off = of at *
      generalize (G j).fill = fill at *
      generalize (G j).kl = kl at *
      clear hA hkv
      have hbs := hr.b.size
      have hr' := hide hr
      clear hr
      go_upto_region 14 with (fail)
      have hY1 := RBox.new wr 66 (.int .i64 do_) (.int .i64 at_) (.int .i64 of) (.int .u8 (fill.toNat : Int)) (.slice A4 n4 n4c)
      have hbA : Below wr.heap.size wr (wr.alloc (.cells #[.int .i64 do_, .int .i64 at_, .int .i64 of, .int .u8 (fill.toNat : Int), .slice A4 n4 n4c] 66)) := (Below.refl _ _).alloc (Nat.le_refl _) _
      have hsA : (wr.alloc (.cells #[.int .i64 do_, .int .i64 at_, .int .i64 of, .int .u8 (fill.toNat : Int), .slice A4 n4 n4c] 66)).heap.size = wr.heap.size + 1 := by simp
      generalize wr.alloc (.cells #[.int .i64 do_, .int .i64 at_, .int .i64 of, .int .u8 (fill.toNat : Int), .slice A4 n4 n4c] 66) = wa at *
      obtain ⟨ba, hba⟩ : ∃ ba, ba = wr.heap.size := ⟨_, rfl⟩
      have hP1 := hide ((hr'.out.p.wide (lo' := ba) (hi' := wr.heap.size) (fun y _ e => by omega)).fresh hbA rfl)
      have hM1 := hide (hr'.out.m.below hbA)
      have hT1 := hide (hr'.out.t.below hbA)
      have hE1 := hide (hr'.out.e.below hbA)
      have hb1 := hide (hr'.out.b.trans (hbA.mono hbs))
      have hk1 := hide (hka.out.below (hbA.mono hbs))
      have hS := hide hr'.out.s
      have hn9 := hide hr'.out.n
      have hwl := hide hr'.out.wl
      have hXl := hide (show ∀ y, EX bx bm q y → y < ba by
        obtain ⟨B, C, _, _, _, _, h5⟩ := hr'.out.p
        intro y hy
        have := (h5 y hy).2.1
        omega)
      have hXb := hide (show ∀ y, EX bx bm q y → w.heap.size ≤ y by
        obtain ⟨B, C, _, _, _, _, h5⟩ := hr'.out.p
        intro y hy
        exact (h5 y hy).1)
      rw [← hba] at hY1 hsA ⊢
      have hY1' := hide hY1
      have hbab : w.heap.size ≤ ba := by omega
      have hbmb : bm < ba := hXl.out bm (.inr (.inl rfl))
      have hqb : q < ba := hXl.out q (.inr (.inr rfl))
      have hbal := hsA
      have hba' := hide hba
      clear hY1 hbA hka hr' a0 a1 a2 a3 a4 hba hbs
      have a0 := hY1'.out.c0
      have a1 := hY1'.out.c1
      have x0 := hE1.out.c0
      have x1 := hE1.out.c1
      go_wp2_with fail
      refine (refPlace_any f c at_ _ (by unfold I64; omega) (by unfold I64; omega) hia.out).mono ?_
      rintro e we ⟨rfl, rfl⟩
      by_cases hd0 : do_ = 0
      · have hdo := hd0
        subst hdo
        have a2 := hY1'.out.c2
        have a3 := hY1'.out.c3
        go_wp2_with fail
        refine (sector_any fill of we).mono ?_
        rintro e wf ⟨bv, rfl, hbv, hb⟩
        have hs1 := hb.size
        have hvl := hide (show ∀ x, bv.ownBlock = some x → ba ≤ x ∧ x < wf.heap.size from fun x hx => by have := World.ownsRow.lt hbv x hx; omega)
        have hbs := hide hbv.bs
        generalize sec fill of = l0 at *
        obtain ⟨A3, c3, rfl, hc3, hm3, _⟩ := hbv.bs.open_
        replace hP1 := hide (hP1.out.fresh hb rfl)
        replace hM1 := hide (hM1.out.below hb)
        replace hT1 := hide (hT1.out.below hb)
        replace hE1 := hide (hE1.out.below hb)
        replace hY1' := hide (hY1'.out.below hb)
        replace hb1 := hide (hb1.out.trans (hb.mono hb1.out.size))
        have hcv := str_conv wf _ _ hbs.out
        clear hbv hb a0 a1 x0 x1
        have a1 := hY1'.out.c1
        have a0 := True.intro
        have x0 := True.intro
        have x1 := True.intro
        clear a2 a3
        by_cases hpv : (placeV f c at_).2 = 0
        · have hd1 : decide ((placeV f c at_).2 = 0) = true := decide_eq_true hpv
          have hpw : pwrite d f c at_ l0 = d.write (placeV f c at_).1 l0 := if_pos hpv
          have hd2 : ((placeV f c at_).2 == 0) = true := by simp [hpv]
          obtain ⟨hF1, hF2⟩ := hS.out.write (placeV f c at_).1 l0
          have hnd : (d.write (placeV f c at_).1 l0).1.n = 9 := by unfold Dk.write Dk.goes Dk.crash; (repeat' split) <;> exact hn9.out
          have hnd' := hide hnd
          clear hnd hpv
          have m0 := hM1.out.c0
          have m1 := hM1.out.c1
          have m2 := hM1.out.c2
          have m3 := hM1.out.c3
          have m4 := hM1.out.c4
          go_wp2_with fail
          refine (hP1.out.rwrite (Nat.le_refl _) (placeV f c at_).1 l0 (hS.out.rok (by have := hwl.out; omega)) hS.out.rl (by have := hwl.out; have := hS.out.w; rw [this]; omega)).mono ?_
          rintro e w2 ⟨u2, rfl, hp, hb⟩
          rw [hF1]
          have hS4 := hide hF2
          have hn4 := hide hnd'.out
          have hw4 := hide (show (d.write (placeV f c at_).1 l0).1.waits.length ≤ j + 1 by have := write_waits d (placeV f c at_).1 l0; have := hwl.out; omega)
          generalize (r.write (placeV f c at_).1 l0).1 = r4 at *
          obtain ⟨A8, c8, A9, n9, c9, o9, lf9, A0, n0, c0, rfl, _, _⟩ := hp.shape 9 (hS4.out.n.trans hn4.out)
          have hbs2 := hide (hbs.out.below hb)
          clear hF1 hF2 hcv hd1 hd2
          have hM2 := hide (hM1.out.below hb)
          have hT2 := hide (hT1.out.below hb)
          have hE2 := hide (hE1.out.below hb)
          have hY2 := hide (hY1'.out.below hb)
          have hP2 := hide hp
          have hb2 := hide (hb1.out.trans (hb.mono hb1.out.size))
          have hs2 := hb.size
          clear m0 m1 m2 m3 m4 a0 a1 x0 x1 hM1 hT1 hE1 hY1' hP1 hb1 hp hb
          have t0 := hM2.out.z 0
          have t1 := hM2.out.z 1
          have t2 := hM2.out.z 2
          have t3 := hM2.out.z 3
          have t4 := hM2.out.z 4
          have m0 := hM2.out.c0
          have m1 := hM2.out.c1
          have m2 := hM2.out.c2
          have m3 := hM2.out.c3
          have m4 := hM2.out.c4
          go_upto_region 25 with (fail)
          have hTo := touch_set5 (fun y => y = bm) w2 bm (.slice A8 9 c8) (.slice A9 n9 c9) (.bool o9) (.int .i64 lf9) (.slice A0 n0 c0) rfl
          have hM3 := hide (hM2.out.set5 (.slice A8 9 c8) (.slice A9 n9 c9) (.bool o9) (.int .i64 lf9) (.slice A0 n0 c0))
          have hP3 := hide (hP2.out.setXX (hTo.mono (G := EX bx bm q) (fun y _ e => .inr (.inl e))))
          have hT3 := hide (hT2.out.later hTo.2 (by omega))
          have hE3 := hide (hE2.out.later hTo.2 (by omega))
          have hY3 := hide (hY2.out.later hTo.2 (by omega))
          have hb3 := hide (hb2.out.trans (hTo.below hb2.out.size (fun y hy e => by have := hXb.out bm (.inr (.inl rfl)); omega)))
          have hs3 := hTo.size
          have hL3 := hide hTo.2
          clear t0 t1 t2 t3 t4 m0 m1 m2 m3 m4 hM2 hT2 hE2 hY2 hP2 hb2 hTo
          generalize (((((w2.setCell ⟨bm, 0, none⟩ (.slice A8 9 c8)).setCell ⟨bm, 1, none⟩ (.slice A9 n9 c9)).setCell ⟨bm, 2, none⟩ (.bool o9)).setCell ⟨bm, 3, none⟩ (.int .i64 lf9)).setCell ⟨bm, 4, none⟩ (.slice A0 n0 c0)) = w3 at *
          have hLw := hL3
          replace hbs := hbs2
          have hbs3 := hide (hbs.out.later hLw.out (fun y hy e => by have := hvl.out y hy; omega))
          have a1 := hY3.out.c1
          go_wp2_with fail
          refine (hP3.out.ewrite hT3.out hb3.out.size (by omega) at_ hia.out (.slice A3 l0.length c3) l0 hvl.out hbs3.out (by have := hwl.out; omega)).mono ?_
          rintro e w4 ⟨rfl, hp, hbel, hkp⟩
          rw [hpw] at hp ⊢
          have hL := bel_later hbel hkp
          have hM4 := hide (hM3.out.later hL (fun h => h (.inr (.inl (.inr (.inl rfl))))))
          have hT4 := hide (hT3.out.later hL (fun h => h (.inr (.inl (.inr (.inr rfl))))))
          have hE4 := hide (hE3.out.later hL (fun h => h (.inr (.inl (.inl rfl)))))
          have hP4 := hide hp
          have hb4 := hide (hb3.out.trans hbel.b)
          have hs4 := hbel.size
          clear hM3 hT3 hE3 hP3 hb3 hp hbel hkp hL a1 hbs3 hpw hLw
          clear hY3 hL3 hbs2 hbs
          generalize (d.write (placeV f c at_).1 l0).1 = d4 at *
          generalize (d.write (placeV f c at_).1 l0).2 = E at *
          have he : (E != E) = false := by simp
          have he1 : (E == E) = true := by simp
          go_upto_region 49 with (fail)
          have hq : Below w4.heap.size w4 w4.drew := (Below.refl _ _).drew
          have hP5 := hide (hP4.out.below hq)
          have hM5 := hide (hM4.out.below hq)
          have hT5 := hide (hT4.out.below hq)
          have hE5 := hide (hE4.out.below hq)
          have hb5 := hide (hb4.out.trans (hq.mono hb4.out.size))
          have f := fun w' (hl : Later (fun _ => False) w4.drew w') => hM5.out.later hl (fun h => h)
          have f0 := fun w' hl => (f w' hl).c0
          have f1 := fun w' hl => (f w' hl).c1
          have f2 := fun w' hl => (f w' hl).c2
          have f3 := fun w' hl => (f w' hl).c3
          have f4 := fun w' hl => (f w' hl).c4
          clear f hP4 hM4 hT4 hE4 hb4 hq
          refine region_plan [(true, 0), (true, 3), (false, 1), (true, 2), (false, 4), (true, 5)] (Later fun _ => False) (later_refl _) (later_trans _) (by kernel_rfl) (by kernel_rfl) (fun _ _ d _ _ h => by cases d <;> exact h) ?_
          repeat
            (first
              | (show wpPlan _ _ _ _ ((true, _) :: _) _ _
                 refine plan_skip rfl (by rfl) ?_
                 simp only [Act.put, List.setIfInBounds_toArray, List.set_cons_zero, List.set_cons_succ])
              | (show wpPlan _ _ _ _ ((false, _) :: _) _ _
                 refine plan_skip_eff (later_refl _) rfl (by rfl) ?_
                 simp only [Act.put, List.setIfInBounds_toArray, List.set_cons_zero, List.set_cons_succ])
              | (show wpPlan _ _ _ _ ((true, _) :: _) _ _
                 refine plan_take (v := ?_) rfl (by rfl) (fun w' hw' => ?_) ?_
                 rotate_left
                 focus
                   go_simp
                   try with_reducible rfl
                   done
                 simp only [Act.put, List.setIfInBounds_toArray, List.set_cons_zero, List.set_cons_succ]))
          generalize w4.drew = wd at *
          clear f0 f1 f2 f3 f4
          refine plan_eff rfl (by rfl) (fun K hK => ?_)
          go_wp2_with fail
          refine hP5.out.dimage.mono ?_
          rintro e w6 ⟨im, rfl, him, hb6⟩
          refine hK _ _ (below_later hb6 (Nat.le_refl _)) ?_
          clear hK K
          have hci : ∀ w', Later (fun _ => False) w6 w' → (convert 40 9 im).run Try.prog w' = .ok (.string ⟨d4.has.toArray⟩) w' := fun w' hl => str_conv w' _ _ (him.bs.later0 hl)
          have hP6 := hide (hP5.out.below hb6)
          have hM6 := hide (hM5.out.below hb6)
          have hT6 := hide (hT5.out.below hb6)
          have hE6 := hide (hE5.out.below hb6)
          have hb6' := hide (hb5.out.trans (hb6.mono hb5.out.size))
          clear him hb6 hP5 hM5 hT5 hE5 hb5
          try simp only [Act.put, List.setIfInBounds_toArray, List.set_cons_zero, List.set_cons_succ]
          repeat
            (first
              | (show wpPlan _ _ _ _ ((true, _) :: _) _ _
                 refine plan_skip rfl (by rfl) ?_
                 simp only [Act.put, List.setIfInBounds_toArray, List.set_cons_zero, List.set_cons_succ])
              | (show wpPlan _ _ _ _ ((false, _) :: _) _ _
                 refine plan_skip_eff (later_refl _) rfl (by rfl) ?_
                 simp only [Act.put, List.setIfInBounds_toArray, List.set_cons_zero, List.set_cons_succ])
              | (show wpPlan _ _ _ _ ((true, _) :: _) _ _
                 refine plan_take (v := ?_) rfl (by rfl) (fun w' hw' => ?_) ?_
                 rotate_left
                 focus
                   go_simp
                   try with_reducible rfl
                   done
                 simp only [Act.put, List.setIfInBounds_toArray, List.set_cons_zero, List.set_cons_succ]))
          clear hci
          refine plan_eff rfl (by rfl) (fun K hK => ?_)
          go_wp2_with fail
          refine (hP6.out.rimage (hS4.out.rok (by have := hw4.out; omega)) hS4.out.l).mono ?_
          rintro e w7 ⟨rfl, hb7⟩
          refine hK _ _ (below_later hb7 (Nat.le_refl _)) ?_
          clear hK K
          rw [hS4.out.has]
          have hP7 := hide (hP6.out.below hb7)
          have hM7 := hide (hM6.out.below hb7)
          have hT7 := hide (hT6.out.below hb7)
          have hE7 := hide (hE6.out.below hb7)
          have hb7' := hide (hb6'.out.trans (hb7.mono hb6'.out.size))
          have he : (d4.has == d4.has) = true := by simp
          have he1 : (d4.has != d4.has) = false := by simp
          have he2 := strEq d4.has d4.has
          clear hb7 hP6 hM6 hT6 hE6 hb6'
          try simp only [Act.put, List.setIfInBounds_toArray, List.set_cons_zero, List.set_cons_succ]
          repeat
            (first
              | (show wpPlan _ _ _ _ ((true, _) :: _) _ _
                 refine plan_skip rfl (by rfl) ?_
                 simp only [Act.put, List.setIfInBounds_toArray, List.set_cons_zero, List.set_cons_succ])
              | (show wpPlan _ _ _ _ ((false, _) :: _) _ _
                 refine plan_skip_eff (later_refl _) rfl (by rfl) ?_
                 simp only [Act.put, List.setIfInBounds_toArray, List.set_cons_zero, List.set_cons_succ])
              | (show wpPlan _ _ _ _ ((true, _) :: _) _ _
                 refine plan_take (v := ?_) rfl (by rfl) (fun w' hw' => ?_) ?_
                 rotate_left
                 focus
                   go_simp
                   try with_reducible rfl
                   done
                 simp only [Act.put, List.setIfInBounds_toArray, List.set_cons_zero, List.set_cons_succ]))
          refine plan_nil ?_
          go_wp2_with fail
          go_roundw
          case rel => exact ⟨j + 1, by omega, by go_num, d4, r4, A8, c8, A9, n9, c9, o9, lf9, A0, n0, c0, ⟨hP7.out.wide (fun y _ e => by omega), hS4.out, hn4.out, hw4.out, hM7.out, hT7.out, hE7.out, hb7'.out⟩⟩
          case measure => simp [intOf]; omega
        · have hd1 : decide ((placeV f c at_).2 = 0) = false := decide_eq_false hpv
          have hpw : pwrite d f c at_ l0 = (d, 4) := by
            unfold pwrite
            rw [if_neg hpv, placeV_err f c at_ hpv]
          have hd2 : ((placeV f c at_).2 == 0) = false := by simp [hpv]
          clear hpv
          have hM3 := hM1
          have hT3 := hT1
          have hE3 := hE1
          have hY3 := hY1'
          have hP3 := hP1
          have hb3 := hb1
          obtain ⟨w3, rfl⟩ : ∃ w3 : World, w3 = wf := ⟨_, rfl⟩
          have hLw := hide (later_refl (fun y => y = bm) w3)
          have hs3 := Nat.le_refl w3.heap.size
          clear hM1 hT1 hE1 hY1' hP1 hb1 a1
          obtain ⟨A8, c8, A9, n9, c9, o9, lf9, A0, n0, c0, hEQ⟩ : ∃ A8 c8 A9 n9 c9 o9 lf9 A0 n0 c0, (A8, c8, A9, n9, c9, o9, lf9, A0, n0, c0) = (A5, c5, A6, n6, c6, o6, lf6, A7, n7, c7) := ⟨_, _, _, _, _, _, _, _, _, _, rfl⟩
          simp only [Prod.mk.injEq] at hEQ
          obtain ⟨rfl, rfl, rfl, rfl, rfl, rfl, rfl, rfl, rfl, rfl⟩ := hEQ
          have hL3 := True.intro
          have hbs3 := hide (hbs.out.later hLw.out (fun y hy e => by have := hvl.out y hy; omega))
          have a1 := hY3.out.c1
          go_wp2_with fail
          refine (hP3.out.ewrite hT3.out hb3.out.size (by omega) at_ hia.out (.slice A3 l0.length c3) l0 hvl.out hbs3.out (by have := hwl.out; omega)).mono ?_
          rintro e w4 ⟨rfl, hp, hbel, hkp⟩
          rw [hpw] at hp ⊢
          have hL := bel_later hbel hkp
          have hM4 := hide (hM3.out.later hL (fun h => h (.inr (.inl (.inr (.inl rfl))))))
          have hT4 := hide (hT3.out.later hL (fun h => h (.inr (.inl (.inr (.inr rfl))))))
          have hE4 := hide (hE3.out.later hL (fun h => h (.inr (.inl (.inl rfl)))))
          have hP4 := hide hp
          have hb4 := hide (hb3.out.trans hbel.b)
          have hs4 := hbel.size
          clear hM3 hT3 hE3 hP3 hb3 hp hbel hkp hL a1 hbs3 hpw hLw
          clear hY3 hcv hd1 hd2
          have hS4 := hS
          have hn4 := hn9
          have hw4 := hide (show d.waits.length ≤ j + 1 by have := hwl.out; omega)
          obtain ⟨d4, rfl⟩ : ∃ d4 : Dk, d4 = d := ⟨_, rfl⟩
          obtain ⟨r4, rfl⟩ : ∃ r4 : Rk, r4 = r := ⟨_, rfl⟩
          go_upto_region 49 with (fail)
          have hq : Below w4.heap.size w4 w4.drew := (Below.refl _ _).drew
          have hP5 := hide (hP4.out.below hq)
          have hM5 := hide (hM4.out.below hq)
          have hT5 := hide (hT4.out.below hq)
          have hE5 := hide (hE4.out.below hq)
          have hb5 := hide (hb4.out.trans (hq.mono hb4.out.size))
          have f := fun w' (hl : Later (fun _ => False) w4.drew w') => hM5.out.later hl (fun h => h)
          have f0 := fun w' hl => (f w' hl).c0
          have f1 := fun w' hl => (f w' hl).c1
          have f2 := fun w' hl => (f w' hl).c2
          have f3 := fun w' hl => (f w' hl).c3
          have f4 := fun w' hl => (f w' hl).c4
          clear f hP4 hM4 hT4 hE4 hb4 hq
          refine region_plan [(true, 0), (true, 3), (false, 1), (true, 2), (false, 4), (true, 5)] (Later fun _ => False) (later_refl _) (later_trans _) (by kernel_rfl) (by kernel_rfl) (fun _ _ d _ _ h => by cases d <;> exact h) ?_
          repeat
            (first
              | (show wpPlan _ _ _ _ ((true, _) :: _) _ _
                 refine plan_skip rfl (by rfl) ?_
                 simp only [Act.put, List.setIfInBounds_toArray, List.set_cons_zero, List.set_cons_succ])
              | (show wpPlan _ _ _ _ ((false, _) :: _) _ _
                 refine plan_skip_eff (later_refl _) rfl (by rfl) ?_
                 simp only [Act.put, List.setIfInBounds_toArray, List.set_cons_zero, List.set_cons_succ])
              | (show wpPlan _ _ _ _ ((true, _) :: _) _ _
                 refine plan_take (v := ?_) rfl (by rfl) (fun w' hw' => ?_) ?_
                 rotate_left
                 focus
                   go_simp
                   try with_reducible rfl
                   done
                 simp only [Act.put, List.setIfInBounds_toArray, List.set_cons_zero, List.set_cons_succ]))
          generalize w4.drew = wd at *
          clear f0 f1 f2 f3 f4
          refine plan_eff rfl (by rfl) (fun K hK => ?_)
          go_wp2_with fail
          refine hP5.out.dimage.mono ?_
          rintro e w6 ⟨im, rfl, him, hb6⟩
          refine hK _ _ (below_later hb6 (Nat.le_refl _)) ?_
          clear hK K
          have hci : ∀ w', Later (fun _ => False) w6 w' → (convert 40 9 im).run Try.prog w' = .ok (.string ⟨d4.has.toArray⟩) w' := fun w' hl => str_conv w' _ _ (him.bs.later0 hl)
          have hP6 := hide (hP5.out.below hb6)
          have hM6 := hide (hM5.out.below hb6)
          have hT6 := hide (hT5.out.below hb6)
          have hE6 := hide (hE5.out.below hb6)
          have hb6' := hide (hb5.out.trans (hb6.mono hb5.out.size))
          clear him hb6 hP5 hM5 hT5 hE5 hb5
          try simp only [Act.put, List.setIfInBounds_toArray, List.set_cons_zero, List.set_cons_succ]
          repeat
            (first
              | (show wpPlan _ _ _ _ ((true, _) :: _) _ _
                 refine plan_skip rfl (by rfl) ?_
                 simp only [Act.put, List.setIfInBounds_toArray, List.set_cons_zero, List.set_cons_succ])
              | (show wpPlan _ _ _ _ ((false, _) :: _) _ _
                 refine plan_skip_eff (later_refl _) rfl (by rfl) ?_
                 simp only [Act.put, List.setIfInBounds_toArray, List.set_cons_zero, List.set_cons_succ])
              | (show wpPlan _ _ _ _ ((true, _) :: _) _ _
                 refine plan_take (v := ?_) rfl (by rfl) (fun w' hw' => ?_) ?_
                 rotate_left
                 focus
                   go_simp
                   try with_reducible rfl
                   done
                 simp only [Act.put, List.setIfInBounds_toArray, List.set_cons_zero, List.set_cons_succ]))
          clear hci
          refine plan_eff rfl (by rfl) (fun K hK => ?_)
          go_wp2_with fail
          refine (hP6.out.rimage (hS4.out.rok (by have := hw4.out; omega)) hS4.out.l).mono ?_
          rintro e w7 ⟨rfl, hb7⟩
          refine hK _ _ (below_later hb7 (Nat.le_refl _)) ?_
          clear hK K
          rw [hS4.out.has]
          have hP7 := hide (hP6.out.below hb7)
          have hM7 := hide (hM6.out.below hb7)
          have hT7 := hide (hT6.out.below hb7)
          have hE7 := hide (hE6.out.below hb7)
          have hb7' := hide (hb6'.out.trans (hb7.mono hb6'.out.size))
          have he : (d4.has == d4.has) = true := by simp
          have he1 : (d4.has != d4.has) = false := by simp
          have he2 := strEq d4.has d4.has
          clear hb7 hP6 hM6 hT6 hE6 hb6'
          try simp only [Act.put, List.setIfInBounds_toArray, List.set_cons_zero, List.set_cons_succ]
          repeat
            (first
              | (show wpPlan _ _ _ _ ((true, _) :: _) _ _
                 refine plan_skip rfl (by rfl) ?_
                 simp only [Act.put, List.setIfInBounds_toArray, List.set_cons_zero, List.set_cons_succ])
              | (show wpPlan _ _ _ _ ((false, _) :: _) _ _
                 refine plan_skip_eff (later_refl _) rfl (by rfl) ?_
                 simp only [Act.put, List.setIfInBounds_toArray, List.set_cons_zero, List.set_cons_succ])
              | (show wpPlan _ _ _ _ ((true, _) :: _) _ _
                 refine plan_take (v := ?_) rfl (by rfl) (fun w' hw' => ?_) ?_
                 rotate_left
                 focus
                   go_simp
                   try with_reducible rfl
                   done
                 simp only [Act.put, List.setIfInBounds_toArray, List.set_cons_zero, List.set_cons_succ]))
          refine plan_nil ?_
          go_wp2_with fail
          go_roundw
          case rel => exact ⟨j + 1, by omega, by go_num, d4, r4, A8, c8, A9, n9, c9, o9, lf9, A0, n0, c0, ⟨hP7.out.wide (fun y _ e => by omega), hS4.out, hn4.out, hw4.out, hM7.out, hT7.out, hE7.out, hb7'.out⟩⟩
          case measure => simp [intOf]; omega
      by_cases hd1 : do_ = 1
      · have hdo := hd1
        clear hd0
        subst hdo
        by_cases hpv : (placeV f c at_).2 = 0
        · have hd1 : decide ((placeV f c at_).2 = 0) = true := decide_eq_true hpv
          have hpr : pread d f c at_ = d.reads (placeV f c at_).1 := if_pos hpv
          have hd2 : ((placeV f c at_).2 == 0) = true := by simp [hpv]
          clear hpv
          have m0 := hM1.out.c0
          have m1 := hM1.out.c1
          have m2 := hM1.out.c2
          have m3 := hM1.out.c3
          have m4 := hM1.out.c4
          go_wp2_with fail
          refine (hP1.out.rread (placeV f c at_).1 (hS.out.rok (by have := hwl.out; omega))).mono ?_
          rintro e w2 ⟨rfl, hb⟩
          rw [hS.out.read]
          have hp := hP1.out.below hb
          have hM2 := hide (hM1.out.below hb)
          have hT2 := hide (hT1.out.below hb)
          have hE2 := hide (hE1.out.below hb)
          have hY2 := hide (hY1'.out.below hb)
          have hP2 := hide hp
          have hb2 := hide (hb1.out.trans (hb.mono hb1.out.size))
          have hs2 := hb.size
          clear m0 m1 m2 m3 m4 a0 a1 x0 x1 hM1 hT1 hE1 hY1' hP1 hb1 hp hb
          have a1 := hY2.out.c1
          go_wp2_with fail
          refine (hP2.out.eread hT2.out at_ hia.out).mono ?_
          rintro e w4 ⟨bv, rfl, hbv, hb⟩
          rw [hpr] at hbv ⊢
          have hP4 := hide (hP2.out.below hb)
          have hM4 := hide (hM2.out.below hb)
          have hT4 := hide (hT2.out.below hb)
          have hE4 := hide (hE2.out.below hb)
          have hb4 := hide (hb2.out.trans (hb.mono hb2.out.size))
          have hs4 := hb.size
          have hcv := str_conv w4 _ _ hbv.bs
          clear hP2 hM2 hT2 hE2 hb2 hbv hb hpr
          clear hY2 a1 hd1 hd2
          generalize (d.reads (placeV f c at_).1).1 = L at *
          generalize (d.reads (placeV f c at_).1).2 = E at *
          have he : (E != E) = false := by simp
          have he1 : (E == E) = true := by simp
          have he2 : (L != L) = false := by simp
          have he3 : (L == L) = true := by simp
          have he4 := strEq L L
          have he5 : decide (L = L) = true := by simp
          obtain ⟨A8, c8, A9, n9, c9, o9, lf9, A0, n0, c0, hEQ⟩ : ∃ A8 c8 A9 n9 c9 o9 lf9 A0 n0 c0, (A8, c8, A9, n9, c9, o9, lf9, A0, n0, c0) = (A5, c5, A6, n6, c6, o6, lf6, A7, n7, c7) := ⟨_, _, _, _, _, _, _, _, _, _, rfl⟩
          simp only [Prod.mk.injEq] at hEQ
          obtain ⟨rfl, rfl, rfl, rfl, rfl, rfl, rfl, rfl, rfl, rfl⟩ := hEQ
          have hS4 := hS
          have hn4 := hn9
          have hw4 := hide (show d.waits.length ≤ j + 1 by have := hwl.out; omega)
          obtain ⟨d4, rfl⟩ : ∃ d4 : Dk, d4 = d := ⟨_, rfl⟩
          obtain ⟨r4, rfl⟩ : ∃ r4 : Rk, r4 = r := ⟨_, rfl⟩
          go_upto_region 49 with (fail)
          have hq : Below w4.heap.size w4 w4.drew := (Below.refl _ _).drew
          have hP5 := hide (hP4.out.below hq)
          have hM5 := hide (hM4.out.below hq)
          have hT5 := hide (hT4.out.below hq)
          have hE5 := hide (hE4.out.below hq)
          have hb5 := hide (hb4.out.trans (hq.mono hb4.out.size))
          have f := fun w' (hl : Later (fun _ => False) w4.drew w') => hM5.out.later hl (fun h => h)
          have f0 := fun w' hl => (f w' hl).c0
          have f1 := fun w' hl => (f w' hl).c1
          have f2 := fun w' hl => (f w' hl).c2
          have f3 := fun w' hl => (f w' hl).c3
          have f4 := fun w' hl => (f w' hl).c4
          clear f hP4 hM4 hT4 hE4 hb4 hq
          refine region_plan [(true, 0), (true, 3), (false, 1), (true, 2), (false, 4), (true, 5)] (Later fun _ => False) (later_refl _) (later_trans _) (by kernel_rfl) (by kernel_rfl) (fun _ _ d _ _ h => by cases d <;> exact h) ?_
          repeat
            (first
              | (show wpPlan _ _ _ _ ((true, _) :: _) _ _
                 refine plan_skip rfl (by rfl) ?_
                 simp only [Act.put, List.setIfInBounds_toArray, List.set_cons_zero, List.set_cons_succ])
              | (show wpPlan _ _ _ _ ((false, _) :: _) _ _
                 refine plan_skip_eff (later_refl _) rfl (by rfl) ?_
                 simp only [Act.put, List.setIfInBounds_toArray, List.set_cons_zero, List.set_cons_succ])
              | (show wpPlan _ _ _ _ ((true, _) :: _) _ _
                 refine plan_take (v := ?_) rfl (by rfl) (fun w' hw' => ?_) ?_
                 rotate_left
                 focus
                   go_simp
                   try with_reducible rfl
                   done
                 simp only [Act.put, List.setIfInBounds_toArray, List.set_cons_zero, List.set_cons_succ]))
          generalize w4.drew = wd at *
          clear f0 f1 f2 f3 f4
          refine plan_eff rfl (by rfl) (fun K hK => ?_)
          go_wp2_with fail
          refine hP5.out.dimage.mono ?_
          rintro e w6 ⟨im, rfl, him, hb6⟩
          refine hK _ _ (below_later hb6 (Nat.le_refl _)) ?_
          clear hK K
          have hci : ∀ w', Later (fun _ => False) w6 w' → (convert 40 9 im).run Try.prog w' = .ok (.string ⟨d4.has.toArray⟩) w' := fun w' hl => str_conv w' _ _ (him.bs.later0 hl)
          have hP6 := hide (hP5.out.below hb6)
          have hM6 := hide (hM5.out.below hb6)
          have hT6 := hide (hT5.out.below hb6)
          have hE6 := hide (hE5.out.below hb6)
          have hb6' := hide (hb5.out.trans (hb6.mono hb5.out.size))
          clear him hb6 hP5 hM5 hT5 hE5 hb5
          try simp only [Act.put, List.setIfInBounds_toArray, List.set_cons_zero, List.set_cons_succ]
          repeat
            (first
              | (show wpPlan _ _ _ _ ((true, _) :: _) _ _
                 refine plan_skip rfl (by rfl) ?_
                 simp only [Act.put, List.setIfInBounds_toArray, List.set_cons_zero, List.set_cons_succ])
              | (show wpPlan _ _ _ _ ((false, _) :: _) _ _
                 refine plan_skip_eff (later_refl _) rfl (by rfl) ?_
                 simp only [Act.put, List.setIfInBounds_toArray, List.set_cons_zero, List.set_cons_succ])
              | (show wpPlan _ _ _ _ ((true, _) :: _) _ _
                 refine plan_take (v := ?_) rfl (by rfl) (fun w' hw' => ?_) ?_
                 rotate_left
                 focus
                   go_simp
                   try with_reducible rfl
                   done
                 simp only [Act.put, List.setIfInBounds_toArray, List.set_cons_zero, List.set_cons_succ]))
          clear hci
          refine plan_eff rfl (by rfl) (fun K hK => ?_)
          go_wp2_with fail
          refine (hP6.out.rimage (hS4.out.rok (by have := hw4.out; omega)) hS4.out.l).mono ?_
          rintro e w7 ⟨rfl, hb7⟩
          refine hK _ _ (below_later hb7 (Nat.le_refl _)) ?_
          clear hK K
          rw [hS4.out.has]
          have hP7 := hide (hP6.out.below hb7)
          have hM7 := hide (hM6.out.below hb7)
          have hT7 := hide (hT6.out.below hb7)
          have hE7 := hide (hE6.out.below hb7)
          have hb7' := hide (hb6'.out.trans (hb7.mono hb6'.out.size))
          have he : (d4.has == d4.has) = true := by simp
          have he1 : (d4.has != d4.has) = false := by simp
          have he2 := strEq d4.has d4.has
          clear hb7 hP6 hM6 hT6 hE6 hb6'
          try simp only [Act.put, List.setIfInBounds_toArray, List.set_cons_zero, List.set_cons_succ]
          repeat
            (first
              | (show wpPlan _ _ _ _ ((true, _) :: _) _ _
                 refine plan_skip rfl (by rfl) ?_
                 simp only [Act.put, List.setIfInBounds_toArray, List.set_cons_zero, List.set_cons_succ])
              | (show wpPlan _ _ _ _ ((false, _) :: _) _ _
                 refine plan_skip_eff (later_refl _) rfl (by rfl) ?_
                 simp only [Act.put, List.setIfInBounds_toArray, List.set_cons_zero, List.set_cons_succ])
              | (show wpPlan _ _ _ _ ((true, _) :: _) _ _
                 refine plan_take (v := ?_) rfl (by rfl) (fun w' hw' => ?_) ?_
                 rotate_left
                 focus
                   go_simp
                   try with_reducible rfl
                   done
                 simp only [Act.put, List.setIfInBounds_toArray, List.set_cons_zero, List.set_cons_succ]))
          refine plan_nil ?_
          go_wp2_with fail
          go_roundw
          case rel => exact ⟨j + 1, by omega, by go_num, d4, r4, A8, c8, A9, n9, c9, o9, lf9, A0, n0, c0, ⟨hP7.out.wide (fun y _ e => by omega), hS4.out, hn4.out, hw4.out, hM7.out, hT7.out, hE7.out, hb7'.out⟩⟩
          case measure => simp [intOf]; omega
        · have hd1 : decide ((placeV f c at_).2 = 0) = false := decide_eq_false hpv
          have hpr : pread d f c at_ = ([], 4) := by
            unfold pread
            rw [if_neg hpv, placeV_err f c at_ hpv]
          have hd2 : ((placeV f c at_).2 == 0) = false := by simp [hpv]
          clear hpv
          have hM2 := hM1
          have hT2 := hT1
          have hE2 := hE1
          have hY2 := hY1'
          have hP2 := hP1
          have hb2 := hb1
          have a1 := hY2.out.c1
          clear hM1 hT1 hE1 hY1' hP1 hb1
          go_wp2_with fail
          refine (hP2.out.eread hT2.out at_ hia.out).mono ?_
          rintro e w4 ⟨bv, rfl, hbv, hb⟩
          rw [hpr] at hbv ⊢
          have hP4 := hide (hP2.out.below hb)
          have hM4 := hide (hM2.out.below hb)
          have hT4 := hide (hT2.out.below hb)
          have hE4 := hide (hE2.out.below hb)
          have hb4 := hide (hb2.out.trans (hb.mono hb2.out.size))
          have hs4 := hb.size
          have hcv := str_conv w4 _ _ hbv.bs
          clear hP2 hM2 hT2 hE2 hb2 hbv hb hpr
          clear hY2 a1 hd1 hd2
          obtain ⟨A8, c8, A9, n9, c9, o9, lf9, A0, n0, c0, hEQ⟩ : ∃ A8 c8 A9 n9 c9 o9 lf9 A0 n0 c0, (A8, c8, A9, n9, c9, o9, lf9, A0, n0, c0) = (A5, c5, A6, n6, c6, o6, lf6, A7, n7, c7) := ⟨_, _, _, _, _, _, _, _, _, _, rfl⟩
          simp only [Prod.mk.injEq] at hEQ
          obtain ⟨rfl, rfl, rfl, rfl, rfl, rfl, rfl, rfl, rfl, rfl⟩ := hEQ
          have hS4 := hS
          have hn4 := hn9
          have hw4 := hide (show d.waits.length ≤ j + 1 by have := hwl.out; omega)
          obtain ⟨d4, rfl⟩ : ∃ d4 : Dk, d4 = d := ⟨_, rfl⟩
          obtain ⟨r4, rfl⟩ : ∃ r4 : Rk, r4 = r := ⟨_, rfl⟩
          go_upto_region 49 with (fail)
          have hq : Below w4.heap.size w4 w4.drew := (Below.refl _ _).drew
          have hP5 := hide (hP4.out.below hq)
          have hM5 := hide (hM4.out.below hq)
          have hT5 := hide (hT4.out.below hq)
          have hE5 := hide (hE4.out.below hq)
          have hb5 := hide (hb4.out.trans (hq.mono hb4.out.size))
          have f := fun w' (hl : Later (fun _ => False) w4.drew w') => hM5.out.later hl (fun h => h)
          have f0 := fun w' hl => (f w' hl).c0
          have f1 := fun w' hl => (f w' hl).c1
          have f2 := fun w' hl => (f w' hl).c2
          have f3 := fun w' hl => (f w' hl).c3
          have f4 := fun w' hl => (f w' hl).c4
          clear f hP4 hM4 hT4 hE4 hb4 hq
          refine region_plan [(true, 0), (true, 3), (false, 1), (true, 2), (false, 4), (true, 5)] (Later fun _ => False) (later_refl _) (later_trans _) (by kernel_rfl) (by kernel_rfl) (fun _ _ d _ _ h => by cases d <;> exact h) ?_
          repeat
            (first
              | (show wpPlan _ _ _ _ ((true, _) :: _) _ _
                 refine plan_skip rfl (by rfl) ?_
                 simp only [Act.put, List.setIfInBounds_toArray, List.set_cons_zero, List.set_cons_succ])
              | (show wpPlan _ _ _ _ ((false, _) :: _) _ _
                 refine plan_skip_eff (later_refl _) rfl (by rfl) ?_
                 simp only [Act.put, List.setIfInBounds_toArray, List.set_cons_zero, List.set_cons_succ])
              | (show wpPlan _ _ _ _ ((true, _) :: _) _ _
                 refine plan_take (v := ?_) rfl (by rfl) (fun w' hw' => ?_) ?_
                 rotate_left
                 focus
                   go_simp
                   try with_reducible rfl
                   done
                 simp only [Act.put, List.setIfInBounds_toArray, List.set_cons_zero, List.set_cons_succ]))
          generalize w4.drew = wd at *
          clear f0 f1 f2 f3 f4
          refine plan_eff rfl (by rfl) (fun K hK => ?_)
          go_wp2_with fail
          refine hP5.out.dimage.mono ?_
          rintro e w6 ⟨im, rfl, him, hb6⟩
          refine hK _ _ (below_later hb6 (Nat.le_refl _)) ?_
          clear hK K
          have hci : ∀ w', Later (fun _ => False) w6 w' → (convert 40 9 im).run Try.prog w' = .ok (.string ⟨d4.has.toArray⟩) w' := fun w' hl => str_conv w' _ _ (him.bs.later0 hl)
          have hP6 := hide (hP5.out.below hb6)
          have hM6 := hide (hM5.out.below hb6)
          have hT6 := hide (hT5.out.below hb6)
          have hE6 := hide (hE5.out.below hb6)
          have hb6' := hide (hb5.out.trans (hb6.mono hb5.out.size))
          clear him hb6 hP5 hM5 hT5 hE5 hb5
          try simp only [Act.put, List.setIfInBounds_toArray, List.set_cons_zero, List.set_cons_succ]
          repeat
            (first
              | (show wpPlan _ _ _ _ ((true, _) :: _) _ _
                 refine plan_skip rfl (by rfl) ?_
                 simp only [Act.put, List.setIfInBounds_toArray, List.set_cons_zero, List.set_cons_succ])
              | (show wpPlan _ _ _ _ ((false, _) :: _) _ _
                 refine plan_skip_eff (later_refl _) rfl (by rfl) ?_
                 simp only [Act.put, List.setIfInBounds_toArray, List.set_cons_zero, List.set_cons_succ])
              | (show wpPlan _ _ _ _ ((true, _) :: _) _ _
                 refine plan_take (v := ?_) rfl (by rfl) (fun w' hw' => ?_) ?_
                 rotate_left
                 focus
                   go_simp
                   try with_reducible rfl
                   done
                 simp only [Act.put, List.setIfInBounds_toArray, List.set_cons_zero, List.set_cons_succ]))
          clear hci
          refine plan_eff rfl (by rfl) (fun K hK => ?_)
          go_wp2_with fail
          refine (hP6.out.rimage (hS4.out.rok (by have := hw4.out; omega)) hS4.out.l).mono ?_
          rintro e w7 ⟨rfl, hb7⟩
          refine hK _ _ (below_later hb7 (Nat.le_refl _)) ?_
          clear hK K
          rw [hS4.out.has]
          have hP7 := hide (hP6.out.below hb7)
          have hM7 := hide (hM6.out.below hb7)
          have hT7 := hide (hT6.out.below hb7)
          have hE7 := hide (hE6.out.below hb7)
          have hb7' := hide (hb6'.out.trans (hb7.mono hb6'.out.size))
          have he : (d4.has == d4.has) = true := by simp
          have he1 : (d4.has != d4.has) = false := by simp
          have he2 := strEq d4.has d4.has
          clear hb7 hP6 hM6 hT6 hE6 hb6'
          try simp only [Act.put, List.setIfInBounds_toArray, List.set_cons_zero, List.set_cons_succ]
          repeat
            (first
              | (show wpPlan _ _ _ _ ((true, _) :: _) _ _
                 refine plan_skip rfl (by rfl) ?_
                 simp only [Act.put, List.setIfInBounds_toArray, List.set_cons_zero, List.set_cons_succ])
              | (show wpPlan _ _ _ _ ((false, _) :: _) _ _
                 refine plan_skip_eff (later_refl _) rfl (by rfl) ?_
                 simp only [Act.put, List.setIfInBounds_toArray, List.set_cons_zero, List.set_cons_succ])
              | (show wpPlan _ _ _ _ ((true, _) :: _) _ _
                 refine plan_take (v := ?_) rfl (by rfl) (fun w' hw' => ?_) ?_
                 rotate_left
                 focus
                   go_simp
                   try with_reducible rfl
                   done
                 simp only [Act.put, List.setIfInBounds_toArray, List.set_cons_zero, List.set_cons_succ]))
          refine plan_nil ?_
          go_wp2_with fail
          go_roundw
          case rel => exact ⟨j + 1, by omega, by go_num, d4, r4, A8, c8, A9, n9, c9, o9, lf9, A0, n0, c0, ⟨hP7.out.wide (fun y _ e => by omega), hS4.out, hn4.out, hw4.out, hM7.out, hT7.out, hE7.out, hb7'.out⟩⟩
          case measure => simp [intOf]; omega
      by_cases hd2 : do_ = 2
      · have hdo := hd2
        clear hd0 hd1
        subst hdo
        have m0 := hM1.out.c0
        have m1 := hM1.out.c1
        have m2 := hM1.out.c2
        have m3 := hM1.out.c3
        have m4 := hM1.out.c4
        go_wp2_with fail
        refine (hP1.out.rflush (Nat.le_refl _) (hS.out.rok (by have := hwl.out; omega)) hS.out.rl).mono ?_
        rintro e w1f ⟨u2, rfl, hp, hb⟩
        obtain ⟨hF1, hF2⟩ := hS.out.flush
        rw [hF1]
        have hS4 := hide hF2
        have hn4 := hide (show d.flush.1.n = 9 by rw [← hF2.n]; have := hF2.n; exact this.symm ▸ (by unfold Dk.flush Dk.goes Dk.crash; (repeat' split) <;> exact hn9.out))
        have hw4 := hide (show d.flush.1.waits.length ≤ j + 1 by have := flush_waits d; have := hwl.out; omega)
        generalize r.flush.1 = r4 at *
        obtain ⟨A8, c8, A9, n9, c9, o9, lf9, A0, n0, c0, rfl, _, _⟩ := hp.shape 9 (hS4.out.n.trans hn4.out)
        clear hF1 hF2
        have hM2 := hide (hM1.out.below hb)
        have hT2 := hide (hT1.out.below hb)
        have hE2 := hide (hE1.out.below hb)
        have hY2 := hide (hY1'.out.below hb)
        have hP2 := hide hp
        have hb2 := hide (hb1.out.trans (hb.mono hb1.out.size))
        have hs2 := hb.size
        clear m0 m1 m2 m3 m4 a0 a1 x0 x1 hM1 hT1 hE1 hY1' hP1 hb1 hp hb
        go_upto_region 36 with (fail)
        have hbo : Below w1f.heap.size w1f (w1f.alloc (.cells #[.slice A8 9 c8, .slice A9 n9 c9, .bool o9, .int .i64 lf9, .slice A0 n0 c0] 71)) := (Below.refl _ _).alloc (Nat.le_refl _) _
        have hZo := RBox.new w1f 71 (.slice A8 9 c8) (.slice A9 n9 c9) (.bool o9) (.int .i64 lf9) (.slice A0 n0 c0)
        replace hM2 := hide (hM2.out.below hbo)
        replace hT2 := hide (hT2.out.below hbo)
        replace hE2 := hide (hE2.out.below hbo)
        replace hY2 := hide (hY2.out.below hbo)
        replace hP2 := hide (hP2.out.below hbo)
        replace hb2 := hide (hb2.out.trans (hbo.mono hb2.out.size))
        have hs2b := hbo.size
        clear hbo
        generalize w1f.alloc (.cells #[.slice A8 9 c8, .slice A9 n9 c9, .bool o9, .int .i64 lf9, .slice A0 n0 c0] 71) = w2 at *
        have z0 := hZo.c0
        have z1 := hZo.c1
        have z2 := hZo.c2
        have z3 := hZo.c3
        have z4 := hZo.c4
        clear hZo
        have t0 := hM2.out.z 0
        have t1 := hM2.out.z 1
        have t2 := hM2.out.z 2
        have t3 := hM2.out.z 3
        have t4 := hM2.out.z 4
        have m0 := hM2.out.c0
        have m1 := hM2.out.c1
        have m2 := hM2.out.c2
        have m3 := hM2.out.c3
        have m4 := hM2.out.c4
        go_upto_region 37 with (fail)
        have hTo := touch_set5 (fun y => y = bm) w2 bm (.slice A8 9 c8) (.slice A9 n9 c9) (.bool o9) (.int .i64 lf9) (.slice A0 n0 c0) rfl
        have hM3 := hide (hM2.out.set5 (.slice A8 9 c8) (.slice A9 n9 c9) (.bool o9) (.int .i64 lf9) (.slice A0 n0 c0))
        have hP3 := hide (hP2.out.setXX (hTo.mono (G := EX bx bm q) (fun y _ e => .inr (.inl e))))
        have hT3 := hide (hT2.out.later hTo.2 (by omega))
        have hE3 := hide (hE2.out.later hTo.2 (by omega))
        have hY3 := hide (hY2.out.later hTo.2 (by omega))
        have hb3 := hide (hb2.out.trans (hTo.below hb2.out.size (fun y hy e => by have := hXb.out bm (.inr (.inl rfl)); omega)))
        have hs3 := hTo.size
        have hL3 := hide hTo.2
        clear t0 t1 t2 t3 t4 m0 m1 m2 m3 m4 hM2 hT2 hE2 hY2 hP2 hb2 hTo
        generalize (((((w2.setCell ⟨bm, 0, none⟩ (.slice A8 9 c8)).setCell ⟨bm, 1, none⟩ (.slice A9 n9 c9)).setCell ⟨bm, 2, none⟩ (.bool o9)).setCell ⟨bm, 3, none⟩ (.int .i64 lf9)).setCell ⟨bm, 4, none⟩ (.slice A0 n0 c0)) = w3 at *
        clear z0 z1 z2 z3 z4
        go_wp2_with fail
        refine (hP3.out.eflush hT3.out hb3.out.size (by omega)).mono ?_
        rintro e w4 ⟨rfl, hp, hbel, hkp⟩
        have hL := bel_later hbel hkp
        have hM4 := hide (hM3.out.later hL (fun h => h (.inr (.inl (.inr (.inl rfl))))))
        have hT4 := hide (hT3.out.later hL (fun h => h (.inr (.inl (.inr (.inr rfl))))))
        have hE4 := hide (hE3.out.later hL (fun h => h (.inr (.inl (.inl rfl)))))
        have hP4 := hide hp
        have hb4 := hide (hb3.out.trans hbel.b)
        have hs4 := hbel.size
        clear hM3 hT3 hE3 hY3 hP3 hb3 hp hbel hkp hL hL3
        generalize d.flush.1 = d4 at *
        generalize d.flush.2 = E at *
        have he : (E != E) = false := by simp
        have he1 : (E == E) = true := by simp
        go_upto_region 49 with (fail)
        have hq : Below w4.heap.size w4 w4.drew := (Below.refl _ _).drew
        have hP5 := hide (hP4.out.below hq)
        have hM5 := hide (hM4.out.below hq)
        have hT5 := hide (hT4.out.below hq)
        have hE5 := hide (hE4.out.below hq)
        have hb5 := hide (hb4.out.trans (hq.mono hb4.out.size))
        have f := fun w' (hl : Later (fun _ => False) w4.drew w') => hM5.out.later hl (fun h => h)
        have f0 := fun w' hl => (f w' hl).c0
        have f1 := fun w' hl => (f w' hl).c1
        have f2 := fun w' hl => (f w' hl).c2
        have f3 := fun w' hl => (f w' hl).c3
        have f4 := fun w' hl => (f w' hl).c4
        clear f hP4 hM4 hT4 hE4 hb4 hq
        refine region_plan [(true, 0), (true, 3), (false, 1), (true, 2), (false, 4), (true, 5)] (Later fun _ => False) (later_refl _) (later_trans _) (by kernel_rfl) (by kernel_rfl) (fun _ _ d _ _ h => by cases d <;> exact h) ?_
        repeat
          (first
            | (show wpPlan _ _ _ _ ((true, _) :: _) _ _
               refine plan_skip rfl (by rfl) ?_
               simp only [Act.put, List.setIfInBounds_toArray, List.set_cons_zero, List.set_cons_succ])
            | (show wpPlan _ _ _ _ ((false, _) :: _) _ _
               refine plan_skip_eff (later_refl _) rfl (by rfl) ?_
               simp only [Act.put, List.setIfInBounds_toArray, List.set_cons_zero, List.set_cons_succ])
            | (show wpPlan _ _ _ _ ((true, _) :: _) _ _
               refine plan_take (v := ?_) rfl (by rfl) (fun w' hw' => ?_) ?_
               rotate_left
               focus
                 go_simp
                 try with_reducible rfl
                 done
               simp only [Act.put, List.setIfInBounds_toArray, List.set_cons_zero, List.set_cons_succ]))
        generalize w4.drew = wd at *
        clear f0 f1 f2 f3 f4
        refine plan_eff rfl (by rfl) (fun K hK => ?_)
        go_wp2_with fail
        refine hP5.out.dimage.mono ?_
        rintro e w6 ⟨im, rfl, him, hb6⟩
        refine hK _ _ (below_later hb6 (Nat.le_refl _)) ?_
        clear hK K
        have hci : ∀ w', Later (fun _ => False) w6 w' → (convert 40 9 im).run Try.prog w' = .ok (.string ⟨d4.has.toArray⟩) w' := fun w' hl => str_conv w' _ _ (him.bs.later0 hl)
        have hP6 := hide (hP5.out.below hb6)
        have hM6 := hide (hM5.out.below hb6)
        have hT6 := hide (hT5.out.below hb6)
        have hE6 := hide (hE5.out.below hb6)
        have hb6' := hide (hb5.out.trans (hb6.mono hb5.out.size))
        clear him hb6 hP5 hM5 hT5 hE5 hb5
        try simp only [Act.put, List.setIfInBounds_toArray, List.set_cons_zero, List.set_cons_succ]
        repeat
          (first
            | (show wpPlan _ _ _ _ ((true, _) :: _) _ _
               refine plan_skip rfl (by rfl) ?_
               simp only [Act.put, List.setIfInBounds_toArray, List.set_cons_zero, List.set_cons_succ])
            | (show wpPlan _ _ _ _ ((false, _) :: _) _ _
               refine plan_skip_eff (later_refl _) rfl (by rfl) ?_
               simp only [Act.put, List.setIfInBounds_toArray, List.set_cons_zero, List.set_cons_succ])
            | (show wpPlan _ _ _ _ ((true, _) :: _) _ _
               refine plan_take (v := ?_) rfl (by rfl) (fun w' hw' => ?_) ?_
               rotate_left
               focus
                 go_simp
                 try with_reducible rfl
                 done
               simp only [Act.put, List.setIfInBounds_toArray, List.set_cons_zero, List.set_cons_succ]))
        clear hci
        refine plan_eff rfl (by rfl) (fun K hK => ?_)
        go_wp2_with fail
        refine (hP6.out.rimage (hS4.out.rok (by have := hw4.out; omega)) hS4.out.l).mono ?_
        rintro e w7 ⟨rfl, hb7⟩
        refine hK _ _ (below_later hb7 (Nat.le_refl _)) ?_
        clear hK K
        rw [hS4.out.has]
        have hP7 := hide (hP6.out.below hb7)
        have hM7 := hide (hM6.out.below hb7)
        have hT7 := hide (hT6.out.below hb7)
        have hE7 := hide (hE6.out.below hb7)
        have hb7' := hide (hb6'.out.trans (hb7.mono hb6'.out.size))
        have he : (d4.has == d4.has) = true := by simp
        have he1 : (d4.has != d4.has) = false := by simp
        have he2 := strEq d4.has d4.has
        clear hb7 hP6 hM6 hT6 hE6 hb6'
        try simp only [Act.put, List.setIfInBounds_toArray, List.set_cons_zero, List.set_cons_succ]
        repeat
          (first
            | (show wpPlan _ _ _ _ ((true, _) :: _) _ _
               refine plan_skip rfl (by rfl) ?_
               simp only [Act.put, List.setIfInBounds_toArray, List.set_cons_zero, List.set_cons_succ])
            | (show wpPlan _ _ _ _ ((false, _) :: _) _ _
               refine plan_skip_eff (later_refl _) rfl (by rfl) ?_
               simp only [Act.put, List.setIfInBounds_toArray, List.set_cons_zero, List.set_cons_succ])
            | (show wpPlan _ _ _ _ ((true, _) :: _) _ _
               refine plan_take (v := ?_) rfl (by rfl) (fun w' hw' => ?_) ?_
               rotate_left
               focus
                 go_simp
                 try with_reducible rfl
                 done
               simp only [Act.put, List.setIfInBounds_toArray, List.set_cons_zero, List.set_cons_succ]))
        refine plan_nil ?_
        go_wp2_with fail
        go_roundw
        case rel => exact ⟨j + 1, by omega, by go_num, d4, r4, A8, c8, A9, n9, c9, o9, lf9, A0, n0, c0, ⟨hP7.out.wide (fun y _ e => by omega), hS4.out, hn4.out, hw4.out, hM7.out, hT7.out, hE7.out, hb7'.out⟩⟩
        case measure => simp [intOf]; omega
      by_cases hd3 : do_ = 3
      · have hdo := hd3
        clear hd0 hd1 hd2
        subst hdo
        have m0 := hM1.out.c0
        have m1 := hM1.out.c1
        have m2 := hM1.out.c2
        have m3 := hM1.out.c3
        have m4 := hM1.out.c4
        go_wp2_with fail
        refine (hP1.out.rimage (hS.out.rok (by have := hwl.out; omega)) hS.out.l).mono ?_
        rintro e w2 ⟨rfl, hb⟩
        rw [hS.out.has]
        have hp := hP1.out.below hb
        have hM2 := hide (hM1.out.below hb)
        have hT2 := hide (hT1.out.below hb)
        have hE2 := hide (hE1.out.below hb)
        have hY2 := hide (hY1'.out.below hb)
        have hP2 := hide hp
        have hb2 := hide (hb1.out.trans (hb.mono hb1.out.size))
        have hs2 := hb.size
        clear m0 m1 m2 m3 m4 a0 a1 x0 x1 hM1 hT1 hE1 hY1' hP1 hb1 hp hb
        go_upto_region 41 with (fail)
        have hq : Below w2.heap.size w2 w2.drew := (Below.refl _ _).drew
        have hP3 := hide (hP2.out.below hq)
        have hM3 := hide (hM2.out.below hq)
        have hT3 := hide (hT2.out.below hq)
        have hE3 := hide (hE2.out.below hq)
        have hb3 := hide (hb2.out.trans (hq.mono hb2.out.size))
        have f0 : ∀ w', Later (fun _ => False) w2.drew w' → w'.cell? ⟨bx, 0, none⟩ = some (.int .i64 (f : Nat)) := fun w' hl => (hE3.out.later hl (fun h => h)).c0
        have f1 : ∀ w', Later (fun _ => False) w2.drew w' → w'.cell? ⟨bx, 1, none⟩ = some (.int .i64 (c : Nat)) := fun w' hl => (hE3.out.later hl (fun h => h)).c1
        have hw1 := hide (show IntKind.i64.wrap (64 * (f : Int)) = ((64 * f : Nat) : Int) by rw [IntWalk.i64_in _ (by omega)]; omega)
        have hw2 := hide (show IntKind.i64.wrap (64 * IntKind.i64.wrap ((f : Int) + (c : Int))) = ((64 * f + 64 * c : Nat) : Int) by rw [IntWalk.i64_in ((f : Int) + (c : Int)) (by omega), IntWalk.i64_in _ (by omega)]; omega)
        have hlen : d.has.length = 576 := by rw [hS.out.ok.len, hn9.out]
        clear hP2 hM2 hT2 hE2 hb2 hq
        refine region_plan [(true, 0), (true, 3), (true, 4), (true, 5), (true, 6), (true, 7), (true, 8), (true, 9), (true, 10), (true, 11), (true, 12), (true, 13), (false, 1), (true, 2), (true, 14)] (Later fun _ => False) (later_refl _) (later_trans _) (by kernel_rfl) (by kernel_rfl) (fun _ _ d _ _ h => by cases d <;> exact h) ?_
        repeat
          (first
            | (show wpPlan _ _ _ _ ((true, _) :: _) _ _
               refine plan_skip rfl (by rfl) ?_
               simp only [Act.put, List.setIfInBounds_toArray, List.set_cons_zero, List.set_cons_succ])
            | (show wpPlan _ _ _ _ ((false, _) :: _) _ _
               refine plan_skip_eff (later_refl _) rfl (by rfl) ?_
               simp only [Act.put, List.setIfInBounds_toArray, List.set_cons_zero, List.set_cons_succ])
            | (show wpPlan _ _ _ _ ((true, _) :: _) _ _
               refine plan_take (v := ?_) rfl (by rfl) (fun w' hw' => ?_) ?_
               rotate_left
               focus
                 go_simp
                 try with_reducible rfl
                 done
               simp only [Act.put, List.setIfInBounds_toArray, List.set_cons_zero, List.set_cons_succ]))
        generalize w2.drew = wd at *
        refine plan_take (v := .string ⟨((d.has.drop (64 * f)).take (64 * c)).toArray⟩) rfl (by rfl) (fun w' hw' => ?_) ?_
        · go_simp
          rw [hw1.out, hw2.out, if_pos (by omega), if_pos (by omega), Int.toNat_natCast, Int.toNat_natCast, ext_chunk]
        try simp only [Act.put, List.setIfInBounds_toArray, List.set_cons_zero, List.set_cons_succ]
        repeat
          (first
            | (show wpPlan _ _ _ _ ((true, _) :: _) _ _
               refine plan_skip rfl (by rfl) ?_
               simp only [Act.put, List.setIfInBounds_toArray, List.set_cons_zero, List.set_cons_succ])
            | (show wpPlan _ _ _ _ ((false, _) :: _) _ _
               refine plan_skip_eff (later_refl _) rfl (by rfl) ?_
               simp only [Act.put, List.setIfInBounds_toArray, List.set_cons_zero, List.set_cons_succ])
            | (show wpPlan _ _ _ _ ((true, _) :: _) _ _
               refine plan_take (v := ?_) rfl (by rfl) (fun w' hw' => ?_) ?_
               rotate_left
               focus
                 go_simp
                 try with_reducible rfl
                 done
               simp only [Act.put, List.setIfInBounds_toArray, List.set_cons_zero, List.set_cons_succ]))
        clear f0 f1
        refine plan_eff rfl (by rfl) (fun K hK => ?_)
        go_wp2_with fail
        refine (hP3.out.eimage hT3.out (by rw [hn9.out]; exact hfc)).mono ?_
        rintro e w4 ⟨im, rfl, him, hb⟩
        generalize (d.has.drop (64 * f)).take (64 * c) = L at *
        refine hK _ _ (below_later hb (Nat.le_refl _)) ?_
        clear hK K
        have hci : ∀ w', Later (fun _ => False) w4 w' → (convert 40 9 im).run Try.prog w' = .ok (.string ⟨L.toArray⟩) w' := fun w' hl => str_conv w' _ _ (him.bs.later0 hl)
        have hP4 := hide (hP3.out.below hb)
        have hM4 := hide (hM3.out.below hb)
        have hT4 := hide (hT3.out.below hb)
        have hE4 := hide (hE3.out.below hb)
        have hb4 := hide (hb3.out.trans (hb.mono hb3.out.size))
        have hs4 := hb.size
        have he2 : (L != L) = false := by simp
        have he3 : (L == L) = true := by simp
        have he4 := strEq L L
        clear him hb hP3 hM3 hT3 hE3 hb3 hY2
        try simp only [Act.put, List.setIfInBounds_toArray, List.set_cons_zero, List.set_cons_succ]
        repeat
          (first
            | (show wpPlan _ _ _ _ ((true, _) :: _) _ _
               refine plan_skip rfl (by rfl) ?_
               simp only [Act.put, List.setIfInBounds_toArray, List.set_cons_zero, List.set_cons_succ])
            | (show wpPlan _ _ _ _ ((false, _) :: _) _ _
               refine plan_skip_eff (later_refl _) rfl (by rfl) ?_
               simp only [Act.put, List.setIfInBounds_toArray, List.set_cons_zero, List.set_cons_succ])
            | (show wpPlan _ _ _ _ ((true, _) :: _) _ _
               refine plan_take (v := ?_) rfl (by rfl) (fun w' hw' => ?_) ?_
               rotate_left
               focus
                 go_simp
                 try with_reducible rfl
                 done
               simp only [Act.put, List.setIfInBounds_toArray, List.set_cons_zero, List.set_cons_succ]))
        refine plan_nil ?_
        clear hci
        obtain ⟨A8, c8, A9, n9, c9, o9, lf9, A0, n0, c0, hEQ⟩ : ∃ A8 c8 A9 n9 c9 o9 lf9 A0 n0 c0, (A8, c8, A9, n9, c9, o9, lf9, A0, n0, c0) = (A5, c5, A6, n6, c6, o6, lf6, A7, n7, c7) := ⟨_, _, _, _, _, _, _, _, _, _, rfl⟩
        simp only [Prod.mk.injEq] at hEQ
        obtain ⟨rfl, rfl, rfl, rfl, rfl, rfl, rfl, rfl, rfl, rfl⟩ := hEQ
        have hS4 := hS
        have hn4 := hn9
        have hw4 := hide (show d.waits.length ≤ j + 1 by have := hwl.out; omega)
        obtain ⟨d4, rfl⟩ : ∃ d4 : Dk, d4 = d := ⟨_, rfl⟩
        obtain ⟨r4, rfl⟩ : ∃ r4 : Rk, r4 = r := ⟨_, rfl⟩
        go_upto_region 49 with (fail)
        have hq : Below w4.heap.size w4 w4.drew := (Below.refl _ _).drew
        have hP5 := hide (hP4.out.below hq)
        have hM5 := hide (hM4.out.below hq)
        have hT5 := hide (hT4.out.below hq)
        have hE5 := hide (hE4.out.below hq)
        have hb5 := hide (hb4.out.trans (hq.mono hb4.out.size))
        have f := fun w' (hl : Later (fun _ => False) w4.drew w') => hM5.out.later hl (fun h => h)
        have f0 := fun w' hl => (f w' hl).c0
        have f1 := fun w' hl => (f w' hl).c1
        have f2 := fun w' hl => (f w' hl).c2
        have f3 := fun w' hl => (f w' hl).c3
        have f4 := fun w' hl => (f w' hl).c4
        clear f hP4 hM4 hT4 hE4 hb4 hq
        refine region_plan [(true, 0), (true, 3), (false, 1), (true, 2), (false, 4), (true, 5)] (Later fun _ => False) (later_refl _) (later_trans _) (by kernel_rfl) (by kernel_rfl) (fun _ _ d _ _ h => by cases d <;> exact h) ?_
        repeat
          (first
            | (show wpPlan _ _ _ _ ((true, _) :: _) _ _
               refine plan_skip rfl (by rfl) ?_
               simp only [Act.put, List.setIfInBounds_toArray, List.set_cons_zero, List.set_cons_succ])
            | (show wpPlan _ _ _ _ ((false, _) :: _) _ _
               refine plan_skip_eff (later_refl _) rfl (by rfl) ?_
               simp only [Act.put, List.setIfInBounds_toArray, List.set_cons_zero, List.set_cons_succ])
            | (show wpPlan _ _ _ _ ((true, _) :: _) _ _
               refine plan_take (v := ?_) rfl (by rfl) (fun w' hw' => ?_) ?_
               rotate_left
               focus
                 go_simp
                 try with_reducible rfl
                 done
               simp only [Act.put, List.setIfInBounds_toArray, List.set_cons_zero, List.set_cons_succ]))
        generalize w4.drew = wd at *
        clear f0 f1 f2 f3 f4
        refine plan_eff rfl (by rfl) (fun K hK => ?_)
        go_wp2_with fail
        refine hP5.out.dimage.mono ?_
        rintro e w6 ⟨im, rfl, him, hb6⟩
        refine hK _ _ (below_later hb6 (Nat.le_refl _)) ?_
        clear hK K
        have hci : ∀ w', Later (fun _ => False) w6 w' → (convert 40 9 im).run Try.prog w' = .ok (.string ⟨d4.has.toArray⟩) w' := fun w' hl => str_conv w' _ _ (him.bs.later0 hl)
        have hP6 := hide (hP5.out.below hb6)
        have hM6 := hide (hM5.out.below hb6)
        have hT6 := hide (hT5.out.below hb6)
        have hE6 := hide (hE5.out.below hb6)
        have hb6' := hide (hb5.out.trans (hb6.mono hb5.out.size))
        clear him hb6 hP5 hM5 hT5 hE5 hb5
        try simp only [Act.put, List.setIfInBounds_toArray, List.set_cons_zero, List.set_cons_succ]
        repeat
          (first
            | (show wpPlan _ _ _ _ ((true, _) :: _) _ _
               refine plan_skip rfl (by rfl) ?_
               simp only [Act.put, List.setIfInBounds_toArray, List.set_cons_zero, List.set_cons_succ])
            | (show wpPlan _ _ _ _ ((false, _) :: _) _ _
               refine plan_skip_eff (later_refl _) rfl (by rfl) ?_
               simp only [Act.put, List.setIfInBounds_toArray, List.set_cons_zero, List.set_cons_succ])
            | (show wpPlan _ _ _ _ ((true, _) :: _) _ _
               refine plan_take (v := ?_) rfl (by rfl) (fun w' hw' => ?_) ?_
               rotate_left
               focus
                 go_simp
                 try with_reducible rfl
                 done
               simp only [Act.put, List.setIfInBounds_toArray, List.set_cons_zero, List.set_cons_succ]))
        clear hci
        refine plan_eff rfl (by rfl) (fun K hK => ?_)
        go_wp2_with fail
        refine (hP6.out.rimage (hS4.out.rok (by have := hw4.out; omega)) hS4.out.l).mono ?_
        rintro e w7 ⟨rfl, hb7⟩
        refine hK _ _ (below_later hb7 (Nat.le_refl _)) ?_
        clear hK K
        rw [hS4.out.has]
        have hP7 := hide (hP6.out.below hb7)
        have hM7 := hide (hM6.out.below hb7)
        have hT7 := hide (hT6.out.below hb7)
        have hE7 := hide (hE6.out.below hb7)
        have hb7' := hide (hb6'.out.trans (hb7.mono hb6'.out.size))
        have he : (d4.has == d4.has) = true := by simp
        have he1 : (d4.has != d4.has) = false := by simp
        have he2 := strEq d4.has d4.has
        clear hb7 hP6 hM6 hT6 hE6 hb6'
        try simp only [Act.put, List.setIfInBounds_toArray, List.set_cons_zero, List.set_cons_succ]
        repeat
          (first
            | (show wpPlan _ _ _ _ ((true, _) :: _) _ _
               refine plan_skip rfl (by rfl) ?_
               simp only [Act.put, List.setIfInBounds_toArray, List.set_cons_zero, List.set_cons_succ])
            | (show wpPlan _ _ _ _ ((false, _) :: _) _ _
               refine plan_skip_eff (later_refl _) rfl (by rfl) ?_
               simp only [Act.put, List.setIfInBounds_toArray, List.set_cons_zero, List.set_cons_succ])
            | (show wpPlan _ _ _ _ ((true, _) :: _) _ _
               refine plan_take (v := ?_) rfl (by rfl) (fun w' hw' => ?_) ?_
               rotate_left
               focus
                 go_simp
                 try with_reducible rfl
                 done
               simp only [Act.put, List.setIfInBounds_toArray, List.set_cons_zero, List.set_cons_succ]))
        refine plan_nil ?_
        go_wp2_with fail
        go_roundw
        case rel => exact ⟨j + 1, by omega, by go_num, d4, r4, A8, c8, A9, n9, c9, o9, lf9, A0, n0, c0, ⟨hP7.out.wide (fun y _ e => by omega), hS4.out, hn4.out, hw4.out, hM7.out, hT7.out, hE7.out, hb7'.out⟩⟩
        case measure => simp [intOf]; omega
      by_cases hd4 : do_ = 4
      · have hdo := hd4
        clear hd0 hd1 hd2 hd3
        subst hdo
        have a4 := hY1'.out.c4
        go_wp2_with fail
        refine (hP1.out.dcrash hb1.out.size (Nat.le_refl _) _ kl hk1.out).mono ?_
        rintro e wg ⟨rfl, hp, hbel, hkp⟩
        clear a4
        have hL := bel_later hbel hkp
        have hM2 := hide (hM1.out.later hL (fun h => h (.inr (.inl (.inr (.inl rfl))))))
        have hT2 := hide (hT1.out.later hL (fun h => h (.inr (.inl (.inr (.inr rfl))))))
        have hE2 := hide (hE1.out.later hL (fun h => h (.inr (.inl (.inl rfl)))))
        have hY2 := hide (hY1'.out.later hL (fun h => h (.inr (.inr ⟨Nat.le_refl _, by omega⟩))))
        have hP2 := hide hp
        have hb2 := hide (hb1.out.trans hbel.b)
        have hs2 := hbel.size
        have hk2 := hide (hk1.out.below hbel.b)
        clear a0 a1 x0 x1 hM1 hT1 hE1 hY1' hP1 hb1 hp hbel hkp hL
        have m0 := hM2.out.c0
        have m1 := hM2.out.c1
        have m2 := hM2.out.c2
        have m3 := hM2.out.c3
        have m4 := hM2.out.c4
        have a4 := hY2.out.c4
        have hS4 := hide (hS.out.crash kl)
        have hn4 := hide (show (d.crash kl).n = 9 by have := hn9.out; unfold Dk.crash; split <;> exact this)
        have hw4 := hide (show (d.crash kl).waits.length ≤ j + 1 by have := crash_waits d kl; have := hwl.out; omega)
        go_wp2_with fail
        refine (hP2.out.rcrash (by omega) _ kl hk2.out.1 (hS.out.rok (by have := hwl.out; omega))).mono ?_
        rintro e w2 ⟨u2, rfl, hp, hb⟩
        generalize d.crash kl = d4 at *
        generalize r.crash kl = r4 at *
        obtain ⟨A8, c8, A9, n9, c9, o9, lf9, A0, n0, c0, rfl, _, _⟩ := hp.shape 9 (hS4.out.n.trans hn4.out)
        clear a4
        replace hM2 := hide (hM2.out.below hb)
        replace hT2 := hide (hT2.out.below hb)
        replace hE2 := hide (hE2.out.below hb)
        replace hY2 := hide (hY2.out.below hb)
        replace hP2 := hide hp
        replace hb2 := hide (hb2.out.trans (hb.mono hb2.out.size))
        have hs2b := hb.size
        clear m0 m1 m2 m3 m4 hp hb
        have t0 := hM2.out.z 0
        have t1 := hM2.out.z 1
        have t2 := hM2.out.z 2
        have t3 := hM2.out.z 3
        have t4 := hM2.out.z 4
        have m0 := hM2.out.c0
        have m1 := hM2.out.c1
        have m2 := hM2.out.c2
        have m3 := hM2.out.c3
        have m4 := hM2.out.c4
        go_upto_region 49 with (fail)
        have hTo := touch_set5 (fun y => y = bm) w2 bm (.slice A8 9 c8) (.slice A9 n9 c9) (.bool o9) (.int .i64 lf9) (.slice A0 n0 c0) rfl
        have hM3 := hide (hM2.out.set5 (.slice A8 9 c8) (.slice A9 n9 c9) (.bool o9) (.int .i64 lf9) (.slice A0 n0 c0))
        have hP3 := hide (hP2.out.setXX (hTo.mono (G := EX bx bm q) (fun y _ e => .inr (.inl e))))
        have hT3 := hide (hT2.out.later hTo.2 (by omega))
        have hE3 := hide (hE2.out.later hTo.2 (by omega))
        have hY3 := hide (hY2.out.later hTo.2 (by omega))
        have hb3 := hide (hb2.out.trans (hTo.below hb2.out.size (fun y hy e => by have := hXb.out bm (.inr (.inl rfl)); omega)))
        have hs3 := hTo.size
        have hL3 := hide hTo.2
        clear t0 t1 t2 t3 t4 m0 m1 m2 m3 m4 hM2 hT2 hE2 hY2 hP2 hb2 hTo
        generalize (((((w2.setCell ⟨bm, 0, none⟩ (.slice A8 9 c8)).setCell ⟨bm, 1, none⟩ (.slice A9 n9 c9)).setCell ⟨bm, 2, none⟩ (.bool o9)).setCell ⟨bm, 3, none⟩ (.int .i64 lf9)).setCell ⟨bm, 4, none⟩ (.slice A0 n0 c0)) = w3 at *
        have hM4 := hM3
        have hT4 := hT3
        have hE4 := hE3
        have hP4 := hP3
        have hb4 := hb3
        have hs4 := hs3
        obtain ⟨w4, rfl⟩ : ∃ w4 : World, w4 = w3 := ⟨_, rfl⟩
        clear hM3 hT3 hE3 hP3 hb3 hY3 hL3
        go_upto_region 49 with (fail)
        have hq : Below w4.heap.size w4 w4.drew := (Below.refl _ _).drew
        have hP5 := hide (hP4.out.below hq)
        have hM5 := hide (hM4.out.below hq)
        have hT5 := hide (hT4.out.below hq)
        have hE5 := hide (hE4.out.below hq)
        have hb5 := hide (hb4.out.trans (hq.mono hb4.out.size))
        have f := fun w' (hl : Later (fun _ => False) w4.drew w') => hM5.out.later hl (fun h => h)
        have f0 := fun w' hl => (f w' hl).c0
        have f1 := fun w' hl => (f w' hl).c1
        have f2 := fun w' hl => (f w' hl).c2
        have f3 := fun w' hl => (f w' hl).c3
        have f4 := fun w' hl => (f w' hl).c4
        clear f hP4 hM4 hT4 hE4 hb4 hq
        refine region_plan [(true, 0), (true, 3), (false, 1), (true, 2), (false, 4), (true, 5)] (Later fun _ => False) (later_refl _) (later_trans _) (by kernel_rfl) (by kernel_rfl) (fun _ _ d _ _ h => by cases d <;> exact h) ?_
        repeat
          (first
            | (show wpPlan _ _ _ _ ((true, _) :: _) _ _
               refine plan_skip rfl (by rfl) ?_
               simp only [Act.put, List.setIfInBounds_toArray, List.set_cons_zero, List.set_cons_succ])
            | (show wpPlan _ _ _ _ ((false, _) :: _) _ _
               refine plan_skip_eff (later_refl _) rfl (by rfl) ?_
               simp only [Act.put, List.setIfInBounds_toArray, List.set_cons_zero, List.set_cons_succ])
            | (show wpPlan _ _ _ _ ((true, _) :: _) _ _
               refine plan_take (v := ?_) rfl (by rfl) (fun w' hw' => ?_) ?_
               rotate_left
               focus
                 go_simp
                 try with_reducible rfl
                 done
               simp only [Act.put, List.setIfInBounds_toArray, List.set_cons_zero, List.set_cons_succ]))
        generalize w4.drew = wd at *
        clear f0 f1 f2 f3 f4
        refine plan_eff rfl (by rfl) (fun K hK => ?_)
        go_wp2_with fail
        refine hP5.out.dimage.mono ?_
        rintro e w6 ⟨im, rfl, him, hb6⟩
        refine hK _ _ (below_later hb6 (Nat.le_refl _)) ?_
        clear hK K
        have hci : ∀ w', Later (fun _ => False) w6 w' → (convert 40 9 im).run Try.prog w' = .ok (.string ⟨d4.has.toArray⟩) w' := fun w' hl => str_conv w' _ _ (him.bs.later0 hl)
        have hP6 := hide (hP5.out.below hb6)
        have hM6 := hide (hM5.out.below hb6)
        have hT6 := hide (hT5.out.below hb6)
        have hE6 := hide (hE5.out.below hb6)
        have hb6' := hide (hb5.out.trans (hb6.mono hb5.out.size))
        clear him hb6 hP5 hM5 hT5 hE5 hb5
        try simp only [Act.put, List.setIfInBounds_toArray, List.set_cons_zero, List.set_cons_succ]
        repeat
          (first
            | (show wpPlan _ _ _ _ ((true, _) :: _) _ _
               refine plan_skip rfl (by rfl) ?_
               simp only [Act.put, List.setIfInBounds_toArray, List.set_cons_zero, List.set_cons_succ])
            | (show wpPlan _ _ _ _ ((false, _) :: _) _ _
               refine plan_skip_eff (later_refl _) rfl (by rfl) ?_
               simp only [Act.put, List.setIfInBounds_toArray, List.set_cons_zero, List.set_cons_succ])
            | (show wpPlan _ _ _ _ ((true, _) :: _) _ _
               refine plan_take (v := ?_) rfl (by rfl) (fun w' hw' => ?_) ?_
               rotate_left
               focus
                 go_simp
                 try with_reducible rfl
                 done
               simp only [Act.put, List.setIfInBounds_toArray, List.set_cons_zero, List.set_cons_succ]))
        clear hci
        refine plan_eff rfl (by rfl) (fun K hK => ?_)
        go_wp2_with fail
        refine (hP6.out.rimage (hS4.out.rok (by have := hw4.out; omega)) hS4.out.l).mono ?_
        rintro e w7 ⟨rfl, hb7⟩
        refine hK _ _ (below_later hb7 (Nat.le_refl _)) ?_
        clear hK K
        rw [hS4.out.has]
        have hP7 := hide (hP6.out.below hb7)
        have hM7 := hide (hM6.out.below hb7)
        have hT7 := hide (hT6.out.below hb7)
        have hE7 := hide (hE6.out.below hb7)
        have hb7' := hide (hb6'.out.trans (hb7.mono hb6'.out.size))
        have he : (d4.has == d4.has) = true := by simp
        have he1 : (d4.has != d4.has) = false := by simp
        have he2 := strEq d4.has d4.has
        clear hb7 hP6 hM6 hT6 hE6 hb6'
        try simp only [Act.put, List.setIfInBounds_toArray, List.set_cons_zero, List.set_cons_succ]
        repeat
          (first
            | (show wpPlan _ _ _ _ ((true, _) :: _) _ _
               refine plan_skip rfl (by rfl) ?_
               simp only [Act.put, List.setIfInBounds_toArray, List.set_cons_zero, List.set_cons_succ])
            | (show wpPlan _ _ _ _ ((false, _) :: _) _ _
               refine plan_skip_eff (later_refl _) rfl (by rfl) ?_
               simp only [Act.put, List.setIfInBounds_toArray, List.set_cons_zero, List.set_cons_succ])
            | (show wpPlan _ _ _ _ ((true, _) :: _) _ _
               refine plan_take (v := ?_) rfl (by rfl) (fun w' hw' => ?_) ?_
               rotate_left
               focus
                 go_simp
                 try with_reducible rfl
                 done
               simp only [Act.put, List.setIfInBounds_toArray, List.set_cons_zero, List.set_cons_succ]))
        refine plan_nil ?_
        go_wp2_with fail
        go_roundw
        case rel => exact ⟨j + 1, by omega, by go_num, d4, r4, A8, c8, A9, n9, c9, o9, lf9, A0, n0, c0, ⟨hP7.out.wide (fun y _ e => by omega), hS4.out, hn4.out, hw4.out, hM7.out, hT7.out, hE7.out, hb7'.out⟩⟩
        case measure => simp [intOf]; omega
      by_cases hd5 : do_ = 5
      · have hdo := hd5
        clear hd0 hd1 hd2 hd3 hd4
        subst hdo
        go_wp2_with fail
        refine (hP1.out.dpower hb1.out.size (Nat.le_refl _)).mono ?_
        rintro e wg ⟨rfl, hp, hbel, hkp⟩
        have hL := bel_later hbel hkp
        have hM2 := hide (hM1.out.later hL (fun h => h (.inr (.inl (.inr (.inl rfl))))))
        have hT2 := hide (hT1.out.later hL (fun h => h (.inr (.inl (.inr (.inr rfl))))))
        have hE2 := hide (hE1.out.later hL (fun h => h (.inr (.inl (.inl rfl)))))
        have hY2 := hide (hY1'.out.later hL (fun h => h (.inr (.inr ⟨Nat.le_refl _, by omega⟩))))
        have hP2 := hide hp
        have hb2 := hide (hb1.out.trans hbel.b)
        have hs2 := hbel.size
        have hk2 := hide (hk1.out.below hbel.b)
        clear a0 a1 x0 x1 hM1 hT1 hE1 hY1' hP1 hb1 hp hbel hkp hL
        have m0 := hM2.out.c0
        have m1 := hM2.out.c1
        have m2 := hM2.out.c2
        have m3 := hM2.out.c3
        have m4 := hM2.out.c4
        have hS4 := hide hS.out.power
        have hn4 := hide (show d.power.n = 9 from hn9.out)
        have hw4 := hide (show d.power.waits.length ≤ j + 1 from Nat.zero_le _)
        go_wp2_with fail
        refine (hP2.out.rpower (by omega)).mono ?_
        rintro e w2 ⟨u2, rfl, hp, hb⟩
        generalize d.power = d4 at *
        generalize r.power = r4 at *
        obtain ⟨A8, c8, A9, n9, c9, o9, lf9, A0, n0, c0, rfl, _, _⟩ := hp.shape 9 (hS4.out.n.trans hn4.out)
        replace hM2 := hide (hM2.out.below hb)
        replace hT2 := hide (hT2.out.below hb)
        replace hE2 := hide (hE2.out.below hb)
        replace hY2 := hide (hY2.out.below hb)
        replace hP2 := hide hp
        replace hb2 := hide (hb2.out.trans (hb.mono hb2.out.size))
        have hs2b := hb.size
        clear m0 m1 m2 m3 m4 hp hb
        have t0 := hM2.out.z 0
        have t1 := hM2.out.z 1
        have t2 := hM2.out.z 2
        have t3 := hM2.out.z 3
        have t4 := hM2.out.z 4
        have m0 := hM2.out.c0
        have m1 := hM2.out.c1
        have m2 := hM2.out.c2
        have m3 := hM2.out.c3
        have m4 := hM2.out.c4
        go_upto_region 49 with (fail)
        have hTo := touch_set5 (fun y => y = bm) w2 bm (.slice A8 9 c8) (.slice A9 n9 c9) (.bool o9) (.int .i64 lf9) (.slice A0 n0 c0) rfl
        have hM3 := hide (hM2.out.set5 (.slice A8 9 c8) (.slice A9 n9 c9) (.bool o9) (.int .i64 lf9) (.slice A0 n0 c0))
        have hP3 := hide (hP2.out.setXX (hTo.mono (G := EX bx bm q) (fun y _ e => .inr (.inl e))))
        have hT3 := hide (hT2.out.later hTo.2 (by omega))
        have hE3 := hide (hE2.out.later hTo.2 (by omega))
        have hY3 := hide (hY2.out.later hTo.2 (by omega))
        have hb3 := hide (hb2.out.trans (hTo.below hb2.out.size (fun y hy e => by have := hXb.out bm (.inr (.inl rfl)); omega)))
        have hs3 := hTo.size
        have hL3 := hide hTo.2
        clear t0 t1 t2 t3 t4 m0 m1 m2 m3 m4 hM2 hT2 hE2 hY2 hP2 hb2 hTo
        generalize (((((w2.setCell ⟨bm, 0, none⟩ (.slice A8 9 c8)).setCell ⟨bm, 1, none⟩ (.slice A9 n9 c9)).setCell ⟨bm, 2, none⟩ (.bool o9)).setCell ⟨bm, 3, none⟩ (.int .i64 lf9)).setCell ⟨bm, 4, none⟩ (.slice A0 n0 c0)) = w3 at *
        have hM4 := hM3
        have hT4 := hT3
        have hE4 := hE3
        have hP4 := hP3
        have hb4 := hb3
        have hs4 := hs3
        obtain ⟨w4, rfl⟩ : ∃ w4 : World, w4 = w3 := ⟨_, rfl⟩
        clear hM3 hT3 hE3 hP3 hb3 hY3 hL3
        go_upto_region 49 with (fail)
        have hq : Below w4.heap.size w4 w4.drew := (Below.refl _ _).drew
        have hP5 := hide (hP4.out.below hq)
        have hM5 := hide (hM4.out.below hq)
        have hT5 := hide (hT4.out.below hq)
        have hE5 := hide (hE4.out.below hq)
        have hb5 := hide (hb4.out.trans (hq.mono hb4.out.size))
        have f := fun w' (hl : Later (fun _ => False) w4.drew w') => hM5.out.later hl (fun h => h)
        have f0 := fun w' hl => (f w' hl).c0
        have f1 := fun w' hl => (f w' hl).c1
        have f2 := fun w' hl => (f w' hl).c2
        have f3 := fun w' hl => (f w' hl).c3
        have f4 := fun w' hl => (f w' hl).c4
        clear f hP4 hM4 hT4 hE4 hb4 hq
        refine region_plan [(true, 0), (true, 3), (false, 1), (true, 2), (false, 4), (true, 5)] (Later fun _ => False) (later_refl _) (later_trans _) (by kernel_rfl) (by kernel_rfl) (fun _ _ d _ _ h => by cases d <;> exact h) ?_
        repeat
          (first
            | (show wpPlan _ _ _ _ ((true, _) :: _) _ _
               refine plan_skip rfl (by rfl) ?_
               simp only [Act.put, List.setIfInBounds_toArray, List.set_cons_zero, List.set_cons_succ])
            | (show wpPlan _ _ _ _ ((false, _) :: _) _ _
               refine plan_skip_eff (later_refl _) rfl (by rfl) ?_
               simp only [Act.put, List.setIfInBounds_toArray, List.set_cons_zero, List.set_cons_succ])
            | (show wpPlan _ _ _ _ ((true, _) :: _) _ _
               refine plan_take (v := ?_) rfl (by rfl) (fun w' hw' => ?_) ?_
               rotate_left
               focus
                 go_simp
                 try with_reducible rfl
                 done
               simp only [Act.put, List.setIfInBounds_toArray, List.set_cons_zero, List.set_cons_succ]))
        generalize w4.drew = wd at *
        clear f0 f1 f2 f3 f4
        refine plan_eff rfl (by rfl) (fun K hK => ?_)
        go_wp2_with fail
        refine hP5.out.dimage.mono ?_
        rintro e w6 ⟨im, rfl, him, hb6⟩
        refine hK _ _ (below_later hb6 (Nat.le_refl _)) ?_
        clear hK K
        have hci : ∀ w', Later (fun _ => False) w6 w' → (convert 40 9 im).run Try.prog w' = .ok (.string ⟨d4.has.toArray⟩) w' := fun w' hl => str_conv w' _ _ (him.bs.later0 hl)
        have hP6 := hide (hP5.out.below hb6)
        have hM6 := hide (hM5.out.below hb6)
        have hT6 := hide (hT5.out.below hb6)
        have hE6 := hide (hE5.out.below hb6)
        have hb6' := hide (hb5.out.trans (hb6.mono hb5.out.size))
        clear him hb6 hP5 hM5 hT5 hE5 hb5
        try simp only [Act.put, List.setIfInBounds_toArray, List.set_cons_zero, List.set_cons_succ]
        repeat
          (first
            | (show wpPlan _ _ _ _ ((true, _) :: _) _ _
               refine plan_skip rfl (by rfl) ?_
               simp only [Act.put, List.setIfInBounds_toArray, List.set_cons_zero, List.set_cons_succ])
            | (show wpPlan _ _ _ _ ((false, _) :: _) _ _
               refine plan_skip_eff (later_refl _) rfl (by rfl) ?_
               simp only [Act.put, List.setIfInBounds_toArray, List.set_cons_zero, List.set_cons_succ])
            | (show wpPlan _ _ _ _ ((true, _) :: _) _ _
               refine plan_take (v := ?_) rfl (by rfl) (fun w' hw' => ?_) ?_
               rotate_left
               focus
                 go_simp
                 try with_reducible rfl
                 done
               simp only [Act.put, List.setIfInBounds_toArray, List.set_cons_zero, List.set_cons_succ]))
        clear hci
        refine plan_eff rfl (by rfl) (fun K hK => ?_)
        go_wp2_with fail
        refine (hP6.out.rimage (hS4.out.rok (by have := hw4.out; omega)) hS4.out.l).mono ?_
        rintro e w7 ⟨rfl, hb7⟩
        refine hK _ _ (below_later hb7 (Nat.le_refl _)) ?_
        clear hK K
        rw [hS4.out.has]
        have hP7 := hide (hP6.out.below hb7)
        have hM7 := hide (hM6.out.below hb7)
        have hT7 := hide (hT6.out.below hb7)
        have hE7 := hide (hE6.out.below hb7)
        have hb7' := hide (hb6'.out.trans (hb7.mono hb6'.out.size))
        have he : (d4.has == d4.has) = true := by simp
        have he1 : (d4.has != d4.has) = false := by simp
        have he2 := strEq d4.has d4.has
        clear hb7 hP6 hM6 hT6 hE6 hb6'
        try simp only [Act.put, List.setIfInBounds_toArray, List.set_cons_zero, List.set_cons_succ]
        repeat
          (first
            | (show wpPlan _ _ _ _ ((true, _) :: _) _ _
               refine plan_skip rfl (by rfl) ?_
               simp only [Act.put, List.setIfInBounds_toArray, List.set_cons_zero, List.set_cons_succ])
            | (show wpPlan _ _ _ _ ((false, _) :: _) _ _
               refine plan_skip_eff (later_refl _) rfl (by rfl) ?_
               simp only [Act.put, List.setIfInBounds_toArray, List.set_cons_zero, List.set_cons_succ])
            | (show wpPlan _ _ _ _ ((true, _) :: _) _ _
               refine plan_take (v := ?_) rfl (by rfl) (fun w' hw' => ?_) ?_
               rotate_left
               focus
                 go_simp
                 try with_reducible rfl
                 done
               simp only [Act.put, List.setIfInBounds_toArray, List.set_cons_zero, List.set_cons_succ]))
        refine plan_nil ?_
        go_wp2_with fail
        go_roundw
        case rel => exact ⟨j + 1, by omega, by go_num, d4, r4, A8, c8, A9, n9, c9, o9, lf9, A0, n0, c0, ⟨hP7.out.wide (fun y _ e => by omega), hS4.out, hn4.out, hw4.out, hM7.out, hT7.out, hE7.out, hb7'.out⟩⟩
        case measure => simp [intOf]; omega
      have hdo : ¬ do_ = 0 ∧ ¬ do_ = 1 ∧ ¬ do_ = 2 ∧ ¬ do_ = 3 ∧ ¬ do_ = 4 ∧ ¬ do_ = 5 := ⟨hd0, hd1, hd2, hd3, hd4, hd5⟩
      clear hd0 hd1 hd2 hd3 hd4 hd5
      have q0 : decide (do_ = 0) = false := decide_eq_false (by omega)
      have q1 : decide (do_ = 1) = false := decide_eq_false (by omega)
      have q2 : decide (do_ = 2) = false := decide_eq_false (by omega)
      have q3 : decide (do_ = 3) = false := decide_eq_false (by omega)
      have q4 : decide (do_ = 4) = false := decide_eq_false (by omega)
      have q5 : decide (do_ = 5) = false := decide_eq_false (by omega)
      have p0 : (do_ == 0) = false := by simp; omega
      have p1 : (do_ == 1) = false := by simp; omega
      have p2 : (do_ == 2) = false := by simp; omega
      have p3 : (do_ == 3) = false := by simp; omega
      have p4 : (do_ == 4) = false := by simp; omega
      have p5 : (do_ == 5) = false := by simp; omega
      have a3 := hY1'.out.c3
      go_wp2_with fail
      refine (sector_any fill 0 we).mono ?_
      rintro e wf ⟨bv, rfl, hbv, hb⟩
      have hs1 := hb.size
      have hvl := hide (show ∀ x, bv.ownBlock = some x → ba ≤ x ∧ x < wf.heap.size from fun x hx => by have := World.ownsRow.lt hbv x hx; omega)
      have hbs := hide hbv.bs
      generalize sec fill 0 = l0 at *
      obtain ⟨A3, c3, rfl, hc3, hm3, _⟩ := hbv.bs.open_
      replace hP1 := hide (hP1.out.fresh hb rfl)
      replace hM1 := hide (hM1.out.below hb)
      replace hT1 := hide (hT1.out.below hb)
      replace hE1 := hide (hE1.out.below hb)
      replace hY1' := hide (hY1'.out.below hb)
      replace hb1 := hide (hb1.out.trans (hb.mono hb1.out.size))
      have hcv := str_conv wf _ _ hbs.out
      clear hbv hb a0 a1 x0 x1
      have a1 := hY1'.out.c1
      have a0 := True.intro
      have x0 := True.intro
      have x1 := True.intro
      clear a3 q0 q1 q2 q3 q4 q5 p0 p1 p2 p3 p4 p5
      obtain ⟨hF1, hF2⟩ := hS.out.write at_ l0
      have hnd := hide (show (d.write at_ l0).1.n = 9 by have := hn9.out; unfold Dk.write Dk.goes Dk.crash; (repeat' split) <;> exact this)
      have m0 := hM1.out.c0
      have m1 := hM1.out.c1
      have m2 := hM1.out.c2
      have m3 := hM1.out.c3
      have m4 := hM1.out.c4
      go_wp2_with fail
      refine (hP1.out.rwrite (Nat.le_refl _) at_ l0 (hS.out.rok (by have := hwl.out; omega)) hS.out.rl (by have := hwl.out; have := hS.out.w; rw [this]; omega)).mono ?_
      rintro e w1f ⟨u2, rfl, hp, hb⟩
      rw [hF1]
      have hS4 := hide hF2
      have hn4 := hide hnd.out
      have hw4 := hide (show (d.write at_ l0).1.waits.length ≤ j + 1 by have := write_waits d at_ l0; have := hwl.out; omega)
      generalize (r.write at_ l0).1 = r4 at *
      obtain ⟨A8, c8, A9, n9, c9, o9, lf9, A0, n0, c0, rfl, _, _⟩ := hp.shape 9 (hS4.out.n.trans hn4.out)
      have hbs2 := hide (hbs.out.below hb)
      clear hF1 hF2 hcv
      have hM2 := hide (hM1.out.below hb)
      have hT2 := hide (hT1.out.below hb)
      have hE2 := hide (hE1.out.below hb)
      have hY2 := hide (hY1'.out.below hb)
      have hP2 := hide hp
      have hb2 := hide (hb1.out.trans (hb.mono hb1.out.size))
      have hs2 := hb.size
      clear m0 m1 m2 m3 m4 a0 a1 x0 x1 hM1 hT1 hE1 hY1' hP1 hb1 hp hb
      go_upto_region 18 with (fail)
      have hbo : Below w1f.heap.size w1f (w1f.alloc (.cells #[.slice A8 9 c8, .slice A9 n9 c9, .bool o9, .int .i64 lf9, .slice A0 n0 c0] 71)) := (Below.refl _ _).alloc (Nat.le_refl _) _
      have hZo := RBox.new w1f 71 (.slice A8 9 c8) (.slice A9 n9 c9) (.bool o9) (.int .i64 lf9) (.slice A0 n0 c0)
      replace hM2 := hide (hM2.out.below hbo)
      replace hT2 := hide (hT2.out.below hbo)
      replace hE2 := hide (hE2.out.below hbo)
      replace hY2 := hide (hY2.out.below hbo)
      replace hP2 := hide (hP2.out.below hbo)
      replace hb2 := hide (hb2.out.trans (hbo.mono hb2.out.size))
      replace hbs2 := hide (hbs2.out.below hbo)
      have hs2b := hbo.size
      clear hbo
      generalize w1f.alloc (.cells #[.slice A8 9 c8, .slice A9 n9 c9, .bool o9, .int .i64 lf9, .slice A0 n0 c0] 71) = w2 at *
      have z0 := hZo.c0
      have z1 := hZo.c1
      have z2 := hZo.c2
      have z3 := hZo.c3
      have z4 := hZo.c4
      clear hZo
      have t0 := hM2.out.z 0
      have t1 := hM2.out.z 1
      have t2 := hM2.out.z 2
      have t3 := hM2.out.z 3
      have t4 := hM2.out.z 4
      have m0 := hM2.out.c0
      have m1 := hM2.out.c1
      have m2 := hM2.out.c2
      have m3 := hM2.out.c3
      have m4 := hM2.out.c4
      go_upto_region 19 with (fail)
      have hTo := touch_set5 (fun y => y = bm) w2 bm (.slice A8 9 c8) (.slice A9 n9 c9) (.bool o9) (.int .i64 lf9) (.slice A0 n0 c0) rfl
      have hM3 := hide (hM2.out.set5 (.slice A8 9 c8) (.slice A9 n9 c9) (.bool o9) (.int .i64 lf9) (.slice A0 n0 c0))
      have hP3 := hide (hP2.out.setXX (hTo.mono (G := EX bx bm q) (fun y _ e => .inr (.inl e))))
      have hT3 := hide (hT2.out.later hTo.2 (by omega))
      have hE3 := hide (hE2.out.later hTo.2 (by omega))
      have hY3 := hide (hY2.out.later hTo.2 (by omega))
      have hb3 := hide (hb2.out.trans (hTo.below hb2.out.size (fun y hy e => by have := hXb.out bm (.inr (.inl rfl)); omega)))
      have hs3 := hTo.size
      have hL3 := hide hTo.2
      clear t0 t1 t2 t3 t4 m0 m1 m2 m3 m4 hM2 hT2 hE2 hY2 hP2 hb2 hTo
      generalize (((((w2.setCell ⟨bm, 0, none⟩ (.slice A8 9 c8)).setCell ⟨bm, 1, none⟩ (.slice A9 n9 c9)).setCell ⟨bm, 2, none⟩ (.bool o9)).setCell ⟨bm, 3, none⟩ (.int .i64 lf9)).setCell ⟨bm, 4, none⟩ (.slice A0 n0 c0)) = w3 at *
      clear z0 z1 z2 z3 z4
      have hbs3 := hide (hbs2.out.later hL3.out (fun y hy e => by have := hvl.out y hy; omega))
      have a1 := hY3.out.c1
      go_wp2_with fail
      refine (hP3.out.dwrite hb3.out.size (by omega) at_ (.slice A3 l0.length c3) l0 hvl.out hbs3.out (by have := hwl.out; omega)).mono ?_
      rintro e w4 ⟨rfl, hp, hbel, hkp⟩
      have hL := bel_later hbel hkp
      have hM4 := hide (hM3.out.later hL (fun h => h (.inr (.inl (.inr (.inl rfl))))))
      have hT4 := hide (hT3.out.later hL (fun h => h (.inr (.inl (.inr (.inr rfl))))))
      have hE4 := hide (hE3.out.later hL (fun h => h (.inr (.inl (.inl rfl)))))
      have hP4 := hide hp
      have hb4 := hide (hb3.out.trans hbel.b)
      have hs4 := hbel.size
      clear hM3 hT3 hE3 hY3 hP3 hb3 hp hbel hkp hL hL3 a1 hbs3 hbs hbs2
      generalize (d.write at_ l0).1 = d4 at *
      generalize (d.write at_ l0).2 = E at *
      have he : (E != E) = false := by simp
      have he1 : (E == E) = true := by simp
      go_upto_region 49 with (fail)
      have hq : Below w4.heap.size w4 w4.drew := (Below.refl _ _).drew
      have hP5 := hide (hP4.out.below hq)
      have hM5 := hide (hM4.out.below hq)
      have hT5 := hide (hT4.out.below hq)
      have hE5 := hide (hE4.out.below hq)
      have hb5 := hide (hb4.out.trans (hq.mono hb4.out.size))
      have f := fun w' (hl : Later (fun _ => False) w4.drew w') => hM5.out.later hl (fun h => h)
      have f0 := fun w' hl => (f w' hl).c0
      have f1 := fun w' hl => (f w' hl).c1
      have f2 := fun w' hl => (f w' hl).c2
      have f3 := fun w' hl => (f w' hl).c3
      have f4 := fun w' hl => (f w' hl).c4
      clear f hP4 hM4 hT4 hE4 hb4 hq
      refine region_plan [(true, 0), (true, 3), (false, 1), (true, 2), (false, 4), (true, 5)] (Later fun _ => False) (later_refl _) (later_trans _) (by kernel_rfl) (by kernel_rfl) (fun _ _ d _ _ h => by cases d <;> exact h) ?_
      repeat
        (first
          | (show wpPlan _ _ _ _ ((true, _) :: _) _ _
             refine plan_skip rfl (by rfl) ?_
             simp only [Act.put, List.setIfInBounds_toArray, List.set_cons_zero, List.set_cons_succ])
          | (show wpPlan _ _ _ _ ((false, _) :: _) _ _
             refine plan_skip_eff (later_refl _) rfl (by rfl) ?_
             simp only [Act.put, List.setIfInBounds_toArray, List.set_cons_zero, List.set_cons_succ])
          | (show wpPlan _ _ _ _ ((true, _) :: _) _ _
             refine plan_take (v := ?_) rfl (by rfl) (fun w' hw' => ?_) ?_
             rotate_left
             focus
               go_simp
               try with_reducible rfl
               done
             simp only [Act.put, List.setIfInBounds_toArray, List.set_cons_zero, List.set_cons_succ]))
      generalize w4.drew = wd at *
      clear f0 f1 f2 f3 f4
      refine plan_eff rfl (by rfl) (fun K hK => ?_)
      go_wp2_with fail
      refine hP5.out.dimage.mono ?_
      rintro e w6 ⟨im, rfl, him, hb6⟩
      refine hK _ _ (below_later hb6 (Nat.le_refl _)) ?_
      clear hK K
      have hci : ∀ w', Later (fun _ => False) w6 w' → (convert 40 9 im).run Try.prog w' = .ok (.string ⟨d4.has.toArray⟩) w' := fun w' hl => str_conv w' _ _ (him.bs.later0 hl)
      have hP6 := hide (hP5.out.below hb6)
      have hM6 := hide (hM5.out.below hb6)
      have hT6 := hide (hT5.out.below hb6)
      have hE6 := hide (hE5.out.below hb6)
      have hb6' := hide (hb5.out.trans (hb6.mono hb5.out.size))
      clear him hb6 hP5 hM5 hT5 hE5 hb5
      try simp only [Act.put, List.setIfInBounds_toArray, List.set_cons_zero, List.set_cons_succ]
      repeat
        (first
          | (show wpPlan _ _ _ _ ((true, _) :: _) _ _
             refine plan_skip rfl (by rfl) ?_
             simp only [Act.put, List.setIfInBounds_toArray, List.set_cons_zero, List.set_cons_succ])
          | (show wpPlan _ _ _ _ ((false, _) :: _) _ _
             refine plan_skip_eff (later_refl _) rfl (by rfl) ?_
             simp only [Act.put, List.setIfInBounds_toArray, List.set_cons_zero, List.set_cons_succ])
          | (show wpPlan _ _ _ _ ((true, _) :: _) _ _
             refine plan_take (v := ?_) rfl (by rfl) (fun w' hw' => ?_) ?_
             rotate_left
             focus
               go_simp
               try with_reducible rfl
               done
             simp only [Act.put, List.setIfInBounds_toArray, List.set_cons_zero, List.set_cons_succ]))
      clear hci
      refine plan_eff rfl (by rfl) (fun K hK => ?_)
      go_wp2_with fail
      refine (hP6.out.rimage (hS4.out.rok (by have := hw4.out; omega)) hS4.out.l).mono ?_
      rintro e w7 ⟨rfl, hb7⟩
      refine hK _ _ (below_later hb7 (Nat.le_refl _)) ?_
      clear hK K
      rw [hS4.out.has]
      have hP7 := hide (hP6.out.below hb7)
      have hM7 := hide (hM6.out.below hb7)
      have hT7 := hide (hT6.out.below hb7)
      have hE7 := hide (hE6.out.below hb7)
      have hb7' := hide (hb6'.out.trans (hb7.mono hb6'.out.size))
      have he : (d4.has == d4.has) = true := by simp
      have he1 : (d4.has != d4.has) = false := by simp
      have he2 := strEq d4.has d4.has
      clear hb7 hP6 hM6 hT6 hE6 hb6'
      try simp only [Act.put, List.setIfInBounds_toArray, List.set_cons_zero, List.set_cons_succ]
      repeat
        (first
          | (show wpPlan _ _ _ _ ((true, _) :: _) _ _
             refine plan_skip rfl (by rfl) ?_
             simp only [Act.put, List.setIfInBounds_toArray, List.set_cons_zero, List.set_cons_succ])
          | (show wpPlan _ _ _ _ ((false, _) :: _) _ _
             refine plan_skip_eff (later_refl _) rfl (by rfl) ?_
             simp only [Act.put, List.setIfInBounds_toArray, List.set_cons_zero, List.set_cons_succ])
          | (show wpPlan _ _ _ _ ((true, _) :: _) _ _
             refine plan_take (v := ?_) rfl (by rfl) (fun w' hw' => ?_) ?_
             rotate_left
             focus
               go_simp
               try with_reducible rfl
               done
             simp only [Act.put, List.setIfInBounds_toArray, List.set_cons_zero, List.set_cons_succ]))
      refine plan_nil ?_
      go_wp2_with fail
      go_roundw
      case rel => exact ⟨j + 1, by omega, by go_num, d4, r4, A8, c8, A9, n9, c9, o9, lf9, A0, n0, c0, ⟨hP7.out.wide (fun y _ e => by omega), hS4.out, hn4.out, hw4.out, hM7.out, hT7.out, hE7.out, hb7'.out⟩⟩
      case measure => simp [intOf]; omega
    · obtain rfl : 50 = j := by omega
      go_wp2_with fail
      refine (awake06 _).mono ?_
      rintro e w8 ⟨rfl, hb⟩
      have hb8 := hide (hr.b.trans (hb.mono hr.b.size))
      clear hb
      go_wp2_with fail
      go_ret
      exact ⟨rfl, hb8.out⟩
end Go.Proofs.Ytamkngpkplflcaa
