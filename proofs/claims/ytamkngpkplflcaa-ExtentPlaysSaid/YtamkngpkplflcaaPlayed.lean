/- law 05: played walked. -/
import Derived.Test.YtamkngpkplflcaaDoAny
import Derived.Test.YtamkngpkplflcaaMonoT
namespace Go.Proofs.Ytamkngpkplflcaa
open Go.RowKit

/-- the disk of played -/
def PlRel (w : World) (g bx j : Nat) (wr : World) : Prop := ∃ d r A5 c5 A6 n6 c6 o6 lf6 A7 n7 c7, Pair w.heap.size (fun y => y = bx) 0 0 wr g d (.agg #[.slice A5 4 c5, .slice A6 n6 c6, .bool o6, .int .i64 lf6, .slice A7 n7 c7]) r ∧ GoodR r j ∧ GoodD d j ∧
  RBox wr bx (.slice A5 4 c5) (.slice A6 n6 c6) (.bool o6) (.int .i64 lf6) (.slice A7 n7 c7) ∧ Below w.heap.size w wr
theorem Pair.addX {base : Nat} {w w' : World} {g : Nat} {d : Dk} {u : Value} {r : Rk} (p : Pair base (fun _ => False) 0 0 w g d u r) (hb : Below w.heap.size w w') (bx : Nat) (hx : bx = w.heap.size) (hs : bx < w'.heap.size) (hbase : base ≤ bx) : Pair base (fun y => y = bx) 0 0 w' g d u r := by
  obtain ⟨B, C, h1, h2, h3, h4, h5⟩ := p
  refine ⟨B, C, h1.below hb, h2.below hb, fun y hy => ⟨(h3 y hy).1, by have := (h3 y hy).2.1; omega, (h3 y hy).2.2⟩, fun y hy => ⟨by have := (h4 y hy).1; omega, (h4 y hy).2⟩, fun y hy => ?_⟩
  subst hy
  exact ⟨hbase, hs, fun e => by have := (h3 _ e).2.1; omega, fun e => by have := (h4 _ e).1; omega⟩
/-- a store into the variable beside both -/
theorem Pair.setX {base : Nat} {X : Nat → Prop} {w w' : World} {g : Nat} {d : Dk} {u : Value} {r : Rk} (p : Pair base X 0 0 w g d u r) (ht : Touch X w w') : Pair base X 0 0 w' g d u r := by
  obtain ⟨B, C, h1, h2, h3, h4, h5⟩ := p
  have := ht.size
  exact ⟨B, C, h1.later ht.2 (fun y hy e => (h5 y e).2.2.1 hy), h2.later ht.2 (fun y hy e => (h5 y e).2.2.2 hy), fun y hy => ⟨(h3 y hy).1, by have := (h3 y hy).2.1; omega, (h3 y hy).2.2⟩, fun y hy => ⟨by have := (h4 y hy).1; omega, (h4 y hy).2⟩, fun y hy => ⟨(h5 y hy).1, by have := (h5 y hy).2.1; omega, (h5 y hy).2.2⟩⟩
theorem Pair.moreX {base : Nat} {X : Nat → Prop} {w w' : World} {g : Nat} {d : Dk} {u : Value} {r : Rk} (p : Pair base X 0 0 w g d u r) (hb : Below w.heap.size w w') (bx : Nat) (hx : bx = w.heap.size) (hs : bx < w'.heap.size) (hbase : base ≤ bx) : Pair base (fun y => X y ∨ y = bx) 0 0 w' g d u r := by
  obtain ⟨B, C, h1, h2, h3, h4, h5⟩ := p
  refine ⟨B, C, h1.below hb, h2.below hb, fun y hy => ⟨(h3 y hy).1, by have := (h3 y hy).2.1; omega, (h3 y hy).2.2⟩, fun y hy => ⟨by have := (h4 y hy).1; omega, (h4 y hy).2⟩, fun y hy => ?_⟩
  rcases hy with hy | hy
  · exact ⟨(h5 y hy).1, by have := (h5 y hy).2.1; omega, (h5 y hy).2.2⟩
  · subst hy
    exact ⟨hbase, hs, fun e => by have := (h3 _ e).2.1; omega, fun e => by have := (h4 _ e).1; omega⟩
theorem Pair.lessX {base : Nat} {X Y : Nat → Prop} {w : World} {g : Nat} {d : Dk} {u : Value} {r : Rk} (p : Pair base X 0 0 w g d u r) (h : ∀ y, Y y → X y) : Pair base Y 0 0 w g d u r := by
  obtain ⟨B, C, h1, h2, h3, h4, h5⟩ := p
  exact ⟨B, C, h1, h2, h3, h4, fun y hy => h5 y (h y hy)⟩
theorem Bel.later {base : Nat} {X F : Nat → Prop} {w w' : World} (h : Bel base X w w') (hF : ∀ y, ¬ F y → y < base ∨ X y) : Later F w w' :=
  ⟨h.size, fun k hk hf => by
    rcases hF k hf with e | e
    · exact h.b.block k e
    · exact h.x k e hk⟩
set_option maxRecDepth 100000 in
set_option maxHeartbeats 8000000 in
theorem played_le (A : Option Addr) (b off n c : Nat) (G : Nat → DAct) (w : World) (hA : 0 < n → A = some ⟨b, off, none⟩) (hn : n ≤ 9223372036854775807) (h40 : n ≤ 40) (h : DActs w w.heap.size b off n G) (hkl : ∀ i, i < n → (G i).kl.length ≤ 140737488351232) :
    Calls Try.prog 28 #[.slice A n c] w fun e w' => ∃ g, e = .returned (.pointer (some ⟨g, 0, none⟩)) ∧ ∃ B d, Dsk w' g B d ∧ (∀ y, B y → w.heap.size ≤ y ∧ y < w'.heap.size) ∧ d.n = 4 ∧ d.waits.length ≤ 40 ∧ Below w.heap.size w w' := by
  have hA' := hide hA
  have h' := hide h
  have h40b : (n : Int) ≤ 40 := by omega
  clear hA h
  go_enter Try.func28, Try.ntmps28
  go_wp2_with fail
  refine (dnew_dsk 4 (by omega) (by omega) w).mono ?_
  rintro e w1 ⟨g, rfl, hgd, hD, hb⟩
  have hD1 := hide hD
  have hb1 := hide hb
  have s1 := hb.size
  clear hD hb
  go_wp2_with fail
  refine (rnew_any 4 w1 (by omega) (by omega)).mono ?_
  rintro e w2 ⟨u, rfl, hR, hb⟩
  have hP2 : Pair w.heap.size (fun _ => False) 0 0 w2 g (newDk 4) u (newRk 4) := ⟨_, _, hD1.out.below hb, hR.tight, fun y hy => ⟨hy.1, by have := hb.size; omega, by omega⟩, fun y hy => ⟨hy.2, fun e => by have := hy.1; have := e.2; omega, by omega⟩, fun y hy => hy.elim⟩
  obtain ⟨A5, c5, A6, n6, c6, o6, lf6, A7, n7, c7, rfl, _, _⟩ := hP2.shape 4 (by simp [newRk])
  have hb2 := hide (hb1.out.trans (hb.mono s1))
  have hP2' := hide hP2
  have s2 := hb.size
  clear hR hb hD1 hb1 hP2
  go_upto_region 3 with (fail)
  have hX3 := RBox.new w2 71 (.slice A5 4 c5) (.slice A6 n6 c6) (.bool o6) (.int .i64 lf6) (.slice A7 n7 c7)
  have hb3 : Below w2.heap.size w2 (w2.alloc (.cells #[.slice A5 4 c5, .slice A6 n6 c6, .bool o6, .int .i64 lf6, .slice A7 n7 c7] 71)) := (Below.refl _ _).alloc (Nat.le_refl _) _
  have hs3 : (w2.alloc (.cells #[.slice A5 4 c5, .slice A6 n6 c6, .bool o6, .int .i64 lf6, .slice A7 n7 c7] 71)).heap.size = w2.heap.size + 1 := by simp
  generalize w2.alloc (.cells #[.slice A5 4 c5, .slice A6 n6 c6, .bool o6, .int .i64 lf6, .slice A7 n7 c7] 71) = w3 at *
  obtain ⟨bx, hbx⟩ : ∃ bx, bx = w2.heap.size := ⟨_, rfl⟩
  rw [← hbx] at hX3 hs3 ⊢
  have hrel0 := hide (show PlRel w g bx 0 w3 from ⟨newDk 4, newRk 4, A5, c5, A6, n6, c6, o6, lf6, A7, n7, c7, hP2'.out.addX hb3 bx hbx (by omega) (by omega), ⟨⟨by simp [newRk], fun w hw => absurd hw (by simp [newRk]), by simp [newRk]⟩, by simp [newRk], by show I64 (-1); unfold I64; omega, Nat.le_refl _⟩, ⟨rfl, Nat.le_refl _⟩, hX3, hb2.out.trans (hb3.mono (by omega))⟩)
  have hbw : w.heap.size ≤ bx := by omega
  clear hX3 hb3 hs3 hP2' hb2 hbx s1 s2 hgd
  go_wp2_with fail
  go_loopw [7] (fun i wr => ∃ j : Nat, j ≤ n ∧ i = .int .i64 (j : Nat) ∧ PlRel w g bx j wr) (fun i _ => n - (intOf i).toNat)
  case atStart => exact ⟨0, by omega, rfl, hrel0.out⟩
  case round =>
    obtain ⟨j, hj, rfl, d, r, A5, c5, A6, n6, c6, o6, lf6, A7, n7, c7, hP, gr, gd, hX, hb⟩ := hrel
    have hP' := hide hP
    have gr' := hide gr
    have gd' := hide gd
    have hX' := hide hX
    have hb' := hide hb
    have hbs := hb.size
    clear hP gr gd hX hb hrel0
    by_cases hlt : j < n
    · obtain rfl : A = some ⟨b, off, none⟩ := hA'.out (by omega)
      have hltn : j < n := by omega
      have hltI : (j : Int) < (n : Int) := by omega
      have hlt40 : (j : Int) < 40 := by omega
      obtain ⟨A4, n4, n4c, hkv⟩ : ∃ A m c, (G j).kv = .slice A m c := by
        obtain ⟨A, c, h, _⟩ := (h'.out.k j hltn).1
        exact ⟨A, _, c, h⟩
      obtain ⟨Fz, hFz⟩ : ∃ Fz : Nat → Prop, ∀ y, Fz y ↔ (w.heap.size ≤ y ∧ y ≠ bx) := ⟨_, fun _ => Iff.rfl⟩
      have hLd := hide (later_drew (F := Fz) wr)
      have hq : Below wr.heap.size wr wr.drew := (Below.refl _ _).drew
      have hacts := h'.out.below (hb'.out.trans (hq.mono hbs))
      have hblt : b < w.heap.size := h'.out.lt (by omega)
      have f := fun w' (hl : Later Fz wr.drew w') => hX'.out.later (later_trans _ _ _ _ hLd.out hl) (fun h => ((hFz bx).1 h).2 rfl)
      have f0 := fun w' hl => (f w' hl).c0
      have f1 := fun w' hl => (f w' hl).c1
      have f2 := fun w' hl => (f w' hl).c2
      have f3 := fun w' hl => (f w' hl).c3
      have f4 := fun w' hl => (f w' hl).c4
      have fa := fun w' (hl : Later Fz wr.drew w') (o : Nat) => (Later.cell (o := o) hl (show b < wr.drew.heap.size by have : wr.drew.heap.size = wr.heap.size := rfl; omega) (fun h => by have := ((hFz b).1 h).1; omega)).1
      have e0 : ∀ w', Later Fz wr.drew w' → w'.cell? ⟨b, off + j*5, none⟩ = some (.int .i64 (G j).do_) := fun w' hl => (fa w' hl _).trans (hacts.c0 j hltn)
      have e1 : ∀ w', Later Fz wr.drew w' → w'.cell? ⟨b, off + j*5 + 1, none⟩ = some (.int .i64 (G j).at_) := fun w' hl => (fa w' hl _).trans (hacts.c1 j hltn)
      have e2 : ∀ w', Later Fz wr.drew w' → w'.cell? ⟨b, off + j*5 + 2, none⟩ = some (.int .i64 (G j).off) := fun w' hl => (fa w' hl _).trans (hacts.c2 j hltn)
      have e3 : ∀ w', Later Fz wr.drew w' → w'.cell? ⟨b, off + j*5 + 3, none⟩ = some (.int .u8 ((G j).fill.toNat : Int)) := fun w' hl => (fa w' hl _).trans (hacts.c3 j hltn)
      have e4 : ∀ w', Later Fz wr.drew w' → w'.cell? ⟨b, off + j*5 + 4, none⟩ = some (.slice A4 n4 n4c) := fun w' hl => (fa w' hl _).trans ((hacts.c4 j hltn).trans (by rw [hkv]))
      have hka := hide (show BoolsB wr.drew w.heap.size (.slice A4 n4 n4c) (G j).kl by rw [← hkv]; exact hacts.k j hltn)
      have hia := hide ((h'.out.r0 j hltn).2.1)
      have hkj := hide (hkl j hltn)
      clear f fa hacts hkv
      have hsd : wr.heap.size ≤ wr.drew.heap.size := Nat.le_refl _
      have hXd := hide (hX'.out.below hq)
      have hPd := hide (hP'.out.below hq)
      have hbd := hide (hb'.out.trans (hq.mono hbs))
      go_wp2_with fail
      refine region_planT (.take 0 (.take 1 (.take 2 (.take 3 (.take 4 (.take 5 (.two 6 10 (.take 7 (.take 8 (.take 9 (.eff 10 (.eff 11 (.take 12 .nil)))))) (.eff 6 (.take 7 (.take 8 (.take 9 (.eff 11 (.take 12 .nil)))))))))))) ) (Later Fz) (later_refl _) (later_trans _) (by kernel_rfl) (by kernel_rfl) (fun _ _ d _ _ h => by cases d <;> exact h) ?_
      repeat
        (first
          | (show wpT _ _ _ _ (PT.take _ _) _ _
             refine tplan_skip rfl (by rfl) ?_
             simp only [Act.put, List.setIfInBounds_toArray, List.set_cons_zero, List.set_cons_succ])
          | (show wpT _ _ _ _ (PT.eff _ _) _ _
             refine tplan_skip_eff (later_refl _) rfl (by rfl) ?_
             simp only [Act.put, List.setIfInBounds_toArray, List.set_cons_zero, List.set_cons_succ])
          | (show wpT _ _ _ _ (PT.take _ _) _ _
             refine tplan_take (v := ?_) rfl (by rfl) (fun w' hw' => ?_) ?_
             rotate_left
             focus
               go_simp
               try with_reducible rfl
               done
             simp only [Act.put, List.setIfInBounds_toArray, List.set_cons_zero, List.set_cons_succ]))
      clear f0 f1 f2 f3 f4 e0 e1 e2 e3 e4 hX' hP' hb' hLd hq
      generalize wr.drew = wd at *
      refine tplan_two ?_ ?_
      · refine tplan_eff rfl (by rfl) (fun K hK => ?_)
        go_wp2_with fail
        refine (do_any w.heap.size g (fun y => y = bx) d _ r j (by omega) ⟨(G j).do_, (G j).at_, (G j).off, (G j).fill, .slice A4 n4 n4c, (G j).kl⟩ wd hPd.out gr'.out gd'.out hbd.out.size hka.out hia.out (Nat.le_trans hkj.out (by omega))).mono ?_
        rintro e w4 ⟨u', bl, rfl, ⟨d', r', hp, gr4, gd4⟩, hb4⟩
        obtain ⟨A8, c8, A9, n9, c9, o9, lf9, A0, n0, c0, rfl, _, _⟩ := hp.shape 4 gr4.n
        refine hK _ _ (hb4.later (fun y hy => by have := mt (hFz y).2 hy; omega)) ?_
        clear hK K
        have hXo := RBox.later hXd.out (hb4.later (F := fun y => ¬ (y < w.heap.size ∨ y = bx)) (fun y hy => by omega)) (by omega)
        have hYn := RBox.new w4 71 (.slice none 0 0) (.slice none 0 0) (.bool false) (.int .i64 0) (.slice none 0 0)
        have hbn : Below w4.heap.size w4 (w4.alloc (.cells #[.slice none 0 0, .slice none 0 0, .bool false, .int .i64 0, .slice none 0 0] 71)) := (Below.refl _ _).alloc (Nat.le_refl _) _
        have hsn : (w4.alloc (.cells #[.slice none 0 0, .slice none 0 0, .bool false, .int .i64 0, .slice none 0 0] 71)).heap.size = w4.heap.size + 1 := by simp
        have hX4 := hide (hXo.below hbn)
        have hP4 := hide (hp.moreX hbn w4.heap.size rfl (by omega) (Nat.le_trans hbd.out.size hb4.size))
        have hb5 := hide ((hbd.out.trans hb4.b).trans (hbn.mono (Nat.le_trans hbd.out.size hb4.size)))
        have gr5 := hide gr4
        have gd5 := hide gd4
        have hs4 := hb4.size
        have hbs4 := hbd.out.size
        have hYn' := hide hYn
        have hbxl := hide hXd.out.lt
        clear hXo hp hb4 gr4 gd4 hXd hPd hbd gr' gd' hYn
        try simp only [Act.put, List.setIfInBounds_toArray, List.set_cons_zero, List.set_cons_succ]
        repeat
          (first
            | (show wpT _ _ _ _ (PT.take _ _) _ _
               refine tplan_skip rfl (by rfl) ?_
               simp only [Act.put, List.setIfInBounds_toArray, List.set_cons_zero, List.set_cons_succ])
            | (show wpT _ _ _ _ (PT.eff _ _) _ _
               refine tplan_skip_eff (later_refl _) rfl (by rfl) ?_
               simp only [Act.put, List.setIfInBounds_toArray, List.set_cons_zero, List.set_cons_succ])
            | (show wpT _ _ _ _ (PT.take _ _) _ _
               refine tplan_take (v := ?_) rfl (by rfl) (fun w' hw' => ?_) ?_
               rotate_left
               focus
                 go_simp
                 try with_reducible rfl
                 done
               simp only [Act.put, List.setIfInBounds_toArray, List.set_cons_zero, List.set_cons_succ]))
        refine tplan_eff rfl (by rfl) (fun K hK => ?_)
        go_wp2_with fail
        refine hK _ _ (later_alloc _ _) ?_
        clear hK K hbn
        generalize w4.alloc (.cells #[.slice none 0 0, .slice none 0 0, .bool false, .int .i64 0, .slice none 0 0] 71) = wy at *
        obtain ⟨b8, hb8⟩ : ∃ b8, b8 = w4.heap.size := ⟨_, rfl⟩
        rw [← hb8] at hYn' hP4 hsn ⊢
        have hb8x : bx < b8 := by have := hbxl.out; omega
        have hb8w : w.heap.size ≤ b8 := by omega
        clear hb8 hbxl
        try simp only [Act.put, List.setIfInBounds_toArray, List.set_cons_zero, List.set_cons_succ]
        repeat
          (first
            | (show wpT _ _ _ _ (PT.take _ _) _ _
               refine tplan_skip rfl (by rfl) ?_
               simp only [Act.put, List.setIfInBounds_toArray, List.set_cons_zero, List.set_cons_succ])
            | (show wpT _ _ _ _ (PT.eff _ _) _ _
               refine tplan_skip_eff (later_refl _) rfl (by rfl) ?_
               simp only [Act.put, List.setIfInBounds_toArray, List.set_cons_zero, List.set_cons_succ])
            | (show wpT _ _ _ _ (PT.take _ _) _ _
               refine tplan_take (v := ?_) rfl (by rfl) (fun w' hw' => ?_) ?_
               rotate_left
               focus
                 go_simp
                 try with_reducible rfl
                 done
               simp only [Act.put, List.setIfInBounds_toArray, List.set_cons_zero, List.set_cons_succ]))
        have y0 := hYn'.out.c0
        have y1 := hYn'.out.c1
        have y2 := hYn'.out.c2
        have y3 := hYn'.out.c3
        have y4 := hYn'.out.c4
        have t0 := hYn'.out.z 0
        have t1 := hYn'.out.z 1
        have t2 := hYn'.out.z 2
        have t3 := hYn'.out.z 3
        have t4 := hYn'.out.z 4
        refine tplan_eff rfl (by rfl) (fun K hK => ?_)
        go_wp2_with fail
        refine hK _ _ (touch_set5 Fz wy b8 (.slice A8 4 c8) (.slice A9 n9 c9) (.bool o9) (.int .i64 lf9) (.slice A0 n0 c0) ((hFz b8).2 ⟨hb8w, by omega⟩)).2 ?_
        clear hK K
        have hT5 := touch_set5 (fun y => y = bx ∨ y = b8) wy b8 (.slice A8 4 c8) (.slice A9 n9 c9) (.bool o9) (.int .i64 lf9) (.slice A0 n0 c0) (.inr rfl)
        have hT6 := touch_set5 (fun y => y = b8) wy b8 (.slice A8 4 c8) (.slice A9 n9 c9) (.bool o9) (.int .i64 lf9) (.slice A0 n0 c0) rfl
        have hY5 := hide (hYn'.out.set5 (.slice A8 4 c8) (.slice A9 n9 c9) (.bool o9) (.int .i64 lf9) (.slice A0 n0 c0))
        have hX5 := hide (hX4.out.later hT6.2 (by omega))
        have hP5 := hide ((hP4.out.setX hT5).lessX (Y := fun y => y = bx) (fun y hy => .inl hy))
        have hb6 := hide (hb5.out.trans (hT6.below hb5.out.size (fun y hy e => by omega)))
        clear y0 y1 y2 y3 y4 t0 t1 t2 t3 t4 hYn' hX4 hP4 hb5 hT5 hT6
        generalize (((((wy.setCell ⟨b8, 0, none⟩ (.slice A8 4 c8)).setCell ⟨b8, 1, none⟩ (.slice A9 n9 c9)).setCell ⟨b8, 2, none⟩ (.bool o9)).setCell ⟨b8, 3, none⟩ (.int .i64 lf9)).setCell ⟨b8, 4, none⟩ (.slice A0 n0 c0)) = w5 at *
        try simp only [Act.put, List.setIfInBounds_toArray, List.set_cons_zero, List.set_cons_succ]
        repeat
          (first
            | (show wpT _ _ _ _ (PT.take _ _) _ _
               refine tplan_skip rfl (by rfl) ?_
               simp only [Act.put, List.setIfInBounds_toArray, List.set_cons_zero, List.set_cons_succ])
            | (show wpT _ _ _ _ (PT.eff _ _) _ _
               refine tplan_skip_eff (later_refl _) rfl (by rfl) ?_
               simp only [Act.put, List.setIfInBounds_toArray, List.set_cons_zero, List.set_cons_succ])
            | (show wpT _ _ _ _ (PT.take _ _) _ _
               refine tplan_take (v := ?_) rfl (by rfl) (fun w' hw' => ?_) ?_
               rotate_left
               focus
                 go_simp
                 try with_reducible rfl
                 done
               simp only [Act.put, List.setIfInBounds_toArray, List.set_cons_zero, List.set_cons_succ]))
        refine tplan_nil ?_
        have y0 := hY5.out.c0
        have y1 := hY5.out.c1
        have y2 := hY5.out.c2
        have y3 := hY5.out.c3
        have y4 := hY5.out.c4
        have x0 := hX5.out.c0
        have x1 := hX5.out.c1
        have x2 := hX5.out.c2
        have x3 := hX5.out.c3
        have x4 := hX5.out.c4
        have t0 := hX5.out.z 0
        have t1 := hX5.out.z 1
        have t2 := hX5.out.z 2
        have t3 := hX5.out.z 3
        have t4 := hX5.out.z 4
        go_wp2_with fail
        have hT7 := touch_set5 (fun y => y = bx) w5 bx (.slice A8 4 c8) (.slice A9 n9 c9) (.bool o9) (.int .i64 lf9) (.slice A0 n0 c0) rfl
        have hP7 := hP5.out.setX hT7
        have hX7 := hX5.out.set5 (.slice A8 4 c8) (.slice A9 n9 c9) (.bool o9) (.int .i64 lf9) (.slice A0 n0 c0)
        have hb7 := hb6.out.trans (hT7.below hb6.out.size (fun y hy e => by omega))
        go_roundw
        case rel => exact ⟨j + 1, by omega, by go_num, d', r', A8, c8, A9, n9, c9, o9, lf9, A0, n0, c0, hP7, gr5.out, gd5.out, hX7, hb7⟩
        case measure => simp [intOf]; omega
      · have hYn := RBox.new wd 71 (.slice none 0 0) (.slice none 0 0) (.bool false) (.int .i64 0) (.slice none 0 0)
        have hbn : Below wd.heap.size wd (wd.alloc (.cells #[.slice none 0 0, .slice none 0 0, .bool false, .int .i64 0, .slice none 0 0] 71)) := (Below.refl _ _).alloc (Nat.le_refl _) _
        have hsn : (wd.alloc (.cells #[.slice none 0 0, .slice none 0 0, .bool false, .int .i64 0, .slice none 0 0] 71)).heap.size = wd.heap.size + 1 := by simp
        have hbs4 := hbd.out.size
        have hXz := hide (hXd.out.below hbn)
        have hPz := hide (hPd.out.moreX hbn wd.heap.size rfl (by omega) hbs4)
        have hbz := hide (hbd.out.trans (hbn.mono hbs4))
        have hkz := hide (hka.out.below (hbn.mono hbs4))
        have hYz := hide hYn
        have hbxl := hide hXd.out.lt
        clear hXd hPd hbd hYn hka
        refine tplan_eff rfl (by rfl) (fun K hK => ?_)
        go_wp2_with fail
        refine hK _ _ (later_alloc _ _) ?_
        clear hK K hbn
        generalize wd.alloc (.cells #[.slice none 0 0, .slice none 0 0, .bool false, .int .i64 0, .slice none 0 0] 71) = wz at *
        obtain ⟨b8, hb8⟩ : ∃ b8, b8 = wd.heap.size := ⟨_, rfl⟩
        rw [← hb8] at hYz hPz hsn ⊢
        have hb8x : bx < b8 := by have := hbxl.out; omega
        have hb8w : w.heap.size ≤ b8 := by omega
        clear hb8 hbxl
        try simp only [Act.put, List.setIfInBounds_toArray, List.set_cons_zero, List.set_cons_succ]
        repeat
          (first
            | (show wpT _ _ _ _ (PT.take _ _) _ _
               refine tplan_skip rfl (by rfl) ?_
               simp only [Act.put, List.setIfInBounds_toArray, List.set_cons_zero, List.set_cons_succ])
            | (show wpT _ _ _ _ (PT.eff _ _) _ _
               refine tplan_skip_eff (later_refl _) rfl (by rfl) ?_
               simp only [Act.put, List.setIfInBounds_toArray, List.set_cons_zero, List.set_cons_succ])
            | (show wpT _ _ _ _ (PT.take _ _) _ _
               refine tplan_take (v := ?_) rfl (by rfl) (fun w' hw' => ?_) ?_
               rotate_left
               focus
                 go_simp
                 try with_reducible rfl
                 done
               simp only [Act.put, List.setIfInBounds_toArray, List.set_cons_zero, List.set_cons_succ]))
        refine tplan_eff rfl (by rfl) (fun K hK => ?_)
        go_wp2_with fail
        refine (do_any w.heap.size g (fun y => y = bx ∨ y = b8) d _ r j (by omega) ⟨(G j).do_, (G j).at_, (G j).off, (G j).fill, .slice A4 n4 n4c, (G j).kl⟩ wz hPz.out gr'.out gd'.out hbz.out.size hkz.out hia.out (Nat.le_trans hkj.out (by omega))).mono ?_
        rintro e wy ⟨u', bl, rfl, ⟨d', r', hp, gr4, gd4⟩, hb4⟩
        obtain ⟨A8, c8, A9, n9, c9, o9, lf9, A0, n0, c0, rfl, _, _⟩ := hp.shape 4 gr4.n
        refine hK _ _ ⟨hb4.size, fun y hl hy => ?_⟩ ?_
        · rcases Nat.lt_or_ge y w.heap.size with h | h
          · exact hb4.b.block y h
          · exact hb4.x y (.inl (by
              rcases Decidable.em (y = bx) with e | e
              · exact e
              · exact absurd ((hFz y).2 ⟨h, e⟩) hy)) hl
        clear hK K
        have hX4 := hide (RBox.later hXz.out (hb4.later (F := fun y => ¬ (y < w.heap.size ∨ (y = bx ∨ y = b8))) (fun y hy => by omega)) (by omega))
        have hYn' := hide (RBox.later hYz.out (hb4.later (F := fun y => ¬ (y < w.heap.size ∨ (y = bx ∨ y = b8))) (fun y hy => by omega)) (by omega))
        have hP4 := hide hp
        have hb5 := hide (hbz.out.trans hb4.b)
        have gr5 := hide gr4
        have gd5 := hide gd4
        have hs4 := hb4.size
        clear hXz hPz hbz hkz hYz hp hb4 gr4 gd4 gr' gd'
        try simp only [Act.put, List.setIfInBounds_toArray, List.set_cons_zero, List.set_cons_succ]
        repeat
          (first
            | (show wpT _ _ _ _ (PT.take _ _) _ _
               refine tplan_skip rfl (by rfl) ?_
               simp only [Act.put, List.setIfInBounds_toArray, List.set_cons_zero, List.set_cons_succ])
            | (show wpT _ _ _ _ (PT.eff _ _) _ _
               refine tplan_skip_eff (later_refl _) rfl (by rfl) ?_
               simp only [Act.put, List.setIfInBounds_toArray, List.set_cons_zero, List.set_cons_succ])
            | (show wpT _ _ _ _ (PT.take _ _) _ _
               refine tplan_take (v := ?_) rfl (by rfl) (fun w' hw' => ?_) ?_
               rotate_left
               focus
                 go_simp
                 try with_reducible rfl
                 done
               simp only [Act.put, List.setIfInBounds_toArray, List.set_cons_zero, List.set_cons_succ]))
        have y0 := hYn'.out.c0
        have y1 := hYn'.out.c1
        have y2 := hYn'.out.c2
        have y3 := hYn'.out.c3
        have y4 := hYn'.out.c4
        have t0 := hYn'.out.z 0
        have t1 := hYn'.out.z 1
        have t2 := hYn'.out.z 2
        have t3 := hYn'.out.z 3
        have t4 := hYn'.out.z 4
        refine tplan_eff rfl (by rfl) (fun K hK => ?_)
        go_wp2_with fail
        refine hK _ _ (touch_set5 Fz wy b8 (.slice A8 4 c8) (.slice A9 n9 c9) (.bool o9) (.int .i64 lf9) (.slice A0 n0 c0) ((hFz b8).2 ⟨hb8w, by omega⟩)).2 ?_
        clear hK K
        have hT5 := touch_set5 (fun y => y = bx ∨ y = b8) wy b8 (.slice A8 4 c8) (.slice A9 n9 c9) (.bool o9) (.int .i64 lf9) (.slice A0 n0 c0) (.inr rfl)
        have hT6 := touch_set5 (fun y => y = b8) wy b8 (.slice A8 4 c8) (.slice A9 n9 c9) (.bool o9) (.int .i64 lf9) (.slice A0 n0 c0) rfl
        have hY5 := hide (hYn'.out.set5 (.slice A8 4 c8) (.slice A9 n9 c9) (.bool o9) (.int .i64 lf9) (.slice A0 n0 c0))
        have hX5 := hide (hX4.out.later hT6.2 (by omega))
        have hP5 := hide ((hP4.out.setX hT5).lessX (Y := fun y => y = bx) (fun y hy => .inl hy))
        have hb6 := hide (hb5.out.trans (hT6.below hb5.out.size (fun y hy e => by omega)))
        clear y0 y1 y2 y3 y4 t0 t1 t2 t3 t4 hYn' hX4 hP4 hb5 hT5 hT6
        generalize (((((wy.setCell ⟨b8, 0, none⟩ (.slice A8 4 c8)).setCell ⟨b8, 1, none⟩ (.slice A9 n9 c9)).setCell ⟨b8, 2, none⟩ (.bool o9)).setCell ⟨b8, 3, none⟩ (.int .i64 lf9)).setCell ⟨b8, 4, none⟩ (.slice A0 n0 c0)) = w5 at *
        try simp only [Act.put, List.setIfInBounds_toArray, List.set_cons_zero, List.set_cons_succ]
        repeat
          (first
            | (show wpT _ _ _ _ (PT.take _ _) _ _
               refine tplan_skip rfl (by rfl) ?_
               simp only [Act.put, List.setIfInBounds_toArray, List.set_cons_zero, List.set_cons_succ])
            | (show wpT _ _ _ _ (PT.eff _ _) _ _
               refine tplan_skip_eff (later_refl _) rfl (by rfl) ?_
               simp only [Act.put, List.setIfInBounds_toArray, List.set_cons_zero, List.set_cons_succ])
            | (show wpT _ _ _ _ (PT.take _ _) _ _
               refine tplan_take (v := ?_) rfl (by rfl) (fun w' hw' => ?_) ?_
               rotate_left
               focus
                 go_simp
                 try with_reducible rfl
                 done
               simp only [Act.put, List.setIfInBounds_toArray, List.set_cons_zero, List.set_cons_succ]))
        refine tplan_nil ?_
        have y0 := hY5.out.c0
        have y1 := hY5.out.c1
        have y2 := hY5.out.c2
        have y3 := hY5.out.c3
        have y4 := hY5.out.c4
        have x0 := hX5.out.c0
        have x1 := hX5.out.c1
        have x2 := hX5.out.c2
        have x3 := hX5.out.c3
        have x4 := hX5.out.c4
        have t0 := hX5.out.z 0
        have t1 := hX5.out.z 1
        have t2 := hX5.out.z 2
        have t3 := hX5.out.z 3
        have t4 := hX5.out.z 4
        go_wp2_with fail
        have hT7 := touch_set5 (fun y => y = bx) w5 bx (.slice A8 4 c8) (.slice A9 n9 c9) (.bool o9) (.int .i64 lf9) (.slice A0 n0 c0) rfl
        have hP7 := hP5.out.setX hT7
        have hX7 := hX5.out.set5 (.slice A8 4 c8) (.slice A9 n9 c9) (.bool o9) (.int .i64 lf9) (.slice A0 n0 c0)
        have hb7 := hb6.out.trans (hT7.below hb6.out.size (fun y hy e => by omega))
        go_roundw
        case rel => exact ⟨j + 1, by omega, by go_num, d', r', A8, c8, A9, n9, c9, o9, lf9, A0, n0, c0, hP7, gr5.out, gd5.out, hX7, hb7⟩
        case measure => simp [intOf]; omega
    · obtain rfl : n = j := by omega
      obtain ⟨B, C, h1, _, h3, _⟩ := hP'.out
      go_wp2_with fail
      go_ret
      exact ⟨g, rfl, B, d, h1, fun y hy => ⟨(h3 y hy).1, (h3 y hy).2.1⟩, gd'.out.1, by have := gd'.out.2; omega, hb'.out⟩
set_option maxRecDepth 100000 in
set_option maxHeartbeats 8000000 in
theorem played_gt (A : Option Addr) (b off n c : Nat) (G : Nat → DAct) (w : World) (hA : 0 < n → A = some ⟨b, off, none⟩) (hn : n ≤ 9223372036854775807) (h40 : 40 < n) (h : DActs w w.heap.size b off n G) (hkl : ∀ i, i < n → (G i).kl.length ≤ 140737488351232) :
    Calls Try.prog 28 #[.slice A n c] w fun e w' => ∃ g, e = .returned (.pointer (some ⟨g, 0, none⟩)) ∧ ∃ B d, Dsk w' g B d ∧ (∀ y, B y → w.heap.size ≤ y ∧ y < w'.heap.size) ∧ d.n = 4 ∧ d.waits.length ≤ 40 ∧ Below w.heap.size w w' := by
  have hA' := hide hA
  have h' := hide h
  have h40b : (40 : Int) < (n : Int) := by omega
  clear hA h
  go_enter Try.func28, Try.ntmps28
  go_wp2_with fail
  refine (dnew_dsk 4 (by omega) (by omega) w).mono ?_
  rintro e w1 ⟨g, rfl, hgd, hD, hb⟩
  have hD1 := hide hD
  have hb1 := hide hb
  have s1 := hb.size
  clear hD hb
  go_wp2_with fail
  refine (rnew_any 4 w1 (by omega) (by omega)).mono ?_
  rintro e w2 ⟨u, rfl, hR, hb⟩
  have hP2 : Pair w.heap.size (fun _ => False) 0 0 w2 g (newDk 4) u (newRk 4) := ⟨_, _, hD1.out.below hb, hR.tight, fun y hy => ⟨hy.1, by have := hb.size; omega, by omega⟩, fun y hy => ⟨hy.2, fun e => by have := hy.1; have := e.2; omega, by omega⟩, fun y hy => hy.elim⟩
  obtain ⟨A5, c5, A6, n6, c6, o6, lf6, A7, n7, c7, rfl, _, _⟩ := hP2.shape 4 (by simp [newRk])
  have hb2 := hide (hb1.out.trans (hb.mono s1))
  have hP2' := hide hP2
  have s2 := hb.size
  clear hR hb hD1 hb1 hP2
  go_upto_region 3 with (fail)
  have hX3 := RBox.new w2 71 (.slice A5 4 c5) (.slice A6 n6 c6) (.bool o6) (.int .i64 lf6) (.slice A7 n7 c7)
  have hb3 : Below w2.heap.size w2 (w2.alloc (.cells #[.slice A5 4 c5, .slice A6 n6 c6, .bool o6, .int .i64 lf6, .slice A7 n7 c7] 71)) := (Below.refl _ _).alloc (Nat.le_refl _) _
  have hs3 : (w2.alloc (.cells #[.slice A5 4 c5, .slice A6 n6 c6, .bool o6, .int .i64 lf6, .slice A7 n7 c7] 71)).heap.size = w2.heap.size + 1 := by simp
  generalize w2.alloc (.cells #[.slice A5 4 c5, .slice A6 n6 c6, .bool o6, .int .i64 lf6, .slice A7 n7 c7] 71) = w3 at *
  obtain ⟨bx, hbx⟩ : ∃ bx, bx = w2.heap.size := ⟨_, rfl⟩
  rw [← hbx] at hX3 hs3 ⊢
  have hrel0 := hide (show PlRel w g bx 0 w3 from ⟨newDk 4, newRk 4, A5, c5, A6, n6, c6, o6, lf6, A7, n7, c7, hP2'.out.addX hb3 bx hbx (by omega) (by omega), ⟨⟨by simp [newRk], fun w hw => absurd hw (by simp [newRk]), by simp [newRk]⟩, by simp [newRk], by show I64 (-1); unfold I64; omega, Nat.le_refl _⟩, ⟨rfl, Nat.le_refl _⟩, hX3, hb2.out.trans (hb3.mono (by omega))⟩)
  have hbw : w.heap.size ≤ bx := by omega
  clear hX3 hb3 hs3 hP2' hb2 hbx s1 s2 hgd
  go_wp2_with fail
  go_loopw [7] (fun i wr => ∃ j : Nat, j ≤ 40 ∧ i = .int .i64 (j : Nat) ∧ PlRel w g bx j wr) (fun i _ => 40 - (intOf i).toNat)
  case atStart => exact ⟨0, by omega, rfl, hrel0.out⟩
  case round =>
    obtain ⟨j, hj, rfl, d, r, A5, c5, A6, n6, c6, o6, lf6, A7, n7, c7, hP, gr, gd, hX, hb⟩ := hrel
    have hP' := hide hP
    have gr' := hide gr
    have gd' := hide gd
    have hX' := hide hX
    have hb' := hide hb
    have hbs := hb.size
    clear hP gr gd hX hb hrel0
    by_cases hlt : j < 40
    · obtain rfl : A = some ⟨b, off, none⟩ := hA'.out (by omega)
      have hltn : j < n := by omega
      have hltI : (j : Int) < (n : Int) := by omega
      have hlt40 : (j : Int) < 40 := by omega
      obtain ⟨A4, n4, n4c, hkv⟩ : ∃ A m c, (G j).kv = .slice A m c := by
        obtain ⟨A, c, h, _⟩ := (h'.out.k j hltn).1
        exact ⟨A, _, c, h⟩
      obtain ⟨Fz, hFz⟩ : ∃ Fz : Nat → Prop, ∀ y, Fz y ↔ (w.heap.size ≤ y ∧ y ≠ bx) := ⟨_, fun _ => Iff.rfl⟩
      have hLd := hide (later_drew (F := Fz) wr)
      have hq : Below wr.heap.size wr wr.drew := (Below.refl _ _).drew
      have hacts := h'.out.below (hb'.out.trans (hq.mono hbs))
      have hblt : b < w.heap.size := h'.out.lt (by omega)
      have f := fun w' (hl : Later Fz wr.drew w') => hX'.out.later (later_trans _ _ _ _ hLd.out hl) (fun h => ((hFz bx).1 h).2 rfl)
      have f0 := fun w' hl => (f w' hl).c0
      have f1 := fun w' hl => (f w' hl).c1
      have f2 := fun w' hl => (f w' hl).c2
      have f3 := fun w' hl => (f w' hl).c3
      have f4 := fun w' hl => (f w' hl).c4
      have fa := fun w' (hl : Later Fz wr.drew w') (o : Nat) => (Later.cell (o := o) hl (show b < wr.drew.heap.size by have : wr.drew.heap.size = wr.heap.size := rfl; omega) (fun h => by have := ((hFz b).1 h).1; omega)).1
      have e0 : ∀ w', Later Fz wr.drew w' → w'.cell? ⟨b, off + j*5, none⟩ = some (.int .i64 (G j).do_) := fun w' hl => (fa w' hl _).trans (hacts.c0 j hltn)
      have e1 : ∀ w', Later Fz wr.drew w' → w'.cell? ⟨b, off + j*5 + 1, none⟩ = some (.int .i64 (G j).at_) := fun w' hl => (fa w' hl _).trans (hacts.c1 j hltn)
      have e2 : ∀ w', Later Fz wr.drew w' → w'.cell? ⟨b, off + j*5 + 2, none⟩ = some (.int .i64 (G j).off) := fun w' hl => (fa w' hl _).trans (hacts.c2 j hltn)
      have e3 : ∀ w', Later Fz wr.drew w' → w'.cell? ⟨b, off + j*5 + 3, none⟩ = some (.int .u8 ((G j).fill.toNat : Int)) := fun w' hl => (fa w' hl _).trans (hacts.c3 j hltn)
      have e4 : ∀ w', Later Fz wr.drew w' → w'.cell? ⟨b, off + j*5 + 4, none⟩ = some (.slice A4 n4 n4c) := fun w' hl => (fa w' hl _).trans ((hacts.c4 j hltn).trans (by rw [hkv]))
      have hka := hide (show BoolsB wr.drew w.heap.size (.slice A4 n4 n4c) (G j).kl by rw [← hkv]; exact hacts.k j hltn)
      have hia := hide ((h'.out.r0 j hltn).2.1)
      have hkj := hide (hkl j hltn)
      clear f fa hacts hkv
      have hsd : wr.heap.size ≤ wr.drew.heap.size := Nat.le_refl _
      have hXd := hide (hX'.out.below hq)
      have hPd := hide (hP'.out.below hq)
      have hbd := hide (hb'.out.trans (hq.mono hbs))
      go_wp2_with fail
      refine region_planT (.take 0 (.take 1 (.take 2 (.take 3 (.take 4 (.take 5 (.two 6 10 (.take 7 (.take 8 (.take 9 (.eff 10 (.eff 11 (.take 12 .nil)))))) (.eff 6 (.take 7 (.take 8 (.take 9 (.eff 11 (.take 12 .nil)))))))))))) ) (Later Fz) (later_refl _) (later_trans _) (by kernel_rfl) (by kernel_rfl) (fun _ _ d _ _ h => by cases d <;> exact h) ?_
      repeat
        (first
          | (show wpT _ _ _ _ (PT.take _ _) _ _
             refine tplan_skip rfl (by rfl) ?_
             simp only [Act.put, List.setIfInBounds_toArray, List.set_cons_zero, List.set_cons_succ])
          | (show wpT _ _ _ _ (PT.eff _ _) _ _
             refine tplan_skip_eff (later_refl _) rfl (by rfl) ?_
             simp only [Act.put, List.setIfInBounds_toArray, List.set_cons_zero, List.set_cons_succ])
          | (show wpT _ _ _ _ (PT.take _ _) _ _
             refine tplan_take (v := ?_) rfl (by rfl) (fun w' hw' => ?_) ?_
             rotate_left
             focus
               go_simp
               try with_reducible rfl
               done
             simp only [Act.put, List.setIfInBounds_toArray, List.set_cons_zero, List.set_cons_succ]))
      clear f0 f1 f2 f3 f4 e0 e1 e2 e3 e4 hX' hP' hb' hLd hq
      generalize wr.drew = wd at *
      refine tplan_two ?_ ?_
      · refine tplan_eff rfl (by rfl) (fun K hK => ?_)
        go_wp2_with fail
        refine (do_any w.heap.size g (fun y => y = bx) d _ r j (by omega) ⟨(G j).do_, (G j).at_, (G j).off, (G j).fill, .slice A4 n4 n4c, (G j).kl⟩ wd hPd.out gr'.out gd'.out hbd.out.size hka.out hia.out (Nat.le_trans hkj.out (by omega))).mono ?_
        rintro e w4 ⟨u', bl, rfl, ⟨d', r', hp, gr4, gd4⟩, hb4⟩
        obtain ⟨A8, c8, A9, n9, c9, o9, lf9, A0, n0, c0, rfl, _, _⟩ := hp.shape 4 gr4.n
        refine hK _ _ (hb4.later (fun y hy => by have := mt (hFz y).2 hy; omega)) ?_
        clear hK K
        have hXo := RBox.later hXd.out (hb4.later (F := fun y => ¬ (y < w.heap.size ∨ y = bx)) (fun y hy => by omega)) (by omega)
        have hYn := RBox.new w4 71 (.slice none 0 0) (.slice none 0 0) (.bool false) (.int .i64 0) (.slice none 0 0)
        have hbn : Below w4.heap.size w4 (w4.alloc (.cells #[.slice none 0 0, .slice none 0 0, .bool false, .int .i64 0, .slice none 0 0] 71)) := (Below.refl _ _).alloc (Nat.le_refl _) _
        have hsn : (w4.alloc (.cells #[.slice none 0 0, .slice none 0 0, .bool false, .int .i64 0, .slice none 0 0] 71)).heap.size = w4.heap.size + 1 := by simp
        have hX4 := hide (hXo.below hbn)
        have hP4 := hide (hp.moreX hbn w4.heap.size rfl (by omega) (Nat.le_trans hbd.out.size hb4.size))
        have hb5 := hide ((hbd.out.trans hb4.b).trans (hbn.mono (Nat.le_trans hbd.out.size hb4.size)))
        have gr5 := hide gr4
        have gd5 := hide gd4
        have hs4 := hb4.size
        have hbs4 := hbd.out.size
        have hYn' := hide hYn
        have hbxl := hide hXd.out.lt
        clear hXo hp hb4 gr4 gd4 hXd hPd hbd gr' gd' hYn
        try simp only [Act.put, List.setIfInBounds_toArray, List.set_cons_zero, List.set_cons_succ]
        repeat
          (first
            | (show wpT _ _ _ _ (PT.take _ _) _ _
               refine tplan_skip rfl (by rfl) ?_
               simp only [Act.put, List.setIfInBounds_toArray, List.set_cons_zero, List.set_cons_succ])
            | (show wpT _ _ _ _ (PT.eff _ _) _ _
               refine tplan_skip_eff (later_refl _) rfl (by rfl) ?_
               simp only [Act.put, List.setIfInBounds_toArray, List.set_cons_zero, List.set_cons_succ])
            | (show wpT _ _ _ _ (PT.take _ _) _ _
               refine tplan_take (v := ?_) rfl (by rfl) (fun w' hw' => ?_) ?_
               rotate_left
               focus
                 go_simp
                 try with_reducible rfl
                 done
               simp only [Act.put, List.setIfInBounds_toArray, List.set_cons_zero, List.set_cons_succ]))
        refine tplan_eff rfl (by rfl) (fun K hK => ?_)
        go_wp2_with fail
        refine hK _ _ (later_alloc _ _) ?_
        clear hK K hbn
        generalize w4.alloc (.cells #[.slice none 0 0, .slice none 0 0, .bool false, .int .i64 0, .slice none 0 0] 71) = wy at *
        obtain ⟨b8, hb8⟩ : ∃ b8, b8 = w4.heap.size := ⟨_, rfl⟩
        rw [← hb8] at hYn' hP4 hsn ⊢
        have hb8x : bx < b8 := by have := hbxl.out; omega
        have hb8w : w.heap.size ≤ b8 := by omega
        clear hb8 hbxl
        try simp only [Act.put, List.setIfInBounds_toArray, List.set_cons_zero, List.set_cons_succ]
        repeat
          (first
            | (show wpT _ _ _ _ (PT.take _ _) _ _
               refine tplan_skip rfl (by rfl) ?_
               simp only [Act.put, List.setIfInBounds_toArray, List.set_cons_zero, List.set_cons_succ])
            | (show wpT _ _ _ _ (PT.eff _ _) _ _
               refine tplan_skip_eff (later_refl _) rfl (by rfl) ?_
               simp only [Act.put, List.setIfInBounds_toArray, List.set_cons_zero, List.set_cons_succ])
            | (show wpT _ _ _ _ (PT.take _ _) _ _
               refine tplan_take (v := ?_) rfl (by rfl) (fun w' hw' => ?_) ?_
               rotate_left
               focus
                 go_simp
                 try with_reducible rfl
                 done
               simp only [Act.put, List.setIfInBounds_toArray, List.set_cons_zero, List.set_cons_succ]))
        have y0 := hYn'.out.c0
        have y1 := hYn'.out.c1
        have y2 := hYn'.out.c2
        have y3 := hYn'.out.c3
        have y4 := hYn'.out.c4
        have t0 := hYn'.out.z 0
        have t1 := hYn'.out.z 1
        have t2 := hYn'.out.z 2
        have t3 := hYn'.out.z 3
        have t4 := hYn'.out.z 4
        refine tplan_eff rfl (by rfl) (fun K hK => ?_)
        go_wp2_with fail
        refine hK _ _ (touch_set5 Fz wy b8 (.slice A8 4 c8) (.slice A9 n9 c9) (.bool o9) (.int .i64 lf9) (.slice A0 n0 c0) ((hFz b8).2 ⟨hb8w, by omega⟩)).2 ?_
        clear hK K
        have hT5 := touch_set5 (fun y => y = bx ∨ y = b8) wy b8 (.slice A8 4 c8) (.slice A9 n9 c9) (.bool o9) (.int .i64 lf9) (.slice A0 n0 c0) (.inr rfl)
        have hT6 := touch_set5 (fun y => y = b8) wy b8 (.slice A8 4 c8) (.slice A9 n9 c9) (.bool o9) (.int .i64 lf9) (.slice A0 n0 c0) rfl
        have hY5 := hide (hYn'.out.set5 (.slice A8 4 c8) (.slice A9 n9 c9) (.bool o9) (.int .i64 lf9) (.slice A0 n0 c0))
        have hX5 := hide (hX4.out.later hT6.2 (by omega))
        have hP5 := hide ((hP4.out.setX hT5).lessX (Y := fun y => y = bx) (fun y hy => .inl hy))
        have hb6 := hide (hb5.out.trans (hT6.below hb5.out.size (fun y hy e => by omega)))
        clear y0 y1 y2 y3 y4 t0 t1 t2 t3 t4 hYn' hX4 hP4 hb5 hT5 hT6
        generalize (((((wy.setCell ⟨b8, 0, none⟩ (.slice A8 4 c8)).setCell ⟨b8, 1, none⟩ (.slice A9 n9 c9)).setCell ⟨b8, 2, none⟩ (.bool o9)).setCell ⟨b8, 3, none⟩ (.int .i64 lf9)).setCell ⟨b8, 4, none⟩ (.slice A0 n0 c0)) = w5 at *
        try simp only [Act.put, List.setIfInBounds_toArray, List.set_cons_zero, List.set_cons_succ]
        repeat
          (first
            | (show wpT _ _ _ _ (PT.take _ _) _ _
               refine tplan_skip rfl (by rfl) ?_
               simp only [Act.put, List.setIfInBounds_toArray, List.set_cons_zero, List.set_cons_succ])
            | (show wpT _ _ _ _ (PT.eff _ _) _ _
               refine tplan_skip_eff (later_refl _) rfl (by rfl) ?_
               simp only [Act.put, List.setIfInBounds_toArray, List.set_cons_zero, List.set_cons_succ])
            | (show wpT _ _ _ _ (PT.take _ _) _ _
               refine tplan_take (v := ?_) rfl (by rfl) (fun w' hw' => ?_) ?_
               rotate_left
               focus
                 go_simp
                 try with_reducible rfl
                 done
               simp only [Act.put, List.setIfInBounds_toArray, List.set_cons_zero, List.set_cons_succ]))
        refine tplan_nil ?_
        have y0 := hY5.out.c0
        have y1 := hY5.out.c1
        have y2 := hY5.out.c2
        have y3 := hY5.out.c3
        have y4 := hY5.out.c4
        have x0 := hX5.out.c0
        have x1 := hX5.out.c1
        have x2 := hX5.out.c2
        have x3 := hX5.out.c3
        have x4 := hX5.out.c4
        have t0 := hX5.out.z 0
        have t1 := hX5.out.z 1
        have t2 := hX5.out.z 2
        have t3 := hX5.out.z 3
        have t4 := hX5.out.z 4
        go_wp2_with fail
        have hT7 := touch_set5 (fun y => y = bx) w5 bx (.slice A8 4 c8) (.slice A9 n9 c9) (.bool o9) (.int .i64 lf9) (.slice A0 n0 c0) rfl
        have hP7 := hP5.out.setX hT7
        have hX7 := hX5.out.set5 (.slice A8 4 c8) (.slice A9 n9 c9) (.bool o9) (.int .i64 lf9) (.slice A0 n0 c0)
        have hb7 := hb6.out.trans (hT7.below hb6.out.size (fun y hy e => by omega))
        go_roundw
        case rel => exact ⟨j + 1, by omega, by go_num, d', r', A8, c8, A9, n9, c9, o9, lf9, A0, n0, c0, hP7, gr5.out, gd5.out, hX7, hb7⟩
        case measure => simp [intOf]; omega
      · have hYn := RBox.new wd 71 (.slice none 0 0) (.slice none 0 0) (.bool false) (.int .i64 0) (.slice none 0 0)
        have hbn : Below wd.heap.size wd (wd.alloc (.cells #[.slice none 0 0, .slice none 0 0, .bool false, .int .i64 0, .slice none 0 0] 71)) := (Below.refl _ _).alloc (Nat.le_refl _) _
        have hsn : (wd.alloc (.cells #[.slice none 0 0, .slice none 0 0, .bool false, .int .i64 0, .slice none 0 0] 71)).heap.size = wd.heap.size + 1 := by simp
        have hbs4 := hbd.out.size
        have hXz := hide (hXd.out.below hbn)
        have hPz := hide (hPd.out.moreX hbn wd.heap.size rfl (by omega) hbs4)
        have hbz := hide (hbd.out.trans (hbn.mono hbs4))
        have hkz := hide (hka.out.below (hbn.mono hbs4))
        have hYz := hide hYn
        have hbxl := hide hXd.out.lt
        clear hXd hPd hbd hYn hka
        refine tplan_eff rfl (by rfl) (fun K hK => ?_)
        go_wp2_with fail
        refine hK _ _ (later_alloc _ _) ?_
        clear hK K hbn
        generalize wd.alloc (.cells #[.slice none 0 0, .slice none 0 0, .bool false, .int .i64 0, .slice none 0 0] 71) = wz at *
        obtain ⟨b8, hb8⟩ : ∃ b8, b8 = wd.heap.size := ⟨_, rfl⟩
        rw [← hb8] at hYz hPz hsn ⊢
        have hb8x : bx < b8 := by have := hbxl.out; omega
        have hb8w : w.heap.size ≤ b8 := by omega
        clear hb8 hbxl
        try simp only [Act.put, List.setIfInBounds_toArray, List.set_cons_zero, List.set_cons_succ]
        repeat
          (first
            | (show wpT _ _ _ _ (PT.take _ _) _ _
               refine tplan_skip rfl (by rfl) ?_
               simp only [Act.put, List.setIfInBounds_toArray, List.set_cons_zero, List.set_cons_succ])
            | (show wpT _ _ _ _ (PT.eff _ _) _ _
               refine tplan_skip_eff (later_refl _) rfl (by rfl) ?_
               simp only [Act.put, List.setIfInBounds_toArray, List.set_cons_zero, List.set_cons_succ])
            | (show wpT _ _ _ _ (PT.take _ _) _ _
               refine tplan_take (v := ?_) rfl (by rfl) (fun w' hw' => ?_) ?_
               rotate_left
               focus
                 go_simp
                 try with_reducible rfl
                 done
               simp only [Act.put, List.setIfInBounds_toArray, List.set_cons_zero, List.set_cons_succ]))
        refine tplan_eff rfl (by rfl) (fun K hK => ?_)
        go_wp2_with fail
        refine (do_any w.heap.size g (fun y => y = bx ∨ y = b8) d _ r j (by omega) ⟨(G j).do_, (G j).at_, (G j).off, (G j).fill, .slice A4 n4 n4c, (G j).kl⟩ wz hPz.out gr'.out gd'.out hbz.out.size hkz.out hia.out (Nat.le_trans hkj.out (by omega))).mono ?_
        rintro e wy ⟨u', bl, rfl, ⟨d', r', hp, gr4, gd4⟩, hb4⟩
        obtain ⟨A8, c8, A9, n9, c9, o9, lf9, A0, n0, c0, rfl, _, _⟩ := hp.shape 4 gr4.n
        refine hK _ _ ⟨hb4.size, fun y hl hy => ?_⟩ ?_
        · rcases Nat.lt_or_ge y w.heap.size with h | h
          · exact hb4.b.block y h
          · exact hb4.x y (.inl (by
              rcases Decidable.em (y = bx) with e | e
              · exact e
              · exact absurd ((hFz y).2 ⟨h, e⟩) hy)) hl
        clear hK K
        have hX4 := hide (RBox.later hXz.out (hb4.later (F := fun y => ¬ (y < w.heap.size ∨ (y = bx ∨ y = b8))) (fun y hy => by omega)) (by omega))
        have hYn' := hide (RBox.later hYz.out (hb4.later (F := fun y => ¬ (y < w.heap.size ∨ (y = bx ∨ y = b8))) (fun y hy => by omega)) (by omega))
        have hP4 := hide hp
        have hb5 := hide (hbz.out.trans hb4.b)
        have gr5 := hide gr4
        have gd5 := hide gd4
        have hs4 := hb4.size
        clear hXz hPz hbz hkz hYz hp hb4 gr4 gd4 gr' gd'
        try simp only [Act.put, List.setIfInBounds_toArray, List.set_cons_zero, List.set_cons_succ]
        repeat
          (first
            | (show wpT _ _ _ _ (PT.take _ _) _ _
               refine tplan_skip rfl (by rfl) ?_
               simp only [Act.put, List.setIfInBounds_toArray, List.set_cons_zero, List.set_cons_succ])
            | (show wpT _ _ _ _ (PT.eff _ _) _ _
               refine tplan_skip_eff (later_refl _) rfl (by rfl) ?_
               simp only [Act.put, List.setIfInBounds_toArray, List.set_cons_zero, List.set_cons_succ])
            | (show wpT _ _ _ _ (PT.take _ _) _ _
               refine tplan_take (v := ?_) rfl (by rfl) (fun w' hw' => ?_) ?_
               rotate_left
               focus
                 go_simp
                 try with_reducible rfl
                 done
               simp only [Act.put, List.setIfInBounds_toArray, List.set_cons_zero, List.set_cons_succ]))
        have y0 := hYn'.out.c0
        have y1 := hYn'.out.c1
        have y2 := hYn'.out.c2
        have y3 := hYn'.out.c3
        have y4 := hYn'.out.c4
        have t0 := hYn'.out.z 0
        have t1 := hYn'.out.z 1
        have t2 := hYn'.out.z 2
        have t3 := hYn'.out.z 3
        have t4 := hYn'.out.z 4
        refine tplan_eff rfl (by rfl) (fun K hK => ?_)
        go_wp2_with fail
        refine hK _ _ (touch_set5 Fz wy b8 (.slice A8 4 c8) (.slice A9 n9 c9) (.bool o9) (.int .i64 lf9) (.slice A0 n0 c0) ((hFz b8).2 ⟨hb8w, by omega⟩)).2 ?_
        clear hK K
        have hT5 := touch_set5 (fun y => y = bx ∨ y = b8) wy b8 (.slice A8 4 c8) (.slice A9 n9 c9) (.bool o9) (.int .i64 lf9) (.slice A0 n0 c0) (.inr rfl)
        have hT6 := touch_set5 (fun y => y = b8) wy b8 (.slice A8 4 c8) (.slice A9 n9 c9) (.bool o9) (.int .i64 lf9) (.slice A0 n0 c0) rfl
        have hY5 := hide (hYn'.out.set5 (.slice A8 4 c8) (.slice A9 n9 c9) (.bool o9) (.int .i64 lf9) (.slice A0 n0 c0))
        have hX5 := hide (hX4.out.later hT6.2 (by omega))
        have hP5 := hide ((hP4.out.setX hT5).lessX (Y := fun y => y = bx) (fun y hy => .inl hy))
        have hb6 := hide (hb5.out.trans (hT6.below hb5.out.size (fun y hy e => by omega)))
        clear y0 y1 y2 y3 y4 t0 t1 t2 t3 t4 hYn' hX4 hP4 hb5 hT5 hT6
        generalize (((((wy.setCell ⟨b8, 0, none⟩ (.slice A8 4 c8)).setCell ⟨b8, 1, none⟩ (.slice A9 n9 c9)).setCell ⟨b8, 2, none⟩ (.bool o9)).setCell ⟨b8, 3, none⟩ (.int .i64 lf9)).setCell ⟨b8, 4, none⟩ (.slice A0 n0 c0)) = w5 at *
        try simp only [Act.put, List.setIfInBounds_toArray, List.set_cons_zero, List.set_cons_succ]
        repeat
          (first
            | (show wpT _ _ _ _ (PT.take _ _) _ _
               refine tplan_skip rfl (by rfl) ?_
               simp only [Act.put, List.setIfInBounds_toArray, List.set_cons_zero, List.set_cons_succ])
            | (show wpT _ _ _ _ (PT.eff _ _) _ _
               refine tplan_skip_eff (later_refl _) rfl (by rfl) ?_
               simp only [Act.put, List.setIfInBounds_toArray, List.set_cons_zero, List.set_cons_succ])
            | (show wpT _ _ _ _ (PT.take _ _) _ _
               refine tplan_take (v := ?_) rfl (by rfl) (fun w' hw' => ?_) ?_
               rotate_left
               focus
                 go_simp
                 try with_reducible rfl
                 done
               simp only [Act.put, List.setIfInBounds_toArray, List.set_cons_zero, List.set_cons_succ]))
        refine tplan_nil ?_
        have y0 := hY5.out.c0
        have y1 := hY5.out.c1
        have y2 := hY5.out.c2
        have y3 := hY5.out.c3
        have y4 := hY5.out.c4
        have x0 := hX5.out.c0
        have x1 := hX5.out.c1
        have x2 := hX5.out.c2
        have x3 := hX5.out.c3
        have x4 := hX5.out.c4
        have t0 := hX5.out.z 0
        have t1 := hX5.out.z 1
        have t2 := hX5.out.z 2
        have t3 := hX5.out.z 3
        have t4 := hX5.out.z 4
        go_wp2_with fail
        have hT7 := touch_set5 (fun y => y = bx) w5 bx (.slice A8 4 c8) (.slice A9 n9 c9) (.bool o9) (.int .i64 lf9) (.slice A0 n0 c0) rfl
        have hP7 := hP5.out.setX hT7
        have hX7 := hX5.out.set5 (.slice A8 4 c8) (.slice A9 n9 c9) (.bool o9) (.int .i64 lf9) (.slice A0 n0 c0)
        have hb7 := hb6.out.trans (hT7.below hb6.out.size (fun y hy e => by omega))
        go_roundw
        case rel => exact ⟨j + 1, by omega, by go_num, d', r', A8, c8, A9, n9, c9, o9, lf9, A0, n0, c0, hP7, gr5.out, gd5.out, hX7, hb7⟩
        case measure => simp [intOf]; omega
    · obtain rfl : 40 = j := by omega
      obtain ⟨B, C, h1, _, h3, _⟩ := hP'.out
      go_wp2_with fail
      go_ret
      exact ⟨g, rfl, B, d, h1, fun y hy => ⟨(h3 y hy).1, (h3 y hy).2.1⟩, gd'.out.1, by have := gd'.out.2; omega, hb'.out⟩
theorem played_any (A : Option Addr) (b off n c : Nat) (G : Nat → DAct) (w : World) (hA : 0 < n → A = some ⟨b, off, none⟩) (hn : n ≤ 9223372036854775807) (h : DActs w w.heap.size b off n G) (hkl : ∀ i, i < n → (G i).kl.length ≤ 140737488351232) :
    Calls Try.prog 28 #[.slice A n c] w fun e w' => ∃ g, e = .returned (.pointer (some ⟨g, 0, none⟩)) ∧ ∃ B d, Dsk w' g B d ∧ (∀ y, B y → w.heap.size ≤ y ∧ y < w'.heap.size) ∧ d.n = 4 ∧ d.waits.length ≤ 40 ∧ Below w.heap.size w w' := by
  by_cases h40 : n ≤ 40
  · exact played_le A b off n c G w hA hn h40 h hkl
  · exact played_gt A b off n c G w hA hn (by omega) h hkl
end Go.Proofs.Ytamkngpkplflcaa
