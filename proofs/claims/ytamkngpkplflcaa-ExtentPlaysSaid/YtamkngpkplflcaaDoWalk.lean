/- law 05: Do walked (Flush, Crash, Power, Arm). -/
import Derived.Test.YtamkngpkplflcaaDoActs
namespace Go.Proofs.Ytamkngpkplflcaa
open Go.RowKit

theorem Pair.shape {base : Nat} {X : Nat → Prop} {lo hi : Nat} {w : World} {g : Nat} {d : Dk} {u : Value} {r : Rk} (p : Pair base X lo hi w g d u r) (n : Nat) (hn : r.has.length = n) : ∃ A1 c1 A2 n2 c2 o l A3 n3 c3, u = .agg #[.slice A1 n c1, .slice A2 n2 c2, .bool o, .int .i64 l, .slice A3 n3 c3] ∧ Strs w (.slice A1 n c1) r.has ∧ n ≤ c1 := by
  obtain ⟨B, C, _, h2, _⟩ := p
  obtain ⟨A1, c1, A2, c2, A3, c3, e, h, _⟩ := h2
  rw [hn] at e h
  refine ⟨A1, c1, _, _, _, _, _, _, _, _, e, h, ?_⟩
  obtain ⟨A, c, e, hc, _⟩ := h
  cases e
  rw [hn] at hc
  exact hc
def GoodD (d : Dk) (k : Nat) : Prop := d.n = 4 ∧ d.waits.length ≤ k
structure GoodR (r : Rk) (k : Nat) : Prop where
  ok : r.Ok
  n : r.has.length = 4
  l : I64 r.left
  w : r.waits.length ≤ k
theorem GoodR.step {r : Rk} {k : Nat} (h : GoodR r k) : GoodR r.step.1 k := by
  refine ⟨Rk.step_ok h.ok, r.step_n.trans h.n, ?_, Nat.le_trans r.step_w h.w⟩
  have := h.l
  unfold Rk.step Rk.crash Rk.laid I64 at *
  (repeat' split) <;> first | omega | (simp <;> omega)
theorem GoodR.crash {r : Rk} {k : Nat} (h : GoodR r k) (l : List Bool) : GoodR (r.crash l) k := by
  refine ⟨Rk.crash_ok h.ok l, ?_, ?_, ?_⟩
  · unfold Rk.crash Rk.laid; split
    · exact h.n
    · exact (rlayN_length _ _ _ _).trans h.n
  · have := h.l
    unfold Rk.crash Rk.laid I64 at *
    split <;> first | omega | (simp <;> omega)
  · unfold Rk.crash Rk.laid; split
    · exact h.w
    · simp
theorem GoodR.laid {r : Rk} {k : Nat} (h : GoodR r k) (a : Bool) (l : List Bool) : GoodR (r.laid a l) k := ⟨Rk.laid_ok h.ok a l, (rlayN_length _ _ _ _).trans h.n, h.l, Nat.zero_le _⟩
theorem GoodR.flush {r : Rk} {k : Nat} (h : GoodR r k) : GoodR r.flush.1 k := by
  unfold Rk.flush
  split
  · exact h.step.laid _ _
  · exact h.step
theorem GoodR.power {r : Rk} {k : Nat} (h : GoodR r k) : GoodR r.power k := ⟨⟨h.ok.n, fun w hw => absurd hw (by simp [Rk.power]), Nat.zero_le _⟩, h.n, by show I64 (-1); unfold I64; omega, Nat.zero_le _⟩
theorem GoodR.arm {r : Rk} {k : Nat} (h : GoodR r k) (n : Int) (hn : I64 n) (l : List Bool) : GoodR (r.arm n l) k := by
  unfold Rk.arm
  split
  · exact h
  · refine ⟨⟨h.ok.n, h.ok.wt, h.ok.wl⟩, h.n, ?_, h.w⟩
    show I64 (if n < 0 then -1 else n)
    unfold I64 at *
    split <;> omega
theorem GoodR.load {r : Rk} {k : Nat} (h : GoodR r k) (b : List UInt8) : GoodR (r.load b).1 k := by
  unfold Rk.load
  split
  · exact h
  · exact ⟨⟨by show (chunks _ _).length ≤ 256; rw [chunks_length]; exact h.ok.n, fun w hw => absurd hw (by simp), Nat.zero_le _⟩, (chunks_length _ _).trans h.n, h.l, Nat.zero_le _⟩
theorem GoodR.write {r : Rk} {k : Nat} (h : GoodR r k) (hk : k ≤ 1000) (a : Int) (b : List UInt8) : GoodR (r.write a b).1 (k + 1) := by
  have up : ∀ {q : Rk}, GoodR q k → GoodR q (k + 1) := fun h => ⟨h.ok, h.n, h.l, Nat.le_succ_of_le h.w⟩
  unfold Rk.write
  split
  · exact up h
  · split
    · exact up h
    · split
      · have s := h.step
        rename_i h1 _ _
        refine ⟨⟨s.ok.n, fun w hw => ?_, by show (_ ++ [_]).length ≤ _; rw [List.length_append]; have := s.w; simp; omega⟩, s.n, s.l, by show (_ ++ [_]).length ≤ _; rw [List.length_append]; have := s.w; simp; omega⟩
        rcases List.mem_append.1 hw with hw | hw
        · exact s.ok.wt w hw
        · simp only [List.mem_cons, List.not_mem_nil, or_false] at hw
          subst hw
          show a.toNat < r.step.1.has.length
          rw [r.step_n]
          omega
      · exact up h.step
theorem GoodR.up {r : Rk} {k : Nat} (h : GoodR r k) : GoodR r (k + 1) := ⟨h.ok, h.n, h.l, Nat.le_succ_of_le h.w⟩
theorem GoodD.crash {d : Dk} {k : Nat} (h : GoodD d k) (l : List Bool) : GoodD (d.crash l) k := by
  unfold Dk.crash GoodD at *; split <;> simp_all
theorem GoodD.goes {d : Dk} {k : Nat} (h : GoodD d k) : GoodD d.goes.1 k := by
  unfold Dk.goes Dk.crash GoodD at *; (repeat' split) <;> simp_all
theorem GoodD.flush {d : Dk} {k : Nat} (h : GoodD d k) : GoodD d.flush.1 k := by
  have := h.goes
  unfold Dk.flush GoodD at *; split <;> simp_all
theorem GoodD.power {d : Dk} {k : Nat} (h : GoodD d k) : GoodD d.power k := ⟨h.1, Nat.zero_le _⟩
theorem GoodD.arm {d : Dk} {k : Nat} (h : GoodD d k) (n : Int) (l : List Bool) : GoodD (d.arm n l) k := by
  unfold Dk.arm GoodD at *; split <;> simp_all
theorem GoodD.load {d : Dk} {k : Nat} (h : GoodD d k) (b : List UInt8) : GoodD (d.load b).1 k := by
  unfold Dk.load GoodD at *; split <;> simp_all
theorem GoodD.up {d : Dk} {k : Nat} (h : GoodD d k) : GoodD d (k + 1) := ⟨h.1, Nat.le_succ_of_le h.2⟩
theorem GoodD.write {d : Dk} {k : Nat} (h : GoodD d k) (a : Int) (b : List UInt8) : GoodD (d.write a b).1 (k + 1) := by
  have := h.goes
  unfold Dk.write GoodD at *; (repeat' split) <;> simp_all <;> omega

set_option maxRecDepth 100000 in
set_option maxHeartbeats 1000000 in
theorem do_flush (base g : Nat) (X : Nat → Prop) (d : Dk) (u : Value) (r : Rk) (k : Nat) (at_ off : Int) (fill : UInt8) (kv : Value) (w : World) (p : Pair base X 0 0 w g d u r) (gr : GoodR r k) (gd : GoodD d k) (hbase : base ≤ w.heap.size) :
    Calls Try.prog 53 #[.pointer (some ⟨g, 0, none⟩), u, .agg #[.int .i64 4, .int .i64 at_, .int .i64 off, .int .u8 (fill.toNat : Int), kv]] w fun e w' => ∃ u' bl, e = .returned (.tuple #[u', .bool bl]) ∧ (∃ d' r', Pair base X 0 0 w' g d' u' r' ∧ GoodR r' (k + 1) ∧ GoodD d' (k + 1)) ∧ Bel base X w w' := by
  obtain ⟨A1, c1, A2, n2, c2, o, lf, A3, n3, c3, rfl, hstr, hcap⟩ := p.shape 4 gr.n
  have hstr' := hide hstr
  clear hstr
  have p' := hide p
  have gr' := hide gr
  have gd' := hide gd
  have hbase' := hide hbase
  clear p gr gd hbase
  go_enter Try.func53, Try.ntmps53
  go_upto_region 2 with (fail)
  have hM1 := RBox.new w 71 (.slice A1 4 c1) (.slice A2 n2 c2) (.bool o) (.int .i64 lf) (.slice A3 n3 c3)
  have hbA : Below w.heap.size w (w.alloc (.cells #[.slice A1 4 c1, .slice A2 n2 c2, .bool o, .int .i64 lf, .slice A3 n3 c3] 71)) := (Below.refl _ _).alloc (Nat.le_refl _) _
  have hsA : (w.alloc (.cells #[.slice A1 4 c1, .slice A2 n2 c2, .bool o, .int .i64 lf, .slice A3 n3 c3] 71)).heap.size = w.heap.size + 1 := by simp
  generalize w.alloc (.cells #[.slice A1 4 c1, .slice A2 n2 c2, .bool o, .int .i64 lf, .slice A3 n3 c3] 71) = wa at *
  have hA1 := RBox.new wa 51 (.int .i64 4) (.int .i64 at_) (.int .i64 off) (.int .u8 (fill.toNat : Int)) kv
  have hbB : Below wa.heap.size wa (wa.alloc (.cells #[.int .i64 4, .int .i64 at_, .int .i64 off, .int .u8 (fill.toNat : Int), kv] 51)) := (Below.refl _ _).alloc (Nat.le_refl _) _
  have hsB : (wa.alloc (.cells #[.int .i64 4, .int .i64 at_, .int .i64 off, .int .u8 (fill.toNat : Int), kv] 51)).heap.size = wa.heap.size + 1 := by simp
  have hM2 := hM1.below hbB
  generalize wa.alloc (.cells #[.int .i64 4, .int .i64 at_, .int .i64 off, .int .u8 (fill.toNat : Int), kv] 51) = wb at *
  have hZ1 := RBox.new wb 71 (.slice none 0 0) (.slice none 0 0) (.bool false) (.int .i64 0) (.slice none 0 0)
  have hbC : Below wb.heap.size wb (wb.alloc (.cells #[.slice none 0 0, .slice none 0 0, .bool false, .int .i64 0, .slice none 0 0] 71)) := (Below.refl _ _).alloc (Nat.le_refl _) _
  have hsC : (wb.alloc (.cells #[.slice none 0 0, .slice none 0 0, .bool false, .int .i64 0, .slice none 0 0] 71)).heap.size = wb.heap.size + 1 := by simp
  have hM3 := hM2.below hbC
  have hA3 := hA1.below hbC
  generalize wb.alloc (.cells #[.slice none 0 0, .slice none 0 0, .bool false, .int .i64 0, .slice none 0 0] 71) = wc at *
  have hbABC : Below w.heap.size w wc := (hbA.trans (hbB.mono hbA.size)).trans (hbC.mono (Nat.le_trans hbA.size hbB.size))
  have hsc : wc.heap.size = w.heap.size + 3 := by omega
  have hP := ((p'.out.wide (lo' := w.heap.size) (hi' := w.heap.size + 3) (fun y hy e => by omega))).below hbABC
  rw [hsA] at hA3
  rw [show wb.heap.size = w.heap.size + 2 by omega] at hZ1
  obtain ⟨bm, hbm⟩ : ∃ bm, bm = w.heap.size := ⟨_, rfl⟩
  have hbm' := hide hbm
  have hXb := hide (show ∀ y, X y → y < bm by
    obtain ⟨B, C, _, _, _, _, h5⟩ := p'.out
    intro y hy
    have := (h5 y hy).2.1
    omega)
  rw [← hbm] at hM3 hA3 hZ1 hP hsc hbABC ⊢
  have hM' := hide hM3
  have hw0 := hide (show Below w.heap.size w wc by rw [← hbm]; exact hbABC)
  have hA' := hide hA3
  have hZ' := hide hZ1
  have hP' := hide hP
  have hbA' := hide (show Bel base X w wc from ⟨hbABC.mono (show base ≤ bm by rw [hbm]; exact hbase'.out), fun y hy hl => hbABC.block y (by rw [hbm]; exact hl)⟩)
  have hbb := hide (show base ≤ bm by rw [hbm]; exact hbase'.out)
  clear hM1 hbA hsA hA1 hbB hsB hM2 hZ1 hbC hsC hM3 hA3 hbABC hP hbm p' hbase'
  have a0 := hA'.out.c0
  have m0 := hM'.out.c0
  have m1 := hM'.out.c1
  have m2 := hM'.out.c2
  have m3 := hM'.out.c3
  have m4 := hM'.out.c4
  go_wp2_with fail
  refine (hP'.out.rflush (by omega) gr'.out.ok gr'.out.l).mono ?_
  rintro e w2 ⟨u2, rfl, hp, hb⟩
  have gr2 := hide gr'.out.flush
  generalize r.flush.1 = r2 at *
  obtain ⟨A5, c5, A6, n6, c6, o6, lf6, A7, n7, c7, rfl, _, _⟩ := hp.shape 4 gr2.out.n
  have hM2 := hM'.out.below hb
  have hA2 := hide (hA'.out.below hb)
  have hZ2 := hide (hZ'.out.below hb)
  have hP2 := hide hp
  have hb2 := hide (hbA'.out.trans (Bel.of hb (show base ≤ wc.heap.size by have := hbb.out; omega)))
  have hs2 := hb.size
  clear m0 m1 m2 m3 m4 a0 hM' hA' hZ' hP' hbA' hb hp gr'
  have t0 := hM2.z 0
  have t1 := hM2.z 1
  have t2 := hM2.z 2
  have t3 := hM2.z 3
  have t4 := hM2.z 4
  have m0 := hM2.c0
  have m1 := hM2.c1
  have m2 := hM2.c2
  have m3 := hM2.c3
  have m4 := hM2.c4
  have hM2' := hide hM2
  clear hM2
  go_upto_region 17 with (fail)
  have hT3 := touch_set5 (fun y => y = bm) w2 bm (.slice A5 4 c5) (.slice A6 n6 c6) (.bool o6) (.int .i64 lf6) (.slice A7 n7 c7) rfl
  have hM3 := hide (hM2'.out.set5 (.slice A5 4 c5) (.slice A6 n6 c6) (.bool o6) (.int .i64 lf6) (.slice A7 n7 c7))
  have hA3 := hide (hA2.out.later hT3.2 (by omega))
  have hZ3 := hide (hZ2.out.later hT3.2 (by omega))
  have hP3 := hide (hP2.out.touch hT3 (fun y e => by omega))
  have hb3 := hide (hb2.out.trans (Bel.touch hT3 (show base ≤ w2.heap.size by have := hbb.out; omega) (fun y hy e => by have := hbb.out; omega) (fun y e hx => by have := hXb.out y hx; omega)))
  have hs3 := hT3.2.1
  have hL3 := hide hT3.2
  clear t0 t1 t2 t3 t4 m0 m1 m2 m3 m4 hM2' hA2 hZ2 hP2 hb2 hT3
  generalize (((((w2.setCell ⟨bm, 0, none⟩ (.slice A5 4 c5)).setCell ⟨bm, 1, none⟩ (.slice A6 n6 c6)).setCell ⟨bm, 2, none⟩ (.bool o6)).setCell ⟨bm, 3, none⟩ (.int .i64 lf6)).setCell ⟨bm, 4, none⟩ (.slice A7 n7 c7)) = w3 at *
  obtain ⟨Fz, hFz⟩ : ∃ Fz : Nat → Prop, ∀ y, Fz y ↔ ¬ (bm ≤ y ∧ y < bm + 2) := ⟨_, fun _ => Iff.rfl⟩
  have hLd := hide (later_drew (F := Fz) w3)
  have f := fun w' (hl : Later Fz w3.drew w') => hM3.out.later (later_trans _ _ _ _ hLd.out hl) (fun h => (hFz bm).1 h (by omega))
  have f0 := fun w' hl => (f w' hl).c0
  have f1 := fun w' hl => (f w' hl).c1
  have f2 := fun w' hl => (f w' hl).c2
  have f3 := fun w' hl => (f w' hl).c3
  have f4 := fun w' hl => (f w' hl).c4
  clear f
  refine region_plan [(true, 0), (true, 1), (true, 3), (false, 2), (true, 4), (false, 5), (true, 6)] (Later Fz) (later_refl _) (later_trans _) (by kernel_rfl) (by kernel_rfl) (fun _ _ d _ _ h => by cases d <;> exact h) ?_
  repeat
    (first
      | (show wpPlan _ _ _ _ ((true, _) :: _) _ _
         refine plan_skip rfl (by rfl) ?_
         simp only [Act.put, List.setIfInBounds_toArray, List.set_cons_zero, List.set_cons_succ])
      | (show wpPlan _ _ _ _ ((false, _) :: _) _ _
         refine plan_skip_eff (later_refl _) rfl (by rfl) ?_
         simp only [Act.put, List.setIfInBounds_toArray, List.set_cons_zero, List.set_cons_succ])
      | (show wpPlan _ _ _ _ ((true, _) :: _) _ _
         refine plan_take (v := ?_) rfl (by rfl) (fun w' hw' => ?_) ?_
         rotate_left
         focus
           go_simp
           try with_reducible rfl
           done
         simp only [Act.put, List.setIfInBounds_toArray, List.set_cons_zero, List.set_cons_succ]))
  clear f0 f1 f2 f3 f4
  refine plan_eff rfl (by rfl) (fun K hK => ?_)
  go_wp2_with fail
  have hq : Below w3.heap.size w3 w3.drew := (Below.refl _ _).drew
  refine ((hP3.out.below hq).dflush (show base ≤ w3.heap.size by have := hbb.out; omega) (show bm + 3 ≤ w3.heap.size by omega)).mono ?_
  rintro e w4 ⟨rfl, hp, hb, hkp⟩
  refine hK _ _ ⟨hkp.1, fun y hy hf => hkp.2 y hy (fun h => hf ((hFz y).2 (by omega)))⟩ ?_
  clear hK K
  have hZ4 := (hZ3.out.below hq).later hkp (by omega)
  have hP4 := hide hp
  have hb4 := hide ((hb3.out.trans (Bel.of hq (show base ≤ w3.heap.size by have := hbb.out; omega))).trans hb)
  have hs4 : w3.heap.size ≤ w4.heap.size := hkp.1
  have z0 := hZ4.c0
  have z1 := hZ4.c1
  have z2 := hZ4.c2
  have z3 := hZ4.c3
  have z4 := hZ4.c4
  have tz0 := hZ4.z 0
  have tz1 := hZ4.z 1
  have tz2 := hZ4.z 2
  have tz3 := hZ4.z 3
  have tz4 := hZ4.z 4
  clear hZ4
  have gd4 := hide gd'.out.flush
  generalize d.flush.1 = d4 at *
  clear hZ3 hP3 hb3 hp hb hkp hq hA3 hM3 hLd
  try simp only [Act.put, List.setIfInBounds_toArray, List.set_cons_zero, List.set_cons_succ]
  repeat
    (first
      | (show wpPlan _ _ _ _ ((true, _) :: _) _ _
         refine plan_skip rfl (by rfl) ?_
         simp only [Act.put, List.setIfInBounds_toArray, List.set_cons_zero, List.set_cons_succ])
      | (show wpPlan _ _ _ _ ((false, _) :: _) _ _
         refine plan_skip_eff (later_refl _) rfl (by rfl) ?_
         simp only [Act.put, List.setIfInBounds_toArray, List.set_cons_zero, List.set_cons_succ])
      | (show wpPlan _ _ _ _ ((true, _) :: _) _ _
         refine plan_take (v := ?_) rfl (by rfl) (fun w' hw' => ?_) ?_
         rotate_left
         focus
           go_simp
           try with_reducible rfl
           done
         simp only [Act.put, List.setIfInBounds_toArray, List.set_cons_zero, List.set_cons_succ]))
  refine plan_eff rfl (by rfl) (fun K hK => ?_)
  go_wp2_with fail
  refine hK _ _ (touch_set5 Fz w4 (bm + 2) (.slice A5 4 c5) (.slice A6 n6 c6) (.bool o6) (.int .i64 lf6) (.slice A7 n7 c7) ((hFz (bm + 2)).2 (by omega))).2 ?_
  clear hK K
  try simp only [Act.put, List.setIfInBounds_toArray, List.set_cons_zero, List.set_cons_succ]
  repeat
    (first
      | (show wpPlan _ _ _ _ ((true, _) :: _) _ _
         refine plan_skip rfl (by rfl) ?_
         simp only [Act.put, List.setIfInBounds_toArray, List.set_cons_zero, List.set_cons_succ])
      | (show wpPlan _ _ _ _ ((false, _) :: _) _ _
         refine plan_skip_eff (later_refl _) rfl (by rfl) ?_
         simp only [Act.put, List.setIfInBounds_toArray, List.set_cons_zero, List.set_cons_succ])
      | (show wpPlan _ _ _ _ ((true, _) :: _) _ _
         refine plan_take (v := ?_) rfl (by rfl) (fun w' hw' => ?_) ?_
         rotate_left
         focus
           go_simp
           try with_reducible rfl
           done
         simp only [Act.put, List.setIfInBounds_toArray, List.set_cons_zero, List.set_cons_succ]))
  refine plan_nil ?_
  go_wp2_with fail
  have hT5 := touch_set5 (fun y => y = bm + 2) w4 (bm + 2) (.slice A5 4 c5) (.slice A6 n6 c6) (.bool o6) (.int .i64 lf6) (.slice A7 n7 c7) rfl
  have hP5 := (hP4.out.touch hT5 (fun y e => by omega)).wide (lo' := 0) (hi' := 0) (fun y _ e => by omega)
  have hb5 := hb4.out.trans (Bel.touch hT5 (show base ≤ w4.heap.size by have := hbb.out; omega) (fun y hy e => by have := hbb.out; omega) (fun y e hx => by have := hXb.out y hx; omega))
  refine bodyPost_ret (v := .tuple #[.agg #[.slice A5 4 c5, .slice A6 n6 c6, .bool o6, .int .i64 lf6, .slice A7 n7 c7], _]) (by simp [results, Try.results53, go_sem, z0, z1, z2, z3, z4]; rfl) rfl ⟨_, _, rfl, ⟨_, _, hP5, gr2.out.up, gd4.out.up⟩, hb5⟩
set_option maxRecDepth 100000 in
set_option maxHeartbeats 1000000 in
theorem do_crash (base g : Nat) (X : Nat → Prop) (d : Dk) (u : Value) (r : Rk) (k : Nat) (at_ off : Int) (fill : UInt8) (kv : Value) (kl : List Bool) (w : World) (p : Pair base X 0 0 w g d u r) (gr : GoodR r k) (gd : GoodD d k) (hbase : base ≤ w.heap.size) (hkv : BoolsB w base kv kl) :
    Calls Try.prog 53 #[.pointer (some ⟨g, 0, none⟩), u, .agg #[.int .i64 6, .int .i64 at_, .int .i64 off, .int .u8 (fill.toNat : Int), kv]] w fun e w' => ∃ u' bl, e = .returned (.tuple #[u', .bool bl]) ∧ (∃ d' r', Pair base X 0 0 w' g d' u' r' ∧ GoodR r' (k + 1) ∧ GoodD d' (k + 1)) ∧ Bel base X w w' := by
  have hkv' := hide hkv
  clear hkv
  obtain ⟨A1, c1, A2, n2, c2, o, lf, A3, n3, c3, rfl, hstr, hcap⟩ := p.shape 4 gr.n
  have hstr' := hide hstr
  clear hstr
  have p' := hide p
  have gr' := hide gr
  have gd' := hide gd
  have hbase' := hide hbase
  clear p gr gd hbase
  go_enter Try.func53, Try.ntmps53
  go_upto_region 2 with (fail)
  have hM1 := RBox.new w 71 (.slice A1 4 c1) (.slice A2 n2 c2) (.bool o) (.int .i64 lf) (.slice A3 n3 c3)
  have hbA : Below w.heap.size w (w.alloc (.cells #[.slice A1 4 c1, .slice A2 n2 c2, .bool o, .int .i64 lf, .slice A3 n3 c3] 71)) := (Below.refl _ _).alloc (Nat.le_refl _) _
  have hsA : (w.alloc (.cells #[.slice A1 4 c1, .slice A2 n2 c2, .bool o, .int .i64 lf, .slice A3 n3 c3] 71)).heap.size = w.heap.size + 1 := by simp
  generalize w.alloc (.cells #[.slice A1 4 c1, .slice A2 n2 c2, .bool o, .int .i64 lf, .slice A3 n3 c3] 71) = wa at *
  have hA1 := RBox.new wa 51 (.int .i64 6) (.int .i64 at_) (.int .i64 off) (.int .u8 (fill.toNat : Int)) kv
  have hbB : Below wa.heap.size wa (wa.alloc (.cells #[.int .i64 6, .int .i64 at_, .int .i64 off, .int .u8 (fill.toNat : Int), kv] 51)) := (Below.refl _ _).alloc (Nat.le_refl _) _
  have hsB : (wa.alloc (.cells #[.int .i64 6, .int .i64 at_, .int .i64 off, .int .u8 (fill.toNat : Int), kv] 51)).heap.size = wa.heap.size + 1 := by simp
  have hM2 := hM1.below hbB
  generalize wa.alloc (.cells #[.int .i64 6, .int .i64 at_, .int .i64 off, .int .u8 (fill.toNat : Int), kv] 51) = wb at *
  have hZ1 := RBox.new wb 71 (.slice none 0 0) (.slice none 0 0) (.bool false) (.int .i64 0) (.slice none 0 0)
  have hbC : Below wb.heap.size wb (wb.alloc (.cells #[.slice none 0 0, .slice none 0 0, .bool false, .int .i64 0, .slice none 0 0] 71)) := (Below.refl _ _).alloc (Nat.le_refl _) _
  have hsC : (wb.alloc (.cells #[.slice none 0 0, .slice none 0 0, .bool false, .int .i64 0, .slice none 0 0] 71)).heap.size = wb.heap.size + 1 := by simp
  have hM3 := hM2.below hbC
  have hA3 := hA1.below hbC
  generalize wb.alloc (.cells #[.slice none 0 0, .slice none 0 0, .bool false, .int .i64 0, .slice none 0 0] 71) = wc at *
  have hbABC : Below w.heap.size w wc := (hbA.trans (hbB.mono hbA.size)).trans (hbC.mono (Nat.le_trans hbA.size hbB.size))
  have hsc : wc.heap.size = w.heap.size + 3 := by omega
  have hP := ((p'.out.wide (lo' := w.heap.size) (hi' := w.heap.size + 3) (fun y hy e => by omega))).below hbABC
  rw [hsA] at hA3
  rw [show wb.heap.size = w.heap.size + 2 by omega] at hZ1
  obtain ⟨bm, hbm⟩ : ∃ bm, bm = w.heap.size := ⟨_, rfl⟩
  have hbm' := hide hbm
  have hXb := hide (show ∀ y, X y → y < bm by
    obtain ⟨B, C, _, _, _, _, h5⟩ := p'.out
    intro y hy
    have := (h5 y hy).2.1
    omega)
  rw [← hbm] at hM3 hA3 hZ1 hP hsc hbABC ⊢
  have hM' := hide hM3
  have hw0 := hide (show Below w.heap.size w wc by rw [← hbm]; exact hbABC)
  have hA' := hide hA3
  have hZ' := hide hZ1
  have hP' := hide hP
  have hbA' := hide (show Bel base X w wc from ⟨hbABC.mono (show base ≤ bm by rw [hbm]; exact hbase'.out), fun y hy hl => hbABC.block y (by rw [hbm]; exact hl)⟩)
  have hbb := hide (show base ≤ bm by rw [hbm]; exact hbase'.out)
  clear hM1 hbA hsA hA1 hbB hsB hM2 hZ1 hbC hsC hM3 hA3 hbABC hP hbm p' hbase'
  have a0 := hA'.out.c0
  have a4 := hA'.out.c4
  go_wp2_with fail
  refine (hP'.out.dcrash (show base ≤ wc.heap.size by have := hbb.out; omega) (by omega) kv kl (hkv'.out.below hbA'.out.b)).mono ?_
  rintro e w2 ⟨rfl, hp, hb, hkp⟩
  have hM2 := hM'.out.later hkp (by omega)
  have hA2 := hA'.out.later hkp (by omega)
  have hZ2 := hide (hZ'.out.later hkp (by omega))
  have hb2 := hide (hbA'.out.trans hb)
  have hs2 := hkp.1
  have hP2 := hide hp
  have hk2 := hide ((hkv'.out.below hb2.out.b).1)
  have gd4 := hide (gd'.out.crash kl)
  generalize d.crash kl = d4 at *
  have m0 := hM2.c0
  have m1 := hM2.c1
  have m2 := hM2.c2
  have m3 := hM2.c3
  have m4 := hM2.c4
  have a4 := hA2.c4
  clear hp hb hkp hM' hA' hZ' hP' hbA' hM2 hA2
  go_wp2_with fail
  refine (hP2.out.rcrash (by omega) kv kl hk2.out gr'.out.ok).mono ?_
  rintro e w4 ⟨u2, rfl, hp, hb⟩
  have hZ4 := hZ2.out.below hb
  have hP4 := hide hp
  have hb4 := hide (hb2.out.trans (Bel.of hb (show base ≤ w2.heap.size by have := hbb.out; omega)))
  have hs4 := hb.size
  have gr2 := hide (gr'.out.crash kl)
  generalize r.crash kl = r2 at *
  obtain ⟨A5, c5, A6, n6, c6, o6, lf6, A7, n7, c7, rfl, _, _⟩ := hp.shape 4 gr2.out.n
  clear m0 m1 m2 m3 m4 a4 hp hb
  have z0 := hZ4.c0
  have z1 := hZ4.c1
  have z2 := hZ4.c2
  have z3 := hZ4.c3
  have z4 := hZ4.c4
  have tz0 := hZ4.z 0
  have tz1 := hZ4.z 1
  have tz2 := hZ4.z 2
  have tz3 := hZ4.z 3
  have tz4 := hZ4.z 4
  clear hZ4
  go_wp2_with fail
  have hT5 := touch_set5 (fun y => y = bm + 2) w4 (bm + 2) (.slice A5 4 c5) (.slice A6 n6 c6) (.bool o6) (.int .i64 lf6) (.slice A7 n7 c7) rfl
  have hP5 := (hP4.out.touch hT5 (fun y e => by omega)).wide (lo' := 0) (hi' := 0) (fun y _ e => by omega)
  have hb5 := hb4.out.trans (Bel.touch hT5 (show base ≤ w4.heap.size by have := hbb.out; omega) (fun y hy e => by have := hbb.out; omega) (fun y e hx => by have := hXb.out y hx; omega))
  refine bodyPost_ret (v := .tuple #[.agg #[.slice A5 4 c5, .slice A6 n6 c6, .bool o6, .int .i64 lf6, .slice A7 n7 c7], _]) (by simp [results, Try.results53, go_sem, z0, z1, z2, z3, z4]; rfl) rfl ⟨_, _, rfl, ⟨_, _, hP5, gr2.out.up, gd4.out.up⟩, hb5⟩
set_option maxRecDepth 100000 in
set_option maxHeartbeats 1000000 in
theorem do_power (base g : Nat) (X : Nat → Prop) (d : Dk) (u : Value) (r : Rk) (k : Nat) (at_ off : Int) (fill : UInt8) (kv : Value) (w : World) (p : Pair base X 0 0 w g d u r) (gr : GoodR r k) (gd : GoodD d k) (hbase : base ≤ w.heap.size) :
    Calls Try.prog 53 #[.pointer (some ⟨g, 0, none⟩), u, .agg #[.int .i64 7, .int .i64 at_, .int .i64 off, .int .u8 (fill.toNat : Int), kv]] w fun e w' => ∃ u' bl, e = .returned (.tuple #[u', .bool bl]) ∧ (∃ d' r', Pair base X 0 0 w' g d' u' r' ∧ GoodR r' (k + 1) ∧ GoodD d' (k + 1)) ∧ Bel base X w w' := by
  obtain ⟨A1, c1, A2, n2, c2, o, lf, A3, n3, c3, rfl, hstr, hcap⟩ := p.shape 4 gr.n
  have hstr' := hide hstr
  clear hstr
  have p' := hide p
  have gr' := hide gr
  have gd' := hide gd
  have hbase' := hide hbase
  clear p gr gd hbase
  go_enter Try.func53, Try.ntmps53
  go_upto_region 2 with (fail)
  have hM1 := RBox.new w 71 (.slice A1 4 c1) (.slice A2 n2 c2) (.bool o) (.int .i64 lf) (.slice A3 n3 c3)
  have hbA : Below w.heap.size w (w.alloc (.cells #[.slice A1 4 c1, .slice A2 n2 c2, .bool o, .int .i64 lf, .slice A3 n3 c3] 71)) := (Below.refl _ _).alloc (Nat.le_refl _) _
  have hsA : (w.alloc (.cells #[.slice A1 4 c1, .slice A2 n2 c2, .bool o, .int .i64 lf, .slice A3 n3 c3] 71)).heap.size = w.heap.size + 1 := by simp
  generalize w.alloc (.cells #[.slice A1 4 c1, .slice A2 n2 c2, .bool o, .int .i64 lf, .slice A3 n3 c3] 71) = wa at *
  have hA1 := RBox.new wa 51 (.int .i64 7) (.int .i64 at_) (.int .i64 off) (.int .u8 (fill.toNat : Int)) kv
  have hbB : Below wa.heap.size wa (wa.alloc (.cells #[.int .i64 7, .int .i64 at_, .int .i64 off, .int .u8 (fill.toNat : Int), kv] 51)) := (Below.refl _ _).alloc (Nat.le_refl _) _
  have hsB : (wa.alloc (.cells #[.int .i64 7, .int .i64 at_, .int .i64 off, .int .u8 (fill.toNat : Int), kv] 51)).heap.size = wa.heap.size + 1 := by simp
  have hM2 := hM1.below hbB
  generalize wa.alloc (.cells #[.int .i64 7, .int .i64 at_, .int .i64 off, .int .u8 (fill.toNat : Int), kv] 51) = wb at *
  have hZ1 := RBox.new wb 71 (.slice none 0 0) (.slice none 0 0) (.bool false) (.int .i64 0) (.slice none 0 0)
  have hbC : Below wb.heap.size wb (wb.alloc (.cells #[.slice none 0 0, .slice none 0 0, .bool false, .int .i64 0, .slice none 0 0] 71)) := (Below.refl _ _).alloc (Nat.le_refl _) _
  have hsC : (wb.alloc (.cells #[.slice none 0 0, .slice none 0 0, .bool false, .int .i64 0, .slice none 0 0] 71)).heap.size = wb.heap.size + 1 := by simp
  have hM3 := hM2.below hbC
  have hA3 := hA1.below hbC
  generalize wb.alloc (.cells #[.slice none 0 0, .slice none 0 0, .bool false, .int .i64 0, .slice none 0 0] 71) = wc at *
  have hbABC : Below w.heap.size w wc := (hbA.trans (hbB.mono hbA.size)).trans (hbC.mono (Nat.le_trans hbA.size hbB.size))
  have hsc : wc.heap.size = w.heap.size + 3 := by omega
  have hP := ((p'.out.wide (lo' := w.heap.size) (hi' := w.heap.size + 3) (fun y hy e => by omega))).below hbABC
  rw [hsA] at hA3
  rw [show wb.heap.size = w.heap.size + 2 by omega] at hZ1
  obtain ⟨bm, hbm⟩ : ∃ bm, bm = w.heap.size := ⟨_, rfl⟩
  have hbm' := hide hbm
  have hXb := hide (show ∀ y, X y → y < bm by
    obtain ⟨B, C, _, _, _, _, h5⟩ := p'.out
    intro y hy
    have := (h5 y hy).2.1
    omega)
  rw [← hbm] at hM3 hA3 hZ1 hP hsc hbABC ⊢
  have hM' := hide hM3
  have hw0 := hide (show Below w.heap.size w wc by rw [← hbm]; exact hbABC)
  have hA' := hide hA3
  have hZ' := hide hZ1
  have hP' := hide hP
  have hbA' := hide (show Bel base X w wc from ⟨hbABC.mono (show base ≤ bm by rw [hbm]; exact hbase'.out), fun y hy hl => hbABC.block y (by rw [hbm]; exact hl)⟩)
  have hbb := hide (show base ≤ bm by rw [hbm]; exact hbase'.out)
  clear hM1 hbA hsA hA1 hbB hsB hM2 hZ1 hbC hsC hM3 hA3 hbABC hP hbm p' hbase'
  have a0 := hA'.out.c0
  go_wp2_with fail
  refine (hP'.out.dpower (show base ≤ wc.heap.size by have := hbb.out; omega) (by omega)).mono ?_
  rintro e w2 ⟨rfl, hp, hb, hkp⟩
  have hM2 := hM'.out.later hkp (by omega)
  have hA2 := hA'.out.later hkp (by omega)
  have hZ2 := hide (hZ'.out.later hkp (by omega))
  have hb2 := hide (hbA'.out.trans hb)
  have hs2 := hkp.1
  have hP2 := hide hp
  have gd4 := hide gd'.out.power
  generalize d.power = d4 at *
  have m0 := hM2.c0
  have m1 := hM2.c1
  have m2 := hM2.c2
  have m3 := hM2.c3
  have m4 := hM2.c4
  clear hp hb hkp hM' hA' hZ' hP' hbA' hM2 hA2
  go_wp2_with fail
  refine (hP2.out.rpower (by omega)).mono ?_
  rintro e w4 ⟨u2, rfl, hp, hb⟩
  have hZ4 := hZ2.out.below hb
  have hP4 := hide hp
  have hb4 := hide (hb2.out.trans (Bel.of hb (show base ≤ w2.heap.size by have := hbb.out; omega)))
  have hs4 := hb.size
  have gr2 := hide gr'.out.power
  generalize r.power = r2 at *
  obtain ⟨A5, c5, A6, n6, c6, o6, lf6, A7, n7, c7, rfl, _, _⟩ := hp.shape 4 gr2.out.n
  clear m0 m1 m2 m3 m4 hp hb
  have z0 := hZ4.c0
  have z1 := hZ4.c1
  have z2 := hZ4.c2
  have z3 := hZ4.c3
  have z4 := hZ4.c4
  have tz0 := hZ4.z 0
  have tz1 := hZ4.z 1
  have tz2 := hZ4.z 2
  have tz3 := hZ4.z 3
  have tz4 := hZ4.z 4
  clear hZ4
  go_wp2_with fail
  have hT5 := touch_set5 (fun y => y = bm + 2) w4 (bm + 2) (.slice A5 4 c5) (.slice A6 n6 c6) (.bool o6) (.int .i64 lf6) (.slice A7 n7 c7) rfl
  have hP5 := (hP4.out.touch hT5 (fun y e => by omega)).wide (lo' := 0) (hi' := 0) (fun y _ e => by omega)
  have hb5 := hb4.out.trans (Bel.touch hT5 (show base ≤ w4.heap.size by have := hbb.out; omega) (fun y hy e => by have := hbb.out; omega) (fun y e hx => by have := hXb.out y hx; omega))
  refine bodyPost_ret (v := .tuple #[.agg #[.slice A5 4 c5, .slice A6 n6 c6, .bool o6, .int .i64 lf6, .slice A7 n7 c7], _]) (by simp [results, Try.results53, go_sem, z0, z1, z2, z3, z4]; rfl) rfl ⟨_, _, rfl, ⟨_, _, hP5, gr2.out.up, gd4.out.up⟩, hb5⟩
set_option maxRecDepth 100000 in
set_option maxHeartbeats 1000000 in
theorem do_arm (base g : Nat) (X : Nat → Prop) (d : Dk) (u : Value) (r : Rk) (k : Nat) (at_ off : Int) (fill : UInt8) (kv : Value) (kl : List Bool) (w : World) (p : Pair base X 0 0 w g d u r) (gr : GoodR r k) (gd : GoodD d k) (hbase : base ≤ w.heap.size) (hkv : BoolsB w base kv kl) (hat : I64 at_) (hll : kl.length ≤ 140737488355328) :
    Calls Try.prog 53 #[.pointer (some ⟨g, 0, none⟩), u, .agg #[.int .i64 8, .int .i64 at_, .int .i64 off, .int .u8 (fill.toNat : Int), kv]] w fun e w' => ∃ u' bl, e = .returned (.tuple #[u', .bool bl]) ∧ (∃ d' r', Pair base X 0 0 w' g d' u' r' ∧ GoodR r' (k + 1) ∧ GoodD d' (k + 1)) ∧ Bel base X w w' := by
  have hkv' := hide hkv
  have hat' := hide hat
  clear hkv hat
  obtain ⟨A1, c1, A2, n2, c2, o, lf, A3, n3, c3, rfl, hstr, hcap⟩ := p.shape 4 gr.n
  have hstr' := hide hstr
  clear hstr
  have p' := hide p
  have gr' := hide gr
  have gd' := hide gd
  have hbase' := hide hbase
  clear p gr gd hbase
  go_enter Try.func53, Try.ntmps53
  go_upto_region 2 with (fail)
  have hM1 := RBox.new w 71 (.slice A1 4 c1) (.slice A2 n2 c2) (.bool o) (.int .i64 lf) (.slice A3 n3 c3)
  have hbA : Below w.heap.size w (w.alloc (.cells #[.slice A1 4 c1, .slice A2 n2 c2, .bool o, .int .i64 lf, .slice A3 n3 c3] 71)) := (Below.refl _ _).alloc (Nat.le_refl _) _
  have hsA : (w.alloc (.cells #[.slice A1 4 c1, .slice A2 n2 c2, .bool o, .int .i64 lf, .slice A3 n3 c3] 71)).heap.size = w.heap.size + 1 := by simp
  generalize w.alloc (.cells #[.slice A1 4 c1, .slice A2 n2 c2, .bool o, .int .i64 lf, .slice A3 n3 c3] 71) = wa at *
  have hA1 := RBox.new wa 51 (.int .i64 8) (.int .i64 at_) (.int .i64 off) (.int .u8 (fill.toNat : Int)) kv
  have hbB : Below wa.heap.size wa (wa.alloc (.cells #[.int .i64 8, .int .i64 at_, .int .i64 off, .int .u8 (fill.toNat : Int), kv] 51)) := (Below.refl _ _).alloc (Nat.le_refl _) _
  have hsB : (wa.alloc (.cells #[.int .i64 8, .int .i64 at_, .int .i64 off, .int .u8 (fill.toNat : Int), kv] 51)).heap.size = wa.heap.size + 1 := by simp
  have hM2 := hM1.below hbB
  generalize wa.alloc (.cells #[.int .i64 8, .int .i64 at_, .int .i64 off, .int .u8 (fill.toNat : Int), kv] 51) = wb at *
  have hZ1 := RBox.new wb 71 (.slice none 0 0) (.slice none 0 0) (.bool false) (.int .i64 0) (.slice none 0 0)
  have hbC : Below wb.heap.size wb (wb.alloc (.cells #[.slice none 0 0, .slice none 0 0, .bool false, .int .i64 0, .slice none 0 0] 71)) := (Below.refl _ _).alloc (Nat.le_refl _) _
  have hsC : (wb.alloc (.cells #[.slice none 0 0, .slice none 0 0, .bool false, .int .i64 0, .slice none 0 0] 71)).heap.size = wb.heap.size + 1 := by simp
  have hM3 := hM2.below hbC
  have hA3 := hA1.below hbC
  generalize wb.alloc (.cells #[.slice none 0 0, .slice none 0 0, .bool false, .int .i64 0, .slice none 0 0] 71) = wc at *
  have hbABC : Below w.heap.size w wc := (hbA.trans (hbB.mono hbA.size)).trans (hbC.mono (Nat.le_trans hbA.size hbB.size))
  have hsc : wc.heap.size = w.heap.size + 3 := by omega
  have hP := ((p'.out.wide (lo' := w.heap.size) (hi' := w.heap.size + 3) (fun y hy e => by omega))).below hbABC
  rw [hsA] at hA3
  rw [show wb.heap.size = w.heap.size + 2 by omega] at hZ1
  obtain ⟨bm, hbm⟩ : ∃ bm, bm = w.heap.size := ⟨_, rfl⟩
  have hbm' := hide hbm
  have hXb := hide (show ∀ y, X y → y < bm by
    obtain ⟨B, C, _, _, _, _, h5⟩ := p'.out
    intro y hy
    have := (h5 y hy).2.1
    omega)
  rw [← hbm] at hM3 hA3 hZ1 hP hsc hbABC ⊢
  have hM' := hide hM3
  have hw0 := hide (show Below w.heap.size w wc by rw [← hbm]; exact hbABC)
  have hA' := hide hA3
  have hZ' := hide hZ1
  have hP' := hide hP
  have hbA' := hide (show Bel base X w wc from ⟨hbABC.mono (show base ≤ bm by rw [hbm]; exact hbase'.out), fun y hy hl => hbABC.block y (by rw [hbm]; exact hl)⟩)
  have hbb := hide (show base ≤ bm by rw [hbm]; exact hbase'.out)
  clear hM1 hbA hsA hA1 hbB hsB hM2 hZ1 hbC hsC hM3 hA3 hbABC hP hbm p' hbase'
  have a0 := hA'.out.c0
  have a4 := hA'.out.c4
  have a1 := hA'.out.c1
  have hwc : bm + 1 < wc.heap.size := by omega
  have hk1 := hide ((hkv'.out.below hbA'.out.b).1)
  have hmade : (wc.alloc (.cells #[] 4)).ownsRow (bm + 3) 4 1 (.slice (some ⟨bm + 3, 0, none⟩) 0 0) 0 [] := by
    have := World.ownsRow_made (w := wc) (e := 4) (size := 1) (base := bm + 3) #[] 0 (by omega) (by simp [maxLen]) rfl
    rwa [hsc] at this
  go_wp2_with ((at_builtin; refine list_app_any elem_bools rfl (.tmp 128) (.tmp 130) rfl (bm + 3) (.slice (some ⟨bm + 3, 0, none⟩) 0 0) 0 [] rfl hmade kv kl.length (boolsV kl) rfl (Sl.below hk1.out ((Below.refl _ _).alloc (Nat.le_refl _) _)) (boolsV_one _) (by simp only [maxLen]; omega) (by omega) (by simp; omega) ?_))
  intro v5 w5 hv hg hatt
  have hb35 : Below wc.heap.size wc w5 := ((Below.refl _ _).alloc (Nat.le_refl _) _).grown hg (by simp) (by simp [Value.ownBlock]; omega)
  obtain ⟨A8, c8, rfl, hc8, hm8, _⟩ := Sl.own hv
  have hP5 := hide (hP'.out.fresh hb35 hsc.symm)
  have hM5 := hide (hM'.out.below hb35)
  have hA5 := hide (hA'.out.below hb35)
  have hZ5 := hide (hZ'.out.below hb35)
  have hb5 := hide (hbA'.out.trans (Bel.of hb35 (show base ≤ wc.heap.size by have := hbb.out; omega)))
  have hs5 := hb35.size
  have hv5 := hide hv
  have hvl := hide (show ∀ x, (Value.slice A8 kl.length c8).ownBlock = some x → bm + 3 ≤ x ∧ x < w5.heap.size from fun x hx => hv.lt x hx)
  have a1 := hA5.out.c1
  clear hv hg hatt hb35 hP' hM' hA' hZ' hbA' hmade a4 a0
  go_wp2_with fail
  refine (hP5.out.darm (show base ≤ w5.heap.size by have := hbb.out; omega) (Nat.le_refl _) at_ hat'.out _ kl (Sl.own hv5.out) hll).mono ?_
  rintro e w6 ⟨rfl, hp, hb, hkp⟩
  have hM6 := hide (hM5.out.later hkp (by omega))
  have hA6 := hide (hA5.out.later hkp (by omega))
  have hZ6 := hide (hZ5.out.later hkp (by omega))
  have hP6 := hide hp
  have hb6 := hide (hb5.out.trans hb)
  have hv6 := hide (own_later hv5.out hkp (fun b hb e => by have := hvl.out b hb; omega))
  have hs6 := hkp.1
  have gd4 := hide (gd'.out.arm at_ kl)
  generalize d.arm at_ kl = d4 at *
  clear hp hb hkp hP5 hM5 hA5 hZ5 hb5 hv5 a1
  go_wp2_with fail
  go_loopw [19] (fun i wr => ∃ (j : Nat) (l : List Bool), j ≤ kl.length ∧ i = .int .i64 (j : Nat) ∧ l.length = kl.length ∧ wr.ownsRow (bm + 3) 4 1 (.slice A8 kl.length c8) kl.length (boolsV l) ∧ Touch (fun y => bm + 3 ≤ y ∧ y < w5.heap.size) w6 wr) (fun i _ => kl.length - (intOf i).toNat)
  case atStart => exact ⟨0, kl, by omega, rfl, rfl, hv6.out, Touch.refl _ _⟩
  case round =>
    obtain ⟨j, l, hj, rfl, hll2, hown, hT⟩ := hrel
    have hT' := hide hT
    have hown' := hide hown
    clear hT
    by_cases hlt : j < kl.length
    · obtain ⟨b8, hA8⟩ : ∃ b8, A8 = some ⟨b8, 0, none⟩ := by
        rcases hown.2 with ⟨_, h0⟩ | ⟨b8, cap, _, h0, _⟩
        · omega
        · injection h0 with h0; exact ⟨b8, h0⟩
      subst hA8
      have hcj : wr.cell? ⟨b8, j, none⟩ = some (.bool (l[j]'(by omega))) := (hown.cellAt j (by omega)).trans (by simp [boolsV])
      have hfj := hown.frozenAt j
      have hst := (hown.stored j (.bool (!(l[j]'(by omega))))).1
      rw [show (boolsV l).set j (.bool (!(l[j]'(by omega)))) = boolsV (l.set j (!(l[j]'(by omega)))) by simp [boolsV, List.map_set]] at hst
      have hst' := hide hst
      have hjI : (j : Int) < (kl.length : Int) := by omega
      have hb8 := hide (hvl.out b8 rfl)
      clear hown hst
      generalize l[j]'(by omega) = x at *
      go_wp2_with fail
      go_roundw
      case rel => exact ⟨j + 1, l.set j (!x), by omega, by go_num, by rw [List.length_set]; exact hll2, hst'.out, hT'.out.setCell (p := ⟨b8, j, none⟩) hb8.out _⟩
      case measure => simp [intOf]; omega
    · obtain rfl : kl.length = j := by omega
      have hM2 := hM6.out.later hT'.out.2 (by omega)
      have hA2 := hA6.out.later hT'.out.2 (by omega)
      have hZ2 := hide (hZ6.out.later hT'.out.2 (by omega))
      have hP2 := hide (hP6.out.touch hT'.out (fun y hy => by omega))
      have hb2 := hide (hb6.out.trans (Bel.touch hT'.out (show base ≤ w6.heap.size by have := hbb.out; omega) (fun y hy e => by have := hbb.out; omega) (fun y e hx => by have := hXb.out y hx; omega)))
      have hs2 := hT'.out.size
      have hk2 := hide (hkv'.out.below hb2.out.b)
      have m0 := hM2.c0
      have m1 := hM2.c1
      have m2 := hM2.c2
      have m3 := hM2.c3
      have m4 := hM2.c4
      have a4 := hA2.c4
      have a1 := hA2.c1
      obtain ⟨w2, rfl⟩ : ∃ w2 : World, w2 = wr := ⟨_, rfl⟩
      clear hM6 hA6 hZ6 hP6 hb6 hT' hv6 hown hown' hM2 hA2
      go_wp2_with fail
      refine (hP2.out.rarm (by omega) at_ kv kl hk2.out hbb.out (show base ≤ w2.heap.size by have := hbb.out; omega)).mono ?_
      rintro e w4 ⟨u2, rfl, hp, hb⟩
      have hZ4 := hZ2.out.below hb
      have hP4 := hide hp
      have hb4 := hide (hb2.out.trans (Bel.of hb (show base ≤ w2.heap.size by have := hbb.out; omega)))
      have hs4 := hb.size
      have gr2 := hide (gr'.out.arm at_ hat'.out kl)
      generalize r.arm at_ kl = r2 at *
      obtain ⟨A5, c5, A6, n6, c6, o6, lf6, A7, n7, c7, rfl, _, _⟩ := hp.shape 4 gr2.out.n
      clear m0 m1 m2 m3 m4 a4 a1 hp hb
      have z0 := hZ4.c0
      have z1 := hZ4.c1
      have z2 := hZ4.c2
      have z3 := hZ4.c3
      have z4 := hZ4.c4
      have tz0 := hZ4.z 0
      have tz1 := hZ4.z 1
      have tz2 := hZ4.z 2
      have tz3 := hZ4.z 3
      have tz4 := hZ4.z 4
      clear hZ4
      go_wp2_with fail
      have hT5 := touch_set5 (fun y => y = bm + 2) w4 (bm + 2) (.slice A5 4 c5) (.slice A6 n6 c6) (.bool o6) (.int .i64 lf6) (.slice A7 n7 c7) rfl
      have hP5 := (hP4.out.touch hT5 (fun y e => by omega)).wide (lo' := 0) (hi' := 0) (fun y _ e => by omega)
      have hb5 := hb4.out.trans (Bel.touch hT5 (show base ≤ w4.heap.size by have := hbb.out; omega) (fun y hy e => by have := hbb.out; omega) (fun y e hx => by have := hXb.out y hx; omega))
      refine bodyPost_ret (v := .tuple #[.agg #[.slice A5 4 c5, .slice A6 n6 c6, .bool o6, .int .i64 lf6, .slice A7 n7 c7], _]) (by simp [results, Try.results53, go_sem, z0, z1, z2, z3, z4]; rfl) rfl ⟨_, _, rfl, ⟨_, _, hP5, gr2.out.up, gd4.out.up⟩, hb5⟩
end Go.Proofs.Ytamkngpkplflcaa
