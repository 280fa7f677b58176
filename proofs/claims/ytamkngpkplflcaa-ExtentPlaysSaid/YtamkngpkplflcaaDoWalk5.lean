/- law 05: Do walked (Has at a place that is none; Load). -/
import Derived.Test.YtamkngpkplflcaaDoWalk4
namespace Go.Proofs.Ytamkngpkplflcaa
open Go.RowKit
set_option maxRecDepth 100000 in
set_option maxHeartbeats 1000000 in
theorem do_hasNot (base g : Nat) (X : Nat → Prop) (d : Dk) (u : Value) (r : Rk) (k : Nat) (do_ : Int) (hdo : do_ < 0 ∨ 9 < do_) (at_ : Int) (hs : at_ < 0 ∨ 4 ≤ at_) (off : Int) (fill : UInt8) (kv : Value) (w : World) (p : Pair base X 0 0 w g d u r) (gr : GoodR r k) (gd : GoodD d k) (hbase : base ≤ w.heap.size) :
    Calls Try.prog 53 #[.pointer (some ⟨g, 0, none⟩), u, .agg #[.int .i64 do_, .int .i64 at_, .int .i64 off, .int .u8 (fill.toNat : Int), kv]] w fun e w' => ∃ u' bl, e = .returned (.tuple #[u', .bool bl]) ∧ (∃ d' r', Pair base X 0 0 w' g d' u' r' ∧ GoodR r' (k + 1) ∧ GoodD d' (k + 1)) ∧ Bel base X w w' := by
  obtain ⟨A1, c1, A2, n2, c2, o, lf, A3, n3, c3, rfl, hstr, hcap⟩ := p.shape 4 gr.n
  have hstr' := hide hstr
  clear hstr
  have p' := hide p
  have gr' := hide gr
  have gd' := hide gd
  have hbase' := hide hbase
  clear p gr gd hbase
  go_enter Try.func53, Try.ntmps53
  go_upto_region 2 with (fail)
  have hM1 := RBox.new w 71 (.slice A1 4 c1) (.slice A2 n2 c2) (.bool o) (.int .i64 lf) (.slice A3 n3 c3)
  have hbA : Below w.heap.size w (w.alloc (.cells #[.slice A1 4 c1, .slice A2 n2 c2, .bool o, .int .i64 lf, .slice A3 n3 c3] 71)) := (Below.refl _ _).alloc (Nat.le_refl _) _
  have hsA : (w.alloc (.cells #[.slice A1 4 c1, .slice A2 n2 c2, .bool o, .int .i64 lf, .slice A3 n3 c3] 71)).heap.size = w.heap.size + 1 := by simp
  generalize w.alloc (.cells #[.slice A1 4 c1, .slice A2 n2 c2, .bool o, .int .i64 lf, .slice A3 n3 c3] 71) = wa at *
  have hA1 := RBox.new wa 51 (.int .i64 do_) (.int .i64 at_) (.int .i64 off) (.int .u8 (fill.toNat : Int)) kv
  have hbB : Below wa.heap.size wa (wa.alloc (.cells #[.int .i64 do_, .int .i64 at_, .int .i64 off, .int .u8 (fill.toNat : Int), kv] 51)) := (Below.refl _ _).alloc (Nat.le_refl _) _
  have hsB : (wa.alloc (.cells #[.int .i64 do_, .int .i64 at_, .int .i64 off, .int .u8 (fill.toNat : Int), kv] 51)).heap.size = wa.heap.size + 1 := by simp
  have hM2 := hM1.below hbB
  generalize wa.alloc (.cells #[.int .i64 do_, .int .i64 at_, .int .i64 off, .int .u8 (fill.toNat : Int), kv] 51) = wb at *
  have hZ1 := RBox.new wb 71 (.slice none 0 0) (.slice none 0 0) (.bool false) (.int .i64 0) (.slice none 0 0)
  have hbC : Below wb.heap.size wb (wb.alloc (.cells #[.slice none 0 0, .slice none 0 0, .bool false, .int .i64 0, .slice none 0 0] 71)) := (Below.refl _ _).alloc (Nat.le_refl _) _
  have hsC : (wb.alloc (.cells #[.slice none 0 0, .slice none 0 0, .bool false, .int .i64 0, .slice none 0 0] 71)).heap.size = wb.heap.size + 1 := by simp
  have hM3 := hM2.below hbC
  have hA3 := hA1.below hbC
  generalize wb.alloc (.cells #[.slice none 0 0, .slice none 0 0, .bool false, .int .i64 0, .slice none 0 0] 71) = wc at *
  have hbABC : Below w.heap.size w wc := (hbA.trans (hbB.mono hbA.size)).trans (hbC.mono (Nat.le_trans hbA.size hbB.size))
  have hsc : wc.heap.size = w.heap.size + 3 := by omega
  have hP := ((p'.out.wide (lo' := w.heap.size) (hi' := w.heap.size + 3) (fun y hy e => by omega))).below hbABC
  rw [hsA] at hA3
  rw [show wb.heap.size = w.heap.size + 2 by omega] at hZ1
  obtain ⟨bm, hbm⟩ : ∃ bm, bm = w.heap.size := ⟨_, rfl⟩
  have hbm' := hide hbm
  have hXb := hide (show ∀ y, X y → y < bm by
    obtain ⟨B, C, _, _, _, _, h5⟩ := p'.out
    intro y hy
    have := (h5 y hy).2.1
    omega)
  rw [← hbm] at hM3 hA3 hZ1 hP hsc hbABC ⊢
  have hM' := hide hM3
  have hw0 := hide (show Below w.heap.size w wc by rw [← hbm]; exact hbABC)
  have hA' := hide hA3
  have hZ' := hide hZ1
  have hP' := hide hP
  have hbA' := hide (show Bel base X w wc from ⟨hbABC.mono (show base ≤ bm by rw [hbm]; exact hbase'.out), fun y hy hl => hbABC.block y (by rw [hbm]; exact hl)⟩)
  have hbb := hide (show base ≤ bm by rw [hbm]; exact hbase'.out)
  clear hM1 hbA hsA hA1 hbB hsB hM2 hZ1 hbC hsC hM3 hA3 hbABC hP hbm p' hbase'
  have a0 := hA'.out.c0
  have q0 : decide (do_ = 0) = false := decide_eq_false (by omega)
  have q1 : decide (do_ = 1) = false := decide_eq_false (by omega)
  have q2 : decide (do_ = 2) = false := decide_eq_false (by omega)
  have q3 : decide (do_ = 3) = false := decide_eq_false (by omega)
  have q4 : decide (do_ = 4) = false := decide_eq_false (by omega)
  have q5 : decide (do_ = 5) = false := decide_eq_false (by omega)
  have q6 : decide (do_ = 6) = false := decide_eq_false (by omega)
  have q7 : decide (do_ = 7) = false := decide_eq_false (by omega)
  have q8 : decide (do_ = 8) = false := decide_eq_false (by omega)
  have q9 : decide (do_ = 9) = false := decide_eq_false (by omega)
  have p0 : (do_ == 0) = false := by simp; omega
  have p1 : (do_ == 1) = false := by simp; omega
  have p2 : (do_ == 2) = false := by simp; omega
  have p3 : (do_ == 3) = false := by simp; omega
  have p4 : (do_ == 4) = false := by simp; omega
  have p5 : (do_ == 5) = false := by simp; omega
  have p6 : (do_ == 6) = false := by simp; omega
  have p7 : (do_ == 7) = false := by simp; omega
  have p8 : (do_ == 8) = false := by simp; omega
  have p9 : (do_ == 9) = false := by simp; omega
  have a1 := hA'.out.c1
  by_cases hneg : at_ < 0
  · have hsJ : decide (at_ < 0) = true := decide_eq_true hneg
    go_wp2_with fail
    refine (hP'.out.dhasNot at_ (by rw [gd'.out.1]; omega)).mono ?_
    rintro e w6 ⟨rfl, rfl⟩
    obtain ⟨w4, rfl⟩ : ∃ w4 : World, w4 = w6 := ⟨_, rfl⟩
    have hM2 := hM'.out
    have hA4 := hA'.out
    have hZ4 := hZ'.out
    have hP4 := hP'
    have hb4 := hbA'
    have gr2 := gr'
    have gd4 := gd'
    have hs4 : bm + 3 ≤ w4.heap.size := by omega
    have m0 := hM2.c0
    have m1 := hM2.c1
    have m2 := hM2.c2
    have m3 := hM2.c3
    have m4 := hM2.c4
    have a1 := hA4.c1
    clear hM' hA' hZ' hP' hbA' hM2 hA4
    have z0 := hZ4.c0
    have z1 := hZ4.c1
    have z2 := hZ4.c2
    have z3 := hZ4.c3
    have z4 := hZ4.c4
    have tz0 := hZ4.z 0
    have tz1 := hZ4.z 1
    have tz2 := hZ4.z 2
    have tz3 := hZ4.z 3
    have tz4 := hZ4.z 4
    clear hZ4
    obtain ⟨A5, c5, A6, n6, c6, o6, lf6, A7, n7, c7, hEQ⟩ : ∃ A5 c5 A6 n6 c6 o6 lf6 A7 n7 c7, (A5, c5, A6, n6, c6, o6, lf6, A7, n7, c7) = (A1, c1, A2, n2, c2, o, lf, A3, n3, c3) := ⟨_, _, _, _, _, _, _, _, _, _, rfl⟩
    simp only [Prod.mk.injEq] at hEQ
    obtain ⟨rfl, rfl, rfl, rfl, rfl, rfl, rfl, rfl, rfl, rfl⟩ := hEQ
    go_wp2_with fail
    have hT5 := touch_set5 (fun y => y = bm + 2) w4 (bm + 2) (.slice A5 4 c5) (.slice A6 n6 c6) (.bool o6) (.int .i64 lf6) (.slice A7 n7 c7) rfl
    have hP5 := (hP4.out.touch hT5 (fun y e => by omega)).wide (lo' := 0) (hi' := 0) (fun y _ e => by omega)
    have hb5 := hb4.out.trans (Bel.touch hT5 (show base ≤ w4.heap.size by have := hbb.out; omega) (fun y hy e => by have := hbb.out; omega) (fun y e hx => by have := hXb.out y hx; omega))
    refine bodyPost_ret (v := .tuple #[.agg #[.slice A5 4 c5, .slice A6 n6 c6, .bool o6, .int .i64 lf6, .slice A7 n7 c7], _]) (by simp [results, Try.results53, go_sem, z0, z1, z2, z3, z4]; rfl) rfl ⟨_, _, rfl, ⟨_, _, hP5, gr2.out.up, gd4.out.up⟩, hb5⟩
  · have hsJ : decide (at_ < 0) = false := decide_eq_false hneg
    have hsK : decide ((4 : Int) ≤ at_) = true := decide_eq_true (by omega)
    go_wp2_with fail
    refine (hP'.out.dhasNot at_ (by rw [gd'.out.1]; omega)).mono ?_
    rintro e w6 ⟨rfl, rfl⟩
    obtain ⟨w4, rfl⟩ : ∃ w4 : World, w4 = w6 := ⟨_, rfl⟩
    have hM2 := hM'.out
    have hA4 := hA'.out
    have hZ4 := hZ'.out
    have hP4 := hP'
    have hb4 := hbA'
    have gr2 := gr'
    have gd4 := gd'
    have hs4 : bm + 3 ≤ w4.heap.size := by omega
    have m0 := hM2.c0
    have m1 := hM2.c1
    have m2 := hM2.c2
    have m3 := hM2.c3
    have m4 := hM2.c4
    have a1 := hA4.c1
    clear hM' hA' hZ' hP' hbA' hM2 hA4
    have z0 := hZ4.c0
    have z1 := hZ4.c1
    have z2 := hZ4.c2
    have z3 := hZ4.c3
    have z4 := hZ4.c4
    have tz0 := hZ4.z 0
    have tz1 := hZ4.z 1
    have tz2 := hZ4.z 2
    have tz3 := hZ4.z 3
    have tz4 := hZ4.z 4
    clear hZ4
    obtain ⟨A5, c5, A6, n6, c6, o6, lf6, A7, n7, c7, hEQ⟩ : ∃ A5 c5 A6 n6 c6 o6 lf6 A7 n7 c7, (A5, c5, A6, n6, c6, o6, lf6, A7, n7, c7) = (A1, c1, A2, n2, c2, o, lf, A3, n3, c3) := ⟨_, _, _, _, _, _, _, _, _, _, rfl⟩
    simp only [Prod.mk.injEq] at hEQ
    obtain ⟨rfl, rfl, rfl, rfl, rfl, rfl, rfl, rfl, rfl, rfl⟩ := hEQ
    go_wp2_with fail
    have hT5 := touch_set5 (fun y => y = bm + 2) w4 (bm + 2) (.slice A5 4 c5) (.slice A6 n6 c6) (.bool o6) (.int .i64 lf6) (.slice A7 n7 c7) rfl
    have hP5 := (hP4.out.touch hT5 (fun y e => by omega)).wide (lo' := 0) (hi' := 0) (fun y _ e => by omega)
    have hb5 := hb4.out.trans (Bel.touch hT5 (show base ≤ w4.heap.size by have := hbb.out; omega) (fun y hy e => by have := hbb.out; omega) (fun y e hx => by have := hXb.out y hx; omega))
    refine bodyPost_ret (v := .tuple #[.agg #[.slice A5 4 c5, .slice A6 n6 c6, .bool o6, .int .i64 lf6, .slice A7 n7 c7], _]) (by simp [results, Try.results53, go_sem, z0, z1, z2, z3, z4]; rfl) rfl ⟨_, _, rfl, ⟨_, _, hP5, gr2.out.up, gd4.out.up⟩, hb5⟩
/-- copy into a row of one's own, of as many as the shorter one has -/
theorem wp_copy_min {P : Program} {w : World} {o : Oper} {a : Act} {K : Act → World → Prop} {Q : Exit → Act → World → Prop} (dd s : Operand) {dT sT e : TypeId}
    (hop : o.op = .call { callee := .builtin .copy, args := #[dd, s], argTypes := #[dT, sT] }) (hu : P.underlying dT = some (.slice e)) (hs : (P.info? e).map (·.size) = some 1) {base h n : Nat} {xs : List Value} (ho : w.ownsRow base e 1 (.slice (some ⟨h, 0, none⟩) n n) n xs)
    (off dl sl m cap : Nat) (sv : Value) (cs : List Value) (hd : a.eval dd = .slice (some ⟨h, off, none⟩) dl cap) (hsv : a.eval s = sv) (hc : Sl w 1 sv sl cs) (hmin : m = Nat.min sl dl) (hp : 0 < m) (hm : off + m ≤ n) (h1 : ∀ v ∈ cs, v.oneCell' = true)
    (hk : ∀ w', w'.ownsRow base e 1 (.slice (some ⟨h, 0, none⟩) n n) n (xs.take off ++ cs.take m ++ xs.drop (off + m)) → Touch (fun x => x = h) w w' → K (a.put o.dst (goInt m)) w') : o.wp P a w K Q := by
  obtain ⟨A, c, rfl, k1, k2, k3, k4⟩ := hc
  rw [Nat.mul_one] at k3
  have hms : m ≤ sl := by rw [hmin]; exact Nat.min_le_left _ _
  obtain ⟨b, oo, rfl, hb, hcell⟩ := k4 (by omega)
  obtain ⟨h0, hx⟩ := ho
  rcases hx with ⟨hx, _⟩ | ⟨g, cp, cur, hv, hbg, hg, hnc, hcm, hcs, htk⟩
  · cases hx
  · injection hv with hv1 hv2 hv3
    injection hv1 with hv1
    injection hv1 with hv1
    subst hv1 hv3
    rw [Nat.mul_one] at h0 htk hcs
    have hcur : cur.toList = xs := list_of_take (by rw [h0]; exact htk) (by rw [h0, ← hcs]; simp)
    have hlt : (cs.take m).length = m := by rw [List.length_take]; omega
    have hrun := (run_copy_row (P := P) w dT sT o.type e h off dl cap ⟨b, oo, none⟩ sl c cur e (cs.take m) hu hs hg (by rw [hlt, hmin]) (fun j v hj => by
      rw [Addr.add_lit]
      exact hcell j v (by
        rw [List.getElem?_take] at hj
        split at hj
        · exact hj
        · cases hj)) (by rw [hlt, hcs]; omega) (fun v hv => h1 v (List.mem_of_mem_take hv))).trans (by rw [hlt])
    unfold Oper.wp execOp
    simp only [hop, resolve, invoke, builtin, Sem.run_bind, Sem.run_pure, Result.andThen_ok, List.map_toArray, List.map_cons, List.map_nil, hd, hsv, hrun]
    refine hk _ ⟨?_, .inr ⟨h, n, _, rfl, hbg, setRow_heap w h cur _ e _ hg, Nat.le_refl _, hcm, ?_, ?_⟩⟩ ⟨⟨rfl, rfl, rfl, by simp [World.setRow], fun k hk => absurd hk (Nat.not_lt_zero _)⟩, by simp [World.setRow], fun k hk hf => setRow_other w h k _ hf⟩
    · simp; omega
    · rw [hcur]; simp; omega
    · rw [hcur]
      simp only [Nat.mul_one]
      exact List.take_of_length_le (by simp; omega)
/-- x[lo:], by an equation of one's own -/
theorem run_slice_lo {P : Program} {w' : World} {ev : Operand → Value} {o : Oper} {t : TypeId} {u : Value} (x lo : Operand) (ho : o.op = .slice t x (some lo) none none)
    (hrun : (Instr.sliceAt t (ev x) (some (ev lo)) none none).run P w' = .ok u w') : (execOp ev o).run P w' = .ok (.value u) w' := by
  simp only [execOp, ho, Option.map_some, Option.map_none, Sem.run_bind, hrun, Result.andThen_ok, Sem.run_pure]
theorem run_cutB (g m k : Nat) (hk : k < m) (w' : World) : (Instr.sliceAt 40 (.slice (some ⟨g, 0, none⟩) m m) (some (.int .i64 (k : Int))) none none).run Try.prog w' = .ok (.slice (some ⟨g, k, none⟩) (m - k) (m - k)) w' := by
  have ht : Try.prog.underlying 40 = some (.slice (Try.prog.elem 40)) := by kernel_rfl
  have hs : ∀ w, (sizeOf (Try.prog.elem 40)).run Try.prog w = .ok 1 w := fun _ => by kernel_rfl
  rw [run_sliceAt_slice (P := Try.prog) (h := ht), run_slice_l w' 40 _ m m ht .i64 k (by omega) (by omega), hs]
  simp only [Result.andThen_ok, sliced, Int.toNat_natCast, Nat.mul_one]
  rw [if_neg (by omega)]
  simp [Addr.add_lit]
set_option maxRecDepth 100000 in
set_option maxHeartbeats 1000000 in
theorem do_load (base g : Nat) (X : Nat → Prop) (d : Dk) (u : Value) (r : Rk) (k : Nat) (at_ off : Int) (m : Nat) (hm : (256 : Int) + off.tmod 2 = m) (fill : UInt8) (kv : Value) (w : World) (p : Pair base X 0 0 w g d u r) (gr : GoodR r k) (gd : GoodD d k) (hbase : base ≤ w.heap.size) :
    Calls Try.prog 53 #[.pointer (some ⟨g, 0, none⟩), u, .agg #[.int .i64 9, .int .i64 at_, .int .i64 off, .int .u8 (fill.toNat : Int), kv]] w fun e w' => ∃ u' bl, e = .returned (.tuple #[u', .bool bl]) ∧ (∃ d' r', Pair base X 0 0 w' g d' u' r' ∧ GoodR r' (k + 1) ∧ GoodD d' (k + 1)) ∧ Bel base X w w' := by
  have hm1 : 255 ≤ m ∧ m ≤ 257 := by
    have := Int.tmod_lt_of_pos off (show (0 : Int) < 2 by omega)
    have := Int.lt_tmod_of_pos off (show (0 : Int) < 2 by omega)
    omega
  have hm' := hide hm
  clear hm
  obtain ⟨A1, c1, A2, n2, c2, o, lf, A3, n3, c3, rfl, hstr, hcap⟩ := p.shape 4 gr.n
  have hstr' := hide hstr
  clear hstr
  have p' := hide p
  have gr' := hide gr
  have gd' := hide gd
  have hbase' := hide hbase
  clear p gr gd hbase
  go_enter Try.func53, Try.ntmps53
  go_upto_region 2 with (fail)
  have hM1 := RBox.new w 71 (.slice A1 4 c1) (.slice A2 n2 c2) (.bool o) (.int .i64 lf) (.slice A3 n3 c3)
  have hbA : Below w.heap.size w (w.alloc (.cells #[.slice A1 4 c1, .slice A2 n2 c2, .bool o, .int .i64 lf, .slice A3 n3 c3] 71)) := (Below.refl _ _).alloc (Nat.le_refl _) _
  have hsA : (w.alloc (.cells #[.slice A1 4 c1, .slice A2 n2 c2, .bool o, .int .i64 lf, .slice A3 n3 c3] 71)).heap.size = w.heap.size + 1 := by simp
  generalize w.alloc (.cells #[.slice A1 4 c1, .slice A2 n2 c2, .bool o, .int .i64 lf, .slice A3 n3 c3] 71) = wa at *
  have hA1 := RBox.new wa 51 (.int .i64 9) (.int .i64 at_) (.int .i64 off) (.int .u8 (fill.toNat : Int)) kv
  have hbB : Below wa.heap.size wa (wa.alloc (.cells #[.int .i64 9, .int .i64 at_, .int .i64 off, .int .u8 (fill.toNat : Int), kv] 51)) := (Below.refl _ _).alloc (Nat.le_refl _) _
  have hsB : (wa.alloc (.cells #[.int .i64 9, .int .i64 at_, .int .i64 off, .int .u8 (fill.toNat : Int), kv] 51)).heap.size = wa.heap.size + 1 := by simp
  have hM2 := hM1.below hbB
  generalize wa.alloc (.cells #[.int .i64 9, .int .i64 at_, .int .i64 off, .int .u8 (fill.toNat : Int), kv] 51) = wb at *
  have hZ1 := RBox.new wb 71 (.slice none 0 0) (.slice none 0 0) (.bool false) (.int .i64 0) (.slice none 0 0)
  have hbC : Below wb.heap.size wb (wb.alloc (.cells #[.slice none 0 0, .slice none 0 0, .bool false, .int .i64 0, .slice none 0 0] 71)) := (Below.refl _ _).alloc (Nat.le_refl _) _
  have hsC : (wb.alloc (.cells #[.slice none 0 0, .slice none 0 0, .bool false, .int .i64 0, .slice none 0 0] 71)).heap.size = wb.heap.size + 1 := by simp
  have hM3 := hM2.below hbC
  have hA3 := hA1.below hbC
  generalize wb.alloc (.cells #[.slice none 0 0, .slice none 0 0, .bool false, .int .i64 0, .slice none 0 0] 71) = wc at *
  have hbABC : Below w.heap.size w wc := (hbA.trans (hbB.mono hbA.size)).trans (hbC.mono (Nat.le_trans hbA.size hbB.size))
  have hsc : wc.heap.size = w.heap.size + 3 := by omega
  have hP := ((p'.out.wide (lo' := w.heap.size) (hi' := w.heap.size + 3) (fun y hy e => by omega))).below hbABC
  rw [hsA] at hA3
  rw [show wb.heap.size = w.heap.size + 2 by omega] at hZ1
  obtain ⟨bm, hbm⟩ : ∃ bm, bm = w.heap.size := ⟨_, rfl⟩
  have hbm' := hide hbm
  have hXb := hide (show ∀ y, X y → y < bm by
    obtain ⟨B, C, _, _, _, _, h5⟩ := p'.out
    intro y hy
    have := (h5 y hy).2.1
    omega)
  rw [← hbm] at hM3 hA3 hZ1 hP hsc hbABC ⊢
  have hM' := hide hM3
  have hw0 := hide (show Below w.heap.size w wc by rw [← hbm]; exact hbABC)
  have hA' := hide hA3
  have hZ' := hide hZ1
  have hP' := hide hP
  have hbA' := hide (show Bel base X w wc from ⟨hbABC.mono (show base ≤ bm by rw [hbm]; exact hbase'.out), fun y hy hl => hbABC.block y (by rw [hbm]; exact hl)⟩)
  have hbb := hide (show base ≤ bm by rw [hbm]; exact hbase'.out)
  clear hM1 hbA hsA hA1 hbB hsB hM2 hZ1 hbC hsC hM3 hA3 hbABC hP hbm p' hbase'
  have a0 := hA'.out.c0
  have hm := hm'.out
  have a1 := hA'.out.c1
  have a2 := hA'.out.c2
  have m0 := hM'.out.c0
  go_wp2_with ((at_make; refine list_make Try.underlying40 (z := .int .u8 0) (bytes := 1) (by kernel_rfl) rfl rfl _ _ rfl wc.heap.size .i64 .i64 m m m rfl rfl rfl rfl (by omega) (by simp only [maxLen]; omega) (Nat.le_refl _) ?_))
  intro wd hv hg hlt
  have hb : Below wc.heap.size wc wd := (Below.refl _ _).grown hg (Nat.le_refl _) (by simp)
  have hvd := hide (show wd.ownsRow (bm + 3) 5 1 (.slice (some ⟨bm + 3, 0, none⟩) m m) m (bytesV (List.replicate m 0)) by simpa [bytesV] using hv)
  have hMd := hide (hM'.out.below hb)
  have hAd := hide (hA'.out.below hb)
  have hZd := hide (hZ'.out.below hb)
  have hPd := hide (hP'.out.fresh hb hsc.symm)
  have hbd := hide (hbA'.out.trans (Bel.of hb (show base ≤ wc.heap.size by have := hbb.out; omega)))
  have hsd := hb.size
  have a1 := hAd.out.c1
  have a3 := hAd.out.c3
  have m0 := hMd.out.c0
  clear hv hg hlt hb hM' hA' hZ' hP' hbA' a2 a0
  by_cases hin : 0 ≤ at_ ∧ at_ < 4
  · obtain ⟨s, hs⟩ : ∃ s : Nat, at_ = (s : Int) := ⟨at_.toNat, by omega⟩
    subst hs
    have hs4 : s < 4 := by omega
    have hd1 : decide (0 ≤ (s : Int)) = true := decide_eq_true (by omega)
    have hd2 : decide ((s : Int) < 4) = true := decide_eq_true (by omega)
    go_upto_region 44 with (fail)
    clear hd1 hd2
    obtain ⟨Fz, hFz⟩ : ∃ Fz : Nat → Prop, ∀ y, Fz y ↔ y = bm + 3 := ⟨_, fun _ => Iff.rfl⟩
    have hLd := hide (later_drew (F := Fz) wd)
    have f1 : ∀ w', Later Fz wd.drew w' → w'.cell? ⟨bm + 1, 1, none⟩ = some (.int .i64 (s : Nat)) := fun w' hl => (hAd.out.later (later_trans _ _ _ _ hLd.out hl) (fun h => by have := (hFz (bm + 1)).1 h; omega)).c1
    have f3 : ∀ w', Later Fz wd.drew w' → w'.cell? ⟨bm + 1, 3, none⟩ = some (.int .u8 (fill.toNat : Int)) := fun w' hl => (hAd.out.later (later_trans _ _ _ _ hLd.out hl) (fun h => by have := (hFz (bm + 1)).1 h; omega)).c3
    have hsI : (s : Int) < 4 := by omega
    have hsm : 64 * s ≤ m := by omega
    refine region_plan [(true, 0), (true, 1), (true, 2), (true, 3), (true, 4), (true, 5), (true, 6), (false, 7), (false, 8)] (Later Fz) (later_refl _) (later_trans _) (by kernel_rfl) (by kernel_rfl) (fun _ _ d _ _ h => by cases d <;> exact h) ?_
    repeat
      (first
        | (show wpPlan _ _ _ _ ((true, _) :: _) _ _
           refine plan_skip rfl (by rfl) ?_
           simp only [Act.put, List.setIfInBounds_toArray, List.set_cons_zero, List.set_cons_succ])
        | (show wpPlan _ _ _ _ ((false, _) :: _) _ _
           refine plan_skip_eff (later_refl _) rfl (by rfl) ?_
           simp only [Act.put, List.setIfInBounds_toArray, List.set_cons_zero, List.set_cons_succ])
        | (show wpPlan _ _ _ _ ((true, _) :: _) _ _
           refine plan_take (v := ?_) rfl (by rfl) (fun w' hw' => ?_) ?_
           rotate_left
           focus
             go_simp
             try with_reducible rfl
             done
           simp only [Act.put, List.setIfInBounds_toArray, List.set_cons_zero, List.set_cons_succ]))
    refine plan_take (v := .slice (some ⟨bm + 3, 64 * s, none⟩) (m - 64 * s) (m - 64 * s)) rfl (by rfl) (fun w' hw' => ?_) ?_
    · refine run_slice_lo (.tmp 179) (.tmp 182) rfl ?_
      have e := run_cutB (bm + 3) m (64 * s) (by omega) w'
      show (Instr.sliceAt 40 (.slice (some ⟨bm + 3, 0, none⟩) m m) (some (.int .i64 (IntKind.i64.wrap (64 * (s : Int))))) none none).run _ _ = _
      rw [IntWalk.i64_in _ (by omega)]
      rw [show 64 * (s : Int) = ((64 * s : Nat) : Int) by omega]
      exact e
    try simp only [Act.put, List.setIfInBounds_toArray, List.set_cons_zero, List.set_cons_succ]
    repeat
      (first
        | (show wpPlan _ _ _ _ ((true, _) :: _) _ _
           refine plan_skip rfl (by rfl) ?_
           simp only [Act.put, List.setIfInBounds_toArray, List.set_cons_zero, List.set_cons_succ])
        | (show wpPlan _ _ _ _ ((false, _) :: _) _ _
           refine plan_skip_eff (later_refl _) rfl (by rfl) ?_
           simp only [Act.put, List.setIfInBounds_toArray, List.set_cons_zero, List.set_cons_succ])
        | (show wpPlan _ _ _ _ ((true, _) :: _) _ _
           refine plan_take (v := ?_) rfl (by rfl) (fun w' hw' => ?_) ?_
           rotate_left
           focus
             go_simp
             try with_reducible rfl
             done
           simp only [Act.put, List.setIfInBounds_toArray, List.set_cons_zero, List.set_cons_succ]))
    clear f1 f3
    refine plan_eff rfl (by rfl) (fun K hK => ?_)
    go_wp2_with fail
    refine (sector_any fill 0 wd.drew).mono ?_
    rintro e we ⟨sv, rfl, hsv, hb2⟩
    refine hK _ _ (⟨hb2.size, fun y hy _ => hb2.block y hy⟩) ?_
    clear hK K
    have hq : Below wd.heap.size wd we := ((Below.refl _ _).drew).trans (hb2.mono (Nat.le_refl wd.heap.size))
    have hve := hide (own_later hvd.out (below_later hq (Nat.le_refl _)) (fun _ _ h => h))
    have hMe := hide (hMd.out.below hq)
    have hAe := hide (hAd.out.below hq)
    have hZe := hide (hZd.out.below hq)
    have hPe := hide (hPd.out.fresh hq rfl)
    have hbe := hide (hbd.out.trans (Bel.of hq (show base ≤ wd.heap.size by have := hbb.out; omega)))
    have hse := hq.size
    have hse1 := hide hve.out.lt
    rw [sec0] at hsv
    have hss := hide (show Sl we 1 sv 64 (bytesV (List.replicate 64 fill)) by have := Sl.own hsv; simpa using this)
    clear hb2 hsv hq hvd hMd hAd hZd hPd hbd hLd a1 a3 m0
    try simp only [Act.put, List.setIfInBounds_toArray, List.set_cons_zero, List.set_cons_succ]
    repeat
      (first
        | (show wpPlan _ _ _ _ ((true, _) :: _) _ _
           refine plan_skip rfl (by rfl) ?_
           simp only [Act.put, List.setIfInBounds_toArray, List.set_cons_zero, List.set_cons_succ])
        | (show wpPlan _ _ _ _ ((false, _) :: _) _ _
           refine plan_skip_eff (later_refl _) rfl (by rfl) ?_
           simp only [Act.put, List.setIfInBounds_toArray, List.set_cons_zero, List.set_cons_succ])
        | (show wpPlan _ _ _ _ ((true, _) :: _) _ _
           refine plan_take (v := ?_) rfl (by rfl) (fun w' hw' => ?_) ?_
           rotate_left
           focus
             go_simp
             try with_reducible rfl
             done
           simp only [Act.put, List.setIfInBounds_toArray, List.set_cons_zero, List.set_cons_succ]))
    obtain ⟨mm, hmm⟩ : ∃ mm, mm = Nat.min 64 (m - 64 * s) := ⟨_, rfl⟩
    have hmm1 : mm ≤ 64 ∧ mm ≤ m - 64 * s ∧ 0 < mm := by
      have h1 : mm ≤ 64 := by rw [hmm]; exact Nat.min_le_left _ _
      have h2 : mm ≤ m - 64 * s := by rw [hmm]; exact Nat.min_le_right _ _
      have h3 : mm = 64 ∨ mm = m - 64 * s := by rw [hmm]; show min 64 _ = 64 ∨ min 64 _ = _; omega
      omega
    refine plan_eff rfl (by rfl) (fun K hK => ?_)
    refine wp_copy_min (.tmp 183) (.tmp 186) rfl Try.underlying40 elem_size1 hve.out (64 * s) (m - 64 * s) 64 mm (m - 64 * s) sv (bytesV (List.replicate 64 fill)) rfl rfl hss.out hmm (by omega) (by omega) (bytesV_one _) ?_
    intro wz hf hTf
    refine hK _ _ (hTf.mono (G := Fz) (fun y _ e => (hFz y).2 e)).2 ?_
    clear hK K
    obtain ⟨b0, hbb0⟩ : ∃ b0, b0 = (List.replicate m (0 : UInt8)).take (64 * s) ++ (List.replicate 64 fill).take mm ++ (List.replicate m 0).drop (64 * s + mm) := ⟨_, rfl⟩
    have hb0 : b0.length = m := by rw [hbb0]; simp; omega
    have hvz := hide (show wz.ownsRow (bm + 3) 5 1 (.slice (some ⟨bm + 3, 0, none⟩) m m) m (bytesV b0) by rw [hbb0, bytesV_append, bytesV_append, bytesV_take, bytesV_take, bytesV_drop]; exact hf)
    obtain ⟨hi0, hhi⟩ : ∃ hi0, hi0 = we.heap.size := ⟨_, rfl⟩
    have hse2 : bm + 3 < we.heap.size := (hse1.out (bm + 3) rfl).2
    rw [← hhi] at hPe
    have hhi1 : bm + 3 < hi0 := by omega
    have hsz := hTf.size
    have hhi2 : hi0 ≤ wz.heap.size := by omega
    have hMz := hide (hMe.out.later hTf.2 (by omega))
    have hAz := hide (hAe.out.later hTf.2 (by omega))
    have hZz := hide (hZe.out.later hTf.2 (by omega))
    have hPz := hide (hPe.out.touch hTf (fun y e => by omega))
    have hbz := hide (hbe.out.trans (Bel.touch hTf (show base ≤ we.heap.size by have := hbb.out; omega) (fun y hy e => by have := hbb.out; omega) (fun y e hx => by have := hXb.out y hx; omega)))
    have a1 := True.intro
    have a3 := True.intro
    clear hf hTf hMe hAe hZe hPe hbe hve hss hse1 hbb0 hmm hFz hhi
    try simp only [Act.put, List.setIfInBounds_toArray, List.set_cons_zero, List.set_cons_succ]
    repeat
      (first
        | (show wpPlan _ _ _ _ ((true, _) :: _) _ _
           refine plan_skip rfl (by rfl) ?_
           simp only [Act.put, List.setIfInBounds_toArray, List.set_cons_zero, List.set_cons_succ])
        | (show wpPlan _ _ _ _ ((false, _) :: _) _ _
           refine plan_skip_eff (later_refl _) rfl (by rfl) ?_
           simp only [Act.put, List.setIfInBounds_toArray, List.set_cons_zero, List.set_cons_succ])
        | (show wpPlan _ _ _ _ ((true, _) :: _) _ _
           refine plan_take (v := ?_) rfl (by rfl) (fun w' hw' => ?_) ?_
           rotate_left
           focus
             go_simp
             try with_reducible rfl
             done
           simp only [Act.put, List.setIfInBounds_toArray, List.set_cons_zero, List.set_cons_succ]))
    refine plan_nil ?_
    have hbsz := hide (show Bs wz (.slice (some ⟨bm + 3, 0, none⟩) m m) b0 by unfold Bs; rw [hb0]; exact Sl.own hvz.out)
    have hcv := str_conv wz _ _ hbsz.out
    have m0 := hMz.out.c0
    have m1 := hMz.out.c1
    have m2 := hMz.out.c2
    have m3 := hMz.out.c3
    have m4 := hMz.out.c4
    go_wp2_with fail
    refine (hPz.out.rload hhi2 b0 gr'.out.ok).mono ?_
    rintro e w2 ⟨u2, rfl, hp, hb⟩
    have gr2 := hide (gr'.out.load b0)
    generalize (r.load b0).1 = r2 at *
    generalize (r.load b0).2 = e1 at *
    obtain ⟨A5, c5, A6, n6, c6, o6, lf6, A7, n7, c7, rfl, _, _⟩ := hp.shape 4 gr2.out.n
    have hM2 := hMz.out.below hb
    have hA2 := hide (hAz.out.below hb)
    have hZ2 := hide (hZz.out.below hb)
    have hP2 := hide hp
    have hb2 := hide (hbz.out.trans (Bel.of hb (show base ≤ wz.heap.size by have := hbb.out; omega)))
    have hs2 := hb.size
    have hbs2 := hide (hbsz.out.below hb)
    clear m0 m1 m2 m3 m4 a1 a3 hMz hAz hZz hPz hbz hb hp gr' hvz hbsz hcv
    have t0 := hM2.z 0
    have t1 := hM2.z 1
    have t2 := hM2.z 2
    have t3 := hM2.z 3
    have t4 := hM2.z 4
    have m0 := hM2.c0
    have m1 := hM2.c1
    have m2 := hM2.c2
    have m3 := hM2.c3
    have m4 := hM2.c4
    have hM2' := hide hM2
    clear hM2
    go_upto_region 46 with (fail)
    have hT3 := touch_set5 (fun y => y = bm) w2 bm (.slice A5 4 c5) (.slice A6 n6 c6) (.bool o6) (.int .i64 lf6) (.slice A7 n7 c7) rfl
    have hM3 := hide (hM2'.out.set5 (.slice A5 4 c5) (.slice A6 n6 c6) (.bool o6) (.int .i64 lf6) (.slice A7 n7 c7))
    have hA3 := hide (hA2.out.later hT3.2 (by omega))
    have hZ3 := hide (hZ2.out.later hT3.2 (by omega))
    have hP3 := hide (hP2.out.touch hT3 (fun y e => by omega))
    have hb3 := hide (hb2.out.trans (Bel.touch hT3 (show base ≤ w2.heap.size by have := hbb.out; omega) (fun y hy e => by have := hbb.out; omega) (fun y e hx => by have := hXb.out y hx; omega)))
    have hs3 := hT3.2.1
    have hL3 := hide hT3.2
    clear t0 t1 t2 t3 t4 m0 m1 m2 m3 m4 hM2' hA2 hZ2 hP2 hb2 hT3
    generalize (((((w2.setCell ⟨bm, 0, none⟩ (.slice A5 4 c5)).setCell ⟨bm, 1, none⟩ (.slice A6 n6 c6)).setCell ⟨bm, 2, none⟩ (.bool o6)).setCell ⟨bm, 3, none⟩ (.int .i64 lf6)).setCell ⟨bm, 4, none⟩ (.slice A7 n7 c7)) = w3 at *
    have hbs3 := hide (hbs2.out.later hL3.out (fun y hy e => by cases hy; have e' : bm + 3 = bm := e; omega))
    obtain ⟨Fy, hFy⟩ : ∃ Fy : Nat → Prop, ∀ y, Fy y ↔ ¬ (bm ≤ y ∧ y < bm + 2) := ⟨_, fun _ => Iff.rfl⟩
    have hLy := hide (later_drew (F := Fy) w3)
    have f := fun w' (hl : Later Fy w3.drew w') => hM3.out.later (later_trans _ _ _ _ hLy.out hl) (fun h => (hFy bm).1 h (by omega))
    have f0 := fun w' hl => (f w' hl).c0
    have f1 := fun w' hl => (f w' hl).c1
    have f2 := fun w' hl => (f w' hl).c2
    have f3 := fun w' hl => (f w' hl).c3
    have f4 := fun w' hl => (f w' hl).c4
    clear f hL3 hbs2
    refine region_plan [(true, 0), (true, 1), (true, 2), (true, 4), (false, 3), (true, 5), (false, 6), (true, 7)] (Later Fy) (later_refl _) (later_trans _) (by kernel_rfl) (by kernel_rfl) (fun _ _ d _ _ h => by cases d <;> exact h) ?_
    repeat
      (first
        | (show wpPlan _ _ _ _ ((true, _) :: _) _ _
           refine plan_skip rfl (by rfl) ?_
           simp only [Act.put, List.setIfInBounds_toArray, List.set_cons_zero, List.set_cons_succ])
        | (show wpPlan _ _ _ _ ((false, _) :: _) _ _
           refine plan_skip_eff (later_refl _) rfl (by rfl) ?_
           simp only [Act.put, List.setIfInBounds_toArray, List.set_cons_zero, List.set_cons_succ])
        | (show wpPlan _ _ _ _ ((true, _) :: _) _ _
           refine plan_take (v := ?_) rfl (by rfl) (fun w' hw' => ?_) ?_
           rotate_left
           focus
             go_simp
             try with_reducible rfl
             done
           simp only [Act.put, List.setIfInBounds_toArray, List.set_cons_zero, List.set_cons_succ]))
    clear f0 f1 f2 f3 f4
    refine plan_eff rfl (by rfl) (fun K hK => ?_)
    go_wp2_with fail
    have hq : Below w3.heap.size w3 w3.drew := (Below.refl _ _).drew
    refine ((hP3.out.below hq).dload (show base ≤ w3.heap.size by have := hbb.out; omega) (show hi0 ≤ w3.heap.size by omega) (.slice (some ⟨bm + 3, 0, none⟩) m m) b0 (hbs3.out.below hq)).mono ?_
    rintro e w4 ⟨rfl, hp, hb, hkp⟩
    refine hK _ _ ⟨hkp.1, fun y hy hf => hkp.2 y hy (fun h => hf ((hFy y).2 (by omega)))⟩ ?_
    clear hK K
    have hZ4 := (hZ3.out.below hq).later hkp (by omega)
    have hP4 := hide hp
    have hb4 := hide ((hb3.out.trans (Bel.of hq (show base ≤ w3.heap.size by have := hbb.out; omega))).trans hb)
    have hs4 : w3.heap.size ≤ w4.heap.size := hkp.1
    have z0 := hZ4.c0
    have z1 := hZ4.c1
    have z2 := hZ4.c2
    have z3 := hZ4.c3
    have z4 := hZ4.c4
    have tz0 := hZ4.z 0
    have tz1 := hZ4.z 1
    have tz2 := hZ4.z 2
    have tz3 := hZ4.z 3
    have tz4 := hZ4.z 4
    clear hZ4
    have gd4 := hide (gd'.out.load b0)
    generalize (d.load b0).1 = d4 at *
    generalize (d.load b0).2 = e2 at *
    clear hZ3 hP3 hb3 hp hb hkp hq hA3 hM3 hLy hbs3
    try simp only [Act.put, List.setIfInBounds_toArray, List.set_cons_zero, List.set_cons_succ]
    repeat
      (first
        | (show wpPlan _ _ _ _ ((true, _) :: _) _ _
           refine plan_skip rfl (by rfl) ?_
           simp only [Act.put, List.setIfInBounds_toArray, List.set_cons_zero, List.set_cons_succ])
        | (show wpPlan _ _ _ _ ((false, _) :: _) _ _
           refine plan_skip_eff (later_refl _) rfl (by rfl) ?_
           simp only [Act.put, List.setIfInBounds_toArray, List.set_cons_zero, List.set_cons_succ])
        | (show wpPlan _ _ _ _ ((true, _) :: _) _ _
           refine plan_take (v := ?_) rfl (by rfl) (fun w' hw' => ?_) ?_
           rotate_left
           focus
             go_simp
             try with_reducible rfl
             done
           simp only [Act.put, List.setIfInBounds_toArray, List.set_cons_zero, List.set_cons_succ]))
    refine plan_eff rfl (by rfl) (fun K hK => ?_)
    go_wp2_with fail
    refine hK _ _ (touch_set5 Fy w4 (bm + 2) (.slice A5 4 c5) (.slice A6 n6 c6) (.bool o6) (.int .i64 lf6) (.slice A7 n7 c7) ((hFy (bm + 2)).2 (by omega))).2 ?_
    clear hK K
    try simp only [Act.put, List.setIfInBounds_toArray, List.set_cons_zero, List.set_cons_succ]
    repeat
      (first
        | (show wpPlan _ _ _ _ ((true, _) :: _) _ _
           refine plan_skip rfl (by rfl) ?_
           simp only [Act.put, List.setIfInBounds_toArray, List.set_cons_zero, List.set_cons_succ])
        | (show wpPlan _ _ _ _ ((false, _) :: _) _ _
           refine plan_skip_eff (later_refl _) rfl (by rfl) ?_
           simp only [Act.put, List.setIfInBounds_toArray, List.set_cons_zero, List.set_cons_succ])
        | (show wpPlan _ _ _ _ ((true, _) :: _) _ _
           refine plan_take (v := ?_) rfl (by rfl) (fun w' hw' => ?_) ?_
           rotate_left
           focus
             go_simp
             try with_reducible rfl
             done
           simp only [Act.put, List.setIfInBounds_toArray, List.set_cons_zero, List.set_cons_succ]))
    refine plan_nil ?_
    go_wp2_with fail
    have hT5 := touch_set5 (fun y => y = bm + 2) w4 (bm + 2) (.slice A5 4 c5) (.slice A6 n6 c6) (.bool o6) (.int .i64 lf6) (.slice A7 n7 c7) rfl
    have hP5 := (hP4.out.touch hT5 (fun y e => by omega)).wide (lo' := 0) (hi' := 0) (fun y _ e => by omega)
    have hb5 := hb4.out.trans (Bel.touch hT5 (show base ≤ w4.heap.size by have := hbb.out; omega) (fun y hy e => by have := hbb.out; omega) (fun y e hx => by have := hXb.out y hx; omega))
    refine bodyPost_ret (v := .tuple #[.agg #[.slice A5 4 c5, .slice A6 n6 c6, .bool o6, .int .i64 lf6, .slice A7 n7 c7], _]) (by simp [results, Try.results53, go_sem, z0, z1, z2, z3, z4]; rfl) rfl ⟨_, _, rfl, ⟨_, _, hP5, gr2.out.up, gd4.out.up⟩, hb5⟩
  · obtain ⟨b0, hbb0⟩ : ∃ b0 : List UInt8, b0 = List.replicate m (0 : UInt8) := ⟨_, rfl⟩
    have hb0 : b0.length = m := by rw [hbb0]; simp
    obtain ⟨wz, rfl⟩ : ∃ wz : World, wz = wd := ⟨_, rfl⟩
    rw [← hbb0] at hvd
    have hvz := hvd
    have hMz := hMd
    have hAz := hAd
    have hZz := hZd
    have hPz := hPd
    have hbz := hbd
    obtain ⟨hi0, hhi⟩ : ∃ hi0, hi0 = wz.heap.size := ⟨_, rfl⟩
    have hse2 : bm + 3 < wz.heap.size := (hvd.out.lt (bm + 3) rfl).2
    rw [← hhi] at hPz
    have hhi1 : bm + 3 < hi0 := by omega
    have hhi2 : hi0 ≤ wz.heap.size := by omega
    clear hvd hMd hAd hZd hPd hbd hbb0 hhi
    by_cases hneg : 0 ≤ at_
    · have hd1 : decide (0 ≤ at_) = true := decide_eq_true hneg
      have hd2 : decide (at_ < 4) = false := decide_eq_false (by omega)
      have hbsz := hide (show Bs wz (.slice (some ⟨bm + 3, 0, none⟩) m m) b0 by unfold Bs; rw [hb0]; exact Sl.own hvz.out)
      have hcv := str_conv wz _ _ hbsz.out
      have m0 := hMz.out.c0
      have m1 := hMz.out.c1
      have m2 := hMz.out.c2
      have m3 := hMz.out.c3
      have m4 := hMz.out.c4
      go_wp2_with fail
      refine (hPz.out.rload hhi2 b0 gr'.out.ok).mono ?_
      rintro e w2 ⟨u2, rfl, hp, hb⟩
      have gr2 := hide (gr'.out.load b0)
      generalize (r.load b0).1 = r2 at *
      generalize (r.load b0).2 = e1 at *
      obtain ⟨A5, c5, A6, n6, c6, o6, lf6, A7, n7, c7, rfl, _, _⟩ := hp.shape 4 gr2.out.n
      have hM2 := hMz.out.below hb
      have hA2 := hide (hAz.out.below hb)
      have hZ2 := hide (hZz.out.below hb)
      have hP2 := hide hp
      have hb2 := hide (hbz.out.trans (Bel.of hb (show base ≤ wz.heap.size by have := hbb.out; omega)))
      have hs2 := hb.size
      have hbs2 := hide (hbsz.out.below hb)
      clear m0 m1 m2 m3 m4 a1 a3 hMz hAz hZz hPz hbz hb hp gr' hvz hbsz hcv
      have t0 := hM2.z 0
      have t1 := hM2.z 1
      have t2 := hM2.z 2
      have t3 := hM2.z 3
      have t4 := hM2.z 4
      have m0 := hM2.c0
      have m1 := hM2.c1
      have m2 := hM2.c2
      have m3 := hM2.c3
      have m4 := hM2.c4
      have hM2' := hide hM2
      clear hM2
      go_upto_region 46 with (fail)
      have hT3 := touch_set5 (fun y => y = bm) w2 bm (.slice A5 4 c5) (.slice A6 n6 c6) (.bool o6) (.int .i64 lf6) (.slice A7 n7 c7) rfl
      have hM3 := hide (hM2'.out.set5 (.slice A5 4 c5) (.slice A6 n6 c6) (.bool o6) (.int .i64 lf6) (.slice A7 n7 c7))
      have hA3 := hide (hA2.out.later hT3.2 (by omega))
      have hZ3 := hide (hZ2.out.later hT3.2 (by omega))
      have hP3 := hide (hP2.out.touch hT3 (fun y e => by omega))
      have hb3 := hide (hb2.out.trans (Bel.touch hT3 (show base ≤ w2.heap.size by have := hbb.out; omega) (fun y hy e => by have := hbb.out; omega) (fun y e hx => by have := hXb.out y hx; omega)))
      have hs3 := hT3.2.1
      have hL3 := hide hT3.2
      clear t0 t1 t2 t3 t4 m0 m1 m2 m3 m4 hM2' hA2 hZ2 hP2 hb2 hT3
      generalize (((((w2.setCell ⟨bm, 0, none⟩ (.slice A5 4 c5)).setCell ⟨bm, 1, none⟩ (.slice A6 n6 c6)).setCell ⟨bm, 2, none⟩ (.bool o6)).setCell ⟨bm, 3, none⟩ (.int .i64 lf6)).setCell ⟨bm, 4, none⟩ (.slice A7 n7 c7)) = w3 at *
      have hbs3 := hide (hbs2.out.later hL3.out (fun y hy e => by cases hy; have e' : bm + 3 = bm := e; omega))
      obtain ⟨Fy, hFy⟩ : ∃ Fy : Nat → Prop, ∀ y, Fy y ↔ ¬ (bm ≤ y ∧ y < bm + 2) := ⟨_, fun _ => Iff.rfl⟩
      have hLy := hide (later_drew (F := Fy) w3)
      have f := fun w' (hl : Later Fy w3.drew w') => hM3.out.later (later_trans _ _ _ _ hLy.out hl) (fun h => (hFy bm).1 h (by omega))
      have f0 := fun w' hl => (f w' hl).c0
      have f1 := fun w' hl => (f w' hl).c1
      have f2 := fun w' hl => (f w' hl).c2
      have f3 := fun w' hl => (f w' hl).c3
      have f4 := fun w' hl => (f w' hl).c4
      clear f hL3 hbs2
      refine region_plan [(true, 0), (true, 1), (true, 2), (true, 4), (false, 3), (true, 5), (false, 6), (true, 7)] (Later Fy) (later_refl _) (later_trans _) (by kernel_rfl) (by kernel_rfl) (fun _ _ d _ _ h => by cases d <;> exact h) ?_
      repeat
        (first
          | (show wpPlan _ _ _ _ ((true, _) :: _) _ _
             refine plan_skip rfl (by rfl) ?_
             simp only [Act.put, List.setIfInBounds_toArray, List.set_cons_zero, List.set_cons_succ])
          | (show wpPlan _ _ _ _ ((false, _) :: _) _ _
             refine plan_skip_eff (later_refl _) rfl (by rfl) ?_
             simp only [Act.put, List.setIfInBounds_toArray, List.set_cons_zero, List.set_cons_succ])
          | (show wpPlan _ _ _ _ ((true, _) :: _) _ _
             refine plan_take (v := ?_) rfl (by rfl) (fun w' hw' => ?_) ?_
             rotate_left
             focus
               go_simp
               try with_reducible rfl
               done
             simp only [Act.put, List.setIfInBounds_toArray, List.set_cons_zero, List.set_cons_succ]))
      clear f0 f1 f2 f3 f4
      refine plan_eff rfl (by rfl) (fun K hK => ?_)
      go_wp2_with fail
      have hq : Below w3.heap.size w3 w3.drew := (Below.refl _ _).drew
      refine ((hP3.out.below hq).dload (show base ≤ w3.heap.size by have := hbb.out; omega) (show hi0 ≤ w3.heap.size by omega) (.slice (some ⟨bm + 3, 0, none⟩) m m) b0 (hbs3.out.below hq)).mono ?_
      rintro e w4 ⟨rfl, hp, hb, hkp⟩
      refine hK _ _ ⟨hkp.1, fun y hy hf => hkp.2 y hy (fun h => hf ((hFy y).2 (by omega)))⟩ ?_
      clear hK K
      have hZ4 := (hZ3.out.below hq).later hkp (by omega)
      have hP4 := hide hp
      have hb4 := hide ((hb3.out.trans (Bel.of hq (show base ≤ w3.heap.size by have := hbb.out; omega))).trans hb)
      have hs4 : w3.heap.size ≤ w4.heap.size := hkp.1
      have z0 := hZ4.c0
      have z1 := hZ4.c1
      have z2 := hZ4.c2
      have z3 := hZ4.c3
      have z4 := hZ4.c4
      have tz0 := hZ4.z 0
      have tz1 := hZ4.z 1
      have tz2 := hZ4.z 2
      have tz3 := hZ4.z 3
      have tz4 := hZ4.z 4
      clear hZ4
      have gd4 := hide (gd'.out.load b0)
      generalize (d.load b0).1 = d4 at *
      generalize (d.load b0).2 = e2 at *
      clear hZ3 hP3 hb3 hp hb hkp hq hA3 hM3 hLy hbs3
      try simp only [Act.put, List.setIfInBounds_toArray, List.set_cons_zero, List.set_cons_succ]
      repeat
        (first
          | (show wpPlan _ _ _ _ ((true, _) :: _) _ _
             refine plan_skip rfl (by rfl) ?_
             simp only [Act.put, List.setIfInBounds_toArray, List.set_cons_zero, List.set_cons_succ])
          | (show wpPlan _ _ _ _ ((false, _) :: _) _ _
             refine plan_skip_eff (later_refl _) rfl (by rfl) ?_
             simp only [Act.put, List.setIfInBounds_toArray, List.set_cons_zero, List.set_cons_succ])
          | (show wpPlan _ _ _ _ ((true, _) :: _) _ _
             refine plan_take (v := ?_) rfl (by rfl) (fun w' hw' => ?_) ?_
             rotate_left
             focus
               go_simp
               try with_reducible rfl
               done
             simp only [Act.put, List.setIfInBounds_toArray, List.set_cons_zero, List.set_cons_succ]))
      refine plan_eff rfl (by rfl) (fun K hK => ?_)
      go_wp2_with fail
      refine hK _ _ (touch_set5 Fy w4 (bm + 2) (.slice A5 4 c5) (.slice A6 n6 c6) (.bool o6) (.int .i64 lf6) (.slice A7 n7 c7) ((hFy (bm + 2)).2 (by omega))).2 ?_
      clear hK K
      try simp only [Act.put, List.setIfInBounds_toArray, List.set_cons_zero, List.set_cons_succ]
      repeat
        (first
          | (show wpPlan _ _ _ _ ((true, _) :: _) _ _
             refine plan_skip rfl (by rfl) ?_
             simp only [Act.put, List.setIfInBounds_toArray, List.set_cons_zero, List.set_cons_succ])
          | (show wpPlan _ _ _ _ ((false, _) :: _) _ _
             refine plan_skip_eff (later_refl _) rfl (by rfl) ?_
             simp only [Act.put, List.setIfInBounds_toArray, List.set_cons_zero, List.set_cons_succ])
          | (show wpPlan _ _ _ _ ((true, _) :: _) _ _
             refine plan_take (v := ?_) rfl (by rfl) (fun w' hw' => ?_) ?_
             rotate_left
             focus
               go_simp
               try with_reducible rfl
               done
             simp only [Act.put, List.setIfInBounds_toArray, List.set_cons_zero, List.set_cons_succ]))
      refine plan_nil ?_
      go_wp2_with fail
      have hT5 := touch_set5 (fun y => y = bm + 2) w4 (bm + 2) (.slice A5 4 c5) (.slice A6 n6 c6) (.bool o6) (.int .i64 lf6) (.slice A7 n7 c7) rfl
      have hP5 := (hP4.out.touch hT5 (fun y e => by omega)).wide (lo' := 0) (hi' := 0) (fun y _ e => by omega)
      have hb5 := hb4.out.trans (Bel.touch hT5 (show base ≤ w4.heap.size by have := hbb.out; omega) (fun y hy e => by have := hbb.out; omega) (fun y e hx => by have := hXb.out y hx; omega))
      refine bodyPost_ret (v := .tuple #[.agg #[.slice A5 4 c5, .slice A6 n6 c6, .bool o6, .int .i64 lf6, .slice A7 n7 c7], _]) (by simp [results, Try.results53, go_sem, z0, z1, z2, z3, z4]; rfl) rfl ⟨_, _, rfl, ⟨_, _, hP5, gr2.out.up, gd4.out.up⟩, hb5⟩
    · have hd1 : decide (0 ≤ at_) = false := decide_eq_false hneg
      have hbsz := hide (show Bs wz (.slice (some ⟨bm + 3, 0, none⟩) m m) b0 by unfold Bs; rw [hb0]; exact Sl.own hvz.out)
      have hcv := str_conv wz _ _ hbsz.out
      have m0 := hMz.out.c0
      have m1 := hMz.out.c1
      have m2 := hMz.out.c2
      have m3 := hMz.out.c3
      have m4 := hMz.out.c4
      go_wp2_with fail
      refine (hPz.out.rload hhi2 b0 gr'.out.ok).mono ?_
      rintro e w2 ⟨u2, rfl, hp, hb⟩
      have gr2 := hide (gr'.out.load b0)
      generalize (r.load b0).1 = r2 at *
      generalize (r.load b0).2 = e1 at *
      obtain ⟨A5, c5, A6, n6, c6, o6, lf6, A7, n7, c7, rfl, _, _⟩ := hp.shape 4 gr2.out.n
      have hM2 := hMz.out.below hb
      have hA2 := hide (hAz.out.below hb)
      have hZ2 := hide (hZz.out.below hb)
      have hP2 := hide hp
      have hb2 := hide (hbz.out.trans (Bel.of hb (show base ≤ wz.heap.size by have := hbb.out; omega)))
      have hs2 := hb.size
      have hbs2 := hide (hbsz.out.below hb)
      clear m0 m1 m2 m3 m4 a1 a3 hMz hAz hZz hPz hbz hb hp gr' hvz hbsz hcv
      have t0 := hM2.z 0
      have t1 := hM2.z 1
      have t2 := hM2.z 2
      have t3 := hM2.z 3
      have t4 := hM2.z 4
      have m0 := hM2.c0
      have m1 := hM2.c1
      have m2 := hM2.c2
      have m3 := hM2.c3
      have m4 := hM2.c4
      have hM2' := hide hM2
      clear hM2
      go_upto_region 46 with (fail)
      have hT3 := touch_set5 (fun y => y = bm) w2 bm (.slice A5 4 c5) (.slice A6 n6 c6) (.bool o6) (.int .i64 lf6) (.slice A7 n7 c7) rfl
      have hM3 := hide (hM2'.out.set5 (.slice A5 4 c5) (.slice A6 n6 c6) (.bool o6) (.int .i64 lf6) (.slice A7 n7 c7))
      have hA3 := hide (hA2.out.later hT3.2 (by omega))
      have hZ3 := hide (hZ2.out.later hT3.2 (by omega))
      have hP3 := hide (hP2.out.touch hT3 (fun y e => by omega))
      have hb3 := hide (hb2.out.trans (Bel.touch hT3 (show base ≤ w2.heap.size by have := hbb.out; omega) (fun y hy e => by have := hbb.out; omega) (fun y e hx => by have := hXb.out y hx; omega)))
      have hs3 := hT3.2.1
      have hL3 := hide hT3.2
      clear t0 t1 t2 t3 t4 m0 m1 m2 m3 m4 hM2' hA2 hZ2 hP2 hb2 hT3
      generalize (((((w2.setCell ⟨bm, 0, none⟩ (.slice A5 4 c5)).setCell ⟨bm, 1, none⟩ (.slice A6 n6 c6)).setCell ⟨bm, 2, none⟩ (.bool o6)).setCell ⟨bm, 3, none⟩ (.int .i64 lf6)).setCell ⟨bm, 4, none⟩ (.slice A7 n7 c7)) = w3 at *
      have hbs3 := hide (hbs2.out.later hL3.out (fun y hy e => by cases hy; have e' : bm + 3 = bm := e; omega))
      obtain ⟨Fy, hFy⟩ : ∃ Fy : Nat → Prop, ∀ y, Fy y ↔ ¬ (bm ≤ y ∧ y < bm + 2) := ⟨_, fun _ => Iff.rfl⟩
      have hLy := hide (later_drew (F := Fy) w3)
      have f := fun w' (hl : Later Fy w3.drew w') => hM3.out.later (later_trans _ _ _ _ hLy.out hl) (fun h => (hFy bm).1 h (by omega))
      have f0 := fun w' hl => (f w' hl).c0
      have f1 := fun w' hl => (f w' hl).c1
      have f2 := fun w' hl => (f w' hl).c2
      have f3 := fun w' hl => (f w' hl).c3
      have f4 := fun w' hl => (f w' hl).c4
      clear f hL3 hbs2
      refine region_plan [(true, 0), (true, 1), (true, 2), (true, 4), (false, 3), (true, 5), (false, 6), (true, 7)] (Later Fy) (later_refl _) (later_trans _) (by kernel_rfl) (by kernel_rfl) (fun _ _ d _ _ h => by cases d <;> exact h) ?_
      repeat
        (first
          | (show wpPlan _ _ _ _ ((true, _) :: _) _ _
             refine plan_skip rfl (by rfl) ?_
             simp only [Act.put, List.setIfInBounds_toArray, List.set_cons_zero, List.set_cons_succ])
          | (show wpPlan _ _ _ _ ((false, _) :: _) _ _
             refine plan_skip_eff (later_refl _) rfl (by rfl) ?_
             simp only [Act.put, List.setIfInBounds_toArray, List.set_cons_zero, List.set_cons_succ])
          | (show wpPlan _ _ _ _ ((true, _) :: _) _ _
             refine plan_take (v := ?_) rfl (by rfl) (fun w' hw' => ?_) ?_
             rotate_left
             focus
               go_simp
               try with_reducible rfl
               done
             simp only [Act.put, List.setIfInBounds_toArray, List.set_cons_zero, List.set_cons_succ]))
      clear f0 f1 f2 f3 f4
      refine plan_eff rfl (by rfl) (fun K hK => ?_)
      go_wp2_with fail
      have hq : Below w3.heap.size w3 w3.drew := (Below.refl _ _).drew
      refine ((hP3.out.below hq).dload (show base ≤ w3.heap.size by have := hbb.out; omega) (show hi0 ≤ w3.heap.size by omega) (.slice (some ⟨bm + 3, 0, none⟩) m m) b0 (hbs3.out.below hq)).mono ?_
      rintro e w4 ⟨rfl, hp, hb, hkp⟩
      refine hK _ _ ⟨hkp.1, fun y hy hf => hkp.2 y hy (fun h => hf ((hFy y).2 (by omega)))⟩ ?_
      clear hK K
      have hZ4 := (hZ3.out.below hq).later hkp (by omega)
      have hP4 := hide hp
      have hb4 := hide ((hb3.out.trans (Bel.of hq (show base ≤ w3.heap.size by have := hbb.out; omega))).trans hb)
      have hs4 : w3.heap.size ≤ w4.heap.size := hkp.1
      have z0 := hZ4.c0
      have z1 := hZ4.c1
      have z2 := hZ4.c2
      have z3 := hZ4.c3
      have z4 := hZ4.c4
      have tz0 := hZ4.z 0
      have tz1 := hZ4.z 1
      have tz2 := hZ4.z 2
      have tz3 := hZ4.z 3
      have tz4 := hZ4.z 4
      clear hZ4
      have gd4 := hide (gd'.out.load b0)
      generalize (d.load b0).1 = d4 at *
      generalize (d.load b0).2 = e2 at *
      clear hZ3 hP3 hb3 hp hb hkp hq hA3 hM3 hLy hbs3
      try simp only [Act.put, List.setIfInBounds_toArray, List.set_cons_zero, List.set_cons_succ]
      repeat
        (first
          | (show wpPlan _ _ _ _ ((true, _) :: _) _ _
             refine plan_skip rfl (by rfl) ?_
             simp only [Act.put, List.setIfInBounds_toArray, List.set_cons_zero, List.set_cons_succ])
          | (show wpPlan _ _ _ _ ((false, _) :: _) _ _
             refine plan_skip_eff (later_refl _) rfl (by rfl) ?_
             simp only [Act.put, List.setIfInBounds_toArray, List.set_cons_zero, List.set_cons_succ])
          | (show wpPlan _ _ _ _ ((true, _) :: _) _ _
             refine plan_take (v := ?_) rfl (by rfl) (fun w' hw' => ?_) ?_
             rotate_left
             focus
               go_simp
               try with_reducible rfl
               done
             simp only [Act.put, List.setIfInBounds_toArray, List.set_cons_zero, List.set_cons_succ]))
      refine plan_eff rfl (by rfl) (fun K hK => ?_)
      go_wp2_with fail
      refine hK _ _ (touch_set5 Fy w4 (bm + 2) (.slice A5 4 c5) (.slice A6 n6 c6) (.bool o6) (.int .i64 lf6) (.slice A7 n7 c7) ((hFy (bm + 2)).2 (by omega))).2 ?_
      clear hK K
      try simp only [Act.put, List.setIfInBounds_toArray, List.set_cons_zero, List.set_cons_succ]
      repeat
        (first
          | (show wpPlan _ _ _ _ ((true, _) :: _) _ _
             refine plan_skip rfl (by rfl) ?_
             simp only [Act.put, List.setIfInBounds_toArray, List.set_cons_zero, List.set_cons_succ])
          | (show wpPlan _ _ _ _ ((false, _) :: _) _ _
             refine plan_skip_eff (later_refl _) rfl (by rfl) ?_
             simp only [Act.put, List.setIfInBounds_toArray, List.set_cons_zero, List.set_cons_succ])
          | (show wpPlan _ _ _ _ ((true, _) :: _) _ _
             refine plan_take (v := ?_) rfl (by rfl) (fun w' hw' => ?_) ?_
             rotate_left
             focus
               go_simp
               try with_reducible rfl
               done
             simp only [Act.put, List.setIfInBounds_toArray, List.set_cons_zero, List.set_cons_succ]))
      refine plan_nil ?_
      go_wp2_with fail
      have hT5 := touch_set5 (fun y => y = bm + 2) w4 (bm + 2) (.slice A5 4 c5) (.slice A6 n6 c6) (.bool o6) (.int .i64 lf6) (.slice A7 n7 c7) rfl
      have hP5 := (hP4.out.touch hT5 (fun y e => by omega)).wide (lo' := 0) (hi' := 0) (fun y _ e => by omega)
      have hb5 := hb4.out.trans (Bel.touch hT5 (show base ≤ w4.heap.size by have := hbb.out; omega) (fun y hy e => by have := hbb.out; omega) (fun y e hx => by have := hXb.out y hx; omega))
      refine bodyPost_ret (v := .tuple #[.agg #[.slice A5 4 c5, .slice A6 n6 c6, .bool o6, .int .i64 lf6, .slice A7 n7 c7], _]) (by simp [results, Try.results53, go_sem, z0, z1, z2, z3, z4]; rfl) rfl ⟨_, _, rfl, ⟨_, _, hP5, gr2.out.up, gd4.out.up⟩, hb5⟩
end Go.Proofs.Ytamkngpkplflcaa
