/- The document's disk: Write walked to its end. -/
import Derived.Test.YtamkngpkplflcaaRefDisk5
namespace Go.Proofs.Ytamkngpkplflcaa
open Go.RowKit


theorem elem_wts : Elem Try.prog 69 100 2 24 := Elem.of (z := .agg #[.int .i64 0, .string ⟨#[]⟩]) Try.underlying69 (by kernel_rfl) rfl (by omega)
theorem wtsV_length (ws : List Wt) : (wtsV ws).length = ws.length * 2 := by induction ws with
  | nil => rfl
  | cons x ws ih => show ([_, _] ++ wtsV ws).length = _; rw [List.length_append, ih, List.length_cons]; simp; omega
theorem wtsV_one (ws : List Wt) : ∀ u ∈ wtsV ws, u.oneCell' = true := by
  intro u hu
  obtain ⟨x, hx, hu⟩ := List.mem_flatMap.1 hu
  simp only [List.mem_cons, List.not_mem_nil, or_false] at hu
  rcases hu with rfl | rfl <;> rfl
theorem wtsV_push (ws : List Wt) (x : Wt) : wtsV (ws ++ [x]) = wtsV ws ++ [.int .i64 (x.s : Nat), .string ⟨x.b.toArray⟩] := by simp [wtsV]
theorem Rk.step_n (r : Rk) : r.step.1.has.length = r.has.length := by unfold Rk.step Rk.crash Rk.laid; (repeat' split) <;> simp [rlayN_length]
theorem Rk.step_w (r : Rk) : r.step.1.waits.length ≤ r.waits.length := by unfold Rk.step Rk.crash Rk.laid; (repeat' split) <;> simp
def Rk.write (r : Rk) (a : Int) (b : List UInt8) : Rk × Int := if a < 0 ∨ (r.has.length : Int) ≤ a then (r, 4) else if b.length ≠ 64 then (r, 1) else if r.step.2 then ({ r.step.1 with waits := r.step.1.waits ++ [⟨a.toNat, b⟩] }, 0) else (r.step.1, 9)
set_option maxRecDepth 100000 in
set_option maxHeartbeats 1000000 in
theorem rwrite_go (B : Nat → Prop) (v : Value) (r : Rk) (s : Nat) (b : List UInt8) (w : World) (h : RkAt w B v r) (hs : s < r.has.length) (hz : b.length = 64) (ok : r.Ok) (hI : I64 r.left) (hwl : r.waits.length < 1000000) :
    Calls Try.prog 38 #[v, .int .i64 (s : Nat), .string ⟨b.toArray⟩] w fun e w' => ∃ u, e = .returned (.tuple #[u, .int .i64 (if r.step.2 then 0 else 9)]) ∧ RkAt w' (fun y => B y ∨ w.heap.size ≤ y) u (if r.step.2 then { r.step.1 with waits := r.step.1.waits ++ [⟨s, b⟩] } else r.step.1) ∧ Below w.heap.size w w' := by
  have ht := h.tight
  obtain ⟨A1, c1, A2, c2, A3, c3, rfl, h1, _⟩ := h
  have hcap : r.has.length ≤ c1 := by
    obtain ⟨A, c, e, hc, _⟩ := h1
    cases e
    exact hc
  have hn := ok.n
  generalize ho : r.off = o at ht ⊢
  have hR := hide ht
  have ok' := hide ok
  have hI' := hide hI
  have hwl' := hide (show r.step.1.waits.length < 1000000 from Nat.lt_of_le_of_lt r.step_w hwl)
  clear h1 ht ho ok hI hwl
  have hsI : (s : Int) < (r.has.length : Int) := by omega
  have hd : decide ((s : Int) < 0) = false := decide_eq_false (by omega)
  have hd2 : decide ((r.has.length : Int) ≤ (s : Int)) = false := decide_eq_false (by omega)
  have hd3 : ((b.length : Int) == 64) = true := by simp; omega
  have hd4 : decide ((b.length : Int) = 64) = true := decide_eq_true (by omega)
  have hd5 : (b.length == 64) = true := by simpa using hz
  have hd6 : decide (b.length = 64) = true := decide_eq_true hz
  obtain ⟨nn, hnn⟩ : ∃ nn : Int, nn = if r.step.2 then 0 else 9 := ⟨_, rfl⟩
  obtain ⟨rr, hrr⟩ : ∃ rr : Rk, rr = if r.step.2 then { r.step.1 with waits := r.step.1.waits ++ [⟨s, b⟩] } else r.step.1 := ⟨_, rfl⟩
  rw [← hnn, ← hrr]
  have hnn' := hide hnn
  have hrr' := hide hrr
  clear hnn hrr
  go_enter Try.func38, Try.ntmps38
  go_upto_region 1 with (fail)
  have hX1 := RBox.new w 71 (.slice A1 r.has.length c1) (.slice A2 r.waits.length c2) (.bool o) (.int .i64 r.left) (.slice A3 r.surv.length c3)
  have hbA : Below w.heap.size w (w.alloc (.cells #[.slice A1 r.has.length c1, .slice A2 r.waits.length c2, .bool o, .int .i64 r.left, .slice A3 r.surv.length c3] 71)) := (Below.refl _ _).alloc (Nat.le_refl _) _
  have hsA : (w.alloc (.cells #[.slice A1 r.has.length c1, .slice A2 r.waits.length c2, .bool o, .int .i64 r.left, .slice A3 r.surv.length c3] 71)).heap.size = w.heap.size + 1 := by simp
  generalize w.alloc (.cells #[.slice A1 r.has.length c1, .slice A2 r.waits.length c2, .bool o, .int .i64 r.left, .slice A3 r.surv.length c3] 71) = wa at *
  have hZ1 := RBox.new wa 71 (.slice none 0 0) (.slice none 0 0) (.bool false) (.int .i64 0) (.slice none 0 0)
  have hbB : Below wa.heap.size wa (wa.alloc (.cells #[.slice none 0 0, .slice none 0 0, .bool false, .int .i64 0, .slice none 0 0] 71)) := (Below.refl _ _).alloc (Nat.le_refl _) _
  have hX2 := hX1.below hbB
  have hb2 := hbA.trans (hbB.mono hbA.size)
  rw [hsA] at hZ1
  generalize wa.alloc (.cells #[.slice none 0 0, .slice none 0 0, .bool false, .int .i64 0, .slice none 0 0] 71) = wb at *
  have hX' := hide hX2
  have hZ' := hide hZ1
  have hb' := hide hb2
  clear hX1 hbA hsA hZ1 hbB hX2 hb2
  obtain ⟨bx, hbx⟩ : ∃ bx, bx = w.heap.size := ⟨_, rfl⟩
  rw [← hbx] at hX' hZ' ⊢
  have hbx' := hide hbx
  clear hbx
  have hbz := hide hZ'.out.lt
  have y0 := hX'.out.c0
  have y1 := hX'.out.c1
  have y2 := hX'.out.c2
  have y3 := hX'.out.c3
  have y4 := hX'.out.c4
  go_wp2_with fail
  refine (rstep_any _ _ r wb (hR.out.below hb'.out) ok'.out hI'.out).mono ?_
  rintro e w2 ⟨u, rfl, hu, hb⟩
  have hst := Rk.step_ok ok'.out
  have hX2 := hX'.out.below hb
  have hZ2 := hide (hZ'.out.below hb)
  have hb2 := hide (hb'.out.trans (hb.mono hb'.out.size))
  have hs2 := hide hb.size
  clear y0 y1 y2 y3 y4 hX' hZ' hb hd hd2 hd3 hd4 hd5 hd6
  generalize hq : r.step = q at *
  have hq' := hide hq
  clear hq
  obtain ⟨q, bo⟩ := q
  have hst' := hide hst
  have hu' := hide hu
  obtain ⟨A5, c5, A6, c6, A7, c7, rfl, _⟩ := hu
  have t0 := hX2.z 0
  have t1 := hX2.z 1
  have t2 := hX2.z 2
  have t3 := hX2.z 3
  have t4 := hX2.z 4
  have y0 := hX2.c0
  have y1 := hX2.c1
  have y2 := hX2.c2
  have y3 := hX2.c3
  have y4 := hX2.c4
  have hX2' := hide hX2
  clear hX2 hst
  go_upto_region 6 with (fail)
  have hT3 := touch_set5 (fun y => y = bx) w2 bx (.slice A5 q.has.length c5) (.slice A6 q.waits.length c6) (.bool q.off) (.int .i64 q.left) (.slice A7 q.surv.length c7) rfl
  have hX3 := hide (hX2'.out.set5 (.slice A5 q.has.length c5) (.slice A6 q.waits.length c6) (.bool q.off) (.int .i64 q.left) (.slice A7 q.surv.length c7))
  have hZ3 := hide (hZ2.out.later hT3.2 (by omega))
  have hu3 := hide (hu'.out.later hT3.2 (fun y hy e => by have := hbx'.out; have := hbz.out; rcases hy with hy | hy; have := hy.2; omega; omega))
  have hb3 := hide (hb2.out.trans (hT3.below hb2.out.size (fun y hy e => by have := hbx'.out; omega)))
  have hs3 := hide hT3.2.1
  clear t0 t1 t2 t3 t4 y0 y1 y2 y3 y4 hX2' hZ2 hu' hb2 hT3
  generalize (((((w2.setCell ⟨bx, 0, none⟩ (.slice A5 q.has.length c5)).setCell ⟨bx, 1, none⟩ (.slice A6 q.waits.length c6)).setCell ⟨bx, 2, none⟩ (.bool q.off)).setCell ⟨bx, 3, none⟩ (.int .i64 q.left)).setCell ⟨bx, 4, none⟩ (.slice A7 q.surv.length c7)) = w3 at *
  cases bo
  · have e1 := hnn'.out
    have e2 := hrr'.out
    simp only [Bool.false_eq_true, if_false] at e1 e2
    subst e1 e2
    obtain ⟨w4, rfl⟩ : ∃ w4 : World, w4 = w3 := ⟨_, rfl⟩
    have hX4 := hX3
    have hZ4 := hZ3
    have hb4 := hb3
    have hu4 := hu3
    clear hX3 hZ3 hu3 hb3
    have y0 := hX4.out.c0
    have y1 := hX4.out.c1
    have y2 := hX4.out.c2
    have y3 := hX4.out.c3
    have y4 := hX4.out.c4
    have z0 := hZ4.out.c0
    have z1 := hZ4.out.c1
    have z2 := hZ4.out.c2
    have z3 := hZ4.out.c3
    have z4 := hZ4.out.c4
    have tz0 := hZ4.out.z 0
    have tz1 := hZ4.out.z 1
    have tz2 := hZ4.out.z 2
    have tz3 := hZ4.out.z 3
    have tz4 := hZ4.out.z 4
    go_wp2_with fail
    have hT5 := touch_set5 (fun y => y = bx + 1) w4 (bx + 1) (.slice A5 rr.has.length c5) (.slice A6 rr.waits.length c6) (.bool rr.off) (.int .i64 rr.left) (.slice A7 rr.surv.length c7) rfl
    have hZ5 := hZ4.out.set5 (.slice A5 rr.has.length c5) (.slice A6 rr.waits.length c6) (.bool rr.off) (.int .i64 rr.left) (.slice A7 rr.surv.length c7)
    have hu5 := hu4.out.later hT5.2 (fun y hy e => by have := hbx'.out; have := hbz.out; rcases hy with hy | hy; have := hy.2; omega; omega)
    have hb5 := hb4.out.trans (hT5.below hb4.out.size (fun y hy e => by have := hbx'.out; omega))
    refine bodyPost_ret (v := .tuple #[.agg #[.slice A5 rr.has.length c5, .slice A6 rr.waits.length c6, .bool rr.off, .int .i64 rr.left, .slice A7 rr.surv.length c7], .int .i64 9]) (by simp [results, Try.results38, go_sem, z0, z1, z2, z3, z4]) rfl ⟨_, rfl, ?_, hb5⟩
    refine hu5.mono (fun y hy => ?_)
    have := hb'.out.size
    rcases hy with hy | hy
    · exact .inl hy.1
    · exact .inr (by omega)
  · have e1 := hnn'.out
    have e2 := hrr'.out
    simp only [if_true] at e1 e2
    subst e1 e2
    have y0 := hX3.out.c0
    have y1 := hX3.out.c1
    have hbxl := hX3.out.lt
    have hqn := hst'.out.n
    have hqw : q.waits.length < 1000000 := hwl'.out
    have hW3 := hide (show Wts w3 (.slice A6 q.waits.length c6) q.waits by
      obtain ⟨a1, b1, a2, b2, a3, b3, e, _, k2, _⟩ := hu3.out
      simp only [Value.agg.injEq, Array.mk.injEq, List.cons.injEq, and_true] at e
      rw [e.2.1]; exact k2)
    go_upto_region 8 with (fail)
    go_wp2_with ((at_builtin; refine list_app_any elem_wts rfl (.tmp 31) (.tmp 33) rfl w3.heap.size (.slice (some ⟨w3.heap.size, 0, none⟩) 0 0) 0 [] rfl (World.ownsRow_made _ #[] 0 (Nat.le_refl _) (by simp [maxLen]) rfl) (.slice A6 q.waits.length c6) q.waits.length (wtsV q.waits) rfl (Sl.below hW3.out ((Below.refl _ _).alloc (Nat.le_refl _) _)) (wtsV_one _) (by simp only [maxLen]; omega) (by omega) (by simp) ?_))
    intro v5 w5 hv hg hat
    have ho5 : w5.ownsRow w3.heap.size 100 2 v5 q.waits.length (wtsV q.waits) := by simpa using hv
    have hb35 : Below w3.heap.size w3 w5 := ((Below.refl _ _).alloc (Nat.le_refl _) _).grown hg (by simp) (by simp [Value.ownBlock])
    have ho5' := hide ho5
    have hb5' := hide hb35
    have hX5 := hide (hX3.out.below hb35)
    have y0 := hX5.out.c0
    have y1 := hX5.out.c1
    clear hv hg hat ho5 hb35
    have hx6 := hide (show Sl (w5.alloc (.cells #[.int .i64 (s : Nat), .string ⟨b.toArray⟩] 100)) 2 (.slice (some ⟨w5.heap.size, 0, none⟩) 1 1) 1 [.int .i64 (s : Nat), .string ⟨b.toArray⟩] from
      ⟨_, 1, rfl, Nat.le_refl _, by simp [maxLen], rfl, fun _ => ⟨w5.heap.size, 0, rfl, by simp, fun j u hu => by
        have := cell_of_row (w5.alloc (.cells #[.int .i64 (s : Nat), .string ⟨b.toArray⟩] 100)) w5.heap.size (0 + j) _ _ _ (heap_alloc_new w5 _)
        rw [this, Nat.zero_add, ← Array.getElem?_toList]
        exact hu⟩⟩)
    have hs35 := hb5'.out.size
    go_wp2_with ((at_builtin; refine list_app_any elem_wts rfl (.tmp 34) (.tmp 38) rfl w3.heap.size v5 q.waits.length (wtsV q.waits) rfl (own_later ho5'.out (later_alloc (F := fun _ => False) _ _) (fun _ _ h => h)) (.slice (some ⟨w5.heap.size, 0, none⟩) 1 1) 1 [.int .i64 (s : Nat), .string ⟨b.toArray⟩] rfl hx6.out (by simp [Value.oneCell']) (by simp only [maxLen]; omega) (by omega) (by simp; omega) ?_))
    intro v7 w7 hv hg hat
    rw [← wtsV_push q.waits ⟨s, b⟩] at hv
    have hl7 : Later (fun x => v5.ownBlock = some x) w5 w7 := later_trans _ _ _ _ (later_alloc _ _) (later_grown hg (fun _ h => h))
    have hn5 : ∀ x, v5.ownBlock = some x → w3.heap.size ≤ x := fun x hx => (ho5'.out.lt x hx).1
    have hb37 : Below w3.heap.size w3 w7 := hb5'.out.trans (((Below.refl _ _).alloc hs35 _).grown hg (Nat.le_trans hs35 (by simp)) hn5)
    have hX7 := hX5.out.later hl7 (fun e => by have := hn5 bx e; omega)
    have hv' := hide hv
    have hb7' := hide hb37
    have hX7' := hide hX7
    have y1 := hX7.c1
    have t1 := hX7.z 1
    have hbx7 := hX7.lt
    clear hv hg hat hl7 hn5 hb37 hX7 hx6 hX5
    have hvl := hide (show ∀ x, v7.ownBlock = some x → w3.heap.size ≤ x from fun x hx => (World.ownsRow.lt hv'.out x hx).1)
    obtain ⟨A9, c9, rfl, _⟩ := Sl.own hv'.out
    go_upto_region 9 with (fail)
    have hL4 : Later (fun x => x = bx) w3 (w7.setCell ⟨bx, 1, none⟩ (.slice A9 (q.waits.length + 1) c9)) :=
      later_trans _ _ w7 _ ⟨hb7'.out.size, fun k hk _ => (below_later hb7'.out (Nat.le_refl _)).2 k hk (fun h => h)⟩ (later_setCell (F := fun x => x = bx) w7 (p := ⟨bx, 1, none⟩) _ rfl)
    have hX4 := hide (hX7'.out.set1 (.slice A9 (q.waits.length + 1) c9))
    have hZ4 := hide (hZ3.out.later hL4 (by omega))
    have hbw := hb'.out.size
    have hb4 := hide ((hb3.out.trans (hb7'.out.mono hb3.out.size)).setCell (p := ⟨bx, 1, none⟩) (show w.heap.size ≤ bx by have := hbx'.out; omega) (.slice A9 (q.waits.length + 1) c9))
    have hw4 := own_later hv'.out (later_setCell (F := fun x => x = bx) w7 (p := ⟨bx, 1, none⟩) (.slice A9 (q.waits.length + 1) c9) rfl) (fun b' hb e => by have h1 : w3.heap.size ≤ b' := hvl.out b' hb; have e' : b' = bx := e; omega)
    obtain ⟨p, hp⟩ : ∃ p : Rk, p = { q with waits := q.waits ++ [⟨s, b⟩] } := ⟨_, rfl⟩
    have hpl : p.waits.length = q.waits.length + 1 := by rw [hp]; simp
    have hpw : p.waits = q.waits ++ [⟨s, b⟩] := by rw [hp]
    have hs23 := hs3.out
    have hsb2 := hs2.out
    have hu4 := hide (show RkAt (w7.setCell ⟨bx, 1, none⟩ (.slice A9 (q.waits.length + 1) c9)) (fun y => (B y ∧ y < w.heap.size) ∨ wb.heap.size ≤ y) (.agg #[.slice A5 q.has.length c5, .slice A9 (q.waits.length + 1) c9, .bool q.off, .int .i64 q.left, .slice A7 q.surv.length c7]) p by
      obtain ⟨a1, b1, a2, b2, a3, b3, e, k1, k2, k3, k4, k5, k6⟩ := hu3.out
      simp only [Value.agg.injEq, Array.mk.injEq, List.cons.injEq, and_true] at e
      obtain ⟨e1, e2, _, _, e5⟩ := e
      have hne : ∀ y, ((B y ∧ y < w.heap.size) ∨ wb.heap.size ≤ y) → ¬ y = bx := fun y hy e => by
        have := hbx'.out
        have := hbz.out
        rcases hy with hy | hy
        · have := hy.2; omega
        · omega
      have g1 : p.has = q.has := by rw [hp]
      have g3 : p.surv = q.surv := by rw [hp]
      refine ⟨a1, b1, A9, c9, a3, b3, by rw [hpl, e1, e5, hp], ?_, ?_, ?_, ?_, ?_, ?_⟩
      · rw [g1]; exact Sl.kept0 k1 hL4.1 (fun hp b hb hlt => hL4.2 b hlt (hne b (k4 hp b hb)))
      · rw [hpl]; unfold Wts; rw [hpl, hpw]; exact Sl.own hw4
      · rw [g3]; exact Sl.kept0 k3 hL4.1 (fun hp b hb hlt => hL4.2 b hlt (hne b (k6 hp b hb)))
      · rw [g1]; exact k4
      · rw [hpl]; intro _ y hy; have h1 : w3.heap.size ≤ y := hvl.out y hy; exact .inr (by omega)
      · rw [g3]; exact k6)
    have hp' := hide hp
    clear hp hpl hpw hw4 hL4 hX7' hX3 hZ3 hb3 hu3 y1 t1 hv' hvl hb7' hW3
    generalize w7.setCell ⟨bx, 1, none⟩ (.slice A9 (q.waits.length + 1) c9) = w4 at *
    have y0 := hX4.out.c0
    have y1 := hX4.out.c1
    have y2 := hX4.out.c2
    have y3 := hX4.out.c3
    have y4 := hX4.out.c4
    have z0 := hZ4.out.c0
    have z1 := hZ4.out.c1
    have z2 := hZ4.out.c2
    have z3 := hZ4.out.c3
    have z4 := hZ4.out.c4
    have tz0 := hZ4.out.z 0
    have tz1 := hZ4.out.z 1
    have tz2 := hZ4.out.z 2
    have tz3 := hZ4.out.z 3
    have tz4 := hZ4.out.z 4
    go_wp2_with fail
    have hT5 := touch_set5 (fun y => y = bx + 1) w4 (bx + 1) (.slice A5 q.has.length c5) (.slice A9 (q.waits.length + 1) c9) (.bool q.off) (.int .i64 q.left) (.slice A7 q.surv.length c7) rfl
    have hZ5 := hZ4.out.set5 (.slice A5 q.has.length c5) (.slice A9 (q.waits.length + 1) c9) (.bool q.off) (.int .i64 q.left) (.slice A7 q.surv.length c7)
    have hu5 := hu4.out.later hT5.2 (fun y hy e => by have := hbx'.out; have := hbz.out; rcases hy with hy | hy; have := hy.2; omega; omega)
    have hb5 := hb4.out.trans (hT5.below hb4.out.size (fun y hy e => by have := hbx'.out; omega))
    refine bodyPost_ret (v := .tuple #[.agg #[.slice A5 q.has.length c5, .slice A9 (q.waits.length + 1) c9, .bool q.off, .int .i64 q.left, .slice A7 q.surv.length c7], .int .i64 0]) (by simp [results, Try.results38, go_sem, z0, z1, z2, z3, z4]) rfl ⟨_, rfl, ?_, hb5⟩
    rw [← hp'.out]
    refine hu5.mono (fun y hy => ?_)
    have := hb'.out.size
    rcases hy with hy | hy
    · exact .inl hy.1
    · exact .inr (by omega)
theorem rwrite_any (B : Nat → Prop) (v : Value) (r : Rk) (a : Int) (b : List UInt8) (w : World) (h : RkAt w B v r) (ok : r.Ok) (hI : I64 r.left) (hwl : r.waits.length < 1000000) :
    Calls Try.prog 38 #[v, .int .i64 a, .string ⟨b.toArray⟩] w fun e w' => ∃ u, e = .returned (.tuple #[u, .int .i64 (r.write a b).2]) ∧ RkAt w' (fun y => B y ∨ w.heap.size ≤ y) u (r.write a b).1 ∧ Below w.heap.size w w' := by
  unfold Rk.write
  by_cases h0 : a < 0
  · rw [if_pos (.inl h0)]
    exact rwrite_neg B v r a b w h h0 ok
  · by_cases hs : (r.has.length : Int) ≤ a
    · rw [if_pos (.inr hs)]
      exact rwrite_big B v r a b w h h0 hs ok
    · rw [if_neg (by omega)]
      by_cases hz : b.length = 64
      · rw [if_neg (by simpa using hz)]
        obtain ⟨s, rfl⟩ : ∃ s : Nat, a = (s : Int) := ⟨a.toNat, by omega⟩
        have := rwrite_go B v r s b w h (by omega) hz ok hI hwl
        rw [Int.toNat_natCast]
        cases hst : r.step.2
        · simpa only [hst, Bool.false_eq_true, if_false] using this
        · simpa only [hst, if_true] using this
      · rw [if_pos hz]
        exact rwrite_size B v r a b w h h0 hs hz ok
end Go.Proofs.Ytamkngpkplflcaa
