/- disk.Write, Arm, Load, Waiting walked; a disk with the set of its blocks. -/
import Derived.Test.YtamkngpkplflcaaDiskFlush
namespace Go.Proofs.Ytamkngpkplflcaa
open Go.RowKit

theorem waitsV_push (ws : List Wt) (q : List Value) (hq : q.length = ws.length) (x : Wt) (v : Value) : waitsV (ws ++ [x]) (q ++ [v]) = waitsV ws q ++ [Value.int .i64 (x.s : Nat), v] := by
  unfold waitsV
  rw [List.zip_append hq.symm, List.flatMap_append]
  simp
theorem waitsV_one (ws : List Wt) (q : List Value) (hq : ∀ v ∈ q, v.oneCell' = true) : ∀ u ∈ waitsV ws q, u.oneCell' = true := by
  intro u hu
  unfold waitsV at hu
  obtain ⟨x, hx, hu⟩ := List.mem_flatMap.1 hu
  simp only [List.mem_cons, List.not_mem_nil, or_false] at hu
  rcases hu with rfl | rfl
  · rfl
  · exact hq _ (List.of_mem_zip hx).2

theorem DkAt.push {w w' : World} {g h : Nat} {vw vs : Value} {q : List Value} {d : Dk} (a : DkAt w g h vw vs q d) (t : Later (fun x => x = g ∨ vw.ownBlock = some x) w w') (z : ∀ j, w'.frozen? ⟨g, j, none⟩ = false)
    (c0 : w'.cell? ⟨g, 0, none⟩ = w.cell? ⟨g, 0, none⟩) (vw' : Value) (c1 : w'.cell? ⟨g, 1, none⟩ = some vw') (c2 : w'.cell? ⟨g, 2, none⟩ = w.cell? ⟨g, 2, none⟩) (c3 : w'.cell? ⟨g, 3, none⟩ = w.cell? ⟨g, 3, none⟩)
    (c4 : w'.cell? ⟨g, 4, none⟩ = w.cell? ⟨g, 4, none⟩) (c5 : w'.cell? ⟨g, 5, none⟩ = w.cell? ⟨g, 5, none⟩) (s : Nat) (hs : s < d.n) (b : List UInt8) (hb : b.length = 64) (bu c : Nat) (hbu : bu ≠ g ∧ bu ≠ h ∧ vw.ownBlock ≠ some bu)
    (hub : Bs w' (.slice (some ⟨bu, 0, none⟩) 64 c) b) (hws : w'.ownsRow 0 94 2 vw' (d.waits.length + 1) (waitsV d.waits q ++ [.int .i64 (s : Nat), .slice (some ⟨bu, 0, none⟩) 64 c]))
    (hv : vw'.ownBlock = vw.ownBlock ∨ ∃ x, vw'.ownBlock = some x ∧ bu < x ∧ w.heap.size ≤ x) : DkAt w' g h vw' vs (q ++ [.slice (some ⟨bu, 0, none⟩) 64 c]) { d with waits := d.waits ++ [⟨s, b⟩] } := by
  have hgl := a.lt
  have hhl := (a.has.lt h rfl).2
  have hwl : ∀ x, vw.ownBlock = some x → x < w.heap.size := fun x hx => (a.ws.lt x hx).2
  refine ⟨Nat.lt_of_lt_of_le a.lt t.1, c0.trans a.c0, c1, c2.trans a.c2, c3.trans a.c3, c4.trans a.c4, c5.trans a.c5, z, own_later a.has t (fun b hb e => ?_), ?_, ?_, fun i hi => ?_, own_later a.sv t (fun b hb e => ?_), a.d1, fun x hx => ?_, fun x hx => ?_, ⟨a.ok.n1, a.ok.n2, a.ok.len, fun w hw => ?_, a.ok.left⟩⟩
  · cases hb
    rcases e with e | e
    · exact a.d1 e.symm
    · exact (a.d2 _ e).2 rfl
  · rw [waitsV_push _ _ a.ql, List.length_append]; exact hws
  · simp [a.ql]
  · rw [List.length_append] at hi
    by_cases hil : i < d.waits.length
    · obtain ⟨v, h1, h2, bb, cc, rfl, hg, hh, hw⟩ := a.qb i hil
      refine ⟨_, by rw [List.getElem?_append_left (by rw [a.ql]; exact hil)]; exact h1, ?_, bb, cc, rfl, hg, hh, ?_⟩
      · simp only [List.getElem_append_left hil]
        exact h2.later t (fun b' hb' e => by
          cases hb'
          rcases e with e | e
          · exact hg e
          · exact hw e)
      · have hbl := h2.lt (by intro e; have := (a.ok.wt _ (List.getElem_mem hil)).2; rw [e] at this; simp at this) bb rfl
        rcases hv with hv | ⟨x, hv, hx, hx2⟩
        · rw [hv]; exact hw
        · rw [hv]; intro e; injection e with e; omega
    · obtain ⟨hb1, hb2, hb3⟩ := hbu
      simp only [List.length_cons, List.length_nil] at hi
      obtain rfl : i = d.waits.length := by omega
      refine ⟨.slice (some ⟨bu, 0, none⟩) 64 c, by rw [List.getElem?_append_right (by rw [a.ql]; exact Nat.le_refl _), a.ql]; simp, ?_, bu, c, rfl, hb1, hb2, ?_⟩
      · simpa using hub
      · rcases hv with hv | ⟨x, hv, hx, hx2⟩
        · rw [hv]; exact hb3
        · rw [hv]; intro e; injection e with e; omega
  · rcases e with e | e
    · exact (a.d3 b hb).1 e
    · exact (a.d3 b hb).2.2 e
  · rcases hv with hv | ⟨y, hv, hy, hy2⟩
    · rw [hv] at hx; exact a.d2 x hx
    · rw [hv] at hx; injection hx with hx; omega
  · obtain ⟨k1, k2, k3⟩ := a.d3 x hx
    refine ⟨k1, k2, ?_⟩
    rcases hv with hv | ⟨y, hv, hy, hy2⟩
    · rw [hv]; exact k3
    · rw [hv]; intro e; injection e with e; have := (a.sv.lt x hx).2; omega
  · rcases List.mem_append.1 hw with hw | hw
    · exact a.ok.wt w hw
    · simp only [List.mem_cons, List.not_mem_nil, or_false] at hw
      subst hw
      exact ⟨hs, hb⟩

set_option maxRecDepth 100000 in
set_option maxHeartbeats 1000000 in
/-- a write that waits -/
theorem dwrite_ok (g h : Nat) (vw0 vs : Value) (q0 : List Value) (d0 : Dk) (at_ : Nat) (hat : at_ < d0.n) (bv : Value) (b : List UInt8) (hb : b.length = 64) (hbv : ∀ x, bv.ownBlock = some x → x ≠ g ∧ x ≠ h) (w : World) (a : DkAt w g h vw0 vs q0 d0) (hbs : Bs w bv b) (hwl : d0.waits.length ≤ 1000000) :
    Calls Try.prog 26 #[.pointer (some ⟨g, 0, none⟩), .int .i64 at_, bv] w fun e w' => e = .returned (.int .i64 (d0.write at_ b).2) ∧ Touch (DkB g h vw0 vs q0) w w' ∧ ∃ vw' q', DkAt w' g h vw' vs q' (d0.write at_ b).1 ∧ ∀ x, DkB g h vw' vs q' x → DkB g h vw0 vs q0 x ∨ w.heap.size ≤ x := by
  have a0 := hide a
  have hin := hide (show inB d0 at_ = true from decide_eq_true (by omega))
  have hw0 : d0.write at_ b = if d0.goes.2 then ({ d0.goes.1 with waits := d0.goes.1.waits ++ [⟨at_, b⟩] }, 0) else (d0.goes.1, 9) := by
    unfold Dk.write
    rw [if_neg (by simp; omega), if_neg (by simp [hb])]
    simp
  rw [hw0]
  have hg := dgoes_any g h vw0 vs q0 d0 w a
  have hgn : d0.goes.1.n = d0.n ∧ d0.goes.1.waits.length ≤ d0.waits.length := by unfold Dk.goes Dk.crash; (repeat' split) <;> simp
  obtain ⟨hgn, hgw⟩ := hgn
  rw [← hgn] at hat
  have hat' := hide hat
  have hwl' : d0.goes.1.waits.length ≤ 1000000 := by omega
  obtain ⟨BA, bc, rfl, hbc1, hbc2, hbc3⟩ := hbs.open_
  rw [hb] at hbc1 ⊢
  have hbs' := hide (show Bs w (.slice BA 64 bc) b by rw [← hb]; exact hbs)
  rw [hb] at hbv
  have hbv' := hide hbv
  have hb' := hide hb
  clear a hw0 hgn hgw hat hbs hb hbv hwl hbc3
  generalize d0.goes.1 = d at *
  generalize d0.goes.2 = r at *
  have hg' := hide hg
  clear hg
  go_enter Try.func26, Try.ntmps26
  go_wp2_with fail
  refine (din_any g h vw0 vs q0 d0 at_ w a0.out).mono ?_
  rintro e w1 ⟨rfl, rfl⟩
  rw [hin.out]
  go_wp2_with fail
  refine hg'.out.mono ?_
  rintro e w2 ⟨rfl, hT1, vw, q, a, hsub⟩
  have hT1' := hide hT1
  have hsub' := hide hsub
  clear hT1 hsub hg'
  have a' := hide a
  have hTB := hide (hT1'.out.mono (G := DkB g h vw0 vs q0) (fun x _ h => by rcases h with h | h; exact .inl h; exact .inr (.inl h)))
  clear a
  cases r
  · go_wp2_with fail
    go_ret
    exact ⟨rfl, hTB.out, vw, q, a'.out, fun x hx => .inl (hsub'.out x hx)⟩
  · have hs2 := hide hT1'.out.size
    have hdr : Q w2 w2.drew := Q.drew (Q.refl _)
    have a2 := hide (a'.out.quiet hdr)
    have hTd := hide (hTB.out.q hdr)
    have hbs2 := hide (show Sl w2.drew 1 (.slice BA 64 bc) 64 (bytesV b) by
      have := (hbs'.out.later hT1'.out.2 (fun x hx e => by have := hbv'.out x hx; rcases e with e | e; exact this.1 e; exact this.2 e)).q hdr
      unfold Bs at this
      rw [hb'.out] at this
      exact this)
    obtain ⟨W, cw, hvw, hcw, hcm, _⟩ := Sl.own a2.out.ws
    have f1 : ∀ w', Later (fun x => vw.ownBlock = some x) w2.drew w' → w'.cell? ⟨g, 1, none⟩ = some (.slice W d.waits.length cw) := fun w' hl => by
      rw [← hvw]
      exact (Later.cell hl a2.out.lt (fun e => (a2.out.d2 g e).1 rfl)).1.trans a2.out.c1
    have hvw' := hide hvw
    clear hdr hvw hcw hcm
    go_wp2_with fail
    refine region_plan [(true, 0), (true, 1), (true, 2), (true, 3), (true, 4), (true, 5), (true, 6), (false, 7), (true, 8), (false, 9), (false, 10), (true, 11), (true, 12), (false, 13)] (Later fun x => vw.ownBlock = some x) (later_refl _) (later_trans _) (by kernel_rfl) (by kernel_rfl) (fun _ _ d _ _ h => by cases d <;> exact h) ?_
    repeat
      (first
        | (show wpPlan _ _ _ _ ((true, _) :: _) _ _
           refine plan_skip rfl (by rfl) ?_
           simp only [Act.put, List.setIfInBounds_toArray, List.set_cons_zero, List.set_cons_succ])
        | (show wpPlan _ _ _ _ ((false, _) :: _) _ _
           refine plan_skip_eff (later_refl _) rfl (by rfl) ?_
           simp only [Act.put, List.setIfInBounds_toArray, List.set_cons_zero, List.set_cons_succ])
        | (show wpPlan _ _ _ _ ((true, _) :: _) _ _
           refine plan_take (v := ?_) rfl (by rfl) (fun w' hw' => ?_) ?_
           rotate_left
           focus
             go_simp
             try with_reducible rfl
             done
           simp only [Act.put, List.setIfInBounds_toArray, List.set_cons_zero, List.set_cons_succ]))
    clear f1
    refine plan_eff rfl (by rfl) (fun K hK => ?_)
    refine wp_app_any elem_bytes (.const (.slice none 0 0)) (.tmp 23) rfl w2.drew.heap.size (.slice none 0 0) 0 [] rfl (World.ownsRow_nil _ _ _ _) (.slice BA 64 bc) 64 (bytesV b) rfl hbs2.out (bytesV_one _) (by simp only [maxLen]; omega) (by omega) (Nat.le_refl _) ?_
    intro u w3 hu hgu hau
    refine hK _ _ (later_grown hgu (fun _ h => by cases h)) ?_
    clear hK K
    have hT3 : Touch (fun _ => False) w2.drew w3 := ⟨(Below.refl _ _).grown hgu (Nat.zero_le _) (by intro k hk; cases hk), later_grown hgu (by intro k hk; cases hk)⟩
    rw [Nat.zero_add, List.nil_append] at hu
    obtain ⟨bu, c, rfl⟩ : ∃ bu c, u = .slice (some ⟨bu, 0, none⟩) 64 c := by
      rcases hu.2 with ⟨_, h0⟩ | ⟨bu, c, _, h0, _⟩
      · omega
      · exact ⟨bu, c, h0⟩
    have hbu := hu.lt bu rfl
    have hbu1 : w2.heap.size ≤ bu := hbu.1
    have hbu2 := hbu.2
    have hub := hide (show Bs w3 (.slice (some ⟨bu, 0, none⟩) 64 c) b by unfold Bs; rw [hb'.out]; exact Sl.own hu)
    have a3 := hide (a2.out.later (F := fun _ => False) hT3.2 (fun _ _ h => h))
    have hT3' := hide hT3
    have hs3 : w2.heap.size ≤ w3.heap.size := hT3.size
    clear hu hgu hau hT3 hbu
    try simp only [Act.put, List.setIfInBounds_toArray, List.set_cons_zero, List.set_cons_succ]
    repeat
      (first
        | (show wpPlan _ _ _ _ ((true, _) :: _) _ _
           refine plan_skip rfl (by rfl) ?_
           simp only [Act.put, List.setIfInBounds_toArray, List.set_cons_zero, List.set_cons_succ])
        | (show wpPlan _ _ _ _ ((false, _) :: _) _ _
           refine plan_skip_eff (later_refl _) rfl (by rfl) ?_
           simp only [Act.put, List.setIfInBounds_toArray, List.set_cons_zero, List.set_cons_succ])
        | (show wpPlan _ _ _ _ ((true, _) :: _) _ _
           refine plan_take (v := ?_) rfl (by rfl) (fun w' hw' => ?_) ?_
           rotate_left
           focus
             go_simp
             try with_reducible rfl
             done
           simp only [Act.put, List.setIfInBounds_toArray, List.set_cons_zero, List.set_cons_succ]))
    refine plan_eff rfl (by rfl) (fun K hK => ?_)
    go_wp2_with fail
    refine hK _ _ (later_alloc _ _) ?_
    clear hK K
    have hwb : Below w3.heap.size w3 (w3.alloc (.cells #[.int .i64 at_, .slice (some ⟨bu, 0, none⟩) 64 c] 94)) := (Below.refl _ _).alloc (Nat.le_refl _) _
    have a4 := hide (a3.out.below hwb)
    have hub4 := hide (hub.out.below hwb)
    have hT4 := hide (hT3'.out.alloc (.cells #[.int .i64 at_, .slice (some ⟨bu, 0, none⟩) 64 c] 94))
    have hx4 := hide (show Sl (w3.alloc (.cells #[.int .i64 at_, .slice (some ⟨bu, 0, none⟩) 64 c] 94)) 2 (.slice (some ⟨w3.heap.size, 0, none⟩) 1 1) 1 [.int .i64 at_, .slice (some ⟨bu, 0, none⟩) 64 c] from
      ⟨_, 1, rfl, Nat.le_refl _, by simp [maxLen], rfl, fun _ => ⟨w3.heap.size, 0, rfl, by simp, fun j u hu => by
        have := cell_of_row (w3.alloc (.cells #[.int .i64 at_, .slice (some ⟨bu, 0, none⟩) 64 c] 94)) w3.heap.size (0 + j) _ _ _ (heap_alloc_new w3 _)
        rw [this, Nat.zero_add, ← Array.getElem?_toList]
        exact hu⟩⟩)
    have hs4 : w3.heap.size < (w3.alloc (.cells #[.int .i64 at_, .slice (some ⟨bu, 0, none⟩) 64 c] 94)).heap.size := by simp
    have hs4' : (w3.alloc (.cells #[.int .i64 at_, .slice (some ⟨bu, 0, none⟩) 64 c] 94)).heap.size = w3.heap.size + 1 := by simp
    clear hwb
    generalize w3.alloc (.cells #[.int .i64 at_, .slice (some ⟨bu, 0, none⟩) 64 c] 94) = w4 at *
    try simp only [Act.put, List.setIfInBounds_toArray, List.set_cons_zero, List.set_cons_succ]
    repeat
      (first
        | (show wpPlan _ _ _ _ ((true, _) :: _) _ _
           refine plan_skip rfl (by rfl) ?_
           simp only [Act.put, List.setIfInBounds_toArray, List.set_cons_zero, List.set_cons_succ])
        | (show wpPlan _ _ _ _ ((false, _) :: _) _ _
           refine plan_skip_eff (later_refl _) rfl (by rfl) ?_
           simp only [Act.put, List.setIfInBounds_toArray, List.set_cons_zero, List.set_cons_succ])
        | (show wpPlan _ _ _ _ ((true, _) :: _) _ _
           refine plan_take (v := ?_) rfl (by rfl) (fun w' hw' => ?_) ?_
           rotate_left
           focus
             go_simp
             try with_reducible rfl
             done
           simp only [Act.put, List.setIfInBounds_toArray, List.set_cons_zero, List.set_cons_succ]))
    refine plan_eff rfl (by rfl) (fun K hK => ?_)
    refine wp_app_any elem_writes (.tmp 21) (.tmp 26) rfl 0 vw d.waits.length (waitsV d.waits q) (by rw [hvw'.out]; rfl) a4.out.ws (.slice (some ⟨w3.heap.size, 0, none⟩) 1 1) 1 [.int .i64 at_, .slice (some ⟨bu, 0, none⟩) 64 c] rfl hx4.out (by simp [Value.oneCell']) (by simp only [maxLen]; omega) (by omega) (Nat.zero_le _) ?_
    intro V5 w5 hv5 hg5 ha5
    obtain ⟨A5, c5, hv5e, _, _, _⟩ := Sl.own hv5
    subst hv5e
    refine hK _ _ (later_grown hg5 (fun _ h => h)) ?_
    clear hK K
    have hL5 : Later (fun x => vw.ownBlock = some x) w4 w5 := later_grown hg5 (fun _ h => h)
    have hgn : ¬ vw.ownBlock = some g := fun e => (a4.out.d2 g e).1 rfl
    have e5 := fun o => Later.cell hL5 (o := o) a4.out.lt hgn
    have x1 : w5.cell? ⟨g, 1, none⟩ = some vw := (e5 1).1.trans a4.out.c1
    have t1 : w5.frozen? ⟨g, 1, none⟩ = false := (e5 1).2.trans (a4.out.thaw 1)
    have hT5 : Touch (fun x => vw.ownBlock = some x) w4 w5 := ⟨(Below.refl _ _).grown hg5 (Nat.zero_le _) (fun _ _ => Nat.zero_le _), hL5⟩
    have hT5' := hide hT5
    have e5' := hide e5
    have hv5' := hide hv5
    have ha5' := hide ha5
    have hub5 := hide (hub4.out.later hL5 (fun x hx e => by cases hx; have := (a2.out.ws.lt _ e).2; have : bu < w2.heap.size := this; omega))
    clear hv5 hg5 ha5 hL5 hgn e5 hT5
    try simp only [Act.put, List.setIfInBounds_toArray, List.set_cons_zero, List.set_cons_succ]
    repeat
      (first
        | (show wpPlan _ _ _ _ ((true, _) :: _) _ _
           refine plan_skip rfl (by rfl) ?_
           simp only [Act.put, List.setIfInBounds_toArray, List.set_cons_zero, List.set_cons_succ])
        | (show wpPlan _ _ _ _ ((false, _) :: _) _ _
           refine plan_skip_eff (later_refl _) rfl (by rfl) ?_
           simp only [Act.put, List.setIfInBounds_toArray, List.set_cons_zero, List.set_cons_succ])
        | (show wpPlan _ _ _ _ ((true, _) :: _) _ _
           refine plan_take (v := ?_) rfl (by rfl) (fun w' hw' => ?_) ?_
           rotate_left
           focus
             go_simp
             try with_reducible rfl
             done
           simp only [Act.put, List.setIfInBounds_toArray, List.set_cons_zero, List.set_cons_succ]))
    refine plan_eff_last (by kernel_rfl) rfl (by rfl) (fun K hK => ?_)
    go_wp2_with fail
    go_ret
    have hT6 : Touch (fun x => x = g ∨ vw.ownBlock = some x) w4 (w5.setCell ⟨g, 1, none⟩ (.slice A5 (d.waits.length + 1) c5)) := (hT5'.out.mono (fun _ _ h => .inr h)).trans ((Touch.refl (fun x => x = g ∨ vw.ownBlock = some x) w5).setCell (p := ⟨g, 1, none⟩) (.inl rfl) (.slice A5 (d.waits.length + 1) c5))
    have hv6 := own_later hv5'.out (later_setCell (F := fun x => x = g) w5 (p := ⟨g, 1, none⟩) (.slice A5 (d.waits.length + 1) c5) rfl) (fun b hb e => by
      rcases ha5'.out with ha | ha
      · rw [ha] at hb; exact (a4.out.d2 b hb).1 e
      · rw [ha] at hb; injection hb with hb; have := a4.out.lt; omega)
    have hub6 := hub5.out.later (later_setCell (F := fun x => x = g) w5 (p := ⟨g, 1, none⟩) (.slice A5 (d.waits.length + 1) c5) rfl) (fun b hb e => by cases hb; have := (show g < w2.heap.size from a2.out.lt); have e' : bu = g := e; omega)
    have hP := a4.out.push hT6.2 (fun j => by rw [World.frozen?_setCell]; exact (e5'.out j).2.trans (a4.out.thaw j)) ((World.cell?_setCell_other _ _ _ _ (by simp)).trans (e5'.out 0).1) (.slice A5 (d.waits.length + 1) c5) (World.cell?_setCell_same _ _ _ x1) ((World.cell?_setCell_other _ _ _ _ (by simp)).trans (e5'.out 2).1) ((World.cell?_setCell_other _ _ _ _ (by simp)).trans (e5'.out 3).1) ((World.cell?_setCell_other _ _ _ _ (by simp)).trans (e5'.out 4).1) ((World.cell?_setCell_other _ _ _ _ (by simp)).trans (e5'.out 5).1) at_ hat'.out b hb'.out bu c ?_ hub6 hv6 ?_
    · refine ⟨rfl, ?_, .slice A5 (d.waits.length + 1) c5, _, hP, fun x hx => ?_⟩
      · refine (hTd.out.trans (hT4.out.mono (fun _ _ h => h.elim))).trans (hT6.mono fun x _ h => ?_)
        rcases h with h | h
        · exact .inl h
        · exact hsub'.out x (.inr (.inr (.inl h)))
      · rcases hx with hx | hx | hx | hx | ⟨v, hv, hx⟩
        · exact .inl (.inl hx)
        · exact .inl (.inr (.inl hx))
        · rcases ha5'.out with ha | ha
          · rw [ha] at hx; exact .inl (hsub'.out x (.inr (.inr (.inl hx))))
          · rw [ha] at hx; injection hx with hx; right; have := hs2.out; omega
        · exact .inl (hsub'.out x (.inr (.inr (.inr (.inl hx)))))
        · rcases List.mem_append.1 hv with hv | hv
          · exact .inl (hsub'.out x (.inr (.inr (.inr (.inr ⟨v, hv, hx⟩)))))
          · simp only [List.mem_cons, List.not_mem_nil, or_false] at hv
            subst hv
            cases hx
            have := hs2.out; exact .inr (show w1.heap.size ≤ bu by omega)
    · have hg2 : g < w2.heap.size := a2.out.lt
      have hh2 : h < w2.heap.size := (a2.out.has.lt h rfl).2
      exact ⟨by omega, by omega, fun e => by have : bu < w2.heap.size := (a2.out.ws.lt _ e).2; omega⟩
    · rcases ha5'.out with ha | ha
      · exact .inl ha
      · exact .inr ⟨_, ha, by omega, Nat.le_refl _⟩

set_option maxRecDepth 100000 in
theorem dwrite_range (g h : Nat) (vw vs : Value) (q : List Value) (d : Dk) (at_ : Int) (hat : ¬ (0 ≤ at_ ∧ at_ < d.n)) (bv : Value) (w : World) (a : DkAt w g h vw vs q d) :
    Calls Try.prog 26 #[.pointer (some ⟨g, 0, none⟩), .int .i64 at_, bv] w fun e w' => e = .returned (.int .i64 4) ∧ w' = w := by
  have a' := hide a
  have hin := hide (show inB d at_ = false from decide_eq_false hat)
  clear a hat
  go_enter Try.func26, Try.ntmps26
  go_wp2_with fail
  refine (din_any g h vw vs q d at_ w a'.out).mono ?_
  rintro e w1 ⟨rfl, rfl⟩
  rw [hin.out]
  go_wp2_with fail
  go_ret
  exact ⟨rfl, rfl⟩
set_option maxRecDepth 100000 in
theorem dwrite_size (g h : Nat) (vw vs : Value) (q : List Value) (d : Dk) (at_ : Int) (hat : 0 ≤ at_ ∧ at_ < d.n) (A : Option Addr) (n c : Nat) (hn : n ≠ 64) (w : World) (a : DkAt w g h vw vs q d) :
    Calls Try.prog 26 #[.pointer (some ⟨g, 0, none⟩), .int .i64 at_, .slice A n c] w fun e w' => e = .returned (.int .i64 1) ∧ w' = w := by
  have a' := hide a
  have hin := hide (show inB d at_ = true from decide_eq_true hat)
  have e1 : (((n : Nat) : Int) != 64) = true := by simp; omega
  have e2 : (n != 64) = true := by simp [hn]
  have e3 : decide (n = 64) = false := by simp [hn]
  have e4 : ¬ (n : Int) = 64 := by omega
  clear a hat
  go_enter Try.func26, Try.ntmps26
  go_wp2_with fail
  refine (din_any g h vw vs q d at_ w a'.out).mono ?_
  rintro e w1 ⟨rfl, rfl⟩
  rw [hin.out]
  go_wp2_with fail
  go_ret
  exact ⟨rfl, rfl⟩
/-- Write, whatever sector, bytes and power -/
theorem dwrite_any (g h : Nat) (vw vs : Value) (q : List Value) (d : Dk) (at_ : Int) (bv : Value) (b : List UInt8) (hbv : ∀ x, bv.ownBlock = some x → x ≠ g ∧ x ≠ h) (w : World) (a : DkAt w g h vw vs q d) (hbs : Bs w bv b) (hwl : d.waits.length ≤ 1000000) :
    Calls Try.prog 26 #[.pointer (some ⟨g, 0, none⟩), .int .i64 at_, bv] w fun e w' => e = .returned (.int .i64 (d.write at_ b).2) ∧ Touch (DkB g h vw vs q) w w' ∧ ∃ vw' q', DkAt w' g h vw' vs q' (d.write at_ b).1 ∧ ∀ x, DkB g h vw' vs q' x → DkB g h vw vs q x ∨ w.heap.size ≤ x := by
  by_cases hat : 0 ≤ at_ ∧ at_ < d.n
  · by_cases hb : b.length = 64
    · obtain ⟨k, rfl⟩ : ∃ k : Nat, at_ = k := ⟨at_.toNat, by omega⟩
      exact dwrite_ok g h vw vs q d k (by omega) bv b hb hbv w a hbs hwl
    · have e : d.write at_ b = (d, 1) := by unfold Dk.write; rw [if_neg (by simpa using hat), if_pos hb]
      rw [e]
      obtain ⟨A, c, rfl, _⟩ := hbs.open_
      refine (dwrite_size g h vw vs q d at_ hat A b.length c hb w a).mono ?_
      rintro e w' ⟨rfl, rfl⟩
      exact ⟨rfl, Touch.refl _ _, vw, q, a, fun x h => .inl h⟩
  · have e : d.write at_ b = (d, 4) := by unfold Dk.write; rw [if_pos hat]
    rw [e]
    refine (dwrite_range g h vw vs q d at_ hat bv w a).mono ?_
    rintro e w' ⟨rfl, rfl⟩
    exact ⟨rfl, Touch.refl _ _, vw, q, a, fun x h => .inl h⟩
end Go.Proofs.Ytamkngpkplflcaa
