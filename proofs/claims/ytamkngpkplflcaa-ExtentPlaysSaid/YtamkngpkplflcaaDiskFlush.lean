/- disk.Flush, Read walked. -/
import Derived.Test.YtamkngpkplflcaaDiskCrash
namespace Go.Proofs.Ytamkngpkplflcaa
open Go.RowKit

set_option maxRecDepth 100000 in
set_option maxHeartbeats 1000000 in
theorem dflush_any (g h : Nat) (vw0 vs : Value) (q0 : List Value) (d0 : Dk) (w : World) (a : DkAt w g h vw0 vs q0 d0) :
    Calls Try.prog 25 #[.pointer (some ⟨g, 0, none⟩)] w fun e w' => e = .returned (.int .i64 d0.flush.2) ∧ Touch (fun x => x = g ∨ x = h) w w' ∧ ∃ vw' q', DkAt w' g h vw' vs q' d0.flush.1 ∧ ∀ x, DkB g h vw' vs q' x → DkB g h vw0 vs q0 x := by
  have a0 := hide a
  have hfl : d0.flush = if d0.goes.2 then ({ d0.goes.1 with has := layN d0.goes.1.has (fun _ => true) d0.goes.1.waits d0.goes.1.waits.length, waits := [] }, 0) else (d0.goes.1, 9) := rfl
  rw [hfl]
  have hg := dgoes_any g h vw0 vs q0 d0 w a
  clear a hfl
  generalize d0.goes.1 = d at *
  generalize d0.goes.2 = r at *
  have hg' := hide hg
  clear hg
  go_enter Try.func25, Try.ntmps25
  go_wp2_with fail
  refine hg'.out.mono ?_
  rintro e w1 ⟨rfl, hT1, vw, q, a, hsub⟩
  have hT1' := hide hT1
  have hsub' := hide hsub
  clear hT1 hsub hg'
  cases r
  · have a' := hide a
    clear a
    go_wp2_with fail
    go_ret
    exact ⟨rfl, hT1'.out, vw, q, a'.out, hsub'.out⟩
  · have a' := hide a
    have c1 := a.c1
    obtain ⟨W, cw, hvw, hcw, hcm, _⟩ := Sl.own a.ws
    have hwl : d.waits.length ≤ 9223372036854775807 := by unfold maxLen at hcm; omega
    have hvw' := hide hvw
    rw [hvw] at c1
    clear a hvw hcw hcm
    go_wp2_with fail
    go_loopw [13] (fun i wr => ∃ k : Nat, k ≤ d.waits.length ∧ i = .int .i64 k ∧ DkAt wr g h vw vs q { d with has := layN d.has (fun _ => true) d.waits k } ∧ Touch (fun x => x = h) w1 wr) (fun i _ => d.waits.length - (intOf i).toNat)
    case atStart => exact ⟨0, by omega, rfl, a'.out, Touch.refl _ _⟩
    case round =>
      obtain ⟨k, hk, rfl, ha, hT⟩ := hrel
      have ha' := hide ha
      have hT' := hide hT
      by_cases hlt : k < d.waits.length
      · obtain ⟨bw, cw2, v, b, c, hv1, hcw2, x1, x2, hq, hv, hbs, hbh, hbg, hbw⟩ := DkAt.wait ha k hlt
        dsimp only at hv1 hcw2 x1 hbs
        rw [hvw'.out] at hv1
        injection hv1 with hv1 _ hv3
        subst hv1 hv3 hv
        have hok := hide (a'.out.ok.wt _ (List.getElem_mem hlt))
        have hbs' := hide hbs
        have hst := hide (show layN d.has (fun _ => true) d.waits (k + 1) = lay (layN d.has (fun _ => true) d.waits k) d.waits[k] by
          rw [layN, if_pos rfl, show d.waits.getD k ⟨0, []⟩ = d.waits[k] by simp [List.getD, List.getElem?_eq_getElem hlt]])
        clear ha hT hbs hq
        have hwb : Below wr.heap.size wr (wr.alloc (.cells #[.int .i64 ((d.waits[k]).s : Nat), .slice (some ⟨b, 0, none⟩) 64 c] 94)) := (Below.refl _ _).alloc (Nat.le_refl _) _
        have hwd := hide (DkAt.below ha'.out hwb)
        have hwT := hide (hT'.out.alloc (.cells #[.int .i64 ((d.waits[k]).s : Nat), .slice (some ⟨b, 0, none⟩) 64 c] 94))
        have hbs2 := hide (hbs'.out.below hwb)
        have hnew := hide (heap_alloc_new wr (.cells #[.int .i64 ((d.waits[k]).s : Nat), .slice (some ⟨b, 0, none⟩) 64 c] 94))
        have hhl := hide (ha'.out.has.lt h rfl).2
        have hws2 : wr.heap.size < (wr.alloc (.cells #[.int .i64 ((d.waits[k]).s : Nat), .slice (some ⟨b, 0, none⟩) 64 c] 94)).heap.size := by simp
        clear hwb
        go_wp2_with fail
        have hq : Q (wr.alloc (.cells #[.int .i64 ((d.waits[k]).s : Nat), .slice (some ⟨b, 0, none⟩) 64 c] 94)) (wr.alloc (.cells #[.int .i64 ((d.waits[k]).s : Nat), .slice (some ⟨b, 0, none⟩) 64 c] 94)).drew := Q.drew (Q.refl _)
        have hd2 := hide (DkAt.quiet hwd.out hq)
        have hT2 := hide (hwT.out.q hq)
        have hbs3 := hide (hbs2.out.q hq)
        have f0 : ∀ w', Later (fun x => x = h) (wr.alloc (.cells #[.int .i64 ((d.waits[k]).s : Nat), .slice (some ⟨b, 0, none⟩) 64 c] 94)).drew w' → w'.cell? ⟨wr.heap.size, 0, none⟩ = some (.int .i64 ((d.waits[k]).s : Nat)) := fun w' hl => (Later.cell hl hws2 (by have := hhl.out; omega)).1.trans (cell_of_row _ _ 0 _ _ _ hnew.out)
        have f1 : ∀ w', Later (fun x => x = h) (wr.alloc (.cells #[.int .i64 ((d.waits[k]).s : Nat), .slice (some ⟨b, 0, none⟩) 64 c] 94)).drew w' → w'.cell? ⟨wr.heap.size, 1, none⟩ = some (.slice (some ⟨b, 0, none⟩) 64 c) := fun w' hl => (Later.cell hl hws2 (by have := hhl.out; omega)).1.trans (cell_of_row _ _ 1 _ _ _ hnew.out)
        clear hq
        refine region_plan [(true, 0), (true, 1), (true, 2), (true, 4), (true, 5), (false, 3), (false, 6)] (Later fun x => x = h) (later_refl _) (later_trans _) (by kernel_rfl) (by kernel_rfl) (fun _ _ d _ _ h => by cases d <;> exact h) ?_
        repeat
          (first
            | (show wpPlan _ _ _ _ ((true, _) :: _) _ _
               refine plan_skip rfl (by rfl) ?_
               simp only [Act.put, List.setIfInBounds_toArray, List.set_cons_zero, List.set_cons_succ])
            | (show wpPlan _ _ _ _ ((false, _) :: _) _ _
               refine plan_skip_eff (later_refl _) rfl (by rfl) ?_
               simp only [Act.put, List.setIfInBounds_toArray, List.set_cons_zero, List.set_cons_succ])
            | (show wpPlan _ _ _ _ ((true, _) :: _) _ _
               refine plan_take (v := ?_) rfl (by rfl) (fun w' hw' => ?_) ?_
               rotate_left
               focus
                 go_simp
                 try with_reducible rfl
                 done
               simp only [Act.put, List.setIfInBounds_toArray, List.set_cons_zero, List.set_cons_succ]))
        refine plan_eff rfl (by rfl) (fun K hK => ?_)
        go_wp2_with fail
        refine (dsector_any g h vw vs q { d with has := layN d.has (fun _ => true) d.waits k } d.waits[k].s hok.out.1 _ hd2.out).mono ?_
        rintro e w2 ⟨rfl, rfl⟩
        refine hK _ _ (later_refl _ _) ?_
        clear hK K
        refine plan_eff rfl (by rfl) (fun K hK => ?_)
        refine wp_copy_own (.tmp 20) (.tmp 22) rfl Try.underlying40 elem_size1 hd2.out.has (64 * d.waits[k].s) 64 (64 * d.n - 64 * d.waits[k].s) (.slice (some ⟨b, 0, none⟩) 64 c) (bytesV d.waits[k].b) rfl rfl (by have := hbs3.out; unfold Bs at this; rw [hok.out.2] at this; exact this) (by have := hok.out.1; show _ ≤ 64 * d.n; omega) (bytesV_one _) ?_
        intro w3 ho3 hT3
        refine hK _ _ hT3.2 ?_
        clear hK K
        have hd3 := hide (hd2.out.laid _ _ hok.out.1 hok.out.2 ho3 hT3)
        have hT3 := hide (hT2.out.trans hT3)
        clear ho3 f0 f1
        refine plan_nil ?_
        go_wp2_with fail
        go_roundw
        case rel => exact ⟨k + 1, by omega, by go_num, by rw [hst.out]; exact hd3.out, hT3.out⟩
        case measure => simp [intOf]; omega
      · obtain rfl : d.waits.length = k := by omega
        have y1 := ha.c1
        have y2 := hide ha.c2
        have y3 := hide ha.c3
        have y4 := hide ha.c4
        have t1 := ha.thaw 1
        clear ha hT
        go_wp2_with fail
        go_ret
        have hT2 : Touch (fun x => x = g) wr (wr.setCell ⟨g, 1, none⟩ (.slice none 0 0)) := (Touch.refl (fun x => x = g) wr).setCell (p := ⟨g, 1, none⟩) rfl _
        refine ⟨rfl, hT1'.out.trans ((hT'.out.mono (fun _ _ e => .inr e)).trans (hT2.mono (fun _ _ e => .inl e))), .slice none 0 0, [], ?_, fun x hx => hsub'.out x ?_⟩
        · exact ha'.out.clear hT2.2 (fun j => by rw [World.frozen?_setCell]; exact ha'.out.thaw j) d.off d.armed d.left a'.out.ok.left (by simp [go_sem]) (by simp [go_sem, y1]) (by simp [go_sem, y2.out]) (by simp [go_sem, y3.out]) (by simp [go_sem, y4.out]) (by simp [go_sem])
        · rcases hx with hx | hx | hx | hx | ⟨v, hv, _⟩
          · exact .inl hx
          · exact .inr (.inl hx)
          · cases hx
          · exact .inr (.inr (.inr (.inl hx)))
          · cases hv

theorem readN_length (at_ : Nat) (b : List UInt8) (ws : List Wt) (hb : b.length = 64) (hw : ∀ w ∈ ws, w.b.length = 64) (i : Nat) (hi : i ≤ ws.length) : (readN at_ b ws i).length = 64 := by
  induction i with
  | zero => exact hb
  | succ i ih =>
    have hg : ws.getD i ⟨0, []⟩ = ws[i] := by simp [List.getD, List.getElem?_eq_getElem (show i < ws.length by omega)]
    unfold readN
    split
    · rw [hg]; exact hw _ (List.getElem_mem _)
    · exact ih (by omega)
/-- Read's answer -/
def Dk.reads (d : Dk) (at_ : Int) : List UInt8 × Int := if ¬ (0 ≤ at_ ∧ at_ < d.n) then ([], 4) else if d.off then ([], 9) else (d.read at_.toNat, 0)
set_option maxRecDepth 100000 in
set_option maxHeartbeats 1000000 in
theorem dread_ok (g h : Nat) (vw vs : Value) (q : List Value) (d : Dk) (at_ : Nat) (hat : at_ < d.n) (hoff : d.off = false) (w : World) (a : DkAt w g h vw vs q d) :
    Calls Try.prog 29 #[.pointer (some ⟨g, 0, none⟩), .int .i64 at_] w fun e w' => ∃ v, e = .returned (.tuple #[v, .int .i64 0]) ∧ OwnB w' w.heap.size 5 v (d.read at_) ∧ Below w.heap.size w w' := by
  have a' := hide a
  have c1 := a.c1
  have c2 := a.c2
  rw [hoff] at c2
  have hin := hide (show inB d at_ = true from decide_eq_true (by omega))
  have hsl := hide (sector_length a.ok at_ hat)
  have hsb := hide (a.sectorB at_ hat)
  have hrl := hide (readN_length at_ (d.sector at_) d.waits hsl.out (fun w hw => (a.ok.wt w hw).2))
  obtain ⟨W, cw, hvw, hcw, hcm, _⟩ := Sl.own a.ws
  have hwl : d.waits.length ≤ 9223372036854775807 := by unfold maxLen at hcm; omega
  have hvw' := hide hvw
  rw [hvw] at c1
  clear a hvw hcw hcm hoff
  go_enter Try.func29, Try.ntmps29
  go_wp2_with fail
  refine (din_any g h vw vs q d at_ w a'.out).mono ?_
  rintro e w1 ⟨rfl, rfl⟩
  rw [hin.out]
  go_wp2_with fail
  refine (dsector_any g h vw vs q d at_ hat _ a'.out).mono ?_
  rintro e w1 ⟨rfl, rfl⟩
  go_wp2_with fail
  go_loopw [6, 25] (fun v i wr => ∃ k : Nat, k ≤ d.waits.length ∧ i = .int .i64 k ∧ Bs wr v (readN at_ (d.sector at_) d.waits k) ∧ Below w1.heap.size w1 wr) (fun _ i _ => d.waits.length - (intOf i).toNat)
  case atStart => exact ⟨0, by omega, rfl, hsb.out, Below.refl _ _⟩
  case round =>
    obtain ⟨k, hk, rfl, hB, hb⟩ := hrel
    have hB' := hide hB
    have hb' := hide hb
    have ha := a'.out.below hb
    have hbs := hb.size
    clear hB hb
    by_cases hlt : k < d.waits.length
    · obtain ⟨bw, cw2, v, b, c, hv1, hcw2, x1, x2, hq, hv, hbw, hbh, hbg, hbwl⟩ := DkAt.wait ha k hlt
      rw [hvw'.out] at hv1
      injection hv1 with hv1 _ hv3
      subst hv1 hv3 hv
      have hbw' := hide hbw
      have hwb : Below wr.heap.size wr (wr.alloc (.cells #[.int .i64 ((d.waits[k]).s : Nat), .slice (some ⟨b, 0, none⟩) 64 c] 94)) := (Below.refl _ _).alloc (Nat.le_refl _) _
      have hwb' := hide hwb
      have hst := hide (show readN at_ (d.sector at_) d.waits (k + 1) = if (d.waits[k]).s = at_ then (d.waits[k]).b else readN at_ (d.sector at_) d.waits k by
        rw [readN, show d.waits.getD k ⟨0, []⟩ = d.waits[k] by simp [List.getD, List.getElem?_eq_getElem hlt]])
      clear ha hq hbw hwb
      by_cases he : (d.waits[k]).s = at_
      · have he1 : (((d.waits[k]).s : Int) == (at_ : Int)) = true := by simp [he]
        have he2 : ((d.waits[k]).s == at_) = true := by simp [he]
        have he' := hide he
        clear he
        go_wp2_with fail
        go_roundw
        case rel => exact ⟨k + 1, by omega, by go_num, by rw [hst.out, if_pos he'.out]; exact hbw'.out.below hwb'.out, hb'.out.trans (hwb'.out.mono hbs)⟩
        case measure => simp [intOf]; omega
      · have he1 : (((d.waits[k]).s : Int) == (at_ : Int)) = false := by simp; omega
        have he2 : ((d.waits[k]).s == at_) = false := by simp [he]
        have he' := hide he
        clear he
        go_wp2_with fail
        go_roundw
        case rel => exact ⟨k + 1, by omega, by go_num, by rw [hst.out, if_neg he'.out]; exact hB'.out.below hwb'.out, hb'.out.trans (hwb'.out.mono hbs)⟩
        case measure => simp [intOf]; omega
    · obtain rfl : d.waits.length = k := by omega
      have hl := hide (hrl.out _ hk)
      clear ha
      go_wp2_with ((at_builtin; refine list_app_any elem_bytes rfl (.const (.slice none 0 0)) (.tmp 36) rfl w1.heap.size (.slice none 0 0) 0 [] rfl (World.ownsRow_nil _ _ _ _) u6 64 (bytesV (readN at_ (d.sector at_) d.waits d.waits.length)) rfl (by have := hB'.out; unfold Bs at this; rw [hl.out] at this; exact this) (bytesV_one _) (by simp only [maxLen]; omega) (by omega) hbs ?_))
      intro v w2 hown hg hat2
      have hb2 : Below w1.heap.size w1 w2 := hb'.out.grown hg hbs (by simp [Value.ownBlock])
      have ho := hide (show OwnB w2 w1.heap.size 5 v (d.read at_) by unfold OwnB Dk.read; rw [hl.out]; simpa using hown)
      have hb2' := hide hb2
      clear hown hg hat2 hb2
      go_wp2_with fail
      go_ret2
      exact ⟨v, rfl, ho.out, hb2'.out⟩
set_option maxRecDepth 100000 in
theorem dread_bad (g h : Nat) (vw vs : Value) (q : List Value) (d : Dk) (at_ : Int) (hat : ¬ (0 ≤ at_ ∧ at_ < d.n)) (w : World) (a : DkAt w g h vw vs q d) :
    Calls Try.prog 29 #[.pointer (some ⟨g, 0, none⟩), .int .i64 at_] w fun e w' => e = .returned (.tuple #[.slice none 0 0, .int .i64 4]) ∧ w' = w := by
  have a' := hide a
  have hin := hide (show inB d at_ = false from decide_eq_false hat)
  clear a hat
  go_enter Try.func29, Try.ntmps29
  go_wp2_with fail
  refine (din_any g h vw vs q d at_ w a'.out).mono ?_
  rintro e w1 ⟨rfl, rfl⟩
  rw [hin.out]
  go_wp2_with fail
  go_ret2
  exact ⟨rfl, rfl⟩
set_option maxRecDepth 100000 in
theorem dread_off (g h : Nat) (vw vs : Value) (q : List Value) (d : Dk) (at_ : Int) (hat : 0 ≤ at_ ∧ at_ < d.n) (hoff : d.off = true) (w : World) (a : DkAt w g h vw vs q d) :
    Calls Try.prog 29 #[.pointer (some ⟨g, 0, none⟩), .int .i64 at_] w fun e w' => e = .returned (.tuple #[.slice none 0 0, .int .i64 9]) ∧ w' = w := by
  have a' := hide a
  have c2 := a.c2
  rw [hoff] at c2
  have hin := hide (show inB d at_ = true from decide_eq_true hat)
  clear a hat hoff
  go_enter Try.func29, Try.ntmps29
  go_wp2_with fail
  refine (din_any g h vw vs q d at_ w a'.out).mono ?_
  rintro e w1 ⟨rfl, rfl⟩
  rw [hin.out]
  go_wp2_with fail
  go_ret2
  exact ⟨rfl, rfl⟩
/-- Read, whatever sector and power -/
theorem dread_any (g h : Nat) (vw vs : Value) (q : List Value) (d : Dk) (at_ : Int) (w : World) (a : DkAt w g h vw vs q d) :
    Calls Try.prog 29 #[.pointer (some ⟨g, 0, none⟩), .int .i64 at_] w fun e w' => ∃ v, e = .returned (.tuple #[v, .int .i64 (d.reads at_).2]) ∧ OwnB w' w.heap.size 5 v (d.reads at_).1 ∧ Below w.heap.size w w' := by
  unfold Dk.reads
  by_cases hat : 0 ≤ at_ ∧ at_ < d.n
  · rw [if_neg (by simpa using hat)]
    by_cases ho : d.off = true
    · rw [if_pos ho]
      refine (dread_off g h vw vs q d at_ hat ho w a).mono ?_
      rintro e w' ⟨rfl, rfl⟩
      exact ⟨_, rfl, World.ownsRow_nil _ _ _ _, Below.refl _ _⟩
    · rw [if_neg ho]
      obtain ⟨k, rfl⟩ : ∃ k : Nat, at_ = k := ⟨at_.toNat, by omega⟩
      exact dread_ok g h vw vs q d k (by omega) (by simpa using ho) w a
  · rw [if_pos hat]
    refine (dread_bad g h vw vs q d at_ hat w a).mono ?_
    rintro e w' ⟨rfl, rfl⟩
    exact ⟨_, rfl, World.ownsRow_nil _ _ _ _, Below.refl _ _⟩
end Go.Proofs.Ytamkngpkplflcaa
