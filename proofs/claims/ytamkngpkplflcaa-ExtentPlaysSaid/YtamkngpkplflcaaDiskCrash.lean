/- disk.Crash, goes walked. -/
import Derived.Test.YtamkngpkplflcaaDiskOps
namespace Go.Proofs.Ytamkngpkplflcaa
open Go.RowKit

theorem elem_size1 : (Try.prog.info? 5).map (·.size) = some 1 := by kernel_rfl
theorem bytesV_take (l : List UInt8) (k : Nat) : bytesV (l.take k) = (bytesV l).take k := by simp [bytesV, List.map_take]
theorem bytesV_drop (l : List UInt8) (k : Nat) : bytesV (l.drop k) = (bytesV l).drop k := by simp [bytesV, List.map_drop]
theorem layN_length (has : List UInt8) (keep : Nat → Bool) (ws : List Wt) (n : Nat) (hl : has.length = 64 * n) (hw : ∀ w ∈ ws, w.s < n ∧ w.b.length = 64) (i : Nat) (hi : i ≤ ws.length) : (layN has keep ws i).length = 64 * n := by
  induction i with
  | zero => exact hl
  | succ i ih =>
    have hg : ws.getD i ⟨0, []⟩ = ws[i] := by simp [List.getD, List.getElem?_eq_getElem (show i < ws.length by omega)]
    have := hw ws[i] (List.getElem_mem _)
    unfold layN
    split
    · rw [hg]; unfold lay; rw [splice_length _ _ _ (by rw [ih (by omega)]; omega)]; exact ih (by omega)
    · exact ih (by omega)
/-- a write is laid -/
theorem DkAt.laid {w w' : World} {g h : Nat} {vw vs : Value} {q : List Value} {d : Dk} (a : DkAt w g h vw vs q d) (s : Nat) (b : List UInt8) (hs : s < d.n) (hb : b.length = 64)
    (ho : w'.ownsRow 0 5 1 (.slice (some ⟨h, 0, none⟩) (64 * d.n) (64 * d.n)) (64 * d.n) ((bytesV d.has).take (64 * s) ++ bytesV b ++ (bytesV d.has).drop (64 * s + 64))) (t : Touch (fun x => x = h) w w') :
    DkAt w' g h vw vs q { d with has := lay d.has ⟨s, b⟩ } := by
  refine a.bytes t.2 _ ?_ ?_
  · unfold lay; rw [splice_length _ _ _ (by simp only []; rw [a.ok.len, hb]; omega)]; exact a.ok.len
  · have e : bytesV (lay d.has ⟨s, b⟩) = (bytesV d.has).take (64 * s) ++ bytesV b ++ (bytesV d.has).drop (64 * s + 64) := by
      unfold lay splice
      simp only [hb]
      rw [bytesV_append, bytesV_append, bytesV_take, bytesV_drop]
    rw [e]
    exact ho

/-- a row of bools, read -/
def Bools (w : World) (v : Value) (l : List Bool) : Prop := Sl w 1 v l.length (boolsV l)

/-- what waits, as the walk reads it -/
theorem DkAt.wait {w : World} {g h : Nat} {vw vs : Value} {q : List Value} {d : Dk} (a : DkAt w g h vw vs q d) (k : Nat) (hk : k < d.waits.length) :
    ∃ bw cw v b c, vw = .slice (some ⟨bw, 0, none⟩) d.waits.length cw ∧ d.waits.length ≤ cw ∧ w.cell? ⟨bw, k * 2, none⟩ = some (.int .i64 ((d.waits[k]).s : Nat)) ∧ w.cell? ⟨bw, k * 2 + 1, none⟩ = some v ∧ q[k]? = some v ∧ v = .slice (some ⟨b, 0, none⟩) 64 c ∧ Bs w v (d.waits[k]).b ∧ b ≠ h ∧ b ≠ g ∧ bw < w.heap.size := by
  obtain ⟨v, h1, h2, b, c, h3, h4, h5, h6⟩ := a.qb k hk
  rcases a.ws.2 with ⟨_, h0⟩ | ⟨bw, cw, cur, rfl, _, _, hcw, _⟩
  · omega
  · obtain ⟨e1, e2⟩ := waitsV_get d.waits q a.ql k hk
    have c1 := a.ws.cells (g := bw) rfl (2 * k) _ e1
    have c2 := a.ws.cells (g := bw) rfl (2 * k + 1) v (e2.trans h1)
    rw [Addr.add_lit, Nat.zero_add] at c1 c2
    rw [show 2 * k = k * 2 by omega] at c1 c2
    exact ⟨bw, cw, v, b, c, rfl, hcw, c1, c2, h1, h3, h2, h5, h4, (a.ws.lt bw rfl).2⟩

set_option maxRecDepth 100000 in
set_option maxHeartbeats 1000000 in
theorem dcrash_on (g h : Nat) (vw vs : Value) (q : List Value) (d : Dk) (sv : Value) (l : List Bool) (w : World) (a : DkAt w g h vw vs q d) (hoff : d.off = false) (hs : Bools w sv l) (hsh : l ≠ [] → ∀ b, sv.ownBlock = some b → b ≠ h) :
    Calls Try.prog 24 #[.pointer (some ⟨g, 0, none⟩), sv] w fun e w' => e = .returned (.tuple #[]) ∧ DkAt w' g h (.slice none 0 0) vs [] (d.crash l) ∧ Touch (fun x => x = g ∨ x = h) w w' := by
  have a' := hide a
  have c1 := a.c1
  have c2 := a.c2
  rw [hoff] at c2
  obtain ⟨W, cw, hvw, hcw, hcm, _⟩ := Sl.own a.ws
  have hwl : d.waits.length ≤ 9223372036854775807 := by unfold maxLen at hcm; omega
  have hvw' := hide hvw
  rw [hvw] at c1
  have hcr := hide (show d.crash l = { d with has := layN d.has (keeps l) d.waits d.waits.length, waits := [], off := true, armed := false } by unfold Dk.crash; rw [hoff]; rfl)
  obtain ⟨A, cs, hsv, hs1, hs2, hs3, hs4⟩ := hs
  have hs4' := hide hs4
  have hs1' := hide hs1
  have hsh' := hide hsh
  subst hsv
  clear a hvw hoff hcw hcm hs4 hs1 hsh
  go_enter Try.func24, Try.ntmps24
  go_wp2_with fail
  go_loopw [15] (fun i wr => ∃ k : Nat, k ≤ d.waits.length ∧ i = .int .i64 k ∧ DkAt wr g h vw vs q { d with has := layN d.has (keeps l) d.waits k } ∧ Touch (fun x => x = h) w wr) (fun i _ => d.waits.length - (intOf i).toNat)
  case atStart => exact ⟨0, by omega, rfl, a'.out, Touch.refl _ _⟩
  case round =>
    obtain ⟨k, hk, rfl, ha, hT⟩ := hrel
    have ha' := hide ha
    have hT' := hide hT
    by_cases hlt : k < d.waits.length
    · obtain ⟨bw, cw2, v, b, c, hv1, hcw2, x1, x2, hq, hv, hbs, hbh, hbg, hbw⟩ := DkAt.wait ha k hlt
      dsimp only at hv1 hcw2 x1 hbs
      rw [hvw'.out] at hv1
      injection hv1 with hv1 _ hv3
      subst hv1 hv3 hv
      have hok := hide (a'.out.ok.wt _ (List.getElem_mem hlt))
      have hbs' := hide hbs
      have hst := hide (show layN d.has (keeps l) d.waits (k + 1) = if keeps l k then lay (layN d.has (keeps l) d.waits k) d.waits[k] else layN d.has (keeps l) d.waits k by
        rw [layN, show d.waits.getD k ⟨0, []⟩ = d.waits[k] by simp [List.getD, List.getElem?_eq_getElem hlt]])
      clear ha hT hbs hq
      by_cases hkl : k < l.length
      · obtain ⟨bb, off, rfl, hbb, hcell⟩ := hs4'.out (by omega)
        have hcb := hcell k (.bool l[k]) (by simp [boolsV, hkl])
        have hcb' : wr.cell? ⟨bb, off + k, none⟩ = some (.bool l[k]) := (Later.cell hT'.out.2 hbb (hsh'.out (by intro e; simp [e] at hkl) bb rfl)).1.trans hcb
        have hcap := hs1'.out
        have hbb2 : bb < wr.heap.size := Nat.lt_of_lt_of_le hbb hT'.out.size
        have hkn : keeps l k = l[k] := by simp [keeps, List.getD, hkl]
        clear hcell hcb
        by_cases hkp : l[k] = true
        · rw [hkp] at hcb' hkn
          clear hkp
          have hwb : Below wr.heap.size wr (wr.alloc (.cells #[.int .i64 ((d.waits[k]).s : Nat), .slice (some ⟨b, 0, none⟩) 64 c] 94)) := (Below.refl _ _).alloc (Nat.le_refl _) _
          have hwd := hide (DkAt.below ha'.out hwb)
          have hwT := hide (hT'.out.alloc (.cells #[.int .i64 ((d.waits[k]).s : Nat), .slice (some ⟨b, 0, none⟩) 64 c] 94))
          have hbs2 := hide (hbs'.out.below hwb)
          have hnew := hide (heap_alloc_new wr (.cells #[.int .i64 ((d.waits[k]).s : Nat), .slice (some ⟨b, 0, none⟩) 64 c] 94))
          have hhl := hide (ha'.out.has.lt h rfl).2
          have hws2 : wr.heap.size < (wr.alloc (.cells #[.int .i64 ((d.waits[k]).s : Nat), .slice (some ⟨b, 0, none⟩) 64 c] 94)).heap.size := by simp
          clear hwb
          go_wp2_with fail
          have hq : Q (wr.alloc (.cells #[.int .i64 ((d.waits[k]).s : Nat), .slice (some ⟨b, 0, none⟩) 64 c] 94)) (wr.alloc (.cells #[.int .i64 ((d.waits[k]).s : Nat), .slice (some ⟨b, 0, none⟩) 64 c] 94)).drew := Q.drew (Q.refl _)
          have hd2 := hide (DkAt.quiet hwd.out hq)
          have hT2 := hide (hwT.out.q hq)
          have hbs3 := hide (hbs2.out.q hq)
          have f0 : ∀ w', Later (fun x => x = h) (wr.alloc (.cells #[.int .i64 ((d.waits[k]).s : Nat), .slice (some ⟨b, 0, none⟩) 64 c] 94)).drew w' → w'.cell? ⟨wr.heap.size, 0, none⟩ = some (.int .i64 ((d.waits[k]).s : Nat)) := fun w' hl => (Later.cell hl hws2 (by have := hhl.out; omega)).1.trans (cell_of_row _ _ 0 _ _ _ hnew.out)
          have f1 : ∀ w', Later (fun x => x = h) (wr.alloc (.cells #[.int .i64 ((d.waits[k]).s : Nat), .slice (some ⟨b, 0, none⟩) 64 c] 94)).drew w' → w'.cell? ⟨wr.heap.size, 1, none⟩ = some (.slice (some ⟨b, 0, none⟩) 64 c) := fun w' hl => (Later.cell hl hws2 (by have := hhl.out; omega)).1.trans (cell_of_row _ _ 1 _ _ _ hnew.out)
          clear hq
          refine region_plan [(true, 0), (true, 1), (true, 2), (true, 4), (true, 5), (false, 3), (false, 6)] (Later fun x => x = h) (later_refl _) (later_trans _) (by kernel_rfl) (by kernel_rfl) (fun _ _ d _ _ h => by cases d <;> exact h) ?_
          repeat
            (first
              | (show wpPlan _ _ _ _ ((true, _) :: _) _ _
                 refine plan_skip rfl (by rfl) ?_
                 simp only [Act.put, List.setIfInBounds_toArray, List.set_cons_zero, List.set_cons_succ])
              | (show wpPlan _ _ _ _ ((false, _) :: _) _ _
                 refine plan_skip_eff (later_refl _) rfl (by rfl) ?_
                 simp only [Act.put, List.setIfInBounds_toArray, List.set_cons_zero, List.set_cons_succ])
              | (show wpPlan _ _ _ _ ((true, _) :: _) _ _
                 refine plan_take (v := ?_) rfl (by rfl) (fun w' hw' => ?_) ?_
                 rotate_left
                 focus
                   go_simp
                   try with_reducible rfl
                   done
                 simp only [Act.put, List.setIfInBounds_toArray, List.set_cons_zero, List.set_cons_succ]))
          refine plan_eff rfl (by rfl) (fun K hK => ?_)
          go_wp2_with fail
          refine (dsector_any g h vw vs q { d with has := layN d.has (keeps l) d.waits k } d.waits[k].s hok.out.1 _ hd2.out).mono ?_
          rintro e w2 ⟨rfl, rfl⟩
          refine hK _ _ (later_refl _ _) ?_
          clear hK K
          refine plan_eff rfl (by rfl) (fun K hK => ?_)
          refine wp_copy_own (.tmp 33) (.tmp 35) rfl Try.underlying40 elem_size1 hd2.out.has (64 * d.waits[k].s) 64 (64 * d.n - 64 * d.waits[k].s) (.slice (some ⟨b, 0, none⟩) 64 c) (bytesV d.waits[k].b) rfl rfl (by have := hbs3.out; unfold Bs at this; rw [hok.out.2] at this; exact this) (by have := hok.out.1; show _ ≤ 64 * d.n; omega) (bytesV_one _) ?_
          intro w3 ho3 hT3
          refine hK _ _ hT3.2 ?_
          clear hK K
          have hd3 := hide (hd2.out.laid _ _ hok.out.1 hok.out.2 ho3 hT3)
          have hT3 := hide (hT2.out.trans hT3)
          clear ho3 f0 f1
          refine plan_nil ?_
          go_wp2_with fail
          go_roundw
          case rel => exact ⟨k + 1, by omega, by go_num, by rw [hst.out, if_pos hkn]; exact hd3.out, hT3.out⟩
          case measure => simp [intOf]; omega
        · rw [show l[k] = false by simpa using hkp] at hcb' hkn
          clear hkp
          have hwb : Below wr.heap.size wr (wr.alloc (.cells #[.int .i64 ((d.waits[k]).s : Nat), .slice (some ⟨b, 0, none⟩) 64 c] 94)) := (Below.refl _ _).alloc (Nat.le_refl _) _
          have hwd := hide (DkAt.below ha'.out hwb)
          have hwT := hide (hT'.out.alloc (.cells #[.int .i64 ((d.waits[k]).s : Nat), .slice (some ⟨b, 0, none⟩) 64 c] 94))
          have hbs2 := hide (hbs'.out.below hwb)
          have hnew := hide (heap_alloc_new wr (.cells #[.int .i64 ((d.waits[k]).s : Nat), .slice (some ⟨b, 0, none⟩) 64 c] 94))
          have hhl := hide (ha'.out.has.lt h rfl).2
          have hws2 : wr.heap.size < (wr.alloc (.cells #[.int .i64 ((d.waits[k]).s : Nat), .slice (some ⟨b, 0, none⟩) 64 c] 94)).heap.size := by simp
          clear hwb
          go_wp2_with fail
          go_roundw
          case rel => exact ⟨k + 1, by omega, by go_num, by rw [hst.out, if_neg (by rw [hkn]; simp)]; exact hwd.out, hwT.out⟩
          case measure => simp [intOf]; omega
      · have hkn : keeps l k = false := by simp [keeps, List.getD, List.getElem?_eq_none (show l.length ≤ k by omega)]
        have hd1 : decide ((k : Int) < (l.length : Int)) = false := decide_eq_false (by omega)
        have hd2 : decide (k < l.length) = false := decide_eq_false hkl
        have hwb : Below wr.heap.size wr (wr.alloc (.cells #[.int .i64 ((d.waits[k]).s : Nat), .slice (some ⟨b, 0, none⟩) 64 c] 94)) := (Below.refl _ _).alloc (Nat.le_refl _) _
        have hwd := hide (DkAt.below ha'.out hwb)
        have hwT := hide (hT'.out.alloc (.cells #[.int .i64 ((d.waits[k]).s : Nat), .slice (some ⟨b, 0, none⟩) 64 c] 94))
        have hbs2 := hide (hbs'.out.below hwb)
        have hnew := hide (heap_alloc_new wr (.cells #[.int .i64 ((d.waits[k]).s : Nat), .slice (some ⟨b, 0, none⟩) 64 c] 94))
        have hhl := hide (ha'.out.has.lt h rfl).2
        have hws2 : wr.heap.size < (wr.alloc (.cells #[.int .i64 ((d.waits[k]).s : Nat), .slice (some ⟨b, 0, none⟩) 64 c] 94)).heap.size := by simp
        clear hwb
        go_wp2_with fail
        go_roundw
        case rel => exact ⟨k + 1, by omega, by go_num, by rw [hst.out, if_neg (by rw [hkn]; simp)]; exact hwd.out, hwT.out⟩
        case measure => simp [intOf]; omega
    · obtain rfl : d.waits.length = k := by omega
      have y1 := ha.c1
      have y2 := ha.c2
      have y3 := ha.c3
      have y4 := hide ha.c4
      have t1 := ha.thaw 1
      have t2 := ha.thaw 2
      have t3 := ha.thaw 3
      clear ha hT
      go_wp2_with fail
      go_end0
      have hT2 : Touch (fun x => x = g) wr (((wr.setCell ⟨g, 1, none⟩ (.slice none 0 0)).setCell ⟨g, 2, none⟩ (.bool true)).setCell ⟨g, 3, none⟩ (.bool false)) := (((Touch.refl (fun x => x = g) wr).setCell (p := ⟨g, 1, none⟩) rfl _).setCell (p := ⟨g, 2, none⟩) rfl _).setCell (p := ⟨g, 3, none⟩) rfl _
      refine ⟨rfl, ?_, (hT'.out.mono (fun _ _ e => .inr e)).trans (hT2.mono (fun _ _ e => .inl e))⟩
      rw [hcr.out]
      exact ha'.out.clear hT2.2 (fun j => by rw [World.frozen?_setCell, World.frozen?_setCell, World.frozen?_setCell]; exact ha'.out.thaw j) true false d.left a'.out.ok.left (by simp [go_sem]) (by simp [go_sem, y1]) (by simp [go_sem, y2]) (by simp [go_sem, y3]) (by simp [go_sem, y4.out]) (by simp [go_sem])

set_option maxRecDepth 100000 in
theorem dcrash_off (g h : Nat) (vw vs : Value) (q : List Value) (d : Dk) (sv : Value) (w : World) (a : DkAt w g h vw vs q d) (hoff : d.off = true) :
    Calls Try.prog 24 #[.pointer (some ⟨g, 0, none⟩), sv] w fun e w' => e = .returned (.tuple #[]) ∧ w' = w := by
  have c2 := a.c2
  rw [hoff] at c2
  clear a hoff
  go_enter Try.func24, Try.ntmps24
  go_wp2_with fail
  exact bodyPost_ret (v := .tuple #[]) (by simp [results, Try.results24, go_sem]) rfl ⟨rfl, rfl⟩
/-- Crash, whatever the power -/
theorem dcrash_any (g h : Nat) (vw vs : Value) (q : List Value) (d : Dk) (sv : Value) (l : List Bool) (w : World) (a : DkAt w g h vw vs q d) (hs : Bools w sv l) (hsh : l ≠ [] → ∀ b, sv.ownBlock = some b → b ≠ h) :
    Calls Try.prog 24 #[.pointer (some ⟨g, 0, none⟩), sv] w fun e w' => e = .returned (.tuple #[]) ∧ Touch (fun x => x = g ∨ x = h) w w' ∧ ∃ vw' q', DkAt w' g h vw' vs q' (d.crash l) ∧ ∀ x, DkB g h vw' vs q' x → DkB g h vw vs q x := by
  by_cases ho : d.off = true
  · refine (dcrash_off g h vw vs q d sv w a ho).mono ?_
    rintro e w' ⟨rfl, rfl⟩
    exact ⟨rfl, Touch.refl _ _, vw, q, by unfold Dk.crash; rw [if_pos ho]; exact a, fun x h => h⟩
  · refine (dcrash_on g h vw vs q d sv l w a (by simpa using ho) hs hsh).mono ?_
    rintro e w' ⟨rfl, h1, h2⟩
    exact ⟨rfl, h2, _, _, h1, fun x hx => by
      rcases hx with hx | hx | hx | hx | ⟨v, hv, _⟩
      · exact .inl hx
      · exact .inr (.inl hx)
      · cases hx
      · exact .inr (.inr (.inr (.inl hx)))
      · cases hv⟩

set_option maxRecDepth 100000 in
theorem dgoes_any (g h : Nat) (vw vs : Value) (q : List Value) (d : Dk) (w : World) (a : DkAt w g h vw vs q d) :
    Calls Try.prog 52 #[.pointer (some ⟨g, 0, none⟩)] w fun e w' => e = .returned (.bool d.goes.2) ∧ Touch (fun x => x = g ∨ x = h) w w' ∧ ∃ vw' q', DkAt w' g h vw' vs q' d.goes.1 ∧ ∀ x, DkB g h vw' vs q' x → DkB g h vw vs q x := by
  have a' := hide a
  have c2 := a.c2
  have c3 := a.c3
  have c4 := a.c4
  have c5 := a.c5
  have t4 := a.thaw 4
  clear a
  by_cases ho : d.off = true
  · have e : d.goes = (d, false) := by unfold Dk.goes; rw [if_pos ho]
    rw [e]
    rw [ho] at c2
    clear e ho
    go_enter Try.func52, Try.ntmps52
    go_wp2_with fail
    go_ret
    exact ⟨rfl, Touch.refl _ _, vw, q, a'.out, fun _ h => h⟩
  have hof : d.off = false := by simpa using ho
  rw [hof] at c2
  by_cases har : d.armed = false
  · have e : d.goes = (d, true) := by unfold Dk.goes; rw [if_neg ho, if_pos har]
    rw [e]
    rw [har] at c3
    clear e ho hof har
    go_enter Try.func52, Try.ntmps52
    go_wp2_with fail
    go_ret
    exact ⟨rfl, Touch.refl _ _, vw, q, a'.out, fun _ h => h⟩
  have hat : d.armed = true := by simpa using har
  rw [hat] at c3
  by_cases hl : 0 < d.left
  · have e : d.goes = ({ d with left := d.left - 1 }, true) := by unfold Dk.goes; rw [if_neg ho, if_neg har, if_pos hl]
    rw [e]
    have hll := a'.out.ok.left.2
    have ho' := hide hof
    have ha' := hide hat
    have c2' := hide c2
    have c3' := hide c3
    have hl' := hl
    obtain ⟨z, hz⟩ : ∃ z, z = d.left := ⟨_, rfl⟩
    rw [← hz] at c4 hl hll
    have hz' := hide hz
    clear e ho har hof hat hz hl'
    go_enter Try.func52, Try.ntmps52
    go_wp2_with fail
    go_ret
    have hT : Touch (fun x => x = g) w (w.setCell ⟨g, 4, none⟩ (.int .i64 (z - 1))) := (Touch.refl (fun x => x = g) w).setCell (p := ⟨g, 4, none⟩) rfl _
    refine ⟨rfl, hT.mono (fun _ _ h => .inl h), vw, q, ?_, fun _ h => h⟩
    have := a'.out.flag hT.2 (fun j => by rw [World.frozen?_setCell]; exact a'.out.thaw j) d.off d.armed (z - 1) (by unfold I64; omega) (by simp [go_sem]) (by simp [go_sem]) (by rw [ho'.out]; simp [go_sem, c2'.out]) (by rw [ha'.out]; simp [go_sem, c3'.out]) (by simp [go_sem, c4]) (by simp [go_sem])
    rw [hz'.out] at this ⊢
    exact this
  · have e : d.goes = (d.crash d.surv, false) := by unfold Dk.goes; rw [if_neg ho, if_neg har, if_neg hl]
    rw [e]
    have hb : Bools w vs d.surv := Sl.own a'.out.sv
    have hb' := hide hb
    have hd3 := hide (fun b hb => (a'.out.d3 b hb).2.1)
    clear e ho har hof hat hb
    go_enter Try.func52, Try.ntmps52
    go_wp2_with fail
    refine (dcrash_any g h vw vs q d vs d.surv w a'.out hb'.out (fun _ => hd3.out)).mono ?_
    rintro e w1 ⟨rfl, hT, hx⟩
    have hT' := hide hT
    have hx' := hide hx
    clear hT hx
    go_wp2_with fail
    go_ret
    exact ⟨rfl, hT'.out, hx'.out⟩
end Go.Proofs.Ytamkngpkplflcaa
