/- The document's disk: New, Image walked. -/
import Derived.Test.YtamkngpkplflcaaRefDisk7
import Derived.Test.YtamkngpkplflcaaDiskAwake
namespace Go.Proofs.Ytamkngpkplflcaa
open Go.RowKit

def newRk (n : Nat) : Rk := ⟨List.replicate n (List.replicate 64 0), [], false, -1, []⟩
def nough : List UInt8 := List.replicate 64 0
theorem replicate_push {α : Type} (n : Nat) (x : α) : List.replicate n x ++ [x] = List.replicate (n + 1) x := by rw [List.replicate_succ']
set_option maxRecDepth 100000 in
set_option maxHeartbeats 1000000 in
theorem rnew_any (n : Nat) (w : World) (h1 : 1 ≤ n) (h2 : n ≤ 256) :
    Calls Try.prog 34 #[.int .i64 n] w fun e w' => ∃ u, e = .returned (.tuple #[u, .bool true]) ∧ RkAt w' (fun y => w.heap.size ≤ y) u (newRk n) ∧ Below w.heap.size w w' := by
  have hd : decide ((n : Int) < 1) = false := decide_eq_false (by omega)
  have hd2 : decide ((256 : Int) < (n : Int)) = false := decide_eq_false (by omega)
  go_enter Try.func34, Try.ntmps34
  go_upto_region 1 with (fail)
  have hZ1 := RBox.new w 71 (.slice none 0 0) (.slice none 0 0) (.bool false) (.int .i64 0) (.slice none 0 0)
  have hbA : Below w.heap.size w (w.alloc (.cells #[.slice none 0 0, .slice none 0 0, .bool false, .int .i64 0, .slice none 0 0] 71)) := (Below.refl _ _).alloc (Nat.le_refl _) _
  have hsA : (w.alloc (.cells #[.slice none 0 0, .slice none 0 0, .bool false, .int .i64 0, .slice none 0 0] 71)).heap.size = w.heap.size + 1 := by simp
  generalize w.alloc (.cells #[.slice none 0 0, .slice none 0 0, .bool false, .int .i64 0, .slice none 0 0] 71) = wa at *
  go_upto_region 2 with (fail)
  have hX1 := RBox.new wa 71 (.slice none 0 0) (.slice none 0 0) (.bool false) (.int .i64 (-1)) (.slice none 0 0)
  have hbB : Below wa.heap.size wa (wa.alloc (.cells #[.slice none 0 0, .slice none 0 0, .bool false, .int .i64 (-1), .slice none 0 0] 71)) := (Below.refl _ _).alloc (Nat.le_refl _) _
  have hsB : (wa.alloc (.cells #[.slice none 0 0, .slice none 0 0, .bool false, .int .i64 (-1), .slice none 0 0] 71)).heap.size = wa.heap.size + 1 := by simp
  have hZ2 := hZ1.below hbB
  have hb2 := hbA.trans (hbB.mono hbA.size)
  generalize wa.alloc (.cells #[.slice none 0 0, .slice none 0 0, .bool false, .int .i64 (-1), .slice none 0 0] 71) = wb at *
  obtain ⟨bz, hbz⟩ : ∃ bz, bz = w.heap.size := ⟨_, rfl⟩
  obtain ⟨bm, hbm⟩ : ∃ bm, bm = wb.heap.size := ⟨_, rfl⟩
  rw [← hbz] at hZ2 ⊢
  rw [show wa.heap.size = bz + 1 by omega] at hX1
  obtain ⟨bx, hbx⟩ : ∃ bx, bx = bz + 1 := ⟨_, rfl⟩
  rw [← hbx] at hX1 ⊢
  have hX' := hide hX1
  have hZ' := hide hZ2
  have hb' := hide hb2
  have hbz' := hide hbz
  have hbzx : bz < bx := by omega
  have hbxm : bx < bm := by omega
  have hbm' := hide hbm
  clear hbm hX1 hZ2 hb2 hbB hbA hZ1 hsA hsB hbx hbz
  obtain ⟨Fz, hFz⟩ : ∃ Fz : Nat → Prop, ∀ x, Fz x ↔ bm ≤ x := ⟨_, fun _ => Iff.rfl⟩
  go_wp2_with fail
  go_loopw [5] (fun i wr => ∃ k A c, k ≤ n ∧ i = .int .i64 (k : Nat) ∧ RBox wr bx (.slice A k c) (.slice none 0 0) (.bool false) (.int .i64 (-1)) (.slice none 0 0) ∧ RBox wr bz (.slice none 0 0) (.slice none 0 0) (.bool false) (.int .i64 0) (.slice none 0 0) ∧ wr.ownsRow bm 9 1 (.slice A k c) k (strsV (List.replicate k nough)) ∧ Below w.heap.size w wr ∧ bm ≤ wr.heap.size) (fun i _ => n - (intOf i).toNat)
  case atStart => exact ⟨0, none, 0, by omega, rfl, hX'.out, hZ'.out, World.ownsRow_nil _ _ _ _, hb'.out, Nat.le_of_eq hbm'.out⟩
  case round =>
    obtain ⟨k, A, c, hk, rfl, hX, hZ, hown, hb, hbmr⟩ := hrel
    have hX3 := hide hX
    have hZ3 := hide hZ
    have hown' := hide hown
    have hb3 := hide hb
    clear hX hZ hown hb
    by_cases hlt : k < n
    · have hltI : (k : Int) < (n : Int) := by omega
      have hLd := hide (later_drew (F := Fz) wr)
      have f0 : ∀ w', Later Fz wr.drew w' → w'.cell? ⟨bx, 0, none⟩ = some (.slice A k c) := fun w' hl => (hX3.out.later (later_trans _ _ _ _ hLd.out hl) (fun h => by have := (hFz bx).1 h; omega)).c0
      go_wp2_with fail
      refine region_plan [(true, 0), (true, 1), (false, 2), (false, 3), (false, 4), (true, 5), (false, 6)] (Later Fz) (later_refl _) (later_trans _) (by kernel_rfl) (by kernel_rfl) (fun _ _ d _ _ h => by cases d <;> exact h) ?_
      repeat
        (first
          | (show wpPlan _ _ _ _ ((true, _) :: _) _ _
             refine plan_skip rfl (by rfl) ?_
             simp only [Act.put, List.setIfInBounds_toArray, List.set_cons_zero, List.set_cons_succ])
          | (show wpPlan _ _ _ _ ((false, _) :: _) _ _
             refine plan_skip_eff (later_refl _) rfl (by rfl) ?_
             simp only [Act.put, List.setIfInBounds_toArray, List.set_cons_zero, List.set_cons_succ])
          | (show wpPlan _ _ _ _ ((true, _) :: _) _ _
             refine plan_take (v := ?_) rfl (by rfl) (fun w' hw' => ?_) ?_
             rotate_left
             focus
               go_simp
               try with_reducible rfl
               done
             simp only [Act.put, List.setIfInBounds_toArray, List.set_cons_zero, List.set_cons_succ]))
      clear f0
      refine plan_eff rfl (by rfl) (fun K hK => ?_)
      go_wp2_with fail
      refine (noughts_any _).mono ?_
      rintro e w2 ⟨rfl, rfl⟩
      refine hK _ _ (later_refl _ _) ?_
      clear hK K
      try simp only [Act.put, List.setIfInBounds_toArray, List.set_cons_zero, List.set_cons_succ]
      repeat
        (first
          | (show wpPlan _ _ _ _ ((true, _) :: _) _ _
             refine plan_skip rfl (by rfl) ?_
             simp only [Act.put, List.setIfInBounds_toArray, List.set_cons_zero, List.set_cons_succ])
          | (show wpPlan _ _ _ _ ((false, _) :: _) _ _
             refine plan_skip_eff (later_refl _) rfl (by rfl) ?_
             simp only [Act.put, List.setIfInBounds_toArray, List.set_cons_zero, List.set_cons_succ])
          | (show wpPlan _ _ _ _ ((true, _) :: _) _ _
             refine plan_take (v := ?_) rfl (by rfl) (fun w' hw' => ?_) ?_
             rotate_left
             focus
               go_simp
               try with_reducible rfl
               done
             simp only [Act.put, List.setIfInBounds_toArray, List.set_cons_zero, List.set_cons_succ]))
      have hq : Below wr.heap.size wr wr.drew := (Below.refl _ _).drew
      have hXd := hX3.out.below hq
      have hZd := hZ3.out.below hq
      have hownd := own_later hown'.out (later_drew (F := fun _ => False) wr) (fun _ _ h => h)
      have hbd := hb3.out.trans (hq.mono hb3.out.size)
      have hbmd : bm ≤ wr.drew.heap.size := hbmr
      generalize wr.drew = wd at *
      refine plan_eff rfl (by rfl) (fun K hK => ?_)
      go_wp2_with fail
      refine hK _ _ (later_alloc _ _) ?_
      clear hK K
      have hx6 := hide (show Sl (wd.alloc (.cells #[.string ⟨(List.replicate 64 (0 : UInt8)).toArray⟩] 9)) 1 (.slice (some ⟨wd.heap.size, 0, none⟩) 1 1) 1 [.string ⟨(List.replicate 64 (0 : UInt8)).toArray⟩] from
        ⟨_, 1, rfl, Nat.le_refl _, by simp [maxLen], rfl, fun _ => ⟨wd.heap.size, 0, rfl, by simp, fun j u hu => by
          have := cell_of_row (wd.alloc (.cells #[.string ⟨(List.replicate 64 (0 : UInt8)).toArray⟩] 9)) wd.heap.size (0 + j) _ _ _ (heap_alloc_new wd _)
          rw [this, Nat.zero_add, ← Array.getElem?_toList]
          exact hu⟩⟩)
      try simp only [Act.put, List.setIfInBounds_toArray, List.set_cons_zero, List.set_cons_succ]
      repeat
        (first
          | (show wpPlan _ _ _ _ ((true, _) :: _) _ _
             refine plan_skip rfl (by rfl) ?_
             simp only [Act.put, List.setIfInBounds_toArray, List.set_cons_zero, List.set_cons_succ])
          | (show wpPlan _ _ _ _ ((false, _) :: _) _ _
             refine plan_skip_eff (later_refl _) rfl (by rfl) ?_
             simp only [Act.put, List.setIfInBounds_toArray, List.set_cons_zero, List.set_cons_succ])
          | (show wpPlan _ _ _ _ ((true, _) :: _) _ _
             refine plan_take (v := ?_) rfl (by rfl) (fun w' hw' => ?_) ?_
             rotate_left
             focus
               go_simp
               try with_reducible rfl
               done
             simp only [Act.put, List.setIfInBounds_toArray, List.set_cons_zero, List.set_cons_succ]))
      refine plan_eff rfl (by rfl) (fun K hK => ?_)
      refine wp_app_any elem_strs (.tmp 20) (.tmp 22) rfl bm (.slice A k c) k (strsV (List.replicate k nough)) rfl (own_later hownd (later_alloc (F := fun _ => False) _ _) (fun _ _ h => h)) (.slice (some ⟨wd.heap.size, 0, none⟩) 1 1) 1 [.string ⟨(List.replicate 64 (0 : UInt8)).toArray⟩] rfl hx6.out (by simp [Value.oneCell']) (by simp only [maxLen]; omega) (by omega) (by simp; omega) ?_
      intro v7 w7 hv hg hat
      have hn5 : ∀ x, (Value.slice A k c).ownBlock = some x → bm ≤ x := fun x hx => (hown'.out.lt x hx).1
      refine hK _ _ (later_grown hg (fun x hx => (hFz x).2 (hn5 x hx))) ?_
      clear hK K
      have hv2 : w7.ownsRow bm 9 1 v7 (k + 1) (strsV (List.replicate (k + 1) nough)) := by
        rw [← replicate_push, strsV_push]; exact hv
      have hL7 : Later Fz wd w7 := later_trans _ _ _ _ (later_alloc _ _) (later_grown hg (fun x hx => (hFz x).2 (hn5 x hx)))
      have hX7 := hXd.later hL7 (fun h => by have := (hFz bx).1 h; omega)
      have hZ7 := hide (hZd.later hL7 (fun h => by have := (hFz bz).1 h; omega))
      have hwm : w.heap.size ≤ bm := by rw [hbm'.out]; exact hb'.out.size
      have hb7 := hide (hbd.trans (((Below.refl _ _).alloc hbd.size _).grown hg (Nat.le_trans hbd.size (by simp)) (fun x hx => Nat.le_trans hwm (hn5 x hx))))
      have hm7 : bm ≤ w7.heap.size := Nat.le_trans hbmd hL7.1
      have hv' := hide hv2
      have hvl := hide (show ∀ x, v7.ownBlock = some x → bm ≤ x from fun x hx => (hv2.lt x hx).1)
      obtain ⟨A9, c9, rfl, _⟩ := Sl.own hv2
      have x0 := hX7.c0
      have t0 := hX7.z 0
      have hX7' := hide hX7
      clear hv hg hat hn5 hx6 hXd hZd hownd hbd hv2 hL7 hX7
      try simp only [Act.put, List.setIfInBounds_toArray, List.set_cons_zero, List.set_cons_succ]
      repeat
        (first
          | (show wpPlan _ _ _ _ ((true, _) :: _) _ _
             refine plan_skip rfl (by rfl) ?_
             simp only [Act.put, List.setIfInBounds_toArray, List.set_cons_zero, List.set_cons_succ])
          | (show wpPlan _ _ _ _ ((false, _) :: _) _ _
             refine plan_skip_eff (later_refl _) rfl (by rfl) ?_
             simp only [Act.put, List.setIfInBounds_toArray, List.set_cons_zero, List.set_cons_succ])
          | (show wpPlan _ _ _ _ ((true, _) :: _) _ _
             refine plan_take (v := ?_) rfl (by rfl) (fun w' hw' => ?_) ?_
             rotate_left
             focus
               go_simp
               try with_reducible rfl
               done
             simp only [Act.put, List.setIfInBounds_toArray, List.set_cons_zero, List.set_cons_succ]))
      refine plan_eff_last (by kernel_rfl) rfl (by rfl) (fun K hK => ?_)
      go_wp2_with fail
      have hL8 : Later (fun y => y = bx) w7 (w7.setCell ⟨bx, 0, none⟩ (.slice A9 (k + 1) c9)) := later_setCell (F := fun x => x = bx) w7 (p := ⟨bx, 0, none⟩) _ rfl
      have hv8 := own_later hv'.out hL8 (fun b hb e => by have := hvl.out b hb; omega)
      have hX8 := hX7'.out.set0 (.slice A9 (k + 1) c9)
      have hZ8 := hZ7.out.later hL8 (by omega)
      have hb8 := hb7.out.setCell (p := ⟨bx, 0, none⟩) (show w.heap.size ≤ bx by have := hbz'.out; omega) (.slice A9 (k + 1) c9)
      go_roundw
      case rel => exact ⟨k + 1, A9, c9, by omega, by go_num, hX8, hZ8, hv8, hb8, Nat.le_trans hm7 hL8.1⟩
      case measure => simp [intOf]; omega
    · obtain rfl : n = k := by omega
      have x0 := hX3.out.c0
      have x1 := hX3.out.c1
      have x2 := hX3.out.c2
      have x3 := hX3.out.c3
      have x4 := hX3.out.c4
      have z0 := hZ3.out.c0
      have z1 := hZ3.out.c1
      have z2 := hZ3.out.c2
      have z3 := hZ3.out.c3
      have z4 := hZ3.out.c4
      have tz0 := hZ3.out.z 0
      have tz1 := hZ3.out.z 1
      have tz2 := hZ3.out.z 2
      have tz3 := hZ3.out.z 3
      have tz4 := hZ3.out.z 4
      go_wp2_with fail
      have hT5 := touch_set5 (fun y => y = bz) wr bz (.slice A n c) (.slice none 0 0) (.bool false) (.int .i64 (-1)) (.slice none 0 0) rfl
      have hv5 := Sl.own (own_later hown'.out hT5.2 (fun b hb e => by have := (hown'.out.lt b hb).1; omega))
      have hb5 := hb3.out.trans (hT5.below hb3.out.size (fun y hy e => by have := hbz'.out; omega))
      have g1 : (newRk n).has.length = n := by simp [newRk]
      refine bodyPost_ret (v := .tuple #[.agg #[.slice A n c, .slice none 0 0, .bool false, .int .i64 (-1), .slice none 0 0], .bool true]) (by simp [results, Try.results34, go_sem, z0, z1, z2, z3, z4]) rfl ⟨_, rfl, ⟨A, c, none, 0, none, 0, by rw [g1]; rfl, ?_, Sl.nil _ _, Sl.nil _ _, ?_, (fun h => absurd h (Nat.lt_irrefl _)), (fun h => absurd h (Nat.lt_irrefl _))⟩, hb5⟩
      · unfold Strs; rw [g1]; exact hv5
      · rw [g1]; intro _ y hy
        have := (hown'.out.lt y hy).1
        have := hbz'.out
        omega
end Go.Proofs.Ytamkngpkplflcaa
