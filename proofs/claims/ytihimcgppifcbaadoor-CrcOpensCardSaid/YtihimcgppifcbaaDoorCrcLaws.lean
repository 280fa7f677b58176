/- The laws CrcTells, CrcOpens, CrcPieces walked. -/
import Derived.Test.YtihimcgppifcbaaDoorCrcAwake
namespace Go.Proofs.YtihimcgppifcbaaDoor
open Go.RowKit

set_option maxRecDepth 100000 in
set_option maxHeartbeats 1000000 in
theorem crcTells_any (r : Nat) (hr : r < 4294967296) (v : Value) (l : List UInt8) (w : World) (h : Bs w v l) (ht : Table w) (hl : l.length ≤ 140737488355328) :
    Calls Tryd.prog 3 #[.int .u32 r, v] w fun e w' => e = .returned (.bool true) ∧ Below w.heap.size w w' := by
  go_enter Tryd.func3, Tryd.ntmps3
  go_wp2_with ((at_builtin; refine list_app_any elem_bytes rfl (.tmp 6) (.tmp 7) rfl w.heap.size (.slice (some ⟨w.heap.size, 0, none⟩) 0 0) 0 [] rfl (World.ownsRow_made _ #[] 0 (Nat.le_refl _) (by simp [maxLen]) rfl) v l.length (bytesV l) rfl (h.below ((Below.refl _ _).alloc (Nat.le_refl _) _)) (bytesV_one l) (by simp only [maxLen]; omega) (by omega) (by simp) ?_))
  intro v1 w1 hown1 hg1 hat1
  have hb1 : Below w.heap.size w w1 := ((Below.refl _ _).alloc (Nat.le_refl _) _).grown hg1 (by simp) (by simp [Value.ownBlock])
  have hown1' : Hid (OwnB w1 w.heap.size 5 v1 l) := hown1
  have z1 := hb1.size
  clear hown1 hg1
  go_wp2_with fail
  refine (awake03 w1 (ht.below hb1)).mono ?_
  rintro e w2 ⟨rfl, hb2⟩
  have hb2' : Below w.heap.size w w2 := hb1.trans (hb2.mono z1)
  have hbs : Bs w2 v l := h.below hb2'
  have hbi : Bs w2 v1 l := (hown1'.out.below hb2).bs
  have hbs' := hide hbs
  have hbi' := hide hbi
  have hs1 := run_str (P := Tryd.prog) 23 5 Tryd.underlying23 Tryd.underlying5 9 Tryd.underlying9 v l hbs
  have hs2 := run_str (P := Tryd.prog) 23 5 Tryd.underlying23 Tryd.underlying5 9 Tryd.underlying9 v1 l hbi
  clear hown1' hb1 hb2 hbs hbi
  go_wp2_with fail
  refine (on_any r hr v l w2 hbs'.out (ht.below hb2')).mono ?_
  rintro e w3 ⟨rfl, rfl⟩
  go_wp2_with fail
  refine (refOn_any r hr v1 l _ hbi'.out).mono ?_
  rintro e w3 ⟨rfl, rfl⟩
  go_wp2_with fail
  refine (of_any v l _ hbs'.out (ht.below hb2')).mono ?_
  rintro e w3 ⟨rfl, rfl⟩
  go_wp2_with fail
  refine (refOf_any v1 l _ hbi'.out).mono ?_
  rintro e w3 ⟨rfl, rfl⟩
  go_wp2_with fail
  go_ret
  exact ⟨rfl, hb2'⟩

set_option maxRecDepth 100000 in
set_option maxHeartbeats 4000000 in
theorem crcOpens_any (v : Value) (l : List UInt8) (w : World) (h : Bs w v l) (ht : Table w) (hl : l.length + 4 ≤ 140737488355328) :
    Calls Tryd.prog 4 #[v] w fun e w' => e = .returned (.bool true) ∧ Below w.heap.size w w' := by
  have hstr := fun W v' l' (hW : Bs W v' l') => run_str (P := Tryd.prog) 23 5 Tryd.underlying23 Tryd.underlying5 9 Tryd.underlying9 v' l' hW
  have hstr' := hide hstr
  clear hstr
  go_enter Tryd.func4, Tryd.ntmps4
  go_wp2_with fail
  refine (open_any v l w h ht (by omega)).mono ?_
  rintro e w1 ⟨x, rfl, hox, hb1⟩
  have hbx := hide hox.bs
  have z1 := hb1.size
  go_wp2_with fail
  refine (refOpen_any v l w1 (h.below hb1) (by omega)).mono ?_
  rintro e w2 ⟨y, rfl, hby, hb2⟩
  have hb2' := hide (hb1.trans (hb2.mono z1))
  have z2 := hb2'.out.size
  have hbx2 := hide (hbx.out.below hb2)
  have hby2 := hide hby
  clear hox hbx hby hb1 hb2 z1
  generalize (openV l).1 = m at *
  generalize (openV l).2 = er at *
  have hq : Q w2 w2.drew := ⟨1, rfl⟩
  have hq' := hide hq
  clear hq
  have hW : Hid (Below w.heap.size w w2.drew) := hb2'.out.trans (hq'.out.below _)
  have hX : Hid (Bs w2.drew x m) := hbx2.out.q hq'.out
  have hY : Hid (Bs w2.drew y m) := hby2.out.q hq'.out
  have z2' : w.heap.size ≤ w2.drew.heap.size := z2
  clear hb2' hbx2 hby2 hq'
  go_wp2_with fail
  refine region_plan [(false, 0), (true, 1), (true, 2), (true, 3), (true, 4), (true, 5), (true, 6), (true, 7), (true, 8), (true, 9), (true, 10), (true, 11), (true, 12), (true, 13), (true, 14), (true, 17), (false, 15), (true, 16), (false, 18), (true, 19), (true, 20), (true, 21), (true, 22)] (Later fun _ => False) (later_refl _) (later_trans _) (by kernel_rfl) (by kernel_rfl) (fun _ _ d _ _ h => by cases d <;> exact h) ?_
  refine plan_eff rfl (by rfl) (fun K hK => ?_)
  go_wp2_with fail
  refine (awake03 w2.drew (ht.below hW.out)).mono ?_
  rintro e w3 ⟨rfl, hb3⟩
  refine hK _ _ (below_later hb3 (Nat.le_refl _)) ?_
  clear hK K
  have hW3 : Hid (Below w.heap.size w w3) := hW.out.trans (hb3.mono z2')
  have z3 : w.heap.size ≤ w3.heap.size := hW3.out.size
  have hcx : ∀ w', Later (fun _ => False) w3 w' → (convert 23 9 x).run Tryd.prog w' = .ok (.string ⟨m.toArray⟩) w' := fun w' hl => hstr'.out w' x m ((hX.out.below hb3).later0 hl)
  have hcy : ∀ w', Later (fun _ => False) w3 w' → (convert 23 9 y).run Tryd.prog w' = .ok (.string ⟨m.toArray⟩) w' := fun w' hl => hstr'.out w' y m ((hY.out.below hb3).later0 hl)
  try simp only [Act.put, List.setIfInBounds_toArray, List.set_cons_zero, List.set_cons_succ]
  repeat
    (first
      | (show wpPlan _ _ _ _ ((true, _) :: _) _ _
         refine plan_skip rfl (by rfl) ?_
         simp only [Act.put, List.setIfInBounds_toArray, List.set_cons_zero, List.set_cons_succ])
      | (show wpPlan _ _ _ _ ((false, _) :: _) _ _
         refine plan_skip_eff (later_refl _) rfl (by rfl) ?_
         simp only [Act.put, List.setIfInBounds_toArray, List.set_cons_zero, List.set_cons_succ])
      | (show wpPlan _ _ _ _ ((true, _) :: _) _ _
         refine plan_take (v := ?_) rfl (by rfl) (fun w' hw' => ?_) ?_
         rotate_left
         focus
           go_simp
           try with_reducible rfl
           done
         simp only [Act.put, List.setIfInBounds_toArray, List.set_cons_zero, List.set_cons_succ]))
  clear hcx hcy
  refine plan_eff rfl (by rfl) (fun K hK => ?_)
  go_wp2_with fail
  refine (seal_any v l w3 (h.below hW3.out) (ht.below hW3.out) hl).mono ?_
  rintro e w4 ⟨s, rfl, hos, hb4⟩
  refine hK _ _ (below_later hb4 (Nat.le_refl _)) ?_
  clear hK K
  have hW4 : Hid (Below w.heap.size w w4) := hW3.out.trans (hb4.mono z3)
  have z4 : w.heap.size ≤ w4.heap.size := hW4.out.size
  have hcs : ∀ w', Later (fun _ => False) w4 w' → (convert 23 9 s).run Tryd.prog w' = .ok (.string ⟨(sealV l).toArray⟩) w' := fun w' hl => hstr'.out w' s _ (hos.bs.later0 hl)
  try simp only [Act.put, List.setIfInBounds_toArray, List.set_cons_zero, List.set_cons_succ]
  repeat
    (first
      | (show wpPlan _ _ _ _ ((true, _) :: _) _ _
         refine plan_skip rfl (by rfl) ?_
         simp only [Act.put, List.setIfInBounds_toArray, List.set_cons_zero, List.set_cons_succ])
      | (show wpPlan _ _ _ _ ((false, _) :: _) _ _
         refine plan_skip_eff (later_refl _) rfl (by rfl) ?_
         simp only [Act.put, List.setIfInBounds_toArray, List.set_cons_zero, List.set_cons_succ])
      | (show wpPlan _ _ _ _ ((true, _) :: _) _ _
         refine plan_take (v := ?_) rfl (by rfl) (fun w' hw' => ?_) ?_
         rotate_left
         focus
           go_simp
           try with_reducible rfl
           done
         simp only [Act.put, List.setIfInBounds_toArray, List.set_cons_zero, List.set_cons_succ]))
  clear hcs
  refine plan_eff rfl (by rfl) (fun K hK => ?_)
  go_wp2_with fail
  refine (refSeal_any v l w4 (h.below hW4.out) hl).mono ?_
  rintro e w5 ⟨t, rfl, hot, hb5⟩
  refine hK _ _ (below_later hb5 (Nat.le_refl _)) ?_
  clear hK K
  have hW5 : Hid (Below w.heap.size w w5) := hW4.out.trans (hb5.mono z4)
  have hct : ∀ w', Later (fun _ => False) w5 w' → (convert 23 9 t).run Tryd.prog w' = .ok (.string ⟨(sealV l).toArray⟩) w' := fun w' hl => hstr'.out w' t _ (hot.bs.later0 hl)
  try simp only [Act.put, List.setIfInBounds_toArray, List.set_cons_zero, List.set_cons_succ]
  repeat
    (first
      | (show wpPlan _ _ _ _ ((true, _) :: _) _ _
         refine plan_skip rfl (by rfl) ?_
         simp only [Act.put, List.setIfInBounds_toArray, List.set_cons_zero, List.set_cons_succ])
      | (show wpPlan _ _ _ _ ((false, _) :: _) _ _
         refine plan_skip_eff (later_refl _) rfl (by rfl) ?_
         simp only [Act.put, List.setIfInBounds_toArray, List.set_cons_zero, List.set_cons_succ])
      | (show wpPlan _ _ _ _ ((true, _) :: _) _ _
         refine plan_take (v := ?_) rfl (by rfl) (fun w' hw' => ?_) ?_
         rotate_left
         focus
           go_simp
           try with_reducible rfl
           done
         simp only [Act.put, List.setIfInBounds_toArray, List.set_cons_zero, List.set_cons_succ]))
  refine plan_nil ?_
  go_wp2
  go_ret
  exact ⟨rfl, hW5.out⟩
end Go.Proofs.YtihimcgppifcbaaDoor
