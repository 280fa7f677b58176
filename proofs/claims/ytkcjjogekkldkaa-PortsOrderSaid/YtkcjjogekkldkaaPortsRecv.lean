/- ports: Receive walked. -/
import Derived.Test.YtkcjjogekkldkaaPortsSend2
namespace Go.Proofs.Ytkcjjogekkldkaa
open Go.RowKit

def ageV (now at_ : Nat) : Nat := if at_ < now then now - at_ else 0
def popC (c : Chan) (r : List Msg) : Chan := if c.kind = 0 then c else { c with first := (c.first + 1) % 16, L := r }

set_option maxRecDepth 100000 in
theorem recv_none (g : Nat) (c : Chan) (now : Nat) (w : World) (h : ChanAt w g c) (hL : c.L = []) :
    Calls Try.prog 14 #[.pointer (some ⟨g, 0, none⟩), .int .u64 now] w fun e w' => e = .returned (.tuple #[.slice none 0 0, .int .u64 0, .int .i64 6]) ∧ w' = w := by
  have hn : w.cell? ⟨g, 1060, none⟩ = some (.int .i64 0) := by have := h.n; rw [hL] at this; exact this
  clear hL h
  go_enter Try.func14, Try.ntmps14
  go_wp2_with fail
  go_ret3
  exact ⟨rfl, rfl⟩

theorem msg_at (m : Msg) (h : m.b.length ≤ 64) : (msgV m)[64]? = some (.int .i64 m.b.length) ∧ (msgV m)[65]? = some (.int .u64 m.at_) := by
  unfold msgV
  have hl : (bytesV m.b ++ List.replicate (64 - m.b.length) (Value.int .u8 0)).length = 64 := by rw [List.length_append, bytesV_length, List.length_replicate]; omega
  rw [List.getElem?_append_right (by rw [hl]; omega), List.getElem?_append_right (by rw [hl]; omega), hl]
  exact ⟨rfl, rfl⟩
theorem msg_bytes (m : Msg) : ∀ i (h : i < m.b.length), (msgV m)[i]? = some (.int .u8 (m.b[i].toNat)) := fun i h => by
  unfold msgV
  rw [List.append_assoc, List.getElem?_append_left (by rw [bytesV_length]; exact h)]
  exact bytesV_get m.b i h

theorem store_new {P : Program} (W : World) (T : TypeId) (Z cs : Array Value) (hi : (P.info? T).map (·.size) = some cs.size) (hzs : Z.size = cs.size) (h1 : cs.all (·.oneCell') = true) :
    (storeCells ⟨W.heap.size, 0, none⟩ cs.toList).run P (W.alloc (.cells Z T)) = .ok () (W.alloc (.cells cs T)) := run_storeCells_new (P := P) W T Z cs hi hzs h1


set_option maxRecDepth 100000 in
set_option maxHeartbeats 4000000 in
theorem recv_some (g : Nat) (c : Chan) (m : Msg) (r : List Msg) (now : Nat) (hnow : now < 18446744073709551616) (w : World) (h : ChanAt w g c) (hL : c.L = m :: r) :
    Calls Try.prog 14 #[.pointer (some ⟨g, 0, none⟩), .int .u64 now] w fun e w' => ∃ v, e = .returned (.tuple #[v, .int .u64 (ageV now m.at_), .int .i64 0]) ∧ OwnB w' w.heap.size 5 v m.b ∧ ChanAt w' g (popC c r) ∧ Touch (fun k => k = g) w w' := by
  have hn : w.cell? ⟨g, 1060, none⟩ = some (.int .i64 ((r.length + 1 : Nat) : Int)) := by have := h.n; rw [hL] at this; exact this
  have hmm := h.ok.msg m (by rw [hL]; exact List.mem_cons_self)
  have hr16 : r.length < 16 := by have := h.idx.2; rw [hL] at this; exact this
  have hm64 : m.b.length ≤ 64 := by have := h.ok.shape.2.1; omega
  have hml := msgV_length m hm64
  have hmI : (m.b.length : Int) ≤ 64 := by omega
  have hi1 : c.first < 16 := h.idx.1
  have hiI : (c.first : Int) < 16 := by omega
  have hW : ChanAt w.drew g c := h.later (F := fun _ => False) (later_drew _) (fun h => h)
  have f59 : ∀ w', Later (fun _ => False) w.drew w' → w'.cell? ⟨g, 1059, none⟩ = some (.int .i64 c.first) := fun w' hl => (Later.cell (a := w) hl h.lt (fun h => h)).1.trans h.first
  have hr0 : w.drew.rangeAt g (3 + c.first * 66) (msgV m) := by
    have := hW.msgs 0 (by rw [hL]; exact Nat.succ_pos _)
    rw [Nat.add_zero, Nat.mod_eq_of_lt hi1, Nat.mul_comm 66] at this
    simpa [hL] using this
  have fr := hide (fun w' (hl : Later (fun _ => False) w.drew w') => range_later (F := fun _ => False) hl hW.lt (fun h => h) hr0)
  obtain ⟨hz, hzs⟩ := zMsg
  have hzl := hide zMsgOne
  generalize zeroCells Try.prog 80 = Z at *
  have hz0 : ¬ Z = #[] := by intro e; rw [e] at hzs; simp at hzs
  have h' := hide h
  have hL' := hide hL
  have hW' := hide hW
  clear hr0 h hL hW
  by_cases hk : c.kind = 0
  · have hkb : (c.kind == 0) = true := by simpa using hk
    have hpc : popC c r = c := if_pos hk
    rw [hpc]
    by_cases hag : m.at_ < now
    · have hagv : ageV now m.at_ = now - m.at_ := if_pos hag
      have hsub : IntKind.u64.wrap ((now : Int) - (m.at_ : Int)) = ((now - m.at_ : Nat) : Int) := by rw [IntWalk.u64_in _ (by omega)]; omega
      have hd : decide (m.at_ < now) = true := decide_eq_true hag
      rw [hagv]
      go_enter Try.func14, Try.ntmps14
      go_wp2_with fail
      refine region_plan [(true, 0), (true, 1), (true, 2), (true, 3), (true, 4), (true, 5), (true, 6), (true, 7), (true, 8), (false, 9), (false, 10)] (Later fun _ => False) (later_refl _) (later_trans _) (by kernel_rfl) (by kernel_rfl) (fun _ _ d _ _ h => by cases d <;> exact h) ?_
      have hWs' := hide (show w.drew.heap.size = w.heap.size from rfl)
      have hT0 : Touch (fun k => k = g) w w.drew := (Touch.refl _ _).drew
      have hT0' := hide hT0
      clear hT0
      generalize w.drew = W at *
      repeat
        (first
          | (show wpPlan _ _ _ _ ((true, _) :: _) _ _
             refine plan_skip rfl (by rfl) ?_
             simp only [Act.put, List.setIfInBounds_toArray, List.set_cons_zero, List.set_cons_succ])
          | (show wpPlan _ _ _ _ ((false, _) :: _) _ _
             refine plan_skip_eff (later_refl _) rfl (by rfl) ?_
             simp only [Act.put, List.setIfInBounds_toArray, List.set_cons_zero, List.set_cons_succ])
          | (show wpPlan _ _ _ _ ((true, _) :: _) _ _
             refine plan_take (v := ?_) rfl (by rfl) (fun w' hw' => ?_) ?_
             rotate_left
             focus
               go_simp
               try with_reducible rfl
               done
             simp only [Act.put, List.setIfInBounds_toArray, List.set_cons_zero, List.set_cons_succ]))
      refine plan_take (v := .agg (msgV m).toArray) rfl (by rfl) (fun w' hw' => exec_load_mid _ _ rfl _ _ rfl _ _ (fr.out w' hw') Try.underlying80 rfl (by rw [hml]; kernel_rfl)) ?_
      try simp only [Act.put, List.setIfInBounds_toArray, List.set_cons_zero, List.set_cons_succ]
      repeat
        (first
          | (show wpPlan _ _ _ _ ((true, _) :: _) _ _
             refine plan_skip rfl (by rfl) ?_
             simp only [Act.put, List.setIfInBounds_toArray, List.set_cons_zero, List.set_cons_succ])
          | (show wpPlan _ _ _ _ ((false, _) :: _) _ _
             refine plan_skip_eff (later_refl _) rfl (by rfl) ?_
             simp only [Act.put, List.setIfInBounds_toArray, List.set_cons_zero, List.set_cons_succ])
          | (show wpPlan _ _ _ _ ((true, _) :: _) _ _
             refine plan_take (v := ?_) rfl (by rfl) (fun w' hw' => ?_) ?_
             rotate_left
             focus
               go_simp
               try with_reducible rfl
               done
             simp only [Act.put, List.setIfInBounds_toArray, List.set_cons_zero, List.set_cons_succ]))
      refine plan_eff rfl (by rfl) (fun K hK => ?_)
      go_wp2_with fail
      refine hK _ _ (later_alloc _ _) ?_
      clear hK K
      try simp only [Act.put, List.setIfInBounds_toArray, List.set_cons_zero, List.set_cons_succ]
      repeat
        (first
          | (show wpPlan _ _ _ _ ((true, _) :: _) _ _
             refine plan_skip rfl (by rfl) ?_
             simp only [Act.put, List.setIfInBounds_toArray, List.set_cons_zero, List.set_cons_succ])
          | (show wpPlan _ _ _ _ ((false, _) :: _) _ _
             refine plan_skip_eff (later_refl _) rfl (by rfl) ?_
             simp only [Act.put, List.setIfInBounds_toArray, List.set_cons_zero, List.set_cons_succ])
          | (show wpPlan _ _ _ _ ((true, _) :: _) _ _
             refine plan_take (v := ?_) rfl (by rfl) (fun w' hw' => ?_) ?_
             rotate_left
             focus
               go_simp
               try with_reducible rfl
               done
             simp only [Act.put, List.setIfInBounds_toArray, List.set_cons_zero, List.set_cons_succ]))
      have hst := store_new (P := Try.prog) W 80 Z (msgV m).toArray (by rw [Array.size, hml]; kernel_rfl) (by rw [hzs, Array.size, hml]) (all_oneCell_toArray (msgV_one m))
      have hC2 : ChanAt (W.alloc (.cells (msgV m).toArray 80)) g c := hW'.out.later (F := fun _ => False) (later_alloc _ _) (fun h => h)
      have hT2 : Touch (fun k => k = g) W (W.alloc (.cells (msgV m).toArray 80)) := (Touch.refl _ _).alloc _
      have hcm : ∀ j, (W.alloc (.cells (msgV m).toArray 80)).cell? ⟨W.heap.size, j, none⟩ = (msgV m)[j]? := fun j => by
        rw [cell_of_row _ _ j _ _ (0, 0) (heap_alloc_last W _)]; simp
      have hlp : W.heap.size < (W.alloc (.cells (msgV m).toArray 80)).heap.size := by simp
      have hgp := hW'.out.lt
      generalize W.alloc (.cells (msgV m).toArray 80) = W2 at *
      generalize W.heap.size = hp at *
      have c64 : W2.cell? ⟨hp, 64, none⟩ = some (.int .i64 m.b.length) := (hcm 64).trans (msg_at m hm64).1
      have c65 : W2.cell? ⟨hp, 65, none⟩ = some (.int .u64 m.at_) := (hcm 65).trans (msg_at m hm64).2
      have hbs := hide (Bs.mk_ (w := W2) (A := some ⟨hp, 0, none⟩) (c := 64) (l := m.b) hm64 (by omega) (fun _ => ⟨hp, 0, rfl, hlp, fun i hi => by rw [Nat.zero_add, hcm]; exact msg_bytes m i hi⟩))
      have hne : ¬ hp = g := by omega
      have hne2 : ¬ g = hp := by omega
      have hC2' := hide hC2
      have hT2' := hide hT2
      have hws : w.heap.size ≤ W2.heap.size := by have := hWs'.out; omega
      clear fr f59 hcm hT2
      have hkd : W2.cell? ⟨g, 0, none⟩ = some (.int .i64 c.kind) := hC2.kind
      clear hC2
      refine plan_eff_last (by kernel_rfl) rfl (by rfl) (fun K hK => ?_)
      go_wp2_with ((at_builtin; refine list_app_any elem_bytes rfl (.const (.slice none 0 0)) (.tmp 64) rfl w.heap.size (.slice none 0 0) 0 [] rfl (World.ownsRow_nil _ _ _ _) (.slice (some ⟨hp, 0, none⟩) m.b.length 64) m.b.length (bytesV m.b) rfl hbs.out (bytesV_one _) (by simp only [maxLen]; omega) (by omega) (by omega) ?_))
      intro v' w4 hown hgr hvb
      have hown' : Hid (OwnB w4 w.heap.size 5 v' m.b) := hide (by unfold OwnB; simpa using hown)
      have hT4 : Touch (fun _ => False) W2 w4 := ⟨(Below.refl _ _).grown hgr (Nat.zero_le _) (by intro k hk; cases hk), later_grown hgr (by intro k hk; cases hk)⟩
      have hT4' := hide hT4
      clear hown hgr hvb hT4
      go_wp2_with fail
      go_ret3
      exact ⟨v', rfl, hown'.out, hC2'.out.later (F := fun _ => False) hT4'.out.2 (fun h => h), hT0'.out.trans ((hT2'.out.trans (Touch.refl _ _)).trans (hT4'.out.mono (fun k _ h => h.elim)))⟩
    · have hagv : ageV now m.at_ = 0 := if_neg hag
      have hd : decide (m.at_ < now) = false := decide_eq_false hag
      rw [hagv]
      go_enter Try.func14, Try.ntmps14
      go_wp2_with fail
      refine region_plan [(true, 0), (true, 1), (true, 2), (true, 3), (true, 4), (true, 5), (true, 6), (true, 7), (true, 8), (false, 9), (false, 10)] (Later fun _ => False) (later_refl _) (later_trans _) (by kernel_rfl) (by kernel_rfl) (fun _ _ d _ _ h => by cases d <;> exact h) ?_
      have hWs' := hide (show w.drew.heap.size = w.heap.size from rfl)
      have hT0 : Touch (fun k => k = g) w w.drew := (Touch.refl _ _).drew
      have hT0' := hide hT0
      clear hT0
      generalize w.drew = W at *
      repeat
        (first
          | (show wpPlan _ _ _ _ ((true, _) :: _) _ _
             refine plan_skip rfl (by rfl) ?_
             simp only [Act.put, List.setIfInBounds_toArray, List.set_cons_zero, List.set_cons_succ])
          | (show wpPlan _ _ _ _ ((false, _) :: _) _ _
             refine plan_skip_eff (later_refl _) rfl (by rfl) ?_
             simp only [Act.put, List.setIfInBounds_toArray, List.set_cons_zero, List.set_cons_succ])
          | (show wpPlan _ _ _ _ ((true, _) :: _) _ _
             refine plan_take (v := ?_) rfl (by rfl) (fun w' hw' => ?_) ?_
             rotate_left
             focus
               go_simp
               try with_reducible rfl
               done
             simp only [Act.put, List.setIfInBounds_toArray, List.set_cons_zero, List.set_cons_succ]))
      refine plan_take (v := .agg (msgV m).toArray) rfl (by rfl) (fun w' hw' => exec_load_mid _ _ rfl _ _ rfl _ _ (fr.out w' hw') Try.underlying80 rfl (by rw [hml]; kernel_rfl)) ?_
      try simp only [Act.put, List.setIfInBounds_toArray, List.set_cons_zero, List.set_cons_succ]
      repeat
        (first
          | (show wpPlan _ _ _ _ ((true, _) :: _) _ _
             refine plan_skip rfl (by rfl) ?_
             simp only [Act.put, List.setIfInBounds_toArray, List.set_cons_zero, List.set_cons_succ])
          | (show wpPlan _ _ _ _ ((false, _) :: _) _ _
             refine plan_skip_eff (later_refl _) rfl (by rfl) ?_
             simp only [Act.put, List.setIfInBounds_toArray, List.set_cons_zero, List.set_cons_succ])
          | (show wpPlan _ _ _ _ ((true, _) :: _) _ _
             refine plan_take (v := ?_) rfl (by rfl) (fun w' hw' => ?_) ?_
             rotate_left
             focus
               go_simp
               try with_reducible rfl
               done
             simp only [Act.put, List.setIfInBounds_toArray, List.set_cons_zero, List.set_cons_succ]))
      refine plan_eff rfl (by rfl) (fun K hK => ?_)
      go_wp2_with fail
      refine hK _ _ (later_alloc _ _) ?_
      clear hK K
      try simp only [Act.put, List.setIfInBounds_toArray, List.set_cons_zero, List.set_cons_succ]
      repeat
        (first
          | (show wpPlan _ _ _ _ ((true, _) :: _) _ _
             refine plan_skip rfl (by rfl) ?_
             simp only [Act.put, List.setIfInBounds_toArray, List.set_cons_zero, List.set_cons_succ])
          | (show wpPlan _ _ _ _ ((false, _) :: _) _ _
             refine plan_skip_eff (later_refl _) rfl (by rfl) ?_
             simp only [Act.put, List.setIfInBounds_toArray, List.set_cons_zero, List.set_cons_succ])
          | (show wpPlan _ _ _ _ ((true, _) :: _) _ _
             refine plan_take (v := ?_) rfl (by rfl) (fun w' hw' => ?_) ?_
             rotate_left
             focus
               go_simp
               try with_reducible rfl
               done
             simp only [Act.put, List.setIfInBounds_toArray, List.set_cons_zero, List.set_cons_succ]))
      have hst := store_new (P := Try.prog) W 80 Z (msgV m).toArray (by rw [Array.size, hml]; kernel_rfl) (by rw [hzs, Array.size, hml]) (all_oneCell_toArray (msgV_one m))
      have hC2 : ChanAt (W.alloc (.cells (msgV m).toArray 80)) g c := hW'.out.later (F := fun _ => False) (later_alloc _ _) (fun h => h)
      have hT2 : Touch (fun k => k = g) W (W.alloc (.cells (msgV m).toArray 80)) := (Touch.refl _ _).alloc _
      have hcm : ∀ j, (W.alloc (.cells (msgV m).toArray 80)).cell? ⟨W.heap.size, j, none⟩ = (msgV m)[j]? := fun j => by
        rw [cell_of_row _ _ j _ _ (0, 0) (heap_alloc_last W _)]; simp
      have hlp : W.heap.size < (W.alloc (.cells (msgV m).toArray 80)).heap.size := by simp
      have hgp := hW'.out.lt
      generalize W.alloc (.cells (msgV m).toArray 80) = W2 at *
      generalize W.heap.size = hp at *
      have c64 : W2.cell? ⟨hp, 64, none⟩ = some (.int .i64 m.b.length) := (hcm 64).trans (msg_at m hm64).1
      have c65 : W2.cell? ⟨hp, 65, none⟩ = some (.int .u64 m.at_) := (hcm 65).trans (msg_at m hm64).2
      have hbs := hide (Bs.mk_ (w := W2) (A := some ⟨hp, 0, none⟩) (c := 64) (l := m.b) hm64 (by omega) (fun _ => ⟨hp, 0, rfl, hlp, fun i hi => by rw [Nat.zero_add, hcm]; exact msg_bytes m i hi⟩))
      have hne : ¬ hp = g := by omega
      have hne2 : ¬ g = hp := by omega
      have hC2' := hide hC2
      have hT2' := hide hT2
      have hws : w.heap.size ≤ W2.heap.size := by have := hWs'.out; omega
      clear fr f59 hcm hT2
      have hkd : W2.cell? ⟨g, 0, none⟩ = some (.int .i64 c.kind) := hC2.kind
      clear hC2
      refine plan_eff_last (by kernel_rfl) rfl (by rfl) (fun K hK => ?_)
      go_wp2_with ((at_builtin; refine list_app_any elem_bytes rfl (.const (.slice none 0 0)) (.tmp 64) rfl w.heap.size (.slice none 0 0) 0 [] rfl (World.ownsRow_nil _ _ _ _) (.slice (some ⟨hp, 0, none⟩) m.b.length 64) m.b.length (bytesV m.b) rfl hbs.out (bytesV_one _) (by simp only [maxLen]; omega) (by omega) (by omega) ?_))
      intro v' w4 hown hgr hvb
      have hown' : Hid (OwnB w4 w.heap.size 5 v' m.b) := hide (by unfold OwnB; simpa using hown)
      have hT4 : Touch (fun _ => False) W2 w4 := ⟨(Below.refl _ _).grown hgr (Nat.zero_le _) (by intro k hk; cases hk), later_grown hgr (by intro k hk; cases hk)⟩
      have hT4' := hide hT4
      clear hown hgr hvb hT4
      go_wp2_with fail
      go_ret3
      exact ⟨v', rfl, hown'.out, hC2'.out.later (F := fun _ => False) hT4'.out.2 (fun h => h), hT0'.out.trans ((hT2'.out.trans (Touch.refl _ _)).trans (hT4'.out.mono (fun k _ h => h.elim)))⟩
  · have hkb : (c.kind == 0) = false := by simpa using hk
    have hpc : popC c r = { c with first := (c.first + 1) % 16, L := r } := if_neg hk
    rw [hpc]
    by_cases hag : m.at_ < now
    · have hagv : ageV now m.at_ = now - m.at_ := if_pos hag
      have hsub : IntKind.u64.wrap ((now : Int) - (m.at_ : Int)) = ((now - m.at_ : Nat) : Int) := by rw [IntWalk.u64_in _ (by omega)]; omega
      have hd : decide (m.at_ < now) = true := decide_eq_true hag
      rw [hagv]
      go_enter Try.func14, Try.ntmps14
      go_wp2_with fail
      refine region_plan [(true, 0), (true, 1), (true, 2), (true, 3), (true, 4), (true, 5), (true, 6), (true, 7), (true, 8), (false, 9), (false, 10)] (Later fun _ => False) (later_refl _) (later_trans _) (by kernel_rfl) (by kernel_rfl) (fun _ _ d _ _ h => by cases d <;> exact h) ?_
      have hWs' := hide (show w.drew.heap.size = w.heap.size from rfl)
      have hT0 : Touch (fun k => k = g) w w.drew := (Touch.refl _ _).drew
      have hT0' := hide hT0
      clear hT0
      generalize w.drew = W at *
      repeat
        (first
          | (show wpPlan _ _ _ _ ((true, _) :: _) _ _
             refine plan_skip rfl (by rfl) ?_
             simp only [Act.put, List.setIfInBounds_toArray, List.set_cons_zero, List.set_cons_succ])
          | (show wpPlan _ _ _ _ ((false, _) :: _) _ _
             refine plan_skip_eff (later_refl _) rfl (by rfl) ?_
             simp only [Act.put, List.setIfInBounds_toArray, List.set_cons_zero, List.set_cons_succ])
          | (show wpPlan _ _ _ _ ((true, _) :: _) _ _
             refine plan_take (v := ?_) rfl (by rfl) (fun w' hw' => ?_) ?_
             rotate_left
             focus
               go_simp
               try with_reducible rfl
               done
             simp only [Act.put, List.setIfInBounds_toArray, List.set_cons_zero, List.set_cons_succ]))
      refine plan_take (v := .agg (msgV m).toArray) rfl (by rfl) (fun w' hw' => exec_load_mid _ _ rfl _ _ rfl _ _ (fr.out w' hw') Try.underlying80 rfl (by rw [hml]; kernel_rfl)) ?_
      try simp only [Act.put, List.setIfInBounds_toArray, List.set_cons_zero, List.set_cons_succ]
      repeat
        (first
          | (show wpPlan _ _ _ _ ((true, _) :: _) _ _
             refine plan_skip rfl (by rfl) ?_
             simp only [Act.put, List.setIfInBounds_toArray, List.set_cons_zero, List.set_cons_succ])
          | (show wpPlan _ _ _ _ ((false, _) :: _) _ _
             refine plan_skip_eff (later_refl _) rfl (by rfl) ?_
             simp only [Act.put, List.setIfInBounds_toArray, List.set_cons_zero, List.set_cons_succ])
          | (show wpPlan _ _ _ _ ((true, _) :: _) _ _
             refine plan_take (v := ?_) rfl (by rfl) (fun w' hw' => ?_) ?_
             rotate_left
             focus
               go_simp
               try with_reducible rfl
               done
             simp only [Act.put, List.setIfInBounds_toArray, List.set_cons_zero, List.set_cons_succ]))
      refine plan_eff rfl (by rfl) (fun K hK => ?_)
      go_wp2_with fail
      refine hK _ _ (later_alloc _ _) ?_
      clear hK K
      try simp only [Act.put, List.setIfInBounds_toArray, List.set_cons_zero, List.set_cons_succ]
      repeat
        (first
          | (show wpPlan _ _ _ _ ((true, _) :: _) _ _
             refine plan_skip rfl (by rfl) ?_
             simp only [Act.put, List.setIfInBounds_toArray, List.set_cons_zero, List.set_cons_succ])
          | (show wpPlan _ _ _ _ ((false, _) :: _) _ _
             refine plan_skip_eff (later_refl _) rfl (by rfl) ?_
             simp only [Act.put, List.setIfInBounds_toArray, List.set_cons_zero, List.set_cons_succ])
          | (show wpPlan _ _ _ _ ((true, _) :: _) _ _
             refine plan_take (v := ?_) rfl (by rfl) (fun w' hw' => ?_) ?_
             rotate_left
             focus
               go_simp
               try with_reducible rfl
               done
             simp only [Act.put, List.setIfInBounds_toArray, List.set_cons_zero, List.set_cons_succ]))
      have hst := store_new (P := Try.prog) W 80 Z (msgV m).toArray (by rw [Array.size, hml]; kernel_rfl) (by rw [hzs, Array.size, hml]) (all_oneCell_toArray (msgV_one m))
      have hC2 : ChanAt (W.alloc (.cells (msgV m).toArray 80)) g c := hW'.out.later (F := fun _ => False) (later_alloc _ _) (fun h => h)
      have hT2 : Touch (fun k => k = g) W (W.alloc (.cells (msgV m).toArray 80)) := (Touch.refl _ _).alloc _
      have hcm : ∀ j, (W.alloc (.cells (msgV m).toArray 80)).cell? ⟨W.heap.size, j, none⟩ = (msgV m)[j]? := fun j => by
        rw [cell_of_row _ _ j _ _ (0, 0) (heap_alloc_last W _)]; simp
      have hlp : W.heap.size < (W.alloc (.cells (msgV m).toArray 80)).heap.size := by simp
      have hgp := hW'.out.lt
      generalize W.alloc (.cells (msgV m).toArray 80) = W2 at *
      generalize W.heap.size = hp at *
      have c64 : W2.cell? ⟨hp, 64, none⟩ = some (.int .i64 m.b.length) := (hcm 64).trans (msg_at m hm64).1
      have c65 : W2.cell? ⟨hp, 65, none⟩ = some (.int .u64 m.at_) := (hcm 65).trans (msg_at m hm64).2
      have hbs := hide (Bs.mk_ (w := W2) (A := some ⟨hp, 0, none⟩) (c := 64) (l := m.b) hm64 (by omega) (fun _ => ⟨hp, 0, rfl, hlp, fun i hi => by rw [Nat.zero_add, hcm]; exact msg_bytes m i hi⟩))
      have hne : ¬ hp = g := by omega
      have hne2 : ¬ g = hp := by omega
      have hC2' := hide hC2
      have hT2' := hide hT2
      have hws : w.heap.size ≤ W2.heap.size := by have := hWs'.out; omega
      clear fr f59 hcm hT2
      have hkd : W2.cell? ⟨g, 0, none⟩ = some (.int .i64 c.kind) := hC2.kind
      have f59 : ∀ w', Later (fun _ => False) W2.drew w' → w'.cell? ⟨g, 1059, none⟩ = some (.int .i64 c.first) := fun w' hl => (Later.cell (a := W2) hl hC2.lt (fun h => h)).1.trans hC2.first
      have hC2d : ChanAt W2.drew g c := hC2.later (F := fun _ => False) (later_drew _) (fun h => h)
      have hZ1 : ∀ v ∈ Z.toList, v.oneCell' = true := by
        rw [hzl.out]; intro v hv
        simp only [List.mem_append, List.mem_replicate, List.mem_cons, List.not_mem_nil, or_false] at hv
        rcases hv with ⟨_, rfl⟩ | rfl | rfl <;> rfl
      have hZl : Z.toList.length = 66 := by rw [Array.length_toList]; exact hzs
      have hst2 := run_store_there (P := Try.prog) (w := W2.drew) (g := g) (o := 3 + c.first * 66) (vs := Z.toList) (by rw [hZl]; exact hC2d.there c.first hi1) hZ1
      have hpop := hC2d.pop m r hL'.out Z.toList hZl hZ1
      rw [Nat.mul_comm 66 c.first] at hpop
      obtain ⟨W3, hW3⟩ : ∃ W3, W3 = W2.drew.setCells g (3 + c.first * 66) Z.toList := ⟨_, rfl⟩
      have hout : ∀ k, 1059 ≤ k → W3.cell? ⟨g, k, none⟩ = W2.cell? ⟨g, k, none⟩ := fun k hk => by
        rw [hW3, World.cell?_setCells_out g _ _ _ ⟨g, k, none⟩ (fun _ _ => by rw [hZl]; right; show 3 + c.first * 66 + 66 ≤ k; omega)]; rfl
      have c59 : W3.cell? ⟨g, 1059, none⟩ = some (.int .i64 c.first) := (hout _ (by omega)).trans hC2.first
      have c60 : W3.cell? ⟨g, 1060, none⟩ = some (.int .i64 ((r.length + 1 : Nat) : Int)) := (hout _ (by omega)).trans (by have := hC2.n; rw [hL'.out] at this; exact this)
      have z59 : W3.frozen? ⟨g, 1059, none⟩ = false := by rw [hW3, World.frozen?_setCells]; exact hC2.thaw _
      have z60 : W3.frozen? ⟨g, 1060, none⟩ = false := by rw [hW3, World.frozen?_setCells]; exact hC2.thaw _
      have c64' : W3.cell? ⟨hp, 64, none⟩ = some (.int .i64 m.b.length) := by rw [hW3, World.cell?_setCells_out g _ _ _ ⟨hp, 64, none⟩ (fun e _ => absurd e hne)]; exact c64
      have c65' : W3.cell? ⟨hp, 65, none⟩ = some (.int .u64 m.at_) := by rw [hW3, World.cell?_setCells_out g _ _ _ ⟨hp, 65, none⟩ (fun e _ => absurd e hne)]; exact c65
      have hT3 : Touch (fun k => k = g) W2 W3 := by rw [hW3]; exact Touch.setCells (F := fun k => k = g) rfl _ _ (Touch.refl _ _).drew
      rw [← hW3] at hst2 hpop
      have hpop' := hide hpop
      have hT3' := hide hT3
      have hZl' := hide hZl
      have hbs5 := hide (fun w' (hl : Later (fun k => k = g) W2 w') => hbs.out.later hl (fun b hb => by cases hb; exact hne))
      have hw5 := hide hT3.size
      have hl5 := hide (later_trans _ _ _ _ hT3.2 (later_trans _ _ _ _ (later_setCell (F := fun k => k = g) W3 (p := ⟨g, 1059, none⟩) (.int .i64 (((c.first : Int) + 1) % 16)) rfl) (later_setCell (F := fun k => k = g) (W3.setCell ⟨g, 1059, none⟩ (.int .i64 (((c.first : Int) + 1) % 16))) (p := ⟨g, 1060, none⟩) (.int .i64 r.length) rfl)))
      clear hC2 hC2d hZ1 hZl hout hW3 hpop hT3
      refine plan_eff_last (by kernel_rfl) rfl (by rfl) (fun K hK => ?_)
      go_wp2_with fail
      refine region_plan [(true, 0), (true, 1), (true, 2), (true, 3), (true, 4), (true, 5), (true, 6), (true, 7), (true, 8), (false, 9)] (Later fun _ => False) (later_refl _) (later_trans _) (by kernel_rfl) (by kernel_rfl) (fun _ _ d _ _ h => by cases d <;> exact h) ?_
      repeat
        (first
          | (show wpPlan _ _ _ _ ((true, _) :: _) _ _
             refine plan_skip rfl (by rfl) ?_
             simp only [Act.put, List.setIfInBounds_toArray, List.set_cons_zero, List.set_cons_succ])
          | (show wpPlan _ _ _ _ ((false, _) :: _) _ _
             refine plan_skip_eff (later_refl _) rfl (by rfl) ?_
             simp only [Act.put, List.setIfInBounds_toArray, List.set_cons_zero, List.set_cons_succ])
          | (show wpPlan _ _ _ _ ((true, _) :: _) _ _
             refine plan_take (v := ?_) rfl (by rfl) (fun w' hw' => ?_) ?_
             rotate_left
             focus
               go_simp
               try with_reducible rfl
               done
             simp only [Act.put, List.setIfInBounds_toArray, List.set_cons_zero, List.set_cons_succ]))
      refine plan_eff_last (by kernel_rfl) rfl (by rfl) (fun K hK => ?_)
      go_wp2_with ((at_builtin; refine list_app_any elem_bytes rfl (.const (.slice none 0 0)) (.tmp 64) rfl w.heap.size (.slice none 0 0) 0 [] rfl (World.ownsRow_nil _ _ _ _) (.slice (some ⟨hp, 0, none⟩) m.b.length 64) m.b.length (bytesV m.b) rfl (hbs5.out _ hl5.out) (bytesV_one _) (by simp only [maxLen]; omega) (by omega) (by have := hw5.out; simp only [heap_setCell_size]; omega) ?_))
      have hpop2 : ChanAt ((W3.setCell ⟨g, 1059, none⟩ (.int .i64 (((c.first : Int) + 1) % 16))).setCell ⟨g, 1060, none⟩ (.int .i64 r.length)) g { c with first := (c.first + 1) % 16, L := r } := hpop'.out
      intro v' w4 hown hgr hvb
      have hown' : Hid (OwnB w4 w.heap.size 5 v' m.b) := hide (by unfold OwnB; simpa using hown)
      have hT4 : Touch (fun _ => False) _ w4 := ⟨(Below.refl _ _).grown hgr (Nat.zero_le _) (by intro k hk; cases hk), later_grown hgr (by intro k hk; cases hk)⟩
      have hT4' := hide hT4
      clear hown hgr hvb hT4
      go_wp2_with fail
      go_ret3
      exact ⟨v', rfl, hown'.out, hpop2.later (F := fun _ => False) hT4'.out.2 (fun h => h), hT0'.out.trans ((hT2'.out.trans ((hT3'.out.setCell (p := ⟨g, 1059, none⟩) rfl _).setCell (p := ⟨g, 1060, none⟩) rfl _)).trans (hT4'.out.mono (fun k _ h => h.elim)))⟩
    · have hagv : ageV now m.at_ = 0 := if_neg hag
      have hd : decide (m.at_ < now) = false := decide_eq_false hag
      rw [hagv]
      go_enter Try.func14, Try.ntmps14
      go_wp2_with fail
      refine region_plan [(true, 0), (true, 1), (true, 2), (true, 3), (true, 4), (true, 5), (true, 6), (true, 7), (true, 8), (false, 9), (false, 10)] (Later fun _ => False) (later_refl _) (later_trans _) (by kernel_rfl) (by kernel_rfl) (fun _ _ d _ _ h => by cases d <;> exact h) ?_
      have hWs' := hide (show w.drew.heap.size = w.heap.size from rfl)
      have hT0 : Touch (fun k => k = g) w w.drew := (Touch.refl _ _).drew
      have hT0' := hide hT0
      clear hT0
      generalize w.drew = W at *
      repeat
        (first
          | (show wpPlan _ _ _ _ ((true, _) :: _) _ _
             refine plan_skip rfl (by rfl) ?_
             simp only [Act.put, List.setIfInBounds_toArray, List.set_cons_zero, List.set_cons_succ])
          | (show wpPlan _ _ _ _ ((false, _) :: _) _ _
             refine plan_skip_eff (later_refl _) rfl (by rfl) ?_
             simp only [Act.put, List.setIfInBounds_toArray, List.set_cons_zero, List.set_cons_succ])
          | (show wpPlan _ _ _ _ ((true, _) :: _) _ _
             refine plan_take (v := ?_) rfl (by rfl) (fun w' hw' => ?_) ?_
             rotate_left
             focus
               go_simp
               try with_reducible rfl
               done
             simp only [Act.put, List.setIfInBounds_toArray, List.set_cons_zero, List.set_cons_succ]))
      refine plan_take (v := .agg (msgV m).toArray) rfl (by rfl) (fun w' hw' => exec_load_mid _ _ rfl _ _ rfl _ _ (fr.out w' hw') Try.underlying80 rfl (by rw [hml]; kernel_rfl)) ?_
      try simp only [Act.put, List.setIfInBounds_toArray, List.set_cons_zero, List.set_cons_succ]
      repeat
        (first
          | (show wpPlan _ _ _ _ ((true, _) :: _) _ _
             refine plan_skip rfl (by rfl) ?_
             simp only [Act.put, List.setIfInBounds_toArray, List.set_cons_zero, List.set_cons_succ])
          | (show wpPlan _ _ _ _ ((false, _) :: _) _ _
             refine plan_skip_eff (later_refl _) rfl (by rfl) ?_
             simp only [Act.put, List.setIfInBounds_toArray, List.set_cons_zero, List.set_cons_succ])
          | (show wpPlan _ _ _ _ ((true, _) :: _) _ _
             refine plan_take (v := ?_) rfl (by rfl) (fun w' hw' => ?_) ?_
             rotate_left
             focus
               go_simp
               try with_reducible rfl
               done
             simp only [Act.put, List.setIfInBounds_toArray, List.set_cons_zero, List.set_cons_succ]))
      refine plan_eff rfl (by rfl) (fun K hK => ?_)
      go_wp2_with fail
      refine hK _ _ (later_alloc _ _) ?_
      clear hK K
      try simp only [Act.put, List.setIfInBounds_toArray, List.set_cons_zero, List.set_cons_succ]
      repeat
        (first
          | (show wpPlan _ _ _ _ ((true, _) :: _) _ _
             refine plan_skip rfl (by rfl) ?_
             simp only [Act.put, List.setIfInBounds_toArray, List.set_cons_zero, List.set_cons_succ])
          | (show wpPlan _ _ _ _ ((false, _) :: _) _ _
             refine plan_skip_eff (later_refl _) rfl (by rfl) ?_
             simp only [Act.put, List.setIfInBounds_toArray, List.set_cons_zero, List.set_cons_succ])
          | (show wpPlan _ _ _ _ ((true, _) :: _) _ _
             refine plan_take (v := ?_) rfl (by rfl) (fun w' hw' => ?_) ?_
             rotate_left
             focus
               go_simp
               try with_reducible rfl
               done
             simp only [Act.put, List.setIfInBounds_toArray, List.set_cons_zero, List.set_cons_succ]))
      have hst := store_new (P := Try.prog) W 80 Z (msgV m).toArray (by rw [Array.size, hml]; kernel_rfl) (by rw [hzs, Array.size, hml]) (all_oneCell_toArray (msgV_one m))
      have hC2 : ChanAt (W.alloc (.cells (msgV m).toArray 80)) g c := hW'.out.later (F := fun _ => False) (later_alloc _ _) (fun h => h)
      have hT2 : Touch (fun k => k = g) W (W.alloc (.cells (msgV m).toArray 80)) := (Touch.refl _ _).alloc _
      have hcm : ∀ j, (W.alloc (.cells (msgV m).toArray 80)).cell? ⟨W.heap.size, j, none⟩ = (msgV m)[j]? := fun j => by
        rw [cell_of_row _ _ j _ _ (0, 0) (heap_alloc_last W _)]; simp
      have hlp : W.heap.size < (W.alloc (.cells (msgV m).toArray 80)).heap.size := by simp
      have hgp := hW'.out.lt
      generalize W.alloc (.cells (msgV m).toArray 80) = W2 at *
      generalize W.heap.size = hp at *
      have c64 : W2.cell? ⟨hp, 64, none⟩ = some (.int .i64 m.b.length) := (hcm 64).trans (msg_at m hm64).1
      have c65 : W2.cell? ⟨hp, 65, none⟩ = some (.int .u64 m.at_) := (hcm 65).trans (msg_at m hm64).2
      have hbs := hide (Bs.mk_ (w := W2) (A := some ⟨hp, 0, none⟩) (c := 64) (l := m.b) hm64 (by omega) (fun _ => ⟨hp, 0, rfl, hlp, fun i hi => by rw [Nat.zero_add, hcm]; exact msg_bytes m i hi⟩))
      have hne : ¬ hp = g := by omega
      have hne2 : ¬ g = hp := by omega
      have hC2' := hide hC2
      have hT2' := hide hT2
      have hws : w.heap.size ≤ W2.heap.size := by have := hWs'.out; omega
      clear fr f59 hcm hT2
      have hkd : W2.cell? ⟨g, 0, none⟩ = some (.int .i64 c.kind) := hC2.kind
      have f59 : ∀ w', Later (fun _ => False) W2.drew w' → w'.cell? ⟨g, 1059, none⟩ = some (.int .i64 c.first) := fun w' hl => (Later.cell (a := W2) hl hC2.lt (fun h => h)).1.trans hC2.first
      have hC2d : ChanAt W2.drew g c := hC2.later (F := fun _ => False) (later_drew _) (fun h => h)
      have hZ1 : ∀ v ∈ Z.toList, v.oneCell' = true := by
        rw [hzl.out]; intro v hv
        simp only [List.mem_append, List.mem_replicate, List.mem_cons, List.not_mem_nil, or_false] at hv
        rcases hv with ⟨_, rfl⟩ | rfl | rfl <;> rfl
      have hZl : Z.toList.length = 66 := by rw [Array.length_toList]; exact hzs
      have hst2 := run_store_there (P := Try.prog) (w := W2.drew) (g := g) (o := 3 + c.first * 66) (vs := Z.toList) (by rw [hZl]; exact hC2d.there c.first hi1) hZ1
      have hpop := hC2d.pop m r hL'.out Z.toList hZl hZ1
      rw [Nat.mul_comm 66 c.first] at hpop
      obtain ⟨W3, hW3⟩ : ∃ W3, W3 = W2.drew.setCells g (3 + c.first * 66) Z.toList := ⟨_, rfl⟩
      have hout : ∀ k, 1059 ≤ k → W3.cell? ⟨g, k, none⟩ = W2.cell? ⟨g, k, none⟩ := fun k hk => by
        rw [hW3, World.cell?_setCells_out g _ _ _ ⟨g, k, none⟩ (fun _ _ => by rw [hZl]; right; show 3 + c.first * 66 + 66 ≤ k; omega)]; rfl
      have c59 : W3.cell? ⟨g, 1059, none⟩ = some (.int .i64 c.first) := (hout _ (by omega)).trans hC2.first
      have c60 : W3.cell? ⟨g, 1060, none⟩ = some (.int .i64 ((r.length + 1 : Nat) : Int)) := (hout _ (by omega)).trans (by have := hC2.n; rw [hL'.out] at this; exact this)
      have z59 : W3.frozen? ⟨g, 1059, none⟩ = false := by rw [hW3, World.frozen?_setCells]; exact hC2.thaw _
      have z60 : W3.frozen? ⟨g, 1060, none⟩ = false := by rw [hW3, World.frozen?_setCells]; exact hC2.thaw _
      have c64' : W3.cell? ⟨hp, 64, none⟩ = some (.int .i64 m.b.length) := by rw [hW3, World.cell?_setCells_out g _ _ _ ⟨hp, 64, none⟩ (fun e _ => absurd e hne)]; exact c64
      have c65' : W3.cell? ⟨hp, 65, none⟩ = some (.int .u64 m.at_) := by rw [hW3, World.cell?_setCells_out g _ _ _ ⟨hp, 65, none⟩ (fun e _ => absurd e hne)]; exact c65
      have hT3 : Touch (fun k => k = g) W2 W3 := by rw [hW3]; exact Touch.setCells (F := fun k => k = g) rfl _ _ (Touch.refl _ _).drew
      rw [← hW3] at hst2 hpop
      have hpop' := hide hpop
      have hT3' := hide hT3
      have hZl' := hide hZl
      have hbs5 := hide (fun w' (hl : Later (fun k => k = g) W2 w') => hbs.out.later hl (fun b hb => by cases hb; exact hne))
      have hw5 := hide hT3.size
      have hl5 := hide (later_trans _ _ _ _ hT3.2 (later_trans _ _ _ _ (later_setCell (F := fun k => k = g) W3 (p := ⟨g, 1059, none⟩) (.int .i64 (((c.first : Int) + 1) % 16)) rfl) (later_setCell (F := fun k => k = g) (W3.setCell ⟨g, 1059, none⟩ (.int .i64 (((c.first : Int) + 1) % 16))) (p := ⟨g, 1060, none⟩) (.int .i64 r.length) rfl)))
      clear hC2 hC2d hZ1 hZl hout hW3 hpop hT3
      refine plan_eff_last (by kernel_rfl) rfl (by rfl) (fun K hK => ?_)
      go_wp2_with fail
      refine region_plan [(true, 0), (true, 1), (true, 2), (true, 3), (true, 4), (true, 5), (true, 6), (true, 7), (true, 8), (false, 9)] (Later fun _ => False) (later_refl _) (later_trans _) (by kernel_rfl) (by kernel_rfl) (fun _ _ d _ _ h => by cases d <;> exact h) ?_
      repeat
        (first
          | (show wpPlan _ _ _ _ ((true, _) :: _) _ _
             refine plan_skip rfl (by rfl) ?_
             simp only [Act.put, List.setIfInBounds_toArray, List.set_cons_zero, List.set_cons_succ])
          | (show wpPlan _ _ _ _ ((false, _) :: _) _ _
             refine plan_skip_eff (later_refl _) rfl (by rfl) ?_
             simp only [Act.put, List.setIfInBounds_toArray, List.set_cons_zero, List.set_cons_succ])
          | (show wpPlan _ _ _ _ ((true, _) :: _) _ _
             refine plan_take (v := ?_) rfl (by rfl) (fun w' hw' => ?_) ?_
             rotate_left
             focus
               go_simp
               try with_reducible rfl
               done
             simp only [Act.put, List.setIfInBounds_toArray, List.set_cons_zero, List.set_cons_succ]))
      refine plan_eff_last (by kernel_rfl) rfl (by rfl) (fun K hK => ?_)
      go_wp2_with ((at_builtin; refine list_app_any elem_bytes rfl (.const (.slice none 0 0)) (.tmp 64) rfl w.heap.size (.slice none 0 0) 0 [] rfl (World.ownsRow_nil _ _ _ _) (.slice (some ⟨hp, 0, none⟩) m.b.length 64) m.b.length (bytesV m.b) rfl (hbs5.out _ hl5.out) (bytesV_one _) (by simp only [maxLen]; omega) (by omega) (by have := hw5.out; simp only [heap_setCell_size]; omega) ?_))
      have hpop2 : ChanAt ((W3.setCell ⟨g, 1059, none⟩ (.int .i64 (((c.first : Int) + 1) % 16))).setCell ⟨g, 1060, none⟩ (.int .i64 r.length)) g { c with first := (c.first + 1) % 16, L := r } := hpop'.out
      intro v' w4 hown hgr hvb
      have hown' : Hid (OwnB w4 w.heap.size 5 v' m.b) := hide (by unfold OwnB; simpa using hown)
      have hT4 : Touch (fun _ => False) _ w4 := ⟨(Below.refl _ _).grown hgr (Nat.zero_le _) (by intro k hk; cases hk), later_grown hgr (by intro k hk; cases hk)⟩
      have hT4' := hide hT4
      clear hown hgr hvb hT4
      go_wp2_with fail
      go_ret3
      exact ⟨v', rfl, hown'.out, hpop2.later (F := fun _ => False) hT4'.out.2 (fun h => h), hT0'.out.trans ((hT2'.out.trans ((hT3'.out.setCell (p := ⟨g, 1059, none⟩) rfl _).setCell (p := ⟨g, 1060, none⟩) rfl _)).trans (hT4'.out.mono (fun k _ h => h.elim)))⟩
end Go.Proofs.Ytkcjjogekkldkaa
