/- code.formed, jumps walked. -/
import Derived.Test.YtmgcbiejnifhpaaPvmCode
namespace Go.Proofs.Ytmgcbiejnifhpaa
open Go.RowKit

/-- is an instruction of the form? -/
def Ins.formed (i : Ins) : Bool := decide ((i.o = 0 ∧ i.b = 0 ∧ i.c = 0 ∧ i.a = 0) ∨ (i.o = 15 ∧ i.a = 0) ∨ (i.o = 17 ∧ i.a < 16 ∧ i.b = 0 ∧ i.c = 0) ∨ (i.o = 2 ∧ i.c = 0 ∧ i.b < 8 ∧ i.a < 8) ∨ ((i.o = 13 ∨ i.o = 14) ∧ i.b < 8 ∧ i.a < 8) ∨ ((i.o = 1 ∨ i.o = 16) ∧ i.a < 8) ∨ (3 ≤ i.o ∧ i.o ≤ 12 ∧ i.a < 8 ∧ i.b < 8 ∧ i.c < 8))
def Ins.jumps (i : Ins) : Bool := decide (i.o = 15 ∨ i.o = 16)
structure IBox (w : World) (p : Nat) (o a b c : Int) : Prop where
  lt : p < w.heap.size
  c0 : w.cell? ⟨p, 0, none⟩ = some (.int .u8 o)
  c1 : w.cell? ⟨p, 1, none⟩ = some (.int .u8 a)
  c2 : w.cell? ⟨p, 2, none⟩ = some (.int .u8 b)
  c3 : w.cell? ⟨p, 3, none⟩ = some (.int .u8 c)
  z : ∀ j, w.frozen? ⟨p, j, none⟩ = false
theorem IBox.later {F : Nat → Prop} {w w' : World} {p : Nat} {o a b c : Int} (h : IBox w p o a b c) (t : Later F w w') (hF : ¬ F p) : IBox w' p o a b c := by
  have e := fun x => Later.cell t (o := x) h.lt hF
  exact ⟨Nat.lt_of_lt_of_le h.lt t.1, (e 0).1.trans h.c0, (e 1).1.trans h.c1, (e 2).1.trans h.c2, (e 3).1.trans h.c3, fun j => (e j).2.trans (h.z j)⟩
theorem IBox.below {w w' : World} {p : Nat} {o a b c : Int} (h : IBox w p o a b c) (t : Below w.heap.size w w') : IBox w' p o a b c := h.later (F := fun _ => False) (below_later t (Nat.le_refl _)) (fun h => h)
theorem IBox.new (w : World) (T : TypeId) (o a b c : Int) : IBox (w.alloc (.cells #[.int .u8 o, .int .u8 a, .int .u8 b, .int .u8 c] T)) w.heap.size o a b c := by
  have h := heap_alloc_new w (.cells #[.int .u8 o, .int .u8 a, .int .u8 b, .int .u8 c] T)
  exact ⟨by simp, cell_of_row _ _ 0 _ _ _ h, cell_of_row _ _ 1 _ _ _ h, cell_of_row _ _ 2 _ _ _ h, cell_of_row _ _ 3 _ _ _ h, fun j => by simp [go_sem]⟩
set_option maxRecDepth 100000 in
set_option maxHeartbeats 8000000 in
theorem formed_any (i : Ins) (ok : i.Ok) (w : World) : Calls Try.prog 24 #[i.v] w fun e w' => e = .returned (.bool i.formed) ∧ Below w.heap.size w w' := by
  obtain ⟨o, a, b, c⟩ := i
  obtain ⟨ho, ha, hb, hc⟩ := ok
  dsimp only at ho ha hb hc
  obtain ⟨F, hF⟩ : ∃ F : Bool, F = Ins.formed ⟨o, a, b, c⟩ := ⟨_, rfl⟩
  show Calls _ _ #[.agg #[.int .u8 (o : Nat), .int .u8 (a : Nat), .int .u8 (b : Nat), .int .u8 (c : Nat)]] w fun e w' => e = .returned (.bool (Ins.formed ⟨o, a, b, c⟩)) ∧ _
  rw [← hF]
  have hF' := hide hF
  clear hF ho ha hb hc
  by_cases ho : o = 0
  · subst ho
    go_enter Try.func24, Try.ntmps24
    go_upto_region 1 with (fail)
    have hI := IBox.new w 56 0 (a : Nat) (b : Nat) (c : Nat)
    have hbA : Below w.heap.size w (w.alloc (.cells #[.int .u8 0, .int .u8 (a : Nat), .int .u8 (b : Nat), .int .u8 (c : Nat)] 56)) := (Below.refl _ _).alloc (Nat.le_refl _) _
    generalize w.alloc (.cells #[.int .u8 0, .int .u8 (a : Nat), .int .u8 (b : Nat), .int .u8 (c : Nat)] 56) = w1 at *
    have hq : Below w1.heap.size w1 w1.drew := (Below.refl _ _).drew
    have f := fun w' (hl : Later (fun _ => False) w1.drew w') => (hI.below hq).later hl (fun h => h)
    have f0 := fun w' hl => (f w' hl).c0
    have f1 := fun w' hl => (f w' hl).c1
    have f2 := fun w' hl => (f w' hl).c2
    have f3 := fun w' hl => (f w' hl).c3
    have hb' := hide (hbA.trans (hq.mono hbA.size))
    have hI' := hide (hI.below hq)
    clear f hI hbA hq
    refine region_plan [(true, 0), (true, 1), (true, 2), (true, 3), (true, 4), (true, 5), (true, 6), (true, 7), (true, 8), (true, 9), (true, 10), (true, 11)] (Later fun _ => False) (later_refl _) (later_trans _) (by kernel_rfl) (by kernel_rfl) (fun _ _ d _ _ h => by cases d <;> exact h) ?_
    repeat
      (first
        | (show wpPlan _ _ _ _ ((true, _) :: _) _ _
           refine plan_skip rfl (by rfl) ?_
           simp only [Act.put, List.setIfInBounds_toArray, List.set_cons_zero, List.set_cons_succ])
        | (show wpPlan _ _ _ _ ((false, _) :: _) _ _
           refine plan_skip_eff (later_refl _) rfl (by rfl) ?_
           simp only [Act.put, List.setIfInBounds_toArray, List.set_cons_zero, List.set_cons_succ])
        | (show wpPlan _ _ _ _ ((true, _) :: _) _ _
           refine plan_take (v := ?_) rfl (by rfl) (fun w' hw' => ?_) ?_
           rotate_left
           focus
             go_simp
             try with_reducible rfl
             done
           simp only [Act.put, List.setIfInBounds_toArray, List.set_cons_zero, List.set_cons_succ]))
    clear f0 f1 f2 f3
    refine plan_nil ?_
    generalize w1.drew = w2 at *
    have i0 := hI'.out.c0
    have i1 := hI'.out.c1
    have i2 := hI'.out.c2
    have i3 := hI'.out.c3
    by_cases h1 : b = 0
    · skip
      by_cases h2 : c = 0
      · skip
        by_cases h3 : a = 0
        · skip
          have x1a : ((b : Int) == 0) = true := by simp; omega
          have x1b : (b == 0) = true := by simp; omega
          have x1c : decide (b = 0) = true := decide_eq_true (by omega)
          have x1d : ((b : Int) != 0) = false := by simp; omega
          have x1e : (b != 0) = false := by simp; omega
          have x2a : ((c : Int) == 0) = true := by simp; omega
          have x2b : (c == 0) = true := by simp; omega
          have x2c : decide (c = 0) = true := decide_eq_true (by omega)
          have x2d : ((c : Int) != 0) = false := by simp; omega
          have x2e : (c != 0) = false := by simp; omega
          have x3a : ((a : Int) == 0) = true := by simp; omega
          have x3b : (a == 0) = true := by simp; omega
          have x3c : decide (a = 0) = true := decide_eq_true (by omega)
          have x3d : ((a : Int) != 0) = false := by simp; omega
          have x3e : (a != 0) = false := by simp; omega
          go_wp2_with fail
          go_ret
          exact ⟨ret_bool (by rw [hF'.out]; unfold Ins.formed; dsimp only; first | exact decide_eq_decide.2 (by omega) | exact (decide_eq_true (by omega)).symm | exact (decide_eq_false (by omega)).symm), hb'.out⟩
        · skip
          have x1a : ((b : Int) == 0) = true := by simp; omega
          have x1b : (b == 0) = true := by simp; omega
          have x1c : decide (b = 0) = true := decide_eq_true (by omega)
          have x1d : ((b : Int) != 0) = false := by simp; omega
          have x1e : (b != 0) = false := by simp; omega
          have x2a : ((c : Int) == 0) = true := by simp; omega
          have x2b : (c == 0) = true := by simp; omega
          have x2c : decide (c = 0) = true := decide_eq_true (by omega)
          have x2d : ((c : Int) != 0) = false := by simp; omega
          have x2e : (c != 0) = false := by simp; omega
          have x3a : ((a : Int) == 0) = false := by simp; omega
          have x3b : (a == 0) = false := by simp; omega
          have x3c : decide (a = 0) = false := decide_eq_false (by omega)
          have x3d : ((a : Int) != 0) = true := by simp; omega
          have x3e : (a != 0) = true := by simp; omega
          go_wp2_with fail
          go_ret
          exact ⟨ret_bool (by rw [hF'.out]; unfold Ins.formed; dsimp only; first | exact decide_eq_decide.2 (by omega) | exact (decide_eq_true (by omega)).symm | exact (decide_eq_false (by omega)).symm), hb'.out⟩
      · skip
        have x1a : ((b : Int) == 0) = true := by simp; omega
        have x1b : (b == 0) = true := by simp; omega
        have x1c : decide (b = 0) = true := decide_eq_true (by omega)
        have x1d : ((b : Int) != 0) = false := by simp; omega
        have x1e : (b != 0) = false := by simp; omega
        have x2a : ((c : Int) == 0) = false := by simp; omega
        have x2b : (c == 0) = false := by simp; omega
        have x2c : decide (c = 0) = false := decide_eq_false (by omega)
        have x2d : ((c : Int) != 0) = true := by simp; omega
        have x2e : (c != 0) = true := by simp; omega
        go_wp2_with fail
        go_ret
        exact ⟨ret_bool (by rw [hF'.out]; unfold Ins.formed; dsimp only; first | exact decide_eq_decide.2 (by omega) | exact (decide_eq_true (by omega)).symm | exact (decide_eq_false (by omega)).symm), hb'.out⟩
    · skip
      have x1a : ((b : Int) == 0) = false := by simp; omega
      have x1b : (b == 0) = false := by simp; omega
      have x1c : decide (b = 0) = false := decide_eq_false (by omega)
      have x1d : ((b : Int) != 0) = true := by simp; omega
      have x1e : (b != 0) = true := by simp; omega
      go_wp2_with fail
      go_ret
      exact ⟨ret_bool (by rw [hF'.out]; unfold Ins.formed; dsimp only; first | exact decide_eq_decide.2 (by omega) | exact (decide_eq_true (by omega)).symm | exact (decide_eq_false (by omega)).symm), hb'.out⟩
  by_cases ho : o = 15
  · subst ho
    go_enter Try.func24, Try.ntmps24
    go_upto_region 1 with (fail)
    have hI := IBox.new w 56 15 (a : Nat) (b : Nat) (c : Nat)
    have hbA : Below w.heap.size w (w.alloc (.cells #[.int .u8 15, .int .u8 (a : Nat), .int .u8 (b : Nat), .int .u8 (c : Nat)] 56)) := (Below.refl _ _).alloc (Nat.le_refl _) _
    generalize w.alloc (.cells #[.int .u8 15, .int .u8 (a : Nat), .int .u8 (b : Nat), .int .u8 (c : Nat)] 56) = w1 at *
    have hq : Below w1.heap.size w1 w1.drew := (Below.refl _ _).drew
    have f := fun w' (hl : Later (fun _ => False) w1.drew w') => (hI.below hq).later hl (fun h => h)
    have f0 := fun w' hl => (f w' hl).c0
    have f1 := fun w' hl => (f w' hl).c1
    have f2 := fun w' hl => (f w' hl).c2
    have f3 := fun w' hl => (f w' hl).c3
    have hb' := hide (hbA.trans (hq.mono hbA.size))
    have hI' := hide (hI.below hq)
    clear f hI hbA hq
    refine region_plan [(true, 0), (true, 1), (true, 2), (true, 3), (true, 4), (true, 5), (true, 6), (true, 7), (true, 8), (true, 9), (true, 10), (true, 11)] (Later fun _ => False) (later_refl _) (later_trans _) (by kernel_rfl) (by kernel_rfl) (fun _ _ d _ _ h => by cases d <;> exact h) ?_
    repeat
      (first
        | (show wpPlan _ _ _ _ ((true, _) :: _) _ _
           refine plan_skip rfl (by rfl) ?_
           simp only [Act.put, List.setIfInBounds_toArray, List.set_cons_zero, List.set_cons_succ])
        | (show wpPlan _ _ _ _ ((false, _) :: _) _ _
           refine plan_skip_eff (later_refl _) rfl (by rfl) ?_
           simp only [Act.put, List.setIfInBounds_toArray, List.set_cons_zero, List.set_cons_succ])
        | (show wpPlan _ _ _ _ ((true, _) :: _) _ _
           refine plan_take (v := ?_) rfl (by rfl) (fun w' hw' => ?_) ?_
           rotate_left
           focus
             go_simp
             try with_reducible rfl
             done
           simp only [Act.put, List.setIfInBounds_toArray, List.set_cons_zero, List.set_cons_succ]))
    clear f0 f1 f2 f3
    refine plan_nil ?_
    generalize w1.drew = w2 at *
    have i0 := hI'.out.c0
    have i1 := hI'.out.c1
    have i2 := hI'.out.c2
    have i3 := hI'.out.c3
    by_cases h4 : a = 0
    · skip
      have x4a : ((a : Int) == 0) = true := by simp; omega
      have x4b : (a == 0) = true := by simp; omega
      have x4c : decide (a = 0) = true := decide_eq_true (by omega)
      have x4d : ((a : Int) != 0) = false := by simp; omega
      have x4e : (a != 0) = false := by simp; omega
      go_wp2_with fail
      go_ret
      exact ⟨ret_bool (by rw [hF'.out]; unfold Ins.formed; dsimp only; first | exact decide_eq_decide.2 (by omega) | exact (decide_eq_true (by omega)).symm | exact (decide_eq_false (by omega)).symm), hb'.out⟩
    · skip
      have x4a : ((a : Int) == 0) = false := by simp; omega
      have x4b : (a == 0) = false := by simp; omega
      have x4c : decide (a = 0) = false := decide_eq_false (by omega)
      have x4d : ((a : Int) != 0) = true := by simp; omega
      have x4e : (a != 0) = true := by simp; omega
      go_wp2_with fail
      go_ret
      exact ⟨ret_bool (by rw [hF'.out]; unfold Ins.formed; dsimp only; first | exact decide_eq_decide.2 (by omega) | exact (decide_eq_true (by omega)).symm | exact (decide_eq_false (by omega)).symm), hb'.out⟩
  by_cases ho : o = 17
  · subst ho
    go_enter Try.func24, Try.ntmps24
    go_upto_region 1 with (fail)
    have hI := IBox.new w 56 17 (a : Nat) (b : Nat) (c : Nat)
    have hbA : Below w.heap.size w (w.alloc (.cells #[.int .u8 17, .int .u8 (a : Nat), .int .u8 (b : Nat), .int .u8 (c : Nat)] 56)) := (Below.refl _ _).alloc (Nat.le_refl _) _
    generalize w.alloc (.cells #[.int .u8 17, .int .u8 (a : Nat), .int .u8 (b : Nat), .int .u8 (c : Nat)] 56) = w1 at *
    have hq : Below w1.heap.size w1 w1.drew := (Below.refl _ _).drew
    have f := fun w' (hl : Later (fun _ => False) w1.drew w') => (hI.below hq).later hl (fun h => h)
    have f0 := fun w' hl => (f w' hl).c0
    have f1 := fun w' hl => (f w' hl).c1
    have f2 := fun w' hl => (f w' hl).c2
    have f3 := fun w' hl => (f w' hl).c3
    have hb' := hide (hbA.trans (hq.mono hbA.size))
    have hI' := hide (hI.below hq)
    clear f hI hbA hq
    refine region_plan [(true, 0), (true, 1), (true, 2), (true, 3), (true, 4), (true, 5), (true, 6), (true, 7), (true, 8), (true, 9), (true, 10), (true, 11)] (Later fun _ => False) (later_refl _) (later_trans _) (by kernel_rfl) (by kernel_rfl) (fun _ _ d _ _ h => by cases d <;> exact h) ?_
    repeat
      (first
        | (show wpPlan _ _ _ _ ((true, _) :: _) _ _
           refine plan_skip rfl (by rfl) ?_
           simp only [Act.put, List.setIfInBounds_toArray, List.set_cons_zero, List.set_cons_succ])
        | (show wpPlan _ _ _ _ ((false, _) :: _) _ _
           refine plan_skip_eff (later_refl _) rfl (by rfl) ?_
           simp only [Act.put, List.setIfInBounds_toArray, List.set_cons_zero, List.set_cons_succ])
        | (show wpPlan _ _ _ _ ((true, _) :: _) _ _
           refine plan_take (v := ?_) rfl (by rfl) (fun w' hw' => ?_) ?_
           rotate_left
           focus
             go_simp
             try with_reducible rfl
             done
           simp only [Act.put, List.setIfInBounds_toArray, List.set_cons_zero, List.set_cons_succ]))
    clear f0 f1 f2 f3
    refine plan_nil ?_
    generalize w1.drew = w2 at *
    have i0 := hI'.out.c0
    have i1 := hI'.out.c1
    have i2 := hI'.out.c2
    have i3 := hI'.out.c3
    by_cases h5 : a < 16
    · skip
      by_cases h6 : b = 0
      · skip
        by_cases h7 : c = 0
        · skip
          have x5a : decide ((a : Int) < 16) = true := decide_eq_true (by omega)
          have x5b : decide (a < 16) = true := decide_eq_true (by omega)
          have x6a : ((b : Int) == 0) = true := by simp; omega
          have x6b : (b == 0) = true := by simp; omega
          have x6c : decide (b = 0) = true := decide_eq_true (by omega)
          have x6d : ((b : Int) != 0) = false := by simp; omega
          have x6e : (b != 0) = false := by simp; omega
          have x7a : ((c : Int) == 0) = true := by simp; omega
          have x7b : (c == 0) = true := by simp; omega
          have x7c : decide (c = 0) = true := decide_eq_true (by omega)
          have x7d : ((c : Int) != 0) = false := by simp; omega
          have x7e : (c != 0) = false := by simp; omega
          go_wp2_with fail
          go_ret
          exact ⟨ret_bool (by rw [hF'.out]; unfold Ins.formed; dsimp only; first | exact decide_eq_decide.2 (by omega) | exact (decide_eq_true (by omega)).symm | exact (decide_eq_false (by omega)).symm), hb'.out⟩
        · skip
          have x5a : decide ((a : Int) < 16) = true := decide_eq_true (by omega)
          have x5b : decide (a < 16) = true := decide_eq_true (by omega)
          have x6a : ((b : Int) == 0) = true := by simp; omega
          have x6b : (b == 0) = true := by simp; omega
          have x6c : decide (b = 0) = true := decide_eq_true (by omega)
          have x6d : ((b : Int) != 0) = false := by simp; omega
          have x6e : (b != 0) = false := by simp; omega
          have x7a : ((c : Int) == 0) = false := by simp; omega
          have x7b : (c == 0) = false := by simp; omega
          have x7c : decide (c = 0) = false := decide_eq_false (by omega)
          have x7d : ((c : Int) != 0) = true := by simp; omega
          have x7e : (c != 0) = true := by simp; omega
          go_wp2_with fail
          go_ret
          exact ⟨ret_bool (by rw [hF'.out]; unfold Ins.formed; dsimp only; first | exact decide_eq_decide.2 (by omega) | exact (decide_eq_true (by omega)).symm | exact (decide_eq_false (by omega)).symm), hb'.out⟩
      · skip
        have x5a : decide ((a : Int) < 16) = true := decide_eq_true (by omega)
        have x5b : decide (a < 16) = true := decide_eq_true (by omega)
        have x6a : ((b : Int) == 0) = false := by simp; omega
        have x6b : (b == 0) = false := by simp; omega
        have x6c : decide (b = 0) = false := decide_eq_false (by omega)
        have x6d : ((b : Int) != 0) = true := by simp; omega
        have x6e : (b != 0) = true := by simp; omega
        go_wp2_with fail
        go_ret
        exact ⟨ret_bool (by rw [hF'.out]; unfold Ins.formed; dsimp only; first | exact decide_eq_decide.2 (by omega) | exact (decide_eq_true (by omega)).symm | exact (decide_eq_false (by omega)).symm), hb'.out⟩
    · skip
      have x5a : decide ((a : Int) < 16) = false := decide_eq_false (by omega)
      have x5b : decide (a < 16) = false := decide_eq_false (by omega)
      go_wp2_with fail
      go_ret
      exact ⟨ret_bool (by rw [hF'.out]; unfold Ins.formed; dsimp only; first | exact decide_eq_decide.2 (by omega) | exact (decide_eq_true (by omega)).symm | exact (decide_eq_false (by omega)).symm), hb'.out⟩
  by_cases ho : o = 2
  · subst ho
    go_enter Try.func24, Try.ntmps24
    go_upto_region 1 with (fail)
    have hI := IBox.new w 56 2 (a : Nat) (b : Nat) (c : Nat)
    have hbA : Below w.heap.size w (w.alloc (.cells #[.int .u8 2, .int .u8 (a : Nat), .int .u8 (b : Nat), .int .u8 (c : Nat)] 56)) := (Below.refl _ _).alloc (Nat.le_refl _) _
    generalize w.alloc (.cells #[.int .u8 2, .int .u8 (a : Nat), .int .u8 (b : Nat), .int .u8 (c : Nat)] 56) = w1 at *
    have hq : Below w1.heap.size w1 w1.drew := (Below.refl _ _).drew
    have f := fun w' (hl : Later (fun _ => False) w1.drew w') => (hI.below hq).later hl (fun h => h)
    have f0 := fun w' hl => (f w' hl).c0
    have f1 := fun w' hl => (f w' hl).c1
    have f2 := fun w' hl => (f w' hl).c2
    have f3 := fun w' hl => (f w' hl).c3
    have hb' := hide (hbA.trans (hq.mono hbA.size))
    have hI' := hide (hI.below hq)
    clear f hI hbA hq
    refine region_plan [(true, 0), (true, 1), (true, 2), (true, 3), (true, 4), (true, 5), (true, 6), (true, 7), (true, 8), (true, 9), (true, 10), (true, 11)] (Later fun _ => False) (later_refl _) (later_trans _) (by kernel_rfl) (by kernel_rfl) (fun _ _ d _ _ h => by cases d <;> exact h) ?_
    repeat
      (first
        | (show wpPlan _ _ _ _ ((true, _) :: _) _ _
           refine plan_skip rfl (by rfl) ?_
           simp only [Act.put, List.setIfInBounds_toArray, List.set_cons_zero, List.set_cons_succ])
        | (show wpPlan _ _ _ _ ((false, _) :: _) _ _
           refine plan_skip_eff (later_refl _) rfl (by rfl) ?_
           simp only [Act.put, List.setIfInBounds_toArray, List.set_cons_zero, List.set_cons_succ])
        | (show wpPlan _ _ _ _ ((true, _) :: _) _ _
           refine plan_take (v := ?_) rfl (by rfl) (fun w' hw' => ?_) ?_
           rotate_left
           focus
             go_simp
             try with_reducible rfl
             done
           simp only [Act.put, List.setIfInBounds_toArray, List.set_cons_zero, List.set_cons_succ]))
    clear f0 f1 f2 f3
    refine plan_nil ?_
    generalize w1.drew = w2 at *
    have i0 := hI'.out.c0
    have i1 := hI'.out.c1
    have i2 := hI'.out.c2
    have i3 := hI'.out.c3
    by_cases h8 : c = 0
    · skip
      by_cases h9 : b < 8
      · skip
        by_cases h10 : a < 8
        · skip
          have x8a : ((c : Int) == 0) = true := by simp; omega
          have x8b : (c == 0) = true := by simp; omega
          have x8c : decide (c = 0) = true := decide_eq_true (by omega)
          have x8d : ((c : Int) != 0) = false := by simp; omega
          have x8e : (c != 0) = false := by simp; omega
          have x9a : decide ((b : Int) < 8) = true := decide_eq_true (by omega)
          have x9b : decide (b < 8) = true := decide_eq_true (by omega)
          have x10a : decide ((a : Int) < 8) = true := decide_eq_true (by omega)
          have x10b : decide (a < 8) = true := decide_eq_true (by omega)
          go_wp2_with fail
          go_ret
          exact ⟨ret_bool (by rw [hF'.out]; unfold Ins.formed; dsimp only; first | exact decide_eq_decide.2 (by omega) | exact (decide_eq_true (by omega)).symm | exact (decide_eq_false (by omega)).symm), hb'.out⟩
        · skip
          have x8a : ((c : Int) == 0) = true := by simp; omega
          have x8b : (c == 0) = true := by simp; omega
          have x8c : decide (c = 0) = true := decide_eq_true (by omega)
          have x8d : ((c : Int) != 0) = false := by simp; omega
          have x8e : (c != 0) = false := by simp; omega
          have x9a : decide ((b : Int) < 8) = true := decide_eq_true (by omega)
          have x9b : decide (b < 8) = true := decide_eq_true (by omega)
          have x10a : decide ((a : Int) < 8) = false := decide_eq_false (by omega)
          have x10b : decide (a < 8) = false := decide_eq_false (by omega)
          go_wp2_with fail
          go_ret
          exact ⟨ret_bool (by rw [hF'.out]; unfold Ins.formed; dsimp only; first | exact decide_eq_decide.2 (by omega) | exact (decide_eq_true (by omega)).symm | exact (decide_eq_false (by omega)).symm), hb'.out⟩
      · skip
        have x8a : ((c : Int) == 0) = true := by simp; omega
        have x8b : (c == 0) = true := by simp; omega
        have x8c : decide (c = 0) = true := decide_eq_true (by omega)
        have x8d : ((c : Int) != 0) = false := by simp; omega
        have x8e : (c != 0) = false := by simp; omega
        have x9a : decide ((b : Int) < 8) = false := decide_eq_false (by omega)
        have x9b : decide (b < 8) = false := decide_eq_false (by omega)
        go_wp2_with fail
        go_ret
        exact ⟨ret_bool (by rw [hF'.out]; unfold Ins.formed; dsimp only; first | exact decide_eq_decide.2 (by omega) | exact (decide_eq_true (by omega)).symm | exact (decide_eq_false (by omega)).symm), hb'.out⟩
    · skip
      have x8a : ((c : Int) == 0) = false := by simp; omega
      have x8b : (c == 0) = false := by simp; omega
      have x8c : decide (c = 0) = false := decide_eq_false (by omega)
      have x8d : ((c : Int) != 0) = true := by simp; omega
      have x8e : (c != 0) = true := by simp; omega
      go_wp2_with fail
      go_ret
      exact ⟨ret_bool (by rw [hF'.out]; unfold Ins.formed; dsimp only; first | exact decide_eq_decide.2 (by omega) | exact (decide_eq_true (by omega)).symm | exact (decide_eq_false (by omega)).symm), hb'.out⟩
  by_cases ho : o = 13
  · subst ho
    go_enter Try.func24, Try.ntmps24
    go_upto_region 1 with (fail)
    have hI := IBox.new w 56 13 (a : Nat) (b : Nat) (c : Nat)
    have hbA : Below w.heap.size w (w.alloc (.cells #[.int .u8 13, .int .u8 (a : Nat), .int .u8 (b : Nat), .int .u8 (c : Nat)] 56)) := (Below.refl _ _).alloc (Nat.le_refl _) _
    generalize w.alloc (.cells #[.int .u8 13, .int .u8 (a : Nat), .int .u8 (b : Nat), .int .u8 (c : Nat)] 56) = w1 at *
    have hq : Below w1.heap.size w1 w1.drew := (Below.refl _ _).drew
    have f := fun w' (hl : Later (fun _ => False) w1.drew w') => (hI.below hq).later hl (fun h => h)
    have f0 := fun w' hl => (f w' hl).c0
    have f1 := fun w' hl => (f w' hl).c1
    have f2 := fun w' hl => (f w' hl).c2
    have f3 := fun w' hl => (f w' hl).c3
    have hb' := hide (hbA.trans (hq.mono hbA.size))
    have hI' := hide (hI.below hq)
    clear f hI hbA hq
    refine region_plan [(true, 0), (true, 1), (true, 2), (true, 3), (true, 4), (true, 5), (true, 6), (true, 7), (true, 8), (true, 9), (true, 10), (true, 11)] (Later fun _ => False) (later_refl _) (later_trans _) (by kernel_rfl) (by kernel_rfl) (fun _ _ d _ _ h => by cases d <;> exact h) ?_
    repeat
      (first
        | (show wpPlan _ _ _ _ ((true, _) :: _) _ _
           refine plan_skip rfl (by rfl) ?_
           simp only [Act.put, List.setIfInBounds_toArray, List.set_cons_zero, List.set_cons_succ])
        | (show wpPlan _ _ _ _ ((false, _) :: _) _ _
           refine plan_skip_eff (later_refl _) rfl (by rfl) ?_
           simp only [Act.put, List.setIfInBounds_toArray, List.set_cons_zero, List.set_cons_succ])
        | (show wpPlan _ _ _ _ ((true, _) :: _) _ _
           refine plan_take (v := ?_) rfl (by rfl) (fun w' hw' => ?_) ?_
           rotate_left
           focus
             go_simp
             try with_reducible rfl
             done
           simp only [Act.put, List.setIfInBounds_toArray, List.set_cons_zero, List.set_cons_succ]))
    clear f0 f1 f2 f3
    refine plan_nil ?_
    generalize w1.drew = w2 at *
    have i0 := hI'.out.c0
    have i1 := hI'.out.c1
    have i2 := hI'.out.c2
    have i3 := hI'.out.c3
    by_cases h11 : b < 8
    · skip
      by_cases h12 : a < 8
      · skip
        have x11a : decide ((b : Int) < 8) = true := decide_eq_true (by omega)
        have x11b : decide (b < 8) = true := decide_eq_true (by omega)
        have x12a : decide ((a : Int) < 8) = true := decide_eq_true (by omega)
        have x12b : decide (a < 8) = true := decide_eq_true (by omega)
        go_wp2_with fail
        go_ret
        exact ⟨ret_bool (by rw [hF'.out]; unfold Ins.formed; dsimp only; first | exact decide_eq_decide.2 (by omega) | exact (decide_eq_true (by omega)).symm | exact (decide_eq_false (by omega)).symm), hb'.out⟩
      · skip
        have x11a : decide ((b : Int) < 8) = true := decide_eq_true (by omega)
        have x11b : decide (b < 8) = true := decide_eq_true (by omega)
        have x12a : decide ((a : Int) < 8) = false := decide_eq_false (by omega)
        have x12b : decide (a < 8) = false := decide_eq_false (by omega)
        go_wp2_with fail
        go_ret
        exact ⟨ret_bool (by rw [hF'.out]; unfold Ins.formed; dsimp only; first | exact decide_eq_decide.2 (by omega) | exact (decide_eq_true (by omega)).symm | exact (decide_eq_false (by omega)).symm), hb'.out⟩
    · skip
      have x11a : decide ((b : Int) < 8) = false := decide_eq_false (by omega)
      have x11b : decide (b < 8) = false := decide_eq_false (by omega)
      go_wp2_with fail
      go_ret
      exact ⟨ret_bool (by rw [hF'.out]; unfold Ins.formed; dsimp only; first | exact decide_eq_decide.2 (by omega) | exact (decide_eq_true (by omega)).symm | exact (decide_eq_false (by omega)).symm), hb'.out⟩
  by_cases ho : o = 14
  · subst ho
    go_enter Try.func24, Try.ntmps24
    go_upto_region 1 with (fail)
    have hI := IBox.new w 56 14 (a : Nat) (b : Nat) (c : Nat)
    have hbA : Below w.heap.size w (w.alloc (.cells #[.int .u8 14, .int .u8 (a : Nat), .int .u8 (b : Nat), .int .u8 (c : Nat)] 56)) := (Below.refl _ _).alloc (Nat.le_refl _) _
    generalize w.alloc (.cells #[.int .u8 14, .int .u8 (a : Nat), .int .u8 (b : Nat), .int .u8 (c : Nat)] 56) = w1 at *
    have hq : Below w1.heap.size w1 w1.drew := (Below.refl _ _).drew
    have f := fun w' (hl : Later (fun _ => False) w1.drew w') => (hI.below hq).later hl (fun h => h)
    have f0 := fun w' hl => (f w' hl).c0
    have f1 := fun w' hl => (f w' hl).c1
    have f2 := fun w' hl => (f w' hl).c2
    have f3 := fun w' hl => (f w' hl).c3
    have hb' := hide (hbA.trans (hq.mono hbA.size))
    have hI' := hide (hI.below hq)
    clear f hI hbA hq
    refine region_plan [(true, 0), (true, 1), (true, 2), (true, 3), (true, 4), (true, 5), (true, 6), (true, 7), (true, 8), (true, 9), (true, 10), (true, 11)] (Later fun _ => False) (later_refl _) (later_trans _) (by kernel_rfl) (by kernel_rfl) (fun _ _ d _ _ h => by cases d <;> exact h) ?_
    repeat
      (first
        | (show wpPlan _ _ _ _ ((true, _) :: _) _ _
           refine plan_skip rfl (by rfl) ?_
           simp only [Act.put, List.setIfInBounds_toArray, List.set_cons_zero, List.set_cons_succ])
        | (show wpPlan _ _ _ _ ((false, _) :: _) _ _
           refine plan_skip_eff (later_refl _) rfl (by rfl) ?_
           simp only [Act.put, List.setIfInBounds_toArray, List.set_cons_zero, List.set_cons_succ])
        | (show wpPlan _ _ _ _ ((true, _) :: _) _ _
           refine plan_take (v := ?_) rfl (by rfl) (fun w' hw' => ?_) ?_
           rotate_left
           focus
             go_simp
             try with_reducible rfl
             done
           simp only [Act.put, List.setIfInBounds_toArray, List.set_cons_zero, List.set_cons_succ]))
    clear f0 f1 f2 f3
    refine plan_nil ?_
    generalize w1.drew = w2 at *
    have i0 := hI'.out.c0
    have i1 := hI'.out.c1
    have i2 := hI'.out.c2
    have i3 := hI'.out.c3
    by_cases h13 : b < 8
    · skip
      by_cases h14 : a < 8
      · skip
        have x13a : decide ((b : Int) < 8) = true := decide_eq_true (by omega)
        have x13b : decide (b < 8) = true := decide_eq_true (by omega)
        have x14a : decide ((a : Int) < 8) = true := decide_eq_true (by omega)
        have x14b : decide (a < 8) = true := decide_eq_true (by omega)
        go_wp2_with fail
        go_ret
        exact ⟨ret_bool (by rw [hF'.out]; unfold Ins.formed; dsimp only; first | exact decide_eq_decide.2 (by omega) | exact (decide_eq_true (by omega)).symm | exact (decide_eq_false (by omega)).symm), hb'.out⟩
      · skip
        have x13a : decide ((b : Int) < 8) = true := decide_eq_true (by omega)
        have x13b : decide (b < 8) = true := decide_eq_true (by omega)
        have x14a : decide ((a : Int) < 8) = false := decide_eq_false (by omega)
        have x14b : decide (a < 8) = false := decide_eq_false (by omega)
        go_wp2_with fail
        go_ret
        exact ⟨ret_bool (by rw [hF'.out]; unfold Ins.formed; dsimp only; first | exact decide_eq_decide.2 (by omega) | exact (decide_eq_true (by omega)).symm | exact (decide_eq_false (by omega)).symm), hb'.out⟩
    · skip
      have x13a : decide ((b : Int) < 8) = false := decide_eq_false (by omega)
      have x13b : decide (b < 8) = false := decide_eq_false (by omega)
      go_wp2_with fail
      go_ret
      exact ⟨ret_bool (by rw [hF'.out]; unfold Ins.formed; dsimp only; first | exact decide_eq_decide.2 (by omega) | exact (decide_eq_true (by omega)).symm | exact (decide_eq_false (by omega)).symm), hb'.out⟩
  by_cases ho : o = 1
  · subst ho
    go_enter Try.func24, Try.ntmps24
    go_upto_region 1 with (fail)
    have hI := IBox.new w 56 1 (a : Nat) (b : Nat) (c : Nat)
    have hbA : Below w.heap.size w (w.alloc (.cells #[.int .u8 1, .int .u8 (a : Nat), .int .u8 (b : Nat), .int .u8 (c : Nat)] 56)) := (Below.refl _ _).alloc (Nat.le_refl _) _
    generalize w.alloc (.cells #[.int .u8 1, .int .u8 (a : Nat), .int .u8 (b : Nat), .int .u8 (c : Nat)] 56) = w1 at *
    have hq : Below w1.heap.size w1 w1.drew := (Below.refl _ _).drew
    have f := fun w' (hl : Later (fun _ => False) w1.drew w') => (hI.below hq).later hl (fun h => h)
    have f0 := fun w' hl => (f w' hl).c0
    have f1 := fun w' hl => (f w' hl).c1
    have f2 := fun w' hl => (f w' hl).c2
    have f3 := fun w' hl => (f w' hl).c3
    have hb' := hide (hbA.trans (hq.mono hbA.size))
    have hI' := hide (hI.below hq)
    clear f hI hbA hq
    refine region_plan [(true, 0), (true, 1), (true, 2), (true, 3), (true, 4), (true, 5), (true, 6), (true, 7), (true, 8), (true, 9), (true, 10), (true, 11)] (Later fun _ => False) (later_refl _) (later_trans _) (by kernel_rfl) (by kernel_rfl) (fun _ _ d _ _ h => by cases d <;> exact h) ?_
    repeat
      (first
        | (show wpPlan _ _ _ _ ((true, _) :: _) _ _
           refine plan_skip rfl (by rfl) ?_
           simp only [Act.put, List.setIfInBounds_toArray, List.set_cons_zero, List.set_cons_succ])
        | (show wpPlan _ _ _ _ ((false, _) :: _) _ _
           refine plan_skip_eff (later_refl _) rfl (by rfl) ?_
           simp only [Act.put, List.setIfInBounds_toArray, List.set_cons_zero, List.set_cons_succ])
        | (show wpPlan _ _ _ _ ((true, _) :: _) _ _
           refine plan_take (v := ?_) rfl (by rfl) (fun w' hw' => ?_) ?_
           rotate_left
           focus
             go_simp
             try with_reducible rfl
             done
           simp only [Act.put, List.setIfInBounds_toArray, List.set_cons_zero, List.set_cons_succ]))
    clear f0 f1 f2 f3
    refine plan_nil ?_
    generalize w1.drew = w2 at *
    have i0 := hI'.out.c0
    have i1 := hI'.out.c1
    have i2 := hI'.out.c2
    have i3 := hI'.out.c3
    by_cases h15 : a < 8
    · skip
      have x15a : decide ((a : Int) < 8) = true := decide_eq_true (by omega)
      have x15b : decide (a < 8) = true := decide_eq_true (by omega)
      go_wp2_with fail
      go_ret
      exact ⟨ret_bool (by rw [hF'.out]; unfold Ins.formed; dsimp only; first | exact decide_eq_decide.2 (by omega) | exact (decide_eq_true (by omega)).symm | exact (decide_eq_false (by omega)).symm), hb'.out⟩
    · skip
      have x15a : decide ((a : Int) < 8) = false := decide_eq_false (by omega)
      have x15b : decide (a < 8) = false := decide_eq_false (by omega)
      go_wp2_with fail
      go_ret
      exact ⟨ret_bool (by rw [hF'.out]; unfold Ins.formed; dsimp only; first | exact decide_eq_decide.2 (by omega) | exact (decide_eq_true (by omega)).symm | exact (decide_eq_false (by omega)).symm), hb'.out⟩
  by_cases ho : o = 16
  · subst ho
    go_enter Try.func24, Try.ntmps24
    go_upto_region 1 with (fail)
    have hI := IBox.new w 56 16 (a : Nat) (b : Nat) (c : Nat)
    have hbA : Below w.heap.size w (w.alloc (.cells #[.int .u8 16, .int .u8 (a : Nat), .int .u8 (b : Nat), .int .u8 (c : Nat)] 56)) := (Below.refl _ _).alloc (Nat.le_refl _) _
    generalize w.alloc (.cells #[.int .u8 16, .int .u8 (a : Nat), .int .u8 (b : Nat), .int .u8 (c : Nat)] 56) = w1 at *
    have hq : Below w1.heap.size w1 w1.drew := (Below.refl _ _).drew
    have f := fun w' (hl : Later (fun _ => False) w1.drew w') => (hI.below hq).later hl (fun h => h)
    have f0 := fun w' hl => (f w' hl).c0
    have f1 := fun w' hl => (f w' hl).c1
    have f2 := fun w' hl => (f w' hl).c2
    have f3 := fun w' hl => (f w' hl).c3
    have hb' := hide (hbA.trans (hq.mono hbA.size))
    have hI' := hide (hI.below hq)
    clear f hI hbA hq
    refine region_plan [(true, 0), (true, 1), (true, 2), (true, 3), (true, 4), (true, 5), (true, 6), (true, 7), (true, 8), (true, 9), (true, 10), (true, 11)] (Later fun _ => False) (later_refl _) (later_trans _) (by kernel_rfl) (by kernel_rfl) (fun _ _ d _ _ h => by cases d <;> exact h) ?_
    repeat
      (first
        | (show wpPlan _ _ _ _ ((true, _) :: _) _ _
           refine plan_skip rfl (by rfl) ?_
           simp only [Act.put, List.setIfInBounds_toArray, List.set_cons_zero, List.set_cons_succ])
        | (show wpPlan _ _ _ _ ((false, _) :: _) _ _
           refine plan_skip_eff (later_refl _) rfl (by rfl) ?_
           simp only [Act.put, List.setIfInBounds_toArray, List.set_cons_zero, List.set_cons_succ])
        | (show wpPlan _ _ _ _ ((true, _) :: _) _ _
           refine plan_take (v := ?_) rfl (by rfl) (fun w' hw' => ?_) ?_
           rotate_left
           focus
             go_simp
             try with_reducible rfl
             done
           simp only [Act.put, List.setIfInBounds_toArray, List.set_cons_zero, List.set_cons_succ]))
    clear f0 f1 f2 f3
    refine plan_nil ?_
    generalize w1.drew = w2 at *
    have i0 := hI'.out.c0
    have i1 := hI'.out.c1
    have i2 := hI'.out.c2
    have i3 := hI'.out.c3
    by_cases h16 : a < 8
    · skip
      have x16a : decide ((a : Int) < 8) = true := decide_eq_true (by omega)
      have x16b : decide (a < 8) = true := decide_eq_true (by omega)
      go_wp2_with fail
      go_ret
      exact ⟨ret_bool (by rw [hF'.out]; unfold Ins.formed; dsimp only; first | exact decide_eq_decide.2 (by omega) | exact (decide_eq_true (by omega)).symm | exact (decide_eq_false (by omega)).symm), hb'.out⟩
    · skip
      have x16a : decide ((a : Int) < 8) = false := decide_eq_false (by omega)
      have x16b : decide (a < 8) = false := decide_eq_false (by omega)
      go_wp2_with fail
      go_ret
      exact ⟨ret_bool (by rw [hF'.out]; unfold Ins.formed; dsimp only; first | exact decide_eq_decide.2 (by omega) | exact (decide_eq_true (by omega)).symm | exact (decide_eq_false (by omega)).symm), hb'.out⟩
  go_enter Try.func24, Try.ntmps24
  go_upto_region 1 with (fail)
  have hI := IBox.new w 56 o (a : Nat) (b : Nat) (c : Nat)
  have hbA : Below w.heap.size w (w.alloc (.cells #[.int .u8 o, .int .u8 (a : Nat), .int .u8 (b : Nat), .int .u8 (c : Nat)] 56)) := (Below.refl _ _).alloc (Nat.le_refl _) _
  generalize w.alloc (.cells #[.int .u8 o, .int .u8 (a : Nat), .int .u8 (b : Nat), .int .u8 (c : Nat)] 56) = w1 at *
  have hq : Below w1.heap.size w1 w1.drew := (Below.refl _ _).drew
  have f := fun w' (hl : Later (fun _ => False) w1.drew w') => (hI.below hq).later hl (fun h => h)
  have f0 := fun w' hl => (f w' hl).c0
  have f1 := fun w' hl => (f w' hl).c1
  have f2 := fun w' hl => (f w' hl).c2
  have f3 := fun w' hl => (f w' hl).c3
  have hb' := hide (hbA.trans (hq.mono hbA.size))
  have hI' := hide (hI.below hq)
  clear f hI hbA hq
  refine region_plan [(true, 0), (true, 1), (true, 2), (true, 3), (true, 4), (true, 5), (true, 6), (true, 7), (true, 8), (true, 9), (true, 10), (true, 11)] (Later fun _ => False) (later_refl _) (later_trans _) (by kernel_rfl) (by kernel_rfl) (fun _ _ d _ _ h => by cases d <;> exact h) ?_
  repeat
    (first
      | (show wpPlan _ _ _ _ ((true, _) :: _) _ _
         refine plan_skip rfl (by rfl) ?_
         simp only [Act.put, List.setIfInBounds_toArray, List.set_cons_zero, List.set_cons_succ])
      | (show wpPlan _ _ _ _ ((false, _) :: _) _ _
         refine plan_skip_eff (later_refl _) rfl (by rfl) ?_
         simp only [Act.put, List.setIfInBounds_toArray, List.set_cons_zero, List.set_cons_succ])
      | (show wpPlan _ _ _ _ ((true, _) :: _) _ _
         refine plan_take (v := ?_) rfl (by rfl) (fun w' hw' => ?_) ?_
         rotate_left
         focus
           go_simp
           try with_reducible rfl
           done
         simp only [Act.put, List.setIfInBounds_toArray, List.set_cons_zero, List.set_cons_succ]))
  clear f0 f1 f2 f3
  refine plan_nil ?_
  generalize w1.drew = w2 at *
  have i0 := hI'.out.c0
  have i1 := hI'.out.c1
  have i2 := hI'.out.c2
  have i3 := hI'.out.c3
  have xq0a : ((o : Int) == 0) = false := by simp; omega
  have xq0b : (o == 0) = false := by simp; omega
  have xq0c : decide (o = 0) = false := decide_eq_false (by omega)
  have xq0d : ((o : Int) != 0) = true := by simp; omega
  have xq0e : (o != 0) = true := by simp; omega
  have xq15a : ((o : Int) == 15) = false := by simp; omega
  have xq15b : (o == 15) = false := by simp; omega
  have xq15c : decide (o = 15) = false := decide_eq_false (by omega)
  have xq15d : ((o : Int) != 15) = true := by simp; omega
  have xq15e : (o != 15) = true := by simp; omega
  have xq17a : ((o : Int) == 17) = false := by simp; omega
  have xq17b : (o == 17) = false := by simp; omega
  have xq17c : decide (o = 17) = false := decide_eq_false (by omega)
  have xq17d : ((o : Int) != 17) = true := by simp; omega
  have xq17e : (o != 17) = true := by simp; omega
  have xq2a : ((o : Int) == 2) = false := by simp; omega
  have xq2b : (o == 2) = false := by simp; omega
  have xq2c : decide (o = 2) = false := decide_eq_false (by omega)
  have xq2d : ((o : Int) != 2) = true := by simp; omega
  have xq2e : (o != 2) = true := by simp; omega
  have xq13a : ((o : Int) == 13) = false := by simp; omega
  have xq13b : (o == 13) = false := by simp; omega
  have xq13c : decide (o = 13) = false := decide_eq_false (by omega)
  have xq13d : ((o : Int) != 13) = true := by simp; omega
  have xq13e : (o != 13) = true := by simp; omega
  have xq14a : ((o : Int) == 14) = false := by simp; omega
  have xq14b : (o == 14) = false := by simp; omega
  have xq14c : decide (o = 14) = false := decide_eq_false (by omega)
  have xq14d : ((o : Int) != 14) = true := by simp; omega
  have xq14e : (o != 14) = true := by simp; omega
  have xq1a : ((o : Int) == 1) = false := by simp; omega
  have xq1b : (o == 1) = false := by simp; omega
  have xq1c : decide (o = 1) = false := decide_eq_false (by omega)
  have xq1d : ((o : Int) != 1) = true := by simp; omega
  have xq1e : (o != 1) = true := by simp; omega
  have xq16a : ((o : Int) == 16) = false := by simp; omega
  have xq16b : (o == 16) = false := by simp; omega
  have xq16c : decide (o = 16) = false := decide_eq_false (by omega)
  have xq16d : ((o : Int) != 16) = true := by simp; omega
  have xq16e : (o != 16) = true := by simp; omega
  by_cases h17 : 3 ≤ o
  · skip
    by_cases h18 : o ≤ 12
    · skip
      by_cases h19 : a < 8
      · skip
        by_cases h20 : b < 8
        · skip
          by_cases h21 : c < 8
          · skip
            have x17a : decide ((3 : Int) ≤ (o : Int)) = true := decide_eq_true (by omega)
            have x17b : decide (3 ≤ o) = true := decide_eq_true (by omega)
            have x18a : decide ((o : Int) ≤ 12) = true := decide_eq_true (by omega)
            have x18b : decide (o ≤ 12) = true := decide_eq_true (by omega)
            have x19a : decide ((a : Int) < 8) = true := decide_eq_true (by omega)
            have x19b : decide (a < 8) = true := decide_eq_true (by omega)
            have x20a : decide ((b : Int) < 8) = true := decide_eq_true (by omega)
            have x20b : decide (b < 8) = true := decide_eq_true (by omega)
            have x21a : decide ((c : Int) < 8) = true := decide_eq_true (by omega)
            have x21b : decide (c < 8) = true := decide_eq_true (by omega)
            go_wp2_with fail
            go_ret
            exact ⟨ret_bool (by rw [hF'.out]; unfold Ins.formed; dsimp only; first | exact decide_eq_decide.2 (by omega) | exact (decide_eq_true (by omega)).symm | exact (decide_eq_false (by omega)).symm), hb'.out⟩
          · skip
            have x17a : decide ((3 : Int) ≤ (o : Int)) = true := decide_eq_true (by omega)
            have x17b : decide (3 ≤ o) = true := decide_eq_true (by omega)
            have x18a : decide ((o : Int) ≤ 12) = true := decide_eq_true (by omega)
            have x18b : decide (o ≤ 12) = true := decide_eq_true (by omega)
            have x19a : decide ((a : Int) < 8) = true := decide_eq_true (by omega)
            have x19b : decide (a < 8) = true := decide_eq_true (by omega)
            have x20a : decide ((b : Int) < 8) = true := decide_eq_true (by omega)
            have x20b : decide (b < 8) = true := decide_eq_true (by omega)
            have x21a : decide ((c : Int) < 8) = false := decide_eq_false (by omega)
            have x21b : decide (c < 8) = false := decide_eq_false (by omega)
            go_wp2_with fail
            go_ret
            exact ⟨ret_bool (by rw [hF'.out]; unfold Ins.formed; dsimp only; first | exact decide_eq_decide.2 (by omega) | exact (decide_eq_true (by omega)).symm | exact (decide_eq_false (by omega)).symm), hb'.out⟩
        · skip
          have x17a : decide ((3 : Int) ≤ (o : Int)) = true := decide_eq_true (by omega)
          have x17b : decide (3 ≤ o) = true := decide_eq_true (by omega)
          have x18a : decide ((o : Int) ≤ 12) = true := decide_eq_true (by omega)
          have x18b : decide (o ≤ 12) = true := decide_eq_true (by omega)
          have x19a : decide ((a : Int) < 8) = true := decide_eq_true (by omega)
          have x19b : decide (a < 8) = true := decide_eq_true (by omega)
          have x20a : decide ((b : Int) < 8) = false := decide_eq_false (by omega)
          have x20b : decide (b < 8) = false := decide_eq_false (by omega)
          go_wp2_with fail
          go_ret
          exact ⟨ret_bool (by rw [hF'.out]; unfold Ins.formed; dsimp only; first | exact decide_eq_decide.2 (by omega) | exact (decide_eq_true (by omega)).symm | exact (decide_eq_false (by omega)).symm), hb'.out⟩
      · skip
        have x17a : decide ((3 : Int) ≤ (o : Int)) = true := decide_eq_true (by omega)
        have x17b : decide (3 ≤ o) = true := decide_eq_true (by omega)
        have x18a : decide ((o : Int) ≤ 12) = true := decide_eq_true (by omega)
        have x18b : decide (o ≤ 12) = true := decide_eq_true (by omega)
        have x19a : decide ((a : Int) < 8) = false := decide_eq_false (by omega)
        have x19b : decide (a < 8) = false := decide_eq_false (by omega)
        go_wp2_with fail
        go_ret
        exact ⟨ret_bool (by rw [hF'.out]; unfold Ins.formed; dsimp only; first | exact decide_eq_decide.2 (by omega) | exact (decide_eq_true (by omega)).symm | exact (decide_eq_false (by omega)).symm), hb'.out⟩
    · skip
      have x17a : decide ((3 : Int) ≤ (o : Int)) = true := decide_eq_true (by omega)
      have x17b : decide (3 ≤ o) = true := decide_eq_true (by omega)
      have x18a : decide ((o : Int) ≤ 12) = false := decide_eq_false (by omega)
      have x18b : decide (o ≤ 12) = false := decide_eq_false (by omega)
      go_wp2_with fail
      go_ret
      exact ⟨ret_bool (by rw [hF'.out]; unfold Ins.formed; dsimp only; first | exact decide_eq_decide.2 (by omega) | exact (decide_eq_true (by omega)).symm | exact (decide_eq_false (by omega)).symm), hb'.out⟩
  · exfalso
    omega
end Go.Proofs.Ytmgcbiejnifhpaa
