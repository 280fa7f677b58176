/- extent.Part's Part and Image walked. -/
import Derived.Test.YtamkngpkplflcaaExtPart
namespace Go.Proofs.Ytamkngpkplflcaa
open Go.RowKit

def PartPost (w : World) (f c yf yc : Int) (gd : Nat) (e : Ending) (w' : World) : Prop :=
  Below w.heap.size w w' ∧ if liesV yf yc c = true then ∃ q, e = .returned (.tuple #[.pointer (some ⟨q, 0, none⟩), .int .i64 0]) ∧ w.heap.size ≤ q ∧ PtAt w' q (f + yf) yc gd else e = .returned (.tuple #[.pointer none, .int .i64 1])
set_option maxRecDepth 100000 in
theorem epart_any (p : Nat) (f c : Int) (gd : Nat) (yf yc : Int) (hyf : I64 yf) (hyc : I64 yc) (w : World) (h : PtAt w p f c gd) (hf : 0 ≤ f) (hfc : f + c ≤ 1000) :
    Calls Try.prog 47 #[.pointer (some ⟨p, 0, none⟩), .agg #[.int .i64 yf, .int .i64 yc]] w (PartPost w f c yf yc gd) := by
  have h' := hide h
  have hyf' := hide hyf
  have hyc' := hide hyc
  clear h hyf hyc
  go_enter Try.func47, Try.ntmps47
  go_wp2_with fail
  have hb1 : Below w.heap.size w (w.alloc (.cells #[.int .i64 yf, .int .i64 yc] 25)).drew := ((Below.refl _ _).alloc (Nat.le_refl _) _).drew
  have hnew := hide (heap_alloc_new w (.cells #[.int .i64 yf, .int .i64 yc] 25))
  have hsz : w.heap.size < (w.alloc (.cells #[.int .i64 yf, .int .i64 yc] 25)).drew.heap.size := by simp
  have h1 := hide (h'.out.below hb1)
  have f0 : ∀ w', Later (fun _ => False) (w.alloc (.cells #[.int .i64 yf, .int .i64 yc] 25)).drew w' → w'.cell? ⟨w.heap.size, 0, none⟩ = some (.int .i64 yf) := fun w' hl => (Later.cell hl hsz (fun h => h)).1.trans (cell_of_row _ _ 0 _ _ _ hnew.out)
  have f1 : ∀ w', Later (fun _ => False) (w.alloc (.cells #[.int .i64 yf, .int .i64 yc] 25)).drew w' → w'.cell? ⟨w.heap.size, 1, none⟩ = some (.int .i64 yc) := fun w' hl => (Later.cell hl hsz (fun h => h)).1.trans (cell_of_row _ _ 1 _ _ _ hnew.out)
  have g1 : ∀ w', Later (fun _ => False) (w.alloc (.cells #[.int .i64 yf, .int .i64 yc] 25)).drew w' → w'.cell? ⟨p, 1, none⟩ = some (.int .i64 c) := fun w' hl => (h1.out.later hl (fun h => h)).c1
  have hb1' := hide hb1
  clear hb1
  refine region_plan [(true, 0), (true, 1), (true, 2), (true, 3), (true, 4), (true, 5), (false, 6), (true, 7)] (Later fun _ => False) (later_refl _) (later_trans _) (by kernel_rfl) (by kernel_rfl) (fun _ _ d _ _ h => by cases d <;> exact h) ?_
  repeat
    (first
      | (show wpPlan _ _ _ _ ((true, _) :: _) _ _
         refine plan_skip rfl (by rfl) ?_
         simp only [Act.put, List.setIfInBounds_toArray, List.set_cons_zero, List.set_cons_succ])
      | (show wpPlan _ _ _ _ ((false, _) :: _) _ _
         refine plan_skip_eff (later_refl _) rfl (by rfl) ?_
         simp only [Act.put, List.setIfInBounds_toArray, List.set_cons_zero, List.set_cons_succ])
      | (show wpPlan _ _ _ _ ((true, _) :: _) _ _
         refine plan_take (v := ?_) rfl (by rfl) (fun w' hw' => ?_) ?_
         rotate_left
         focus
           go_simp
           try with_reducible rfl
           done
         simp only [Act.put, List.setIfInBounds_toArray, List.set_cons_zero, List.set_cons_succ]))
  refine plan_eff rfl (by rfl) (fun K hK => ?_)
  go_wp2_with fail
  refine (lies_any yf yc c _ hyf'.out hyc'.out h1.out.iC).mono ?_
  rintro e w3 ⟨rfl, hb⟩
  refine hK _ _ (below_later hb (Nat.le_refl _)) ?_
  clear hK K
  have hb3 := hide (hb1'.out.trans (hb.mono hb1'.out.size))
  have hL3 : Later (fun _ => False) (w.alloc (.cells #[.int .i64 yf, .int .i64 yc] 25)).drew w3 := below_later hb (Nat.le_refl _)
  have h3 := hide (h1.out.below hb)
  have F0 := hide (fun w' (hl : Later (fun _ => False) w3 w') => f0 w' (later_trans _ _ _ _ hL3 hl))
  have F1 := hide (fun w' (hl : Later (fun _ => False) w3 w') => f1 w' (later_trans _ _ _ _ hL3 hl))
  clear hb f0 f1 g1 hL3
  unfold PartPost
  cases hl : liesV yf yc c
  · repeat
      (first
        | (show wpPlan _ _ _ _ ((true, _) :: _) _ _
           refine plan_skip rfl (by rfl) ?_
           simp only [Act.put, List.setIfInBounds_toArray, List.set_cons_zero, List.set_cons_succ])
        | (show wpPlan _ _ _ _ ((false, _) :: _) _ _
           refine plan_skip_eff (later_refl _) rfl (by rfl) ?_
           simp only [Act.put, List.setIfInBounds_toArray, List.set_cons_zero, List.set_cons_succ])
        | (show wpPlan _ _ _ _ ((true, _) :: _) _ _
           refine plan_take (v := ?_) rfl (by rfl) (fun w' hw' => ?_) ?_
           rotate_left
           focus
             go_simp
             try with_reducible rfl
             done
           simp only [Act.put, List.setIfInBounds_toArray, List.set_cons_zero, List.set_cons_succ]))
    refine plan_nil ?_
    go_wp2_with fail
    go_ret2
    exact ⟨hb3.out, by rw [if_neg (by rw [hl]; simp)]; rfl⟩
  · have hlv : 1 ≤ yc ∧ 0 ≤ yf ∧ yc ≤ c ∧ yf ≤ c - yc := by unfold liesV at hl; simpa using hl
    obtain ⟨v1, v2, v3, v4⟩ := hlv
    have hsum : IntKind.i64.wrap (f + yf) = f + yf := by rw [IntWalk.i64_in _ (by omega)]
    have hsum' := hide hsum
    clear hsum
    repeat
      (first
        | (show wpPlan _ _ _ _ ((true, _) :: _) _ _
           refine plan_skip rfl (by rfl) ?_
           simp only [Act.put, List.setIfInBounds_toArray, List.set_cons_zero, List.set_cons_succ])
        | (show wpPlan _ _ _ _ ((false, _) :: _) _ _
           refine plan_skip_eff (later_refl _) rfl (by rfl) ?_
           simp only [Act.put, List.setIfInBounds_toArray, List.set_cons_zero, List.set_cons_succ])
        | (show wpPlan _ _ _ _ ((true, _) :: _) _ _
           refine plan_take (v := ?_) rfl (by rfl) (fun w' hw' => ?_) ?_
           rotate_left
           focus
             go_simp
             try with_reducible rfl
             done
           simp only [Act.put, List.setIfInBounds_toArray, List.set_cons_zero, List.set_cons_succ]))
    refine plan_nil ?_
    go_wp2_with fail
    have hLd := later_drew (F := fun _ => False) w3
    have g0 : ∀ w', Later (fun _ => False) w3.drew w' → w'.cell? ⟨w.heap.size, 0, none⟩ = some (.int .i64 yf) := fun w' hl => F0.out w' (later_trans _ _ _ _ hLd hl)
    have g1 : ∀ w', Later (fun _ => False) w3.drew w' → w'.cell? ⟨w.heap.size, 1, none⟩ = some (.int .i64 yc) := fun w' hl => F1.out w' (later_trans _ _ _ _ hLd hl)
    have g2 : ∀ w', Later (fun _ => False) w3.drew w' → w'.cell? ⟨p, 0, none⟩ = some (.int .i64 f) := fun w' hl => (h3.out.later (later_trans _ _ _ _ hLd hl) (fun h => h)).c0
    have g3 : ∀ w', Later (fun _ => False) w3.drew w' → w'.cell? ⟨p, 2, none⟩ = some (.pointer (some ⟨gd, 0, none⟩)) := fun w' hl => (h3.out.later (later_trans _ _ _ _ hLd hl) (fun h => h)).c2
    refine region_plan [(true, 0), (true, 1), (true, 2), (true, 3), (true, 4), (true, 5), (true, 6), (true, 7), (true, 8), (true, 9), (true, 10), (true, 11), (true, 12), (true, 13), (true, 14), (true, 15), (false, 16), (true, 17), (true, 18)] (Later fun _ => False) (later_refl _) (later_trans _) (by kernel_rfl) (by kernel_rfl) (fun _ _ d _ _ h => by cases d <;> exact h) ?_
    repeat
      (first
        | (show wpPlan _ _ _ _ ((true, _) :: _) _ _
           refine plan_skip rfl (by rfl) ?_
           simp only [Act.put, List.setIfInBounds_toArray, List.set_cons_zero, List.set_cons_succ])
        | (show wpPlan _ _ _ _ ((false, _) :: _) _ _
           refine plan_skip_eff (later_refl _) rfl (by rfl) ?_
           simp only [Act.put, List.setIfInBounds_toArray, List.set_cons_zero, List.set_cons_succ])
        | (show wpPlan _ _ _ _ ((true, _) :: _) _ _
           refine plan_take (v := ?_) rfl (by rfl) (fun w' hw' => ?_) ?_
           rotate_left
           focus
             go_simp
             try with_reducible rfl
             done
           simp only [Act.put, List.setIfInBounds_toArray, List.set_cons_zero, List.set_cons_succ]))
    clear g0 g1 g2 g3
    refine plan_eff rfl (by rfl) (fun K hK => ?_)
    go_wp2_with fail
    refine hK _ _ (later_alloc _ _) ?_
    clear hK K
    try simp only [Act.put, List.setIfInBounds_toArray, List.set_cons_zero, List.set_cons_succ]
    repeat
      (first
        | (show wpPlan _ _ _ _ ((true, _) :: _) _ _
           refine plan_skip rfl (by rfl) ?_
           simp only [Act.put, List.setIfInBounds_toArray, List.set_cons_zero, List.set_cons_succ])
        | (show wpPlan _ _ _ _ ((false, _) :: _) _ _
           refine plan_skip_eff (later_refl _) rfl (by rfl) ?_
           simp only [Act.put, List.setIfInBounds_toArray, List.set_cons_zero, List.set_cons_succ])
        | (show wpPlan _ _ _ _ ((true, _) :: _) _ _
           refine plan_take (v := ?_) rfl (by rfl) (fun w' hw' => ?_) ?_
           rotate_left
           focus
             go_simp
             try with_reducible rfl
             done
           simp only [Act.put, List.setIfInBounds_toArray, List.set_cons_zero, List.set_cons_succ]))
    refine plan_nil ?_
    go_wp2_with fail
    go_ret2
    have hnw := heap_alloc_new w3 (.cells #[.int .i64 (f + yf), .int .i64 yc, .pointer (some ⟨gd, 0, none⟩)] 97)
    refine ⟨(hb3.out.alloc hb3.out.size _).drew, ?_⟩
    rw [if_pos hl]
    exact ⟨w3.heap.size, rfl, hb3.out.size, ⟨by simp, cell_of_row _ _ 0 _ _ _ hnw, cell_of_row _ _ 1 _ _ _ hnw, cell_of_row _ _ 2 _ _ _ hnw, by unfold I64; omega, hyc'.out⟩⟩

theorem cat_sector (d : Dk) (f k : Nat) : (d.has.drop (64 * f)).take (64 * k) ++ d.sector (f + k) = (d.has.drop (64 * f)).take (64 * (k + 1)) := by
  unfold Dk.sector
  rw [show 64 * (k + 1) = 64 * k + 64 by omega, List.take_add, List.drop_drop]
  congr 3
  omega
set_option maxRecDepth 100000 in
theorem eimage_any (p f c gd : Nat) (B : Nat → Prop) (d : Dk) (w : World) (h : PtAt w p f c gd) (a : Dsk w gd B d) (hfc : f + c ≤ d.n) :
    Calls Try.prog 43 #[.pointer (some ⟨p, 0, none⟩)] w fun e w' => ∃ v, e = .returned v ∧ OwnB w' w.heap.size 5 v ((d.has.drop (64 * f)).take (64 * c)) ∧ Below w.heap.size w w' := by
  have a' := hide a
  have h' := hide h
  have c1 := h.c1
  have hn2 := a.ok.n2
  have hlen := hide a.ok.len
  clear a h
  go_enter Try.func43, Try.ntmps43
  go_wp2_with fail
  go_loopw [3, 12] (fun v i wr => ∃ k : Nat, k ≤ c ∧ i = .int .i64 k ∧ OwnB wr w.heap.size 5 v ((d.has.drop (64 * f)).take (64 * k)) ∧ Below w.heap.size w wr) (fun _ i _ => c - (intOf i).toNat)
  case atStart => exact ⟨0, by omega, rfl, World.ownsRow_nil _ _ _ _, Below.refl _ _⟩
  case round =>
    obtain ⟨k, hk, rfl, hown, hb⟩ := hrel
    have hown' := hide hown
    have hb' := hide hb
    have hbs := hb.size
    have hh := hide (h'.out.below hb)
    have ha := hide (a'.out.below hb)
    clear hown hb
    by_cases hlt : k < c
    · have hltI : (k : Int) < (c : Int) := by omega
      have hcs := hide (cat_sector d f k)
      have hll := hide (show ((d.has.drop (64 * f)).take (64 * k)).length = 64 * k by rw [List.length_take, List.length_drop, hlen.out]; omega)
      have hsl := hide (sector_length ha.out.ok (f + k) (by omega))
      go_wp2_with fail
      have hLd := later_drew (F := fun _ => False) wr
      have g0 : ∀ w', Later (fun _ => False) wr.drew w' → w'.cell? ⟨p, 0, none⟩ = some (.int .i64 f) := fun w' hl => (hh.out.later (later_trans _ _ _ _ hLd hl) (fun h => h)).c0
      have g3 : ∀ w', Later (fun _ => False) wr.drew w' → w'.cell? ⟨p, 2, none⟩ = some (.pointer (some ⟨gd, 0, none⟩)) := fun w' hl => (hh.out.later (later_trans _ _ _ _ hLd hl) (fun h => h)).c2
      refine region_plan [(true, 0), (true, 1), (true, 2), (true, 3), (true, 4), (true, 5), (true, 6), (true, 7), (true, 8), (true, 9), (true, 10), (false, 11), (true, 12), (true, 13), (true, 14), (true, 15), (true, 16)] (Later fun _ => False) (later_refl _) (later_trans _) (by kernel_rfl) (by kernel_rfl) (fun _ _ d _ _ h => by cases d <;> exact h) ?_
      repeat
        (first
          | (show wpPlan _ _ _ _ ((true, _) :: _) _ _
             refine plan_skip rfl (by rfl) ?_
             simp only [Act.put, List.setIfInBounds_toArray, List.set_cons_zero, List.set_cons_succ])
          | (show wpPlan _ _ _ _ ((false, _) :: _) _ _
             refine plan_skip_eff (later_refl _) rfl (by rfl) ?_
             simp only [Act.put, List.setIfInBounds_toArray, List.set_cons_zero, List.set_cons_succ])
          | (show wpPlan _ _ _ _ ((true, _) :: _) _ _
             refine plan_take (v := ?_) rfl (by rfl) (fun w' hw' => ?_) ?_
             rotate_left
             focus
               go_simp
               try with_reducible rfl
               done
             simp only [Act.put, List.setIfInBounds_toArray, List.set_cons_zero, List.set_cons_succ]))
      clear g0 g3
      refine plan_eff rfl (by rfl) (fun K hK => ?_)
      go_wp2_with fail
      have hq : Q wr wr.drew := Q.drew (Q.refl _)
      have hidx : IntKind.i64.wrap ((f : Int) + (k : Int)) = ((f + k : Nat) : Int) := by rw [IntWalk.i64_in _ (by omega)]; omega
      try rw [hidx]
      try rw [show (f : Int) + (k : Int) = ((f + k : Nat) : Int) by omega]
      refine ((ha.out.below (hq.below _)).has_ (f + k) (by omega)).mono ?_
      rintro e w2 ⟨u, rfl, hu, hb2⟩
      refine hK _ _ (below_later hb2 (Nat.le_refl _)) ?_
      clear hK K
      have hown2 : Hid (OwnB w2 w.heap.size 5 u3 ((d.has.drop (64 * f)).take (64 * k))) := (hown'.out.below (hq.below _)).below hb2
      have hb2' : Hid (Below w.heap.size w w2) := (hb'.out.trans (hq.below _)).trans (hb2.mono hbs)
      have hs2 : wr.heap.size ≤ w2.heap.size := hb2.size
      have hu' := hide hu
      clear hu hb2 hq hidx hLd
      try simp only [Act.put, List.setIfInBounds_toArray, List.set_cons_zero, List.set_cons_succ]
      repeat
        (first
          | (show wpPlan _ _ _ _ ((true, _) :: _) _ _
             refine plan_skip rfl (by rfl) ?_
             simp only [Act.put, List.setIfInBounds_toArray, List.set_cons_zero, List.set_cons_succ])
          | (show wpPlan _ _ _ _ ((false, _) :: _) _ _
             refine plan_skip_eff (later_refl _) rfl (by rfl) ?_
             simp only [Act.put, List.setIfInBounds_toArray, List.set_cons_zero, List.set_cons_succ])
          | (show wpPlan _ _ _ _ ((true, _) :: _) _ _
             refine plan_take (v := ?_) rfl (by rfl) (fun w' hw' => ?_) ?_
             rotate_left
             focus
               go_simp
               try with_reducible rfl
               done
             simp only [Act.put, List.setIfInBounds_toArray, List.set_cons_zero, List.set_cons_succ]))
      refine plan_nil ?_
      go_wp2_with ((at_builtin; refine list_app_any elem_bytes rfl (.tmp 30) (.tmp 31) rfl w.heap.size u3 (List.take (64 * k) (List.drop (64 * f) d.has)).length (bytesV (List.take (64 * k) (List.drop (64 * f) d.has))) rfl hown2.out u (d.sector (f + k)).length (bytesV (d.sector (f + k))) rfl (Sl.own hu'.out) (bytesV_one _) (by have := hll.out; have := hsl.out; simp only [maxLen]; omega) (by have := hll.out; have := hsl.out; omega) (by omega) ?_))
      intro v3 w3 hown3 hg3 hat3
      have hb3 : Below w.heap.size w w3 := hb2'.out.grown hg3 (by omega) (fun y hy => (hown2.out.lt y hy).1)
      have ho3 : OwnB w3 w.heap.size 5 v3 ((d.has.drop (64 * f)).take (64 * (k + 1))) := by
        rw [← hcs.out]
        unfold OwnB
        rw [List.length_append, bytesV_append, List.length_take, List.length_drop]
        exact hown3
      have ho3' := hide ho3
      have hb3' := hide hb3
      clear hown3 hg3 hat3 ho3 hb3
      go_wp2_with fail
      go_roundw
      case rel => exact ⟨k + 1, by omega, by go_num, ho3'.out, hb3'.out⟩
      case measure => simp [intOf]; omega
    · obtain rfl : c = k := by omega
      go_wp2_with fail
      go_ret
      exact ⟨_, rfl, hown'.out, hb'.out⟩
end Go.Proofs.Ytamkngpkplflcaa
