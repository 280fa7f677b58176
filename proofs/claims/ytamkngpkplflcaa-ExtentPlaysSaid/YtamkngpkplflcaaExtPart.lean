/- extent.New, Part's Size, Read, Write, Flush, Image, Part walked. -/
import Derived.Test.YtamkngpkplflcaaExtAwake
import Derived.Test.YtamkngpkplflcaaDiskAwake
namespace Go.Proofs.Ytamkngpkplflcaa
open Go.RowKit

/-- a part at p -/
structure PtAt (w : World) (p : Nat) (f c : Int) (gd : Nat) : Prop where
  lt : p < w.heap.size
  c0 : w.cell? ⟨p, 0, none⟩ = some (.int .i64 f)
  c1 : w.cell? ⟨p, 1, none⟩ = some (.int .i64 c)
  c2 : w.cell? ⟨p, 2, none⟩ = some (.pointer (some ⟨gd, 0, none⟩))
  iF : I64 f
  iC : I64 c
theorem PtAt.later {F : Nat → Prop} {w w' : World} {p : Nat} {f c : Int} {gd : Nat} (h : PtAt w p f c gd) (t : Later F w w') (hF : ¬ F p) : PtAt w' p f c gd :=
  ⟨Nat.lt_of_lt_of_le h.lt t.1, (Later.cell t h.lt hF).1.trans h.c0, (Later.cell t h.lt hF).1.trans h.c1, (Later.cell t h.lt hF).1.trans h.c2, h.iF, h.iC⟩
theorem PtAt.below {w w' : World} {p : Nat} {f c : Int} {gd : Nat} (h : PtAt w p f c gd) (t : Below w.heap.size w w') : PtAt w' p f c gd := h.later (F := fun _ => False) (below_later t (Nat.le_refl _)) (fun h => h)

def NewPost (w : World) (f c : Int) (gd n : Nat) (e : Ending) (w' : World) : Prop :=
  Below w.heap.size w w' ∧ if liesV f c n = true then ∃ p, e = .returned (.tuple #[.pointer (some ⟨p, 0, none⟩), .int .i64 0]) ∧ w.heap.size ≤ p ∧ PtAt w' p f c gd else e = .returned (.tuple #[.pointer none, .int .i64 1])
set_option maxRecDepth 100000 in
theorem enew_any (gd : Nat) (B : Nat → Prop) (d : Dk) (f c : Int) (hf : I64 f) (hc : I64 c) (w : World) (a : Dsk w gd B d) :
    Calls Try.prog 31 #[.pointer (some ⟨gd, 0, none⟩), .agg #[.int .i64 f, .int .i64 c]] w (NewPost w f c gd d.n) := by
  have a' := hide a
  have hn := a.ok.n2
  have hf' := hide hf
  have hc' := hide hc
  clear a hf hc
  go_enter Try.func31, Try.ntmps31
  go_wp2_with fail
  have hb1 : Below w.heap.size w (w.alloc (.cells #[.int .i64 f, .int .i64 c] 25)).drew := ((Below.refl _ _).alloc (Nat.le_refl _) _).drew
  have hnew := hide (heap_alloc_new w (.cells #[.int .i64 f, .int .i64 c] 25))
  have hsz : w.heap.size < (w.alloc (.cells #[.int .i64 f, .int .i64 c] 25)).drew.heap.size := by simp
  have a1 := hide (a'.out.below hb1)
  have f0 : ∀ w', Later (fun _ => False) (w.alloc (.cells #[.int .i64 f, .int .i64 c] 25)).drew w' → w'.cell? ⟨w.heap.size, 0, none⟩ = some (.int .i64 f) := fun w' hl => (Later.cell hl hsz (fun h => h)).1.trans (cell_of_row _ _ 0 _ _ _ hnew.out)
  have f1 : ∀ w', Later (fun _ => False) (w.alloc (.cells #[.int .i64 f, .int .i64 c] 25)).drew w' → w'.cell? ⟨w.heap.size, 1, none⟩ = some (.int .i64 c) := fun w' hl => (Later.cell hl hsz (fun h => h)).1.trans (cell_of_row _ _ 1 _ _ _ hnew.out)
  have hb1' := hide hb1
  clear hb1
  refine region_plan [(true, 0), (true, 1), (false, 2), (false, 3), (true, 4)] (Later fun _ => False) (later_refl _) (later_trans _) (by kernel_rfl) (by kernel_rfl) (fun _ _ d _ _ h => by cases d <;> exact h) ?_
  repeat
    (first
      | (show wpPlan _ _ _ _ ((true, _) :: _) _ _
         refine plan_skip rfl (by rfl) ?_
         simp only [Act.put, List.setIfInBounds_toArray, List.set_cons_zero, List.set_cons_succ])
      | (show wpPlan _ _ _ _ ((false, _) :: _) _ _
         refine plan_skip_eff (later_refl _) rfl (by rfl) ?_
         simp only [Act.put, List.setIfInBounds_toArray, List.set_cons_zero, List.set_cons_succ])
      | (show wpPlan _ _ _ _ ((true, _) :: _) _ _
         refine plan_take (v := ?_) rfl (by rfl) (fun w' hw' => ?_) ?_
         rotate_left
         focus
           go_simp
           try with_reducible rfl
           done
         simp only [Act.put, List.setIfInBounds_toArray, List.set_cons_zero, List.set_cons_succ]))
  refine plan_eff rfl (by rfl) (fun K hK => ?_)
  go_wp2_with fail
  refine a1.out.size_.mono ?_
  rintro e w2 ⟨rfl, rfl⟩
  refine hK _ _ (later_refl _ _) ?_
  clear hK K
  try simp only [Act.put, List.setIfInBounds_toArray, List.set_cons_zero, List.set_cons_succ]
  repeat
    (first
      | (show wpPlan _ _ _ _ ((true, _) :: _) _ _
         refine plan_skip rfl (by rfl) ?_
         simp only [Act.put, List.setIfInBounds_toArray, List.set_cons_zero, List.set_cons_succ])
      | (show wpPlan _ _ _ _ ((false, _) :: _) _ _
         refine plan_skip_eff (later_refl _) rfl (by rfl) ?_
         simp only [Act.put, List.setIfInBounds_toArray, List.set_cons_zero, List.set_cons_succ])
      | (show wpPlan _ _ _ _ ((true, _) :: _) _ _
         refine plan_take (v := ?_) rfl (by rfl) (fun w' hw' => ?_) ?_
         rotate_left
         focus
           go_simp
           try with_reducible rfl
           done
         simp only [Act.put, List.setIfInBounds_toArray, List.set_cons_zero, List.set_cons_succ]))
  refine plan_eff rfl (by rfl) (fun K hK => ?_)
  go_wp2_with fail
  refine (lies_any f c d.n _ hf'.out hc'.out (by unfold I64; omega)).mono ?_
  rintro e w3 ⟨rfl, hb⟩
  refine hK _ _ (below_later hb (Nat.le_refl _)) ?_
  clear hK K
  have hb3 := hide (hb1'.out.trans (hb.mono hb1'.out.size))
  have x0 : w3.cell? ⟨w.heap.size, 0, none⟩ = some (.int .i64 f) := f0 w3 (below_later hb (Nat.le_refl _))
  have x1 : w3.cell? ⟨w.heap.size, 1, none⟩ = some (.int .i64 c) := f1 w3 (below_later hb (Nat.le_refl _))
  clear hb f0 f1
  unfold NewPost
  cases hl : liesV f c d.n
  · repeat
      (first
        | (show wpPlan _ _ _ _ ((true, _) :: _) _ _
           refine plan_skip rfl (by rfl) ?_
           simp only [Act.put, List.setIfInBounds_toArray, List.set_cons_zero, List.set_cons_succ])
        | (show wpPlan _ _ _ _ ((false, _) :: _) _ _
           refine plan_skip_eff (later_refl _) rfl (by rfl) ?_
           simp only [Act.put, List.setIfInBounds_toArray, List.set_cons_zero, List.set_cons_succ])
        | (show wpPlan _ _ _ _ ((true, _) :: _) _ _
           refine plan_take (v := ?_) rfl (by rfl) (fun w' hw' => ?_) ?_
           rotate_left
           focus
             go_simp
             try with_reducible rfl
             done
           simp only [Act.put, List.setIfInBounds_toArray, List.set_cons_zero, List.set_cons_succ]))
    refine plan_nil ?_
    go_wp2_with fail
    go_ret2
    exact ⟨hb3.out, by rw [if_neg (by rw [hl]; simp)]; rfl⟩
  · repeat
      (first
        | (show wpPlan _ _ _ _ ((true, _) :: _) _ _
           refine plan_skip rfl (by rfl) ?_
           simp only [Act.put, List.setIfInBounds_toArray, List.set_cons_zero, List.set_cons_succ])
        | (show wpPlan _ _ _ _ ((false, _) :: _) _ _
           refine plan_skip_eff (later_refl _) rfl (by rfl) ?_
           simp only [Act.put, List.setIfInBounds_toArray, List.set_cons_zero, List.set_cons_succ])
        | (show wpPlan _ _ _ _ ((true, _) :: _) _ _
           refine plan_take (v := ?_) rfl (by rfl) (fun w' hw' => ?_) ?_
           rotate_left
           focus
             go_simp
             try with_reducible rfl
             done
           simp only [Act.put, List.setIfInBounds_toArray, List.set_cons_zero, List.set_cons_succ]))
    refine plan_nil ?_
    go_wp2_with fail
    go_ret2
    exact ⟨hb3.out.alloc hb3.out.size _, by rw [if_pos hl]; exact ⟨w3.heap.size, rfl, hb3.out.size, ⟨by simp, by simp [go_sem], by simp [go_sem], by simp [go_sem], hf'.out, hc'.out⟩⟩⟩

section
variable {w : World} {p : Nat} {f c : Int} {gd : Nat} (h : PtAt w p f c gd)
include h
set_option maxRecDepth 100000 in
theorem esize_any : Calls Try.prog 36 #[.pointer (some ⟨p, 0, none⟩)] w fun e w' => e = .returned (.int .i64 c) ∧ w' = w := by
  have c1 := h.c1
  clear h
  go_enter Try.func36, Try.ntmps36
  go_wp2_with fail
  go_ret
  exact ⟨rfl, rfl⟩
/-- what a part's sector says -/
def pread (d : Dk) (f c at_ : Int) : List UInt8 × Int := if (placeV f c at_).2 = 0 then d.reads (placeV f c at_).1 else ([], (placeV f c at_).2)
set_option maxRecDepth 100000 in
theorem eread_any (B : Nat → Prop) (d : Dk) (a : Dsk w gd B d) (at_ : Int) (hat : I64 at_) :
    Calls Try.prog 33 #[.pointer (some ⟨p, 0, none⟩), .int .i64 at_] w fun e w' => ∃ v, e = .returned (.tuple #[v, .int .i64 (pread d f c at_).2]) ∧ OwnB w' w.heap.size 5 v (pread d f c at_).1 ∧ Below w.heap.size w w' := by
  have a' := hide a
  have h' := hide h
  have c0 := h.c0
  have c1 := h.c1
  have hpl := hide (place_any f c at_ w h.iF h.iC hat)
  clear a h
  go_enter Try.func33, Try.ntmps33
  go_wp2_with fail
  refine hpl.out.mono ?_
  rintro e w1 ⟨rfl, hb⟩
  have hb1 := hide hb
  have a1 := hide (a'.out.below hb)
  have c2 := (h'.out.below hb).c2
  have hs := hb.size
  clear hpl hb
  by_cases hr : (placeV f c at_).2 = 0
  · have e1 : ((placeV f c at_).2 != 0) = false := by simp [hr]
    have hr' := hide hr
    clear hr
    go_wp2_with fail
    refine (a1.out.read_ (placeV f c at_).1).mono ?_
    rintro e w2 ⟨v, rfl, hv, hb⟩
    have hv' := hide hv
    have hb2 := hide (hb1.out.trans (hb.mono hs))
    clear hv hb
    go_wp2_with fail
    go_ret2
    have e2 : pread d f c at_ = d.reads (placeV f c at_).1 := if_pos hr'.out
    rw [e2]
    refine ⟨v, rfl, ?_, hb2.out⟩
    exact ⟨hv'.out.1, hv'.out.2.imp id fun ⟨g, cap, cur, e1, e2, e3⟩ => ⟨g, cap, cur, e1, by omega, e3⟩⟩
  · have e1 : ((placeV f c at_).2 != 0) = true := by simp [hr]
    have hr' := hide hr
    clear hr
    go_wp2_with fail
    go_ret2
    have e2 : pread d f c at_ = ([], (placeV f c at_).2) := if_neg hr'.out
    rw [e2]
    exact ⟨_, rfl, World.ownsRow_nil _ _ _ _, hb1.out⟩
def pwrite (d : Dk) (f c at_ : Int) (b : List UInt8) : Dk × Int := if (placeV f c at_).2 = 0 then d.write (placeV f c at_).1 b else (d, (placeV f c at_).2)
set_option maxRecDepth 100000 in
theorem ewrite_any (B : Nat → Prop) (d : Dk) (a : Dsk w gd B d) (at_ : Int) (hat : I64 at_) (bv : Value) (b : List UInt8) (hbv : ∀ x, bv.ownBlock = some x → ¬ B x) (hbs : Bs w bv b) (hwl : d.waits.length ≤ 1000000) :
    Calls Try.prog 32 #[.pointer (some ⟨p, 0, none⟩), .int .i64 at_, bv] w fun e w' => e = .returned (.int .i64 (pwrite d f c at_ b).2) ∧ Dsk w' gd (fun x => B x ∨ (w.heap.size ≤ x ∧ x < w'.heap.size)) (pwrite d f c at_ b).1 ∧ Touch B w w' := by
  have a' := hide a
  have h' := hide h
  have c0 := h.c0
  have c1 := h.c1
  have hpl := hide (place_any f c at_ w h.iF h.iC hat)
  have hbv' := hide hbv
  have hbs' := hide hbs
  clear a h hbv hbs
  go_enter Try.func32, Try.ntmps32
  go_wp2_with fail
  refine hpl.out.mono ?_
  rintro e w1 ⟨rfl, hb⟩
  have hb1 := hide hb
  have a1 := hide (a'.out.below hb)
  have c2 := (h'.out.below hb).c2
  have hs := hb.size
  clear hpl hb
  by_cases hr : (placeV f c at_).2 = 0
  · have e1 : ((placeV f c at_).2 != 0) = false := by simp [hr]
    have hr' := hide hr
    clear hr
    go_wp2_with fail
    refine (a1.out.write_ (placeV f c at_).1 bv b hbv'.out (hbs'.out.below hb1.out) hwl).mono ?_
    rintro e w2 ⟨rfl, hD, hT⟩
    have hD' := hide hD
    have hT' := hide hT
    clear hD hT
    go_wp2_with fail
    go_ret
    have e2 : pwrite d f c at_ b = d.write (placeV f c at_).1 b := if_pos hr'.out
    rw [e2]
    exact ⟨rfl, hD'.out.mono (fun x hx => hx.imp id fun hx => ⟨by omega, hx.2⟩), (Touch.ofBelow hb1.out).trans hT'.out⟩
  · have e1 : ((placeV f c at_).2 != 0) = true := by simp [hr]
    have hr' := hide hr
    clear hr
    go_wp2_with fail
    go_ret
    have e2 : pwrite d f c at_ b = (d, (placeV f c at_).2) := if_neg hr'.out
    rw [e2]
    exact ⟨rfl, a1.out.mono fun x hx => .inl hx, Touch.ofBelow hb1.out⟩
set_option maxRecDepth 100000 in
theorem eflush_any (B : Nat → Prop) (d : Dk) (a : Dsk w gd B d) :
    Calls Try.prog 41 #[.pointer (some ⟨p, 0, none⟩)] w fun e w' => e = .returned (.int .i64 d.flush.2) ∧ Dsk w' gd B d.flush.1 ∧ Touch B w w' := by
  have a' := hide a
  have c2 := h.c2
  clear a h
  go_enter Try.func41, Try.ntmps41
  go_wp2_with fail
  refine a'.out.flush_.mono ?_
  rintro e w1 ⟨rfl, hD, hT⟩
  have hD' := hide hD
  have hT' := hide hT
  clear hD hT
  go_wp2_with fail
  go_ret
  exact ⟨rfl, hD'.out, hT'.out⟩
end
end Go.Proofs.Ytamkngpkplflcaa
