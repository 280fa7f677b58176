/- octet.Reader: Bytes, Num, Text, End where nothing fails. -/
import Derived.Test.YtihimcgppifcbaaDoorOctetTxt
namespace Go.Proofs.YtihimcgppifcbaaDoor
open Go.RowKit

/-- x[lo:hi], by an equation of one's own -/
theorem run_slice_op {P : Program} {w' : World} {ev : Operand → Value} {o : Oper} {t : TypeId} {u : Value} (x lo hi : Operand) (ho : o.op = .slice t x (some lo) (some hi) none)
    (hrun : (Instr.sliceAt t (ev x) (some (ev lo)) (some (ev hi)) none).run P w' = .ok u w') : (execOp ev o).run P w' = .ok (.value u) w' := by
  simp only [execOp, ho, Option.map_some, Option.map_none, Sem.run_bind, hrun, Result.andThen_ok, Sem.run_pure]
/-- a reader without a fault -/
def Rd (w : World) (g : Nat) (v : Value) (l : List UInt8) (at_ : Nat) : Prop := RdAt w g v .nilIface l at_ 0
theorem Rd.later {w w' : World} {F : Nat → Prop} {g : Nat} {v : Value} {l : List UInt8} {at_ : Nat} (h : Rd w g v l at_) (t : Later F w w') (hg : ¬ F g) (hv : ∀ b, v.ownBlock = some b → ¬ F b) : Rd w' g v l at_ :=
  RdAt.later h t hg hv (fun _ _ e => by cases e)
theorem Rd.below {w w' : World} {g : Nat} {v : Value} {l : List UInt8} {at_ : Nat} (h : Rd w g v l at_) (t : Below w.heap.size w w') : Rd w' g v l at_ :=
  Rd.later h (F := fun _ => False) (below_later t (Nat.le_refl _)) (fun h => h) (fun _ _ h => h)
/-- the place moved -/
theorem Rd.move {w : World} {g : Nat} {v : Value} {l : List UInt8} {at_ k : Nat} (h : Rd w g v l at_) (hk : k ≤ l.length) : Rd (w.setCell ⟨g, 1, none⟩ (.int .i64 k)) g v l k := by
  have hl : Later (fun k => k = g) w (w.setCell ⟨g, 1, none⟩ (.int .i64 k)) := later_setCell (F := fun k => k = g) w (p := ⟨g, 1, none⟩) (.int .i64 (k : Int)) rfl
  exact ⟨Nat.lt_of_lt_of_le h.lt hl.1, (World.cell?_setCell_other _ _ _ _ (by simp)).trans h.c0, World.cell?_setCell_same _ _ _ h.c1, (World.cell?_setCell_other _ _ _ _ (by simp)).trans h.c2, fun j => by rw [World.frozen?_setCell]; exact h.thaw j,
    own_laterO h.b hl (fun b hb e => h.vg (by rw [hb, e])), h.vg, hk, .inl ⟨rfl, rfl⟩⟩

set_option maxRecDepth 100000 in
theorem rdBytes_ok (g : Nat) (v : Value) (l : List UInt8) (at_ n : Nat) (w : World) (h : Rd w g v l at_) (hn : at_ + n ≤ l.length) (hl : l.length ≤ 140737488355328) :
    Calls Tryd.prog 36 #[.pointer (some ⟨g, 0, none⟩), .int .i64 n] w fun e w' => ∃ u, e = .returned u ∧ OwnB w' w.heap.size 5 u ((l.drop at_).take n) ∧ Rd w' g v l (at_ + n) ∧ Touch (fun k => k = g) w w' := by
  have h2 := h.c2
  have hgl := h.lt
  have h' := hide h
  have e1 : decide ((n : Int) < 0) = false := decide_eq_false (by omega)
  have e2 : decide (((l.length - at_ : Nat) : Int) < (n : Int)) = false := decide_eq_false (by omega)
  have e3 : decide (l.length - at_ < n) = false := decide_eq_false (by omega)
  obtain ⟨A, cp, hv, h5, h6, h7⟩ := (OwnB.bs h.b).open_
  obtain ⟨u, hu1, hu2⟩ := run_subB A l.length cp at_ (at_ + n) (by omega) hn h5 h6
  have hu2' := hide hu2
  have hsw : IntKind.i64.wrap ((at_ : Int) + (n : Int)) = ((at_ + n : Nat) : Int) := by rw [IntWalk.i64_in _ (by omega)]; omega
  have hsw' := hide hsw
  have hu1' := hide hu1
  have hv' := hide hv
  clear h h5 h6 h7 hu2 hv hsw hu1
  go_enter Tryd.func36, Tryd.ntmps36
  go_wp2_with fail
  refine (rdLeft_any g v .nilIface l at_ 0 _ h'.out hl).mono ?_
  rintro e w1 ⟨rfl, hq⟩
  have hR := hide (h'.out.below (hq.below _))
  have hq' := hide hq
  have hq0 : Q w w1.drew := hq.drew
  have hq0' := hide hq0
  clear hq hq0
  go_wp2_with fail
  have hR0 : Rd w1.drew g v l at_ := hR.out.below ((Below.refl _ _).drew)
  have f0 : ∀ w', Later (fun _ => False) w1.drew w' → w'.cell? ⟨g, 0, none⟩ = some (.slice A l.length cp) := fun w' hl => by rw [← hv'.out]; exact (hR0.later hl (fun h => h) (fun _ _ h => h)).c0
  have f1 : ∀ w', Later (fun _ => False) w1.drew w' → w'.cell? ⟨g, 1, none⟩ = some (.int .i64 at_) := fun w' hl => (hR0.later hl (fun h => h) (fun _ _ h => h)).c1
  have hR0' := hide hR0
  clear hR0
  refine region_plan [(true, 0), (true, 1), (true, 2), (true, 3), (true, 4), (true, 5), (true, 6), (true, 7), (true, 8), (true, 9), (true, 10), (true, 11), (true, 12), (true, 13), (true, 14), (false, 15), (true, 16)] (Later fun _ => False) (later_refl _) (later_trans _) (by kernel_rfl) (by kernel_rfl) (fun _ _ d _ _ h => by cases d <;> exact h) ?_
  repeat
    (first
      | (show wpPlan _ _ _ _ ((true, _) :: _) _ _
         refine plan_skip rfl (by rfl) ?_
         simp only [Act.put, List.setIfInBounds_toArray, List.set_cons_zero, List.set_cons_succ])
      | (show wpPlan _ _ _ _ ((false, _) :: _) _ _
         refine plan_skip_eff (later_refl _) rfl (by rfl) ?_
         simp only [Act.put, List.setIfInBounds_toArray, List.set_cons_zero, List.set_cons_succ])
      | (show wpPlan _ _ _ _ ((true, _) :: _) _ _
         refine plan_take (v := ?_) rfl (by rfl) (fun w' hw' => ?_) ?_
         rotate_left
         focus
           go_simp
           try with_reducible rfl
           done
         simp only [Act.put, List.setIfInBounds_toArray, List.set_cons_zero, List.set_cons_succ]))
  refine plan_take (v := u) rfl (by rfl) (fun w' hw' => ?_) ?_
  · refine run_slice_op (.tmp 27) (.tmp 31) (.tmp 37) rfl ?_
    show (Instr.sliceAt 23 (.slice A l.length cp) (some (.int .i64 at_)) (some (.int .i64 (IntKind.i64.wrap ((at_ : Int) + (n : Int))))) none).run _ _ = _
    rw [hsw'.out]
    exact hu1'.out w'
  refine plan_eff rfl (by rfl) (fun K hK => ?_)
  refine wp_app_any elem_bytes (.const (.slice none 0 0)) (.tmp 38) rfl w.heap.size (.slice none 0 0) 0 [] rfl (World.ownsRow_nil _ _ _ _) u ((l.drop at_).take n).length (bytesV ((l.drop at_).take n)) rfl ?c1 (bytesV_one _) (by simp only [maxLen, List.length_take]; omega) (by simp only [List.length_take]; omega) (by have := hq0'.out.size; omega) ?_
  case c1 =>
    have := hu2'.out w1.drew l (by rw [← hv'.out]; exact OwnB.bs hR0'.out.b) rfl
    rw [Nat.add_sub_cancel_left] at this
    exact this
  intro o w2 ho hg hat
  have hT : Touch (fun _ => False) w1.drew w2 := ⟨(Below.refl _ _).grown hg (Nat.zero_le _) (by intro k hk; cases hk), later_grown hg (by intro k hk; cases hk)⟩
  refine hK _ _ hT.2 ?_
  clear hK K
  have hR2 := hR0'.out.later hT.2 (fun h => h) (fun _ _ h => h)
  have hR2' := hide hR2
  have c1 := hR2.c1
  have t1 := hR2.thaw 1
  have hTT := hide ((Touch.refl (fun _ => False) w).q hq0'.out |>.trans hT)
  have ho' := hide ho
  clear f0 f1 hT hg ho hat hR2
  try simp only [Act.put, List.setIfInBounds_toArray, List.set_cons_zero, List.set_cons_succ]
  repeat
    (first
      | (show wpPlan _ _ _ _ ((true, _) :: _) _ _
         refine plan_skip rfl (by rfl) ?_
         simp only [Act.put, List.setIfInBounds_toArray, List.set_cons_zero, List.set_cons_succ])
      | (show wpPlan _ _ _ _ ((false, _) :: _) _ _
         refine plan_skip_eff (later_refl _) rfl (by rfl) ?_
         simp only [Act.put, List.setIfInBounds_toArray, List.set_cons_zero, List.set_cons_succ])
      | (show wpPlan _ _ _ _ ((true, _) :: _) _ _
         refine plan_take (v := ?_) rfl (by rfl) (fun w' hw' => ?_) ?_
         rotate_left
         focus
           go_simp
           try with_reducible rfl
           done
         simp only [Act.put, List.setIfInBounds_toArray, List.set_cons_zero, List.set_cons_succ]))
  refine plan_nil ?_
  go_wp2_with fail
  go_ret
  have hO : OwnB w2 w.heap.size 5 o ((l.drop at_).take n) := by
    have := ho'.out
    rwa [Nat.zero_add, List.nil_append] at this
  refine ⟨o, rfl, own_laterO hO (later_setCell (F := fun k => k = g) w2 (p := ⟨g, 1, none⟩) _ rfl) (fun b hb e => by have := (hO.lt b hb).1; omega), ?_, Touch.setCell (F := fun k => k = g) (hTT.out.mono (fun _ _ h => h.elim)) (p := ⟨g, 1, none⟩) rfl _⟩
  have := hR2'.out.move (k := at_ + n) (by omega)
  rwa [Int.natCast_add] at this

set_option maxRecDepth 100000 in
theorem rdNum_ok (g : Nat) (v : Value) (l : List UInt8) (at_ n : Nat) (w : World) (h : Rd w g v l at_) (hn : at_ + n ≤ l.length) (hl : l.length ≤ 140737488355328) (h1 : 1 ≤ n) (h8 : n ≤ 8) :
    Calls Tryd.prog 40 #[.pointer (some ⟨g, 0, none⟩), .int .i64 n] w fun e w' => e = .returned (.int .u64 (Crc.num ((l.drop at_).take n))) ∧ Rd w' g v l (at_ + n) ∧ Touch (fun k => k = g) w w' := by
  have hlen : ((l.drop at_).take n).length = n := by simp; omega
  have hg : getV ((l.drop at_).take n) = (Crc.num ((l.drop at_).take n), 0) := if_pos (by omega)
  have hg' := hide hg
  have h' := hide h
  have i1 : ¬ (n : Int) < 1 := by omega
  have i8 : ¬ (8 : Int) < (n : Int) := by omega
  have hl' := hide hlen
  clear hg h hlen
  go_enter Tryd.func40, Tryd.ntmps40
  go_wp2_with fail
  refine (rdBytes_ok g v l at_ n _ h'.out hn hl).mono ?_
  rintro e w1 ⟨u, rfl, hu, hR, hT⟩
  have hu' := hide hu
  have hR' := hide hR
  have hT' := hide hT
  clear hu hR hT
  go_wp2_with fail
  refine (get_any u _ _ hu'.out.bs).mono ?_
  rintro e w2 ⟨rfl, rfl⟩
  rw [hg'.out]
  go_wp2_with fail
  go_ret
  exact ⟨rfl, hR'.out, hT'.out⟩

set_option maxRecDepth 100000 in
theorem rdEnd_none (g : Nat) (v : Value) (l : List UInt8) (w : World) (h : Rd w g v l l.length) (hl : l.length ≤ 140737488355328) :
    Calls Tryd.prog 38 #[.pointer (some ⟨g, 0, none⟩)] w fun e w' => e = .returned .nilIface ∧ Q w w' := by
  have h2 := h.c2
  have h' := hide h
  have e1 : l.length - l.length = 0 := by omega
  clear h
  go_enter Tryd.func38, Tryd.ntmps38
  go_wp2_with fail
  refine (rdLeft_any g v .nilIface l l.length 0 _ h'.out hl).mono ?_
  rintro e w1 ⟨rfl, hq⟩
  have hq' := hide hq
  rw [e1]
  clear hq e1
  go_wp2_with fail
  go_ret
  exact ⟨rfl, hq'.out⟩
set_option maxRecDepth 100000 in
theorem rdEnd_extra (g : Nat) (v : Value) (l : List UInt8) (at_ : Nat) (w : World) (h : Rd w g v l at_) (ha : at_ < l.length) (hl : l.length ≤ 140737488355328) :
    Calls Tryd.prog 38 #[.pointer (some ⟨g, 0, none⟩)] w fun e w' => ∃ gf, e = .returned (.iface 67 (.pointer (some ⟨gf, 0, none⟩))) ∧ Fault1 w' gf 7 at_ ∧ Below w.heap.size w w' := by
  have h2 := h.c2
  have h' := hide h
  have e1 : decide ((0 : Int) < ((l.length - at_ : Nat) : Int)) = true := decide_eq_true (by omega)
  have e2 : decide (0 < l.length - at_) = true := decide_eq_true (by omega)
  clear h
  go_enter Tryd.func38, Tryd.ntmps38
  go_wp2_with fail
  refine (rdLeft_any g v .nilIface l at_ 0 _ h'.out hl).mono ?_
  rintro e w1 ⟨rfl, hq⟩
  have hq' := hide hq
  have c1 := (h'.out.below (hq.below _)).c1
  have hs := hide hq.size
  clear hq
  go_wp2_with fail
  refine (newFault_any 7 at_ (by decide) _).mono ?_
  rintro e w2 ⟨gf, rfl, a1, a2, a3, a4, a5, hb⟩
  have hF := hide (show Fault1 w2 gf 7 at_ from ⟨a2, a3, a4, a5⟩)
  have hb' := hide (Below.trans (hq'.out.below w.heap.size) (by rw [← hs.out]; exact hb))
  clear a1 a2 a3 a4 a5 hb
  go_wp2_with fail
  go_ret
  exact ⟨gf, rfl, hF.out, hb'.out⟩

set_option maxRecDepth 100000 in
set_option maxHeartbeats 1000000 in
theorem rdText_ok (g : Nat) (v : Value) (l : List UInt8) (at_ n : Nat) (w : World) (h : Rd w g v l at_) (ha : at_ < l.length) (hc : l[at_].toNat = n) (hn : at_ + 1 + n ≤ l.length) (hl : l.length ≤ 140737488355328) :
    Calls Tryd.prog 39 #[.pointer (some ⟨g, 0, none⟩)] w fun e w' => e = .returned (.string ⟨((l.drop (at_ + 1)).take n).toArray⟩) ∧ Rd w' g v l (at_ + 1 + n) ∧ Touch (fun k => k = g) w w' := by
  have h2 := h.c2
  have hgl := h.lt
  have h' := hide h
  have hn8 : n < 256 := by rw [← hc]; exact UInt8.toNat_lt _
  have e1 : decide (((l.length - at_ : Nat) : Int) < 1) = false := decide_eq_false (by omega)
  have e2 : decide (l.length - at_ < 1) = false := decide_eq_false (by omega)
  have e2' : decide (l.length - at_ = 0) = false := decide_eq_false (by omega)
  have e3 : decide (((l.length - at_ : Nat) : Int) < 1 + (n : Int)) = false := decide_eq_false (by omega)
  have e4 : decide (l.length - at_ < 1 + n) = false := decide_eq_false (by omega)
  have e5 : decide (((l.length - at_ : Nat) : Int) < IntKind.i64.wrap (1 + IntKind.i64.wrap (n : Int))) = false := decide_eq_false (by rw [IntWalk.i64_in (n : Int) (by omega), IntWalk.i64_in _ (by omega)]; omega)
  obtain ⟨A, cp, hv, h5, h6, h7⟩ := (OwnB.bs h.b).open_
  obtain ⟨gb, off, rfl, hgb, hcell⟩ := h7 (by omega)
  have hcl := hcell at_ ha
  rw [hc] at hcl
  have hR : ∀ W, Later (fun _ => False) w W → Rd W g v l at_ ∧ W.cell? ⟨gb, off + at_, none⟩ = some (.int .u8 n) := fun W hW => ⟨h.later hW (fun h => h) (fun _ _ h => h), (Later.cell hW hgb (fun h => h)).1.trans hcl⟩
  have hR' := hide hR
  obtain ⟨u, hu1, hu2⟩ := run_subB (some ⟨gb, off, none⟩) l.length cp (at_ + 1) (at_ + 1 + n) (by omega) hn h5 h6
  have hu1' := hide hu1
  have hu2' := hide hu2
  have hsw := hide (show IntKind.i64.wrap ((at_ : Int) + 1) = ((at_ + 1 : Nat) : Int) by rw [IntWalk.i64_in _ (by omega)]; omega)
  have hsw2 := hide (show IntKind.i64.wrap (((at_ + 1 : Nat) : Int) + (n : Int)) = ((at_ + 1 + n : Nat) : Int) by rw [IntWalk.i64_in _ (by omega)]; omega)
  have ha' : (at_ : Int) < (l.length : Int) := by omega
  have hwn := hide (show IntKind.i64.wrap (n : Int) = (n : Int) by rw [IntWalk.i64_in _ (by omega)])
  have hv' := hide hv
  clear h h5 h6 h7 hu2 hv hu1 hR hcl hcell hc
  go_enter Tryd.func39, Tryd.ntmps39
  go_wp2_with fail
  have f0 : ∀ w', Later (fun _ => False) w.drew w' → w'.cell? ⟨g, 0, none⟩ = some (.slice (some ⟨gb, off, none⟩) l.length cp) := fun w' hl => by rw [← hv'.out]; exact (hR'.out w' (later_trans _ _ _ _ (later_drew w) hl)).1.c0
  have f1 : ∀ w', Later (fun _ => False) w.drew w' → w'.cell? ⟨g, 1, none⟩ = some (.int .i64 at_) := fun w' hl => (hR'.out w' (later_trans _ _ _ _ (later_drew w) hl)).1.c1
  have fb : ∀ w', Later (fun _ => False) w.drew w' → w'.cell? ⟨gb, off + at_, none⟩ = some (.int .u8 n) := fun w' hl => (hR'.out w' (later_trans _ _ _ _ (later_drew w) hl)).2
  refine region_plan [(true, 0), (false, 1), (true, 2), (true, 3), (true, 4), (true, 6), (true, 7), (true, 8), (true, 9), (true, 10), (true, 11), (true, 12), (true, 13), (true, 14), (true, 15), (true, 16), (true, 17), (false, 5), (true, 18), (true, 19)] (Later fun _ => False) (later_refl _) (later_trans _) (by kernel_rfl) (by kernel_rfl) (fun _ _ d _ _ h => by cases d <;> exact h) ?_
  repeat
    (first
      | (show wpPlan _ _ _ _ ((true, _) :: _) _ _
         refine plan_skip rfl (by rfl) ?_
         simp only [Act.put, List.setIfInBounds_toArray, List.set_cons_zero, List.set_cons_succ])
      | (show wpPlan _ _ _ _ ((false, _) :: _) _ _
         refine plan_skip_eff (later_refl _) rfl (by rfl) ?_
         simp only [Act.put, List.setIfInBounds_toArray, List.set_cons_zero, List.set_cons_succ])
      | (show wpPlan _ _ _ _ ((true, _) :: _) _ _
         refine plan_take (v := ?_) rfl (by rfl) (fun w' hw' => ?_) ?_
         rotate_left
         focus
           go_simp
           try with_reducible rfl
           done
         simp only [Act.put, List.setIfInBounds_toArray, List.set_cons_zero, List.set_cons_succ]))
  refine plan_eff rfl (by rfl) (fun K hK => ?_)
  go_wp2_with fail
  refine (rdLeft_any g v .nilIface l at_ 0 _ (hR'.out _ (later_drew w)).1 hl).mono ?_
  rintro e w1 ⟨rfl, hq⟩
  have hL1 : Later (fun _ => False) w.drew w1 := below_later (hq.below w.drew.heap.size) (Nat.le_refl _)
  refine hK _ _ hL1 ?_
  clear hK K
  have f0 : ∀ w', Later (fun _ => False) w1 w' → w'.cell? ⟨g, 0, none⟩ = some (.slice (some ⟨gb, off, none⟩) l.length cp) := fun w' hl => f0 w' (later_trans _ _ _ _ hL1 hl)
  have f1 : ∀ w', Later (fun _ => False) w1 w' → w'.cell? ⟨g, 1, none⟩ = some (.int .i64 at_) := fun w' hl => f1 w' (later_trans _ _ _ _ hL1 hl)
  have fb : ∀ w', Later (fun _ => False) w1 w' → w'.cell? ⟨gb, off + at_, none⟩ = some (.int .u8 n) := fun w' hl => fb w' (later_trans _ _ _ _ hL1 hl)
  try simp only [Act.put, List.setIfInBounds_toArray, List.set_cons_zero, List.set_cons_succ]
  repeat
    (first
      | (show wpPlan _ _ _ _ ((true, _) :: _) _ _
         refine plan_skip rfl (by rfl) ?_
         simp only [Act.put, List.setIfInBounds_toArray, List.set_cons_zero, List.set_cons_succ])
      | (show wpPlan _ _ _ _ ((false, _) :: _) _ _
         refine plan_skip_eff (later_refl _) rfl (by rfl) ?_
         simp only [Act.put, List.setIfInBounds_toArray, List.set_cons_zero, List.set_cons_succ])
      | (show wpPlan _ _ _ _ ((true, _) :: _) _ _
         refine plan_take (v := ?_) rfl (by rfl) (fun w' hw' => ?_) ?_
         rotate_left
         focus
           go_simp
           try with_reducible rfl
           done
         simp only [Act.put, List.setIfInBounds_toArray, List.set_cons_zero, List.set_cons_succ]))
  refine plan_eff rfl (by rfl) (fun K hK => ?_)
  go_wp2_with fail
  refine (rdLeft_any g v .nilIface l at_ 0 _ (hR'.out _ (later_trans _ _ _ _ (later_drew w) hL1)).1 hl).mono ?_
  rintro e w2 ⟨rfl, hq2⟩
  have hL2 : Later (fun _ => False) w1 w2 := below_later (hq2.below w1.heap.size) (Nat.le_refl _)
  refine hK _ _ hL2 ?_
  clear hK K
  try simp only [Act.put, List.setIfInBounds_toArray, List.set_cons_zero, List.set_cons_succ]
  repeat
    (first
      | (show wpPlan _ _ _ _ ((true, _) :: _) _ _
         refine plan_skip rfl (by rfl) ?_
         simp only [Act.put, List.setIfInBounds_toArray, List.set_cons_zero, List.set_cons_succ])
      | (show wpPlan _ _ _ _ ((false, _) :: _) _ _
         refine plan_skip_eff (later_refl _) rfl (by rfl) ?_
         simp only [Act.put, List.setIfInBounds_toArray, List.set_cons_zero, List.set_cons_succ])
      | (show wpPlan _ _ _ _ ((true, _) :: _) _ _
         refine plan_take (v := ?_) rfl (by rfl) (fun w' hw' => ?_) ?_
         rotate_left
         focus
           go_simp
           try with_reducible rfl
           done
         simp only [Act.put, List.setIfInBounds_toArray, List.set_cons_zero, List.set_cons_succ]))
  refine plan_nil ?_
  have hQ2 : Q w w2 := Q.trans (Q.trans (Q.drew (Q.refl w)) hq) hq2
  have hL0 : Later (fun _ => False) w w2.drew := later_trans _ _ _ _ (below_later (hQ2.below w.heap.size) (Nat.le_refl _)) (later_drew w2)
  have hQ2' := hide hQ2
  clear hL1 hL2 hq hq2
  clear f0 f1 fb
  rename_i f0 f1 fb
  clear f0 f1 fb
  have f0 : ∀ w', Later (fun _ => False) w2.drew w' → w'.cell? ⟨g, 0, none⟩ = some (.slice (some ⟨gb, off, none⟩) l.length cp) := fun w' hl => by rw [← hv'.out]; exact (hR'.out w' (later_trans _ _ _ _ hL0 hl)).1.c0
  have f1 : ∀ w', Later (fun _ => False) w2.drew w' → w'.cell? ⟨g, 1, none⟩ = some (.int .i64 at_) := fun w' hl => (hR'.out w' (later_trans _ _ _ _ hL0 hl)).1.c1
  have fb : ∀ w', Later (fun _ => False) w2.drew w' → w'.cell? ⟨gb, off + at_, none⟩ = some (.int .u8 n) := fun w' hl => (hR'.out w' (later_trans _ _ _ _ hL0 hl)).2
  have hL0' := hide hL0
  clear hL0
  go_wp2_with fail
  refine region_plan [(true, 0), (true, 1), (true, 2), (true, 3), (true, 4), (true, 5), (true, 6), (true, 7), (true, 8), (true, 9), (true, 10), (true, 11)] (Later fun _ => False) (later_refl _) (later_trans _) (by kernel_rfl) (by kernel_rfl) (fun _ _ d _ _ h => by cases d <;> exact h) ?_
  repeat
    (first
      | (show wpPlan _ _ _ _ ((true, _) :: _) _ _
         refine plan_skip rfl (by rfl) ?_
         simp only [Act.put, List.setIfInBounds_toArray, List.set_cons_zero, List.set_cons_succ])
      | (show wpPlan _ _ _ _ ((false, _) :: _) _ _
         refine plan_skip_eff (later_refl _) rfl (by rfl) ?_
         simp only [Act.put, List.setIfInBounds_toArray, List.set_cons_zero, List.set_cons_succ])
      | (show wpPlan _ _ _ _ ((true, _) :: _) _ _
         refine plan_take (v := ?_) rfl (by rfl) (fun w' hw' => ?_) ?_
         rotate_left
         focus
           go_simp
           try with_reducible rfl
           done
         simp only [Act.put, List.setIfInBounds_toArray, List.set_cons_zero, List.set_cons_succ]))
  refine plan_nil ?_
  clear f0 f1 fb
  have hL3 : Later (fun _ => False) w w2.drew.drew := later_trans _ _ _ _ hL0'.out (later_drew _)
  have hL3' := hide hL3
  clear hL3
  have f0 : ∀ w', Later (fun _ => False) w2.drew.drew w' → w'.cell? ⟨g, 0, none⟩ = some (.slice (some ⟨gb, off, none⟩) l.length cp) := fun w' hl => by rw [← hv'.out]; exact (hR'.out w' (later_trans _ _ _ _ hL3'.out hl)).1.c0
  have f1 : ∀ w', Later (fun _ => False) w2.drew.drew w' → w'.cell? ⟨g, 1, none⟩ = some (.int .i64 at_) := fun w' hl => (hR'.out w' (later_trans _ _ _ _ hL3'.out hl)).1.c1
  have hcv : ∀ w', Later (fun _ => False) w2.drew.drew w' → (convert 23 9 u).run Tryd.prog w' = .ok (.string ⟨((l.drop (at_ + 1)).take n).toArray⟩) w' := fun w' hl => by
    have hb := hu2'.out w' l (by rw [← hv'.out]; exact OwnB.bs (hR'.out w' (later_trans _ _ _ _ hL3'.out hl)).1.b) rfl
    rw [Nat.add_sub_cancel_left] at hb
    exact run_str (P := Tryd.prog) 23 5 Tryd.underlying23 Tryd.underlying5 9 Tryd.underlying9 u _ hb
  go_wp2_with fail
  refine region_plan [(true, 0), (true, 1), (true, 2), (true, 3), (true, 4), (true, 5), (true, 6), (true, 7), (true, 8), (true, 9), (true, 10), (true, 11), (true, 12), (true, 13), (true, 14), (true, 15), (true, 16), (true, 17), (true, 18)] (Later fun _ => False) (later_refl _) (later_trans _) (by kernel_rfl) (by kernel_rfl) (fun _ _ d _ _ h => by cases d <;> exact h) ?_
  repeat
    (first
      | (show wpPlan _ _ _ _ ((true, _) :: _) _ _
         refine plan_skip rfl (by rfl) ?_
         simp only [Act.put, List.setIfInBounds_toArray, List.set_cons_zero, List.set_cons_succ])
      | (show wpPlan _ _ _ _ ((false, _) :: _) _ _
         refine plan_skip_eff (later_refl _) rfl (by rfl) ?_
         simp only [Act.put, List.setIfInBounds_toArray, List.set_cons_zero, List.set_cons_succ])
      | (show wpPlan _ _ _ _ ((true, _) :: _) _ _
         refine plan_take (v := ?_) rfl (by rfl) (fun w' hw' => ?_) ?_
         rotate_left
         focus
           go_simp
           try with_reducible rfl
           done
         simp only [Act.put, List.setIfInBounds_toArray, List.set_cons_zero, List.set_cons_succ]))
  refine plan_take (v := u) rfl (by rfl) (fun w' hw' => ?_) ?_
  · refine run_slice_op (.tmp 46) (.tmp 51) (.tmp 58) rfl ?_
    show (Instr.sliceAt 23 (.slice (some ⟨gb, off, none⟩) l.length cp) (some (.int .i64 (IntKind.i64.wrap ((at_ : Int) + 1)))) (some (.int .i64 (IntKind.i64.wrap (IntKind.i64.wrap ((at_ : Int) + 1) + IntKind.i64.wrap (n : Int))))) none).run _ _ = _
    rw [hwn.out, hsw.out, hsw2.out]
    exact hu1'.out w'
  try simp only [Act.put, List.setIfInBounds_toArray, List.set_cons_zero, List.set_cons_succ]
  repeat
    (first
      | (show wpPlan _ _ _ _ ((true, _) :: _) _ _
         refine plan_skip rfl (by rfl) ?_
         simp only [Act.put, List.setIfInBounds_toArray, List.set_cons_zero, List.set_cons_succ])
      | (show wpPlan _ _ _ _ ((false, _) :: _) _ _
         refine plan_skip_eff (later_refl _) rfl (by rfl) ?_
         simp only [Act.put, List.setIfInBounds_toArray, List.set_cons_zero, List.set_cons_succ])
      | (show wpPlan _ _ _ _ ((true, _) :: _) _ _
         refine plan_take (v := ?_) rfl (by rfl) (fun w' hw' => ?_) ?_
         rotate_left
         focus
           go_simp
           try with_reducible rfl
           done
         simp only [Act.put, List.setIfInBounds_toArray, List.set_cons_zero, List.set_cons_succ]))
  refine plan_nil ?_
  have c1 := (hR'.out _ hL3'.out).1.c1
  have t1 := (hR'.out _ hL3'.out).1.thaw 1
  clear f0 f1 hcv
  go_wp2_with fail
  go_ret
  have hm := (hR'.out _ hL3'.out).1.move (k := at_ + 1 + n) (by omega)
  rw [show ((at_ + 1 + n : Nat) : Int) = (at_ : Int) + (1 + (n : Int)) by omega] at hm
  exact ⟨rfl, hm, (Touch.setCell (F := fun k => k = g) ((Touch.refl (fun k => k = g) w).q hQ2'.out) (p := ⟨g, 1, none⟩) rfl (.int .i64 ((at_ : Int) + (1 + (n : Int))))).drew.drew⟩
end Go.Proofs.YtihimcgppifcbaaDoor
