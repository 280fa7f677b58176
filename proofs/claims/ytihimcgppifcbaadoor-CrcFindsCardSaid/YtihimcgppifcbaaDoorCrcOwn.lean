/- The law CrcOwn walked. -/
import Derived.Test.YtihimcgppifcbaaDoorCrcAwake
namespace Go.Proofs.YtihimcgppifcbaaDoor
open Go.RowKit

theorem open_seal (l : List UInt8) : openV (sealV l) = (l, 0) := by
  have hlen := sealV_length l
  have hx : (sealV l).length - 4 = l.length := by omega
  have h4 : ¬ (sealV l).length < 4 := by omega
  have ht : (sealV l).take ((sealV l).length - 4) = l := by rw [hx]; unfold sealV; rw [List.take_left]
  have hd := (sealed_iff (sealV l) h4).1 (by rw [ht])
  unfold openV
  rw [if_neg h4, if_neg (by simpa using hd), ht]

/-- a byte row of the call's own: a store of a byte -/
theorem own_store {w : World} {base g n cap : Nat} {e : TypeId} {l : List UInt8} (h : w.ownsRow base e 1 (.slice (some ⟨g, 0, none⟩) n cap) n (bytesV l)) (k x : Nat) (hx : x < 256) :
    (w.setCell ⟨g, k, none⟩ (.int .u8 (x : Int))).ownsRow base e 1 (.slice (some ⟨g, 0, none⟩) n cap) n (bytesV (l.set k (UInt8.ofNat x))) := by
  have := (h.stored k (.int .u8 (x : Int))).1
  have e : (bytesV l).set k (.int .u8 (x : Int)) = bytesV (l.set k (UInt8.ofNat x)) := by
    unfold bytesV
    rw [List.map_set, UInt8.toNat_ofNat', Nat.mod_eq_of_lt hx]
  rwa [e] at this
theorem own_cell {w : World} {base g n cap : Nat} {e : TypeId} {l : List UInt8} (h : w.ownsRow base e 1 (.slice (some ⟨g, 0, none⟩) n cap) n (bytesV l)) (hl : l.length = n) (k : Nat) (hk : k < n) :
    w.cell? ⟨g, k, none⟩ = some (.int .u8 ((l[k]'(by omega)).toNat)) := (h.cellAt k (by omega)).trans (bytesV_get l k (by omega))

set_option maxRecDepth 100000 in
set_option maxHeartbeats 2000000 in
theorem crcOwn_any (v : Value) (l : List UInt8) (w : World) (h : Bs w v l) (ht : Table w) (hl : l.length + 4 ≤ 140737488355328) :
    Calls Tryd.prog 8 #[v] w fun e w' => e = .returned (.bool true) ∧ Below w.heap.size w w' := by
  have hstr := hide (fun W v' l' (hW : Bs W v' l') => run_str (P := Tryd.prog) 23 5 Tryd.underlying23 Tryd.underlying5 9 Tryd.underlying9 v' l' hW)
  have hos := open_seal l
  have hsl := sealV_length l
  have hop := fun W x (hW : Bs W x (sealV l)) hT => open_any x (sealV l) W hW hT (by omega)
  rw [hos] at hop
  have hop' := hide hop
  have h' := hide h
  have ht' := hide ht
  clear hos hop h ht
  go_enter Tryd.func8, Tryd.ntmps8
  go_wp2_with fail
  refine (seal_any v l w h'.out ht'.out hl).mono ?_
  rintro e w1 ⟨s, rfl, hs, hb1⟩
  have hs' := hide hs
  have z1 := hb1.size
  have hb1' := hide hb1
  have T1 := hide (ht'.out.below hb1)
  clear hs hb1
  go_wp2_with fail
  refine (hop'.out w1 s hs'.out.bs T1.out).mono ?_
  rintro e w2 ⟨x, rfl, hx, hb2⟩
  have z2 := hb2.size
  have hb2' := hide hb2
  have hx' := hide hx
  obtain ⟨X, cx, rfl, _, _, _⟩ := hx.bs.open_
  clear hx hb2
  go_wp2_with fail
  go_loopw [6] (fun i wr => ∃ k : Nat, ∃ m : List UInt8, k ≤ l.length ∧ m.length = l.length ∧ i = .int .i64 k ∧ wr.ownsRow w1.heap.size 5 1 (.slice X l.length cx) l.length (bytesV m) ∧ Below w1.heap.size w1 wr) (fun i _ => l.length - (intOf i).toNat)
  case atStart => exact ⟨0, l, by omega, rfl, rfl, hx'.out, hb2'.out⟩
  case round =>
    obtain ⟨k, m, hk, hm, rfl, hown, hbr⟩ := hrel
    by_cases hlt : k < l.length
    · obtain ⟨g, rfl⟩ : ∃ g, X = some ⟨g, 0, none⟩ := by
        rcases hown.2 with ⟨hh, h0⟩ | ⟨g, _, _, hh, _⟩
        · omega
        · injection hh with hh _ _; exact ⟨g, hh⟩
      have hgb := (hown.lt g rfl).1
      have hc := own_cell hown hm k hlt
      have hf := hown.frozenAt k
      have hst := fun y hy => own_store hown k y hy
      have hst' := hide hst
      have hml := UInt8.toNat_lt (m[k]'(by omega))
      have hkl : (k : Int) < (l.length : Int) := by omega
      generalize (m[k]'(by omega)).toNat = p at *
      obtain ⟨q, hq, f1⟩ : ∃ q : Nat, q < 256 ∧ bits .xor .u8 (p : Int) 255 = q := ⟨p ^^^ 255, Nat.xor_lt_two_pow (n := 8) hml (by omega), u8_xor_nat p 255 hml (by omega)⟩
      clear hst hown hx'
      go_wp2_with fail
      go_roundw
      case rel => exact ⟨k + 1, m.set k (UInt8.ofNat q), by omega, by rw [List.length_set]; exact hm, by go_num, hst'.out q hq, hbr.setCell hgb _⟩
      case measure => simp [intOf]; omega
    · clear hx' hb2'
      have hs1 := hide (hs'.out.below hbr)
      have T2 := hide (T1.out.below hbr)
      have hB2 := hide (hb1'.out.trans (hbr.mono z1))
      have z3 := hbr.size
      clear hown hbr hs' T1
      go_wp2_with fail
      refine (hop'.out wr s hs1.out.bs T2.out).mono ?_
      rintro e w3 ⟨y, rfl, hy, hb3⟩
      have z4 := hb3.size
      have hy' := hide hy
      have hs2 := hide (hs1.out.below hb3)
      have T3 := hide (T2.out.below hb3)
      have hB3 := hide (hB2.out.trans (hb3.mono (by omega)))
      clear hy hb3 hs1 T2 hB2
      go_wp2_with fail
      refine (seal_any v l w3 (h'.out.below hB3.out) T3.out hl).mono ?_
      rintro e w4 ⟨t, rfl, ho4, hb4⟩
      have z5 := hb4.size
      have ho4' := hide ho4
      have hb4' := hide hb4
      obtain ⟨Tt, ct, rfl, _, _, _⟩ := ho4.bs.open_
      rw [hsl]
      unfold OwnB at ho4'
      rw [hsl] at ho4'
      clear ho4 hb4
      go_wp2_with fail
      go_loopw [10] (fun i wr => ∃ k : Nat, ∃ m : List UInt8, k ≤ l.length + 4 ∧ m.length = l.length + 4 ∧ i = .int .i64 k ∧ wr.ownsRow w3.heap.size 5 1 (.slice Tt (l.length + 4) ct) (l.length + 4) (bytesV m) ∧ Below w3.heap.size w3 wr) (fun i _ => l.length + 4 - (intOf i).toNat)
      case atStart => exact ⟨0, sealV l, by omega, hsl, rfl, ho4'.out, hb4'.out⟩
      case round =>
        obtain ⟨k2, m2, hk2, hm2, rfl, hown2, hbr2⟩ := hrel
        by_cases hlt2 : k2 < l.length + 4
        · obtain ⟨g, rfl⟩ : ∃ g, Tt = some ⟨g, 0, none⟩ := by
            rcases hown2.2 with ⟨hh, h0⟩ | ⟨g, _, _, hh, _⟩
            · omega
            · injection hh with hh _ _; exact ⟨g, hh⟩
          have hgb := (hown2.lt g rfl).1
          have hc := own_cell hown2 hm2 k2 hlt2
          have hf := hown2.frozenAt k2
          have hst' := hide (own_store hown2 k2 0 (by omega))
          clear hown2 ho4' hsl
          go_wp2_with fail
          go_roundw
          case rel => exact ⟨k2 + 1, m2.set k2 (UInt8.ofNat 0), by omega, by rw [List.length_set]; exact hm2, by go_num, hst'.out, hbr2.setCell hgb _⟩
          case measure => simp [intOf]; omega
        · have hs3 := hide ((hs2.out.below (hbr2.mono (Nat.le_refl _))).bs)
          have hy3 := hide ((hy'.out.below (hbr2.mono (Nat.le_refl _))).bs)
          have T4 := hide (T3.out.below hbr2)
          have hB4 := hide (hB3.out.trans (hbr2.mono (by omega)))
          have z6 := hbr2.size
          clear hown2 ho4' hb4' hsl hs2 hy' T3 hB3 hbr2
          go_wp2_with fail
          refine region_plan [(false, 0), (true, 1), (true, 2), (true, 3), (true, 4), (true, 5), (true, 6), (true, 7), (true, 8), (true, 9), (true, 10), (true, 11), (true, 12), (true, 13), (true, 16), (true, 17), (false, 14), (true, 15), (true, 18), (true, 19), (true, 20)] (Later fun _ => False) (later_refl _) (later_trans _) (by kernel_rfl) (by kernel_rfl) (fun _ _ d _ _ h => by cases d <;> exact h) ?_
          have hq1 : Q wr wr.drew := ⟨1, rfl⟩
          refine plan_eff rfl (by rfl) (fun K hK => ?_)
          go_wp2_with fail
          refine (awake03 wr.drew (T4.out.below (hq1.below _))).mono ?_
          rintro e w5 ⟨rfl, hb5⟩
          refine hK _ _ (below_later hb5 (Nat.le_refl _)) ?_
          clear hK K
          have T5 := hide ((T4.out.below (hq1.below _)).below hb5)
          have hy5 := hide ((hy3.out.q hq1).below hb5)
          have hs5 := hide ((hs3.out.q hq1).below hb5)
          have hB5 := hide ((hB4.out.trans (hq1.below _)).trans (hb5.mono (by simp; omega)))
          have z7 := hB5.out.size
          clear hs3 hy3 T4 hB4 hb5 hq1
          have hcy : ∀ w', Later (fun _ => False) w5 w' → (convert 23 9 y).run Tryd.prog w' = .ok (.string ⟨l.toArray⟩) w' := fun w' hl => hstr.out w' y l (hy5.out.later0 hl)
          have hcv : ∀ w', Later (fun _ => False) w5 w' → (convert 23 9 v).run Tryd.prog w' = .ok (.string ⟨l.toArray⟩) w' := fun w' hl => hstr.out w' v l ((h'.out.below hB5.out).later0 hl)
          have hcs : ∀ w', Later (fun _ => False) w5 w' → (convert 23 9 s).run Tryd.prog w' = .ok (.string ⟨(sealV l).toArray⟩) w' := fun w' hl => hstr.out w' s _ (hs5.out.later0 hl)
          try simp only [Act.put, List.setIfInBounds_toArray, List.set_cons_zero, List.set_cons_succ]
          repeat
            (first
              | (show wpPlan _ _ _ _ ((true, _) :: _) _ _
                 refine plan_skip rfl (by rfl) ?_
                 simp only [Act.put, List.setIfInBounds_toArray, List.set_cons_zero, List.set_cons_succ])
              | (show wpPlan _ _ _ _ ((false, _) :: _) _ _
                 refine plan_skip_eff (later_refl _) rfl (by rfl) ?_
                 simp only [Act.put, List.setIfInBounds_toArray, List.set_cons_zero, List.set_cons_succ])
              | (show wpPlan _ _ _ _ ((true, _) :: _) _ _
                 refine plan_take (v := ?_) rfl (by rfl) (fun w' hw' => ?_) ?_
                 rotate_left
                 focus
                   go_simp
                   try with_reducible rfl
                   done
                 simp only [Act.put, List.setIfInBounds_toArray, List.set_cons_zero, List.set_cons_succ]))
          clear hcy hcv hcs
          refine plan_eff rfl (by rfl) (fun K hK => ?_)
          go_wp2_with fail
          refine (seal_any v l w5 (h'.out.below hB5.out) T5.out hl).mono ?_
          rintro e w6 ⟨t6, rfl, ho6, hb6⟩
          refine hK _ _ (below_later hb6 (Nat.le_refl _)) ?_
          clear hK K
          have hct : ∀ w', Later (fun _ => False) w6 w' → (convert 23 9 t6).run Tryd.prog w' = .ok (.string ⟨(sealV l).toArray⟩) w' := fun w' hl => hstr.out w' t6 _ (ho6.bs.later0 hl)
          try simp only [Act.put, List.setIfInBounds_toArray, List.set_cons_zero, List.set_cons_succ]
          repeat
            (first
              | (show wpPlan _ _ _ _ ((true, _) :: _) _ _
                 refine plan_skip rfl (by rfl) ?_
                 simp only [Act.put, List.setIfInBounds_toArray, List.set_cons_zero, List.set_cons_succ])
              | (show wpPlan _ _ _ _ ((false, _) :: _) _ _
                 refine plan_skip_eff (later_refl _) rfl (by rfl) ?_
                 simp only [Act.put, List.setIfInBounds_toArray, List.set_cons_zero, List.set_cons_succ])
              | (show wpPlan _ _ _ _ ((true, _) :: _) _ _
                 refine plan_take (v := ?_) rfl (by rfl) (fun w' hw' => ?_) ?_
                 rotate_left
                 focus
                   go_simp
                   try with_reducible rfl
                   done
                 simp only [Act.put, List.setIfInBounds_toArray, List.set_cons_zero, List.set_cons_succ]))
          clear hct
          refine plan_nil ?_
          go_wp2_with fail
          go_ret
          exact ⟨rfl, hB5.out.trans (hb6.mono z7)⟩
end Go.Proofs.YtihimcgppifcbaaDoor
