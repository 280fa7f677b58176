/- The law CrcLies walked. -/
import Derived.Test.YtihimcgppifcbaaDoorCrcAwake
namespace Go.Proofs.YtihimcgppifcbaaDoor
open Go.RowKit

/-- three lists laid over one another, as far as the shortest goes -/
def over3 (a b c : List UInt8) : List UInt8 := Crc.over (Crc.over a b) c
theorem over_length (a b : List UInt8) : (Crc.over a b).length = min a.length b.length := by simp [Crc.over]
theorem over3_length (a b c : List UInt8) : (over3 a b c).length = min (min a.length b.length) c.length := by simp [over3, over_length]
theorem over_get (a b : List UInt8) (i : Nat) (ha : i < a.length) (hb : i < b.length) : (Crc.over a b)[i]'(by rw [over_length]; omega) = a[i] ^^^ b[i] := by simp [Crc.over]
theorem over3_get (a b c : List UInt8) (i : Nat) (ha : i < a.length) (hb : i < b.length) (hc : i < c.length) : (over3 a b c)[i]'(by rw [over3_length]; omega) = a[i] ^^^ b[i] ^^^ c[i] := by
  unfold over3
  rw [over_get _ _ i (by rw [over_length]; omega) hc, over_get _ _ i ha hb]

theorem of_over3 (a b c : List UInt8) (h1 : a.length = b.length) (h2 : b.length = c.length) : Crc.of_ (over3 a b c) = Crc.of_ a ^^^ Crc.of_ b ^^^ Crc.of_ c := by
  unfold Crc.of_ Crc.on over3
  rw [Nat.xor_zero]
  have e1 := Crc.fold_over (Crc.over a b) c (Crc.M ^^^ Crc.M) Crc.M (by rw [over_length]; omega)
  have e2 := Crc.fold_over a b Crc.M Crc.M h1
  rw [e2] at e1
  rw [Nat.xor_self, Nat.zero_xor] at e1
  rw [e1]
  generalize Crc.fold Crc.M a = x
  generalize Crc.fold Crc.M b = y
  generalize Crc.fold Crc.M c = z
  have := Crc.x4 Crc.M x Crc.M y
  rw [this, Nat.xor_self, Nat.zero_xor, ← Nat.xor_assoc (x ^^^ y), Nat.xor_comm (x ^^^ y) Crc.M]
  rw [← Nat.xor_assoc, ← Nat.xor_assoc]

/-- the row behind k rounds -/
def overRow (l : List UInt8) (n k : Nat) : List Value := bytesV (l.take k) ++ List.replicate (n - k) (.int .u8 0)
theorem overRow_length (l : List UInt8) (k : Nat) (h : k ≤ l.length) : (overRow l l.length k).length = l.length := by
  unfold overRow
  rw [List.length_append, bytesV_length, List.length_take, List.length_replicate]
  omega
theorem overRow_set (l : List UInt8) (k : Nat) (h : k < l.length) : (overRow l l.length k).set k (.int .u8 (l[k].toNat)) = overRow l l.length (k + 1) := by
  unfold overRow
  rw [List.set_append_right _ _ (by rw [bytesV_length, List.length_take]; omega), bytesV_length, List.length_take, Nat.min_eq_left (by omega), Nat.sub_self,
    List.take_succ_eq_append_getElem h, bytesV_append, List.append_assoc, show l.length - k = (l.length - (k + 1)) + 1 by omega, List.replicate_succ]
  rfl

theorem cell_later {w w' : World} {F : Nat → Prop} {p : Addr} {v : Value} (h : w.cell? p = some v) (hl : Later F w w') (hF : ¬ F p.block) : w'.cell? p = some v :=
  (World.cell?_of_block (w := w) (hl.2 p.block (World.block_lt_of_cell? w p h) hF)).trans h

set_option maxRecDepth 100000 in
set_option maxHeartbeats 4000000 in
theorem over_any (va vb vc : Value) (a b c : List UInt8) (w : World) (ha : Bs w va a) (hb : Bs w vb b) (hc : Bs w vc c) (hl : a.length ≤ 140737488355328) :
    Calls Tryd.prog 24 #[va, vb, vc] w fun e w' => ∃ v, e = .returned v ∧ OwnB w' w.heap.size 5 v (over3 a b c) ∧ Below w.heap.size w w' := by
  obtain ⟨A, ca, rfl, a1, a2, a3⟩ := ha.open_
  obtain ⟨B, cb, rfl, b1, b2, b3⟩ := hb.open_
  obtain ⟨C, cc, rfl, c1, c2, c3⟩ := hc.open_
  obtain ⟨x, hx, hn, hx3⟩ : ∃ x, over3 a b c = x ∧ x.length = min (min a.length b.length) c.length ∧ ∀ i (h1 : i < a.length) (h2 : i < b.length) (h3 : i < c.length) (h : i < x.length), x[i] = a[i] ^^^ b[i] ^^^ c[i] :=
    ⟨_, rfl, over3_length a b c, fun i h1 h2 h3 _ => over3_get a b c i h1 h2 h3⟩
  rw [hx]
  clear ha hb hc hx
  have hcase : (b.length < a.length ∧ c.length < b.length ∧ c.length = x.length) ∨ (b.length < a.length ∧ ¬ c.length < b.length ∧ b.length = x.length) ∨ (¬ b.length < a.length ∧ c.length < a.length ∧ c.length = x.length) ∨ (¬ b.length < a.length ∧ ¬ c.length < a.length ∧ a.length = x.length) := by omega
  have hna : x.length ≤ a.length := by omega
  have hnb : x.length ≤ b.length := by omega
  have hnc : x.length ≤ c.length := by omega
  clear hn
  rcases hcase with ⟨q1, q2, q3⟩ | ⟨q1, q2, q3⟩ | ⟨q1, q2, q3⟩ | ⟨q1, q2, q3⟩
  all_goals
    go_enter Tryd.func24, Tryd.ntmps24
    go_wp2_with ((at_make; refine list_make Tryd.underlying23 (z := .int .u8 0) (bytes := 1) (by kernel_rfl) rfl rfl _ _ rfl w.heap.size .i64 .i64 x.length x.length x.length rfl rfl rfl rfl (by omega) (by simp only [maxLen]; omega) (Nat.le_refl _) ?_))
    intro w1 hown hg hlt
    have hb : Below w.heap.size w w1 := (Below.refl _ _).grown hg (Nat.le_refl _) (by simp)
    have hown' := hide hown
    clear hown hg
    go_wp2_with fail
    go_loopw [9] (fun i wr => ∃ k : Nat, k ≤ x.length ∧ i = .int .i64 k ∧ wr.ownsRow w.heap.size 5 1 (.slice (some ⟨w.heap.size, 0, none⟩) x.length x.length) x.length (overRow x x.length k) ∧ Below w.heap.size w wr) (fun i _ => x.length - (intOf i).toNat)
    case atStart => exact ⟨0, by omega, rfl, hown'.out, hb⟩
    case round =>
      obtain ⟨k, hk, rfl, hown, hbr⟩ := hrel
      by_cases hlt2 : k < x.length
      · obtain ⟨u, hcu⟩ : ∃ u, wr.cell? ⟨w.heap.size, k, none⟩ = some u := ⟨_, (hown.cellAt k (by omega)).trans (List.getElem?_eq_getElem (by rw [overRow_length _ _ hk]; exact hlt2))⟩
        have hcf := hown.frozenAt k
        have hst := (hown.stored k (.int .u8 (x[k].toNat))).1
        rw [overRow_set x k hlt2] at hst
        have hst' := hide hst
        obtain ⟨bA, oA, rfl, lA, cA⟩ := a3 (by omega)
        obtain ⟨bB, oB, rfl, lB, cB⟩ := b3 (by omega)
        obtain ⟨bC, oC, rfl, lC, cC⟩ := c3 (by omega)
        have hxk := hx3 k (by omega) (by omega) (by omega) hlt2
        have dA := cA k (by omega)
        have dB := cB k (by omega)
        have dC := cC k (by omega)
        rw [← hbr.cell (p := ⟨bA, oA + k, none⟩) lA] at dA
        rw [← hbr.cell (p := ⟨bB, oB + k, none⟩) lB] at dB
        rw [← hbr.cell (p := ⟨bC, oC + k, none⟩) lC] at dC
        have fA : ∀ w', Later (fun j => j = w.heap.size) wr.drew w' → w'.cell? ⟨bA, oA + k, none⟩ = _ := fun w' hw => cell_later (w := wr.drew) dA hw (by dsimp only; omega)
        have fB : ∀ w', Later (fun j => j = w.heap.size) wr.drew w' → w'.cell? ⟨bB, oB + k, none⟩ = _ := fun w' hw => cell_later (w := wr.drew) dB hw (by dsimp only; omega)
        have fC : ∀ w', Later (fun j => j = w.heap.size) wr.drew w' → w'.cell? ⟨bC, oC + k, none⟩ = _ := fun w' hw => cell_later (w := wr.drew) dC hw (by dsimp only; omega)
        have lAk := UInt8.toNat_lt (a[k]'(by omega))
        have lBk := UInt8.toNat_lt (b[k]'(by omega))
        have lCk := UInt8.toNat_lt (c[k]'(by omega))
        have hxn : x[k].toNat = (a[k]'(by omega)).toNat ^^^ (b[k]'(by omega)).toNat ^^^ (c[k]'(by omega)).toNat := by rw [hxk, UInt8.toNat_xor, UInt8.toNat_xor]
        generalize (a[k]'(by omega)).toNat = p1 at *
        generalize (b[k]'(by omega)).toNat = p2 at *
        generalize (c[k]'(by omega)).toNat = p3 at *
        have g1 : bits .xor .u8 (p1 : Int) (p2 : Int) = ((p1 ^^^ p2 : Nat) : Int) := u8_xor_nat p1 p2 lAk lBk
        have g2 : bits .xor .u8 ((p1 ^^^ p2 : Nat) : Int) (p3 : Int) = ((p1 ^^^ p2 ^^^ p3 : Nat) : Int) := u8_xor_nat (p1 ^^^ p2) p3 (Nat.xor_lt_two_pow (n := 8) lAk lBk) lCk
        rw [← hxn] at g2
        have hki : (k : Int) < (a.length : Int) := by omega
        have hkb : (k : Int) < (b.length : Int) := by omega
        have hkc : (k : Int) < (c.length : Int) := by omega
        have hkx : (k : Int) < (x.length : Int) := by omega
        generalize x[k].toNat = px at *
        clear hown hst dA dB dC cA cB cC a3 b3 c3 hxk hxn hown' hx3
        go_wp2_with fail
        refine region_plan [(true, 0), (true, 1), (true, 2), (true, 3), (true, 4), (true, 5), (true, 6), (true, 7), (true, 8), (true, 9), (true, 10), (true, 11), (true, 12), (true, 13), (true, 14), (true, 15), (true, 16), (false, 17)] (Later (fun j => j = w.heap.size)) (later_refl _) (later_trans _) (by kernel_rfl) (by kernel_rfl) (fun _ _ d _ _ h => by cases d <;> exact h) ?_
        repeat
          (first
            | (show wpPlan _ _ _ _ ((true, _) :: _) _ _
               refine plan_skip rfl (by rfl) ?_
               simp only [Act.put, List.setIfInBounds_toArray, List.set_cons_zero, List.set_cons_succ])
            | (show wpPlan _ _ _ _ ((false, _) :: _) _ _
               refine plan_skip_eff (later_refl _) rfl (by rfl) ?_
               simp only [Act.put, List.setIfInBounds_toArray, List.set_cons_zero, List.set_cons_succ])
            | (show wpPlan _ _ _ _ ((true, _) :: _) _ _
               refine plan_take (v := ?_) rfl (by rfl) (fun w' hw' => ?_) ?_
               rotate_left
               focus
                 go_simp
                 try with_reducible rfl
                 done
               simp only [Act.put, List.setIfInBounds_toArray, List.set_cons_zero, List.set_cons_succ]))
        refine plan_eff rfl (by rfl) (fun K hK => ?_)
        go_wp2_with fail
        refine hK _ _ (later_setCell wr.drew (p := ⟨w.heap.size, k, none⟩) _ rfl) ?_
        clear hK K
        refine plan_nil ?_
        go_wp2_with fail
        go_roundw
        case rel => exact ⟨k + 1, by omega, by go_num, hst'.out, (hbr.setCell (Nat.le_refl _) _).drew⟩
        case measure => simp [intOf]; omega
      · obtain rfl : k = x.length := by omega
        go_wp2_with fail
        go_ret
        refine ⟨_, rfl, ?_, hbr⟩
        have := hown
        unfold overRow at this
        rw [Nat.sub_self, List.replicate_zero, List.append_nil, List.take_length] at this
        exact this

set_option maxRecDepth 100000 in
set_option maxHeartbeats 2000000 in
theorem crcLies_any (va vb vc : Value) (a b c : List UInt8) (w : World) (ha : Bs w va a) (hb : Bs w vb b) (hc : Bs w vc c) (ht : Table w) (hl : a.length ≤ 140737488355328) :
    Calls Tryd.prog 6 #[va, vb, vc] w fun e w' => e = .returned (.bool true) ∧ Below w.heap.size w w' := by
  have hov := hide (over_any va vb vc a b c w ha hb hc hl)
  have hn := over3_length a b c
  obtain ⟨n, hn'⟩ : ∃ n, (over3 a b c).length = n := ⟨_, rfl⟩
  rw [hn'] at hn
  have hna : n ≤ a.length := by omega
  have hnb : n ≤ b.length := by omega
  have hnc : n ≤ c.length := by omega
  have hsum : Crc.of_ (over3 a b c) = Crc.of_ (a.take n) ^^^ Crc.of_ (b.take n) ^^^ Crc.of_ (c.take n) := by
    have e : over3 a b c = over3 (a.take n) (b.take n) (c.take n) := by
      apply List.ext_getElem
      · rw [over3_length, over3_length, List.length_take, List.length_take, List.length_take]; omega
      · intro i h1 h2
        rw [hn'] at h1
        rw [over3_get a b c i (by omega) (by omega) (by omega), over3_get _ _ _ i (by rw [List.length_take]; omega) (by rw [List.length_take]; omega) (by rw [List.length_take]; omega), List.getElem_take, List.getElem_take, List.getElem_take]
    rw [e]
    exact of_over3 _ _ _ (by rw [List.length_take, List.length_take]; omega) (by rw [List.length_take, List.length_take]; omega)
  have lt1 : Crc.of_ (a.take n) < 4294967296 := Crc.on_lt 0 _ (by omega)
  have lt2 : Crc.of_ (b.take n) < 4294967296 := Crc.on_lt 0 _ (by omega)
  have lt3 : Crc.of_ (c.take n) < 4294967296 := Crc.on_lt 0 _ (by omega)
  have g1 := u32_xor_nat _ _ lt1 lt2
  have g2 := u32_xor_nat _ _ (Crc.lt32 _ _ lt1 lt2) lt3
  rw [← hsum] at g2
  obtain ⟨A, ca, rfl, a1, a2, _⟩ := ha.open_
  obtain ⟨B, cb, rfl, b1, b2, _⟩ := hb.open_
  obtain ⟨C, cc, rfl, c1, c2, _⟩ := hc.open_
  have ta := hide (ha.take hna)
  have tb := hide (hb.take hnb)
  have tc := hide (hc.take hnc)
  have oa := hide (fun W hW hT => of_any (.slice A n ca) (a.take n) W hW hT)
  have ob := hide (fun W hW hT => of_any (.slice B n cb) (b.take n) W hW hT)
  have oc := hide (fun W hW hT => of_any (.slice C n cc) (c.take n) W hW hT)
  have ht' := hide ht
  clear ha hb hc hn lt1 lt2 lt3 hsum ht
  generalize Crc.of_ (a.take n) = xa at *
  generalize Crc.of_ (b.take n) = xb at *
  generalize Crc.of_ (c.take n) = xc at *
  have i1 : (0 : Int) ≤ (n : Int) := by omega
  have i2 : (n : Int) ≤ (ca : Int) := by omega
  have i3 : (n : Int) ≤ (cb : Int) := by omega
  have i4 : (n : Int) ≤ (cc : Int) := by omega
  go_enter Tryd.func6, Tryd.ntmps6
  go_wp2_with fail
  refine hov.out.mono ?_
  rintro e w1 ⟨v, rfl, hown, hb1⟩
  have hbs := hide hown.bs
  obtain ⟨D, cd, rfl, d1, d2, _⟩ := hown.bs.open_
  rw [hn'] at hbs d1
  rw [hn']
  have z1 := hb1.size
  have ox := hide (fun W hW hT => of_any (.slice D n cd) (over3 a b c) W hW hT)
  have hn'' := hide hn'
  clear hown hn' hov
  generalize over3 a b c = x at *
  generalize Crc.of_ x = xx at *
  go_wp2_with fail
  refine region_plan [(false, 0), (true, 1), (true, 2), (true, 4), (true, 5), (true, 6), (true, 8), (true, 9), (true, 10), (true, 13), (true, 14), (true, 15), (false, 3), (false, 7), (false, 11), (true, 12), (false, 16), (true, 17), (true, 18), (true, 19), (true, 20)] (Later fun _ => False) (later_refl _) (later_trans _) (by kernel_rfl) (by kernel_rfl) (fun _ _ d _ _ h => by cases d <;> exact h) ?_
  have hq1 : Q w1 w1.drew := ⟨1, rfl⟩
  have hT1 := hide ((ht'.out.below hb1).below (hq1.below _))
  refine plan_eff rfl (by rfl) (fun K hK => ?_)
  go_wp2_with fail
  refine (awake03 w1.drew hT1.out).mono ?_
  rintro e w2 ⟨rfl, hb2⟩
  refine hK _ _ (below_later hb2 (Nat.le_refl _)) ?_
  clear hK K
  have hW2 : Hid (Below w.heap.size w w2) := (hb1.trans (hq1.below _)).trans (hb2.mono z1)
  have hT2 := hide (hT1.out.below hb2)
  have ka := hide (ta.out.below hW2.out)
  have kb := hide (tb.out.below hW2.out)
  have kc := hide (tc.out.below hW2.out)
  have kx := hide ((hbs.out.q hq1).below hb2)
  clear hb1 hb2 hbs ta tb tc ht' hT1 hq1
  try simp only [Act.put, List.setIfInBounds_toArray, List.set_cons_zero, List.set_cons_succ]
  repeat
    (first
      | (show wpPlan _ _ _ _ ((true, _) :: _) _ _
         refine plan_skip rfl (by rfl) ?_
         simp only [Act.put, List.setIfInBounds_toArray, List.set_cons_zero, List.set_cons_succ])
      | (show wpPlan _ _ _ _ ((false, _) :: _) _ _
         refine plan_skip_eff (later_refl _) rfl (by rfl) ?_
         simp only [Act.put, List.setIfInBounds_toArray, List.set_cons_zero, List.set_cons_succ])
      | (show wpPlan _ _ _ _ ((true, _) :: _) _ _
         refine plan_take (v := ?_) rfl (by rfl) (fun w' hw' => ?_) ?_
         rotate_left
         focus
           go_simp
           try with_reducible rfl
           done
         simp only [Act.put, List.setIfInBounds_toArray, List.set_cons_zero, List.set_cons_succ]))
  refine plan_eff rfl (by rfl) (fun K hK => ?_)
  go_wp2_with fail
  refine (ox.out w2 kx.out hT2.out).mono ?_
  rintro e w' ⟨rfl, rfl⟩
  refine hK _ _ (later_refl _ _) ?_
  clear hK K
  try simp only [Act.put, List.setIfInBounds_toArray, List.set_cons_zero, List.set_cons_succ]
  refine plan_eff rfl (by rfl) (fun K hK => ?_)
  go_wp2_with fail
  refine (oa.out _ ka.out hT2.out).mono ?_
  rintro e w' ⟨rfl, rfl⟩
  refine hK _ _ (later_refl _ _) ?_
  clear hK K
  try simp only [Act.put, List.setIfInBounds_toArray, List.set_cons_zero, List.set_cons_succ]
  refine plan_eff rfl (by rfl) (fun K hK => ?_)
  go_wp2_with fail
  refine (ob.out _ kb.out hT2.out).mono ?_
  rintro e w' ⟨rfl, rfl⟩
  refine hK _ _ (later_refl _ _) ?_
  clear hK K
  try simp only [Act.put, List.setIfInBounds_toArray, List.set_cons_zero, List.set_cons_succ]
  repeat
    (first
      | (show wpPlan _ _ _ _ ((true, _) :: _) _ _
         refine plan_skip rfl (by rfl) ?_
         simp only [Act.put, List.setIfInBounds_toArray, List.set_cons_zero, List.set_cons_succ])
      | (show wpPlan _ _ _ _ ((false, _) :: _) _ _
         refine plan_skip_eff (later_refl _) rfl (by rfl) ?_
         simp only [Act.put, List.setIfInBounds_toArray, List.set_cons_zero, List.set_cons_succ])
      | (show wpPlan _ _ _ _ ((true, _) :: _) _ _
         refine plan_take (v := ?_) rfl (by rfl) (fun w' hw' => ?_) ?_
         rotate_left
         focus
           go_simp
           try with_reducible rfl
           done
         simp only [Act.put, List.setIfInBounds_toArray, List.set_cons_zero, List.set_cons_succ]))
  refine plan_eff rfl (by rfl) (fun K hK => ?_)
  go_wp2_with fail
  refine (oc.out _ kc.out hT2.out).mono ?_
  rintro e w' ⟨rfl, rfl⟩
  refine hK _ _ (later_refl _ _) ?_
  clear hK K
  try simp only [Act.put, List.setIfInBounds_toArray, List.set_cons_zero, List.set_cons_succ]
  repeat
    (first
      | (show wpPlan _ _ _ _ ((true, _) :: _) _ _
         refine plan_skip rfl (by rfl) ?_
         simp only [Act.put, List.setIfInBounds_toArray, List.set_cons_zero, List.set_cons_succ])
      | (show wpPlan _ _ _ _ ((false, _) :: _) _ _
         refine plan_skip_eff (later_refl _) rfl (by rfl) ?_
         simp only [Act.put, List.setIfInBounds_toArray, List.set_cons_zero, List.set_cons_succ])
      | (show wpPlan _ _ _ _ ((true, _) :: _) _ _
         refine plan_take (v := ?_) rfl (by rfl) (fun w' hw' => ?_) ?_
         rotate_left
         focus
           go_simp
           try with_reducible rfl
           done
         simp only [Act.put, List.setIfInBounds_toArray, List.set_cons_zero, List.set_cons_succ]))
  refine plan_nil ?_
  go_wp2
  go_ret
  exact ⟨rfl, hW2.out⟩
end Go.Proofs.YtihimcgppifcbaaDoor
