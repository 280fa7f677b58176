/- The law DiskFlushes walked. -/
import Derived.Test.YtamkngpkplflcaaPlayed
namespace Go.Proofs.Ytamkngpkplflcaa
open Go.RowKit

/-- the bytes of sector i -/
def secAt (l : List UInt8) (i : Nat) : List UInt8 := (l.drop (64 * i)).take 64
theorem lay_get (has : List UInt8) (x : Wt) (n : Nat) (hl : has.length = 64 * n) (hs : x.s < n) (hb : x.b.length = 64) (m : Nat) :
    (lay has x)[m]? = if m < 64 * x.s then has[m]? else if m < 64 * x.s + 64 then x.b[m - 64 * x.s]? else has[m]? := by
  unfold lay splice
  rw [List.append_assoc, List.getElem?_append, List.length_take]
  by_cases h1 : m < 64 * x.s
  · rw [if_pos (by omega), if_pos h1, List.getElem?_take, if_pos h1]
  · rw [if_neg (by omega), if_neg h1, List.getElem?_append]
    by_cases h2 : m < 64 * x.s + 64
    · rw [if_pos (by omega), if_pos h2, Nat.min_eq_left (by omega)]
    · rw [if_neg (by omega), if_neg h2, List.getElem?_drop]
      congr 1
      omega
theorem secAt_get (l : List UInt8) (i j : Nat) : (secAt l i)[j]? = if j < 64 then l[64 * i + j]? else none := by
  unfold secAt
  rw [List.getElem?_take]
  split
  · rw [List.getElem?_drop]
  · rfl
theorem lay_sec (has : List UInt8) (x : Wt) (n : Nat) (hl : has.length = 64 * n) (hs : x.s < n) (hb : x.b.length = 64) (i : Nat) :
    secAt (lay has x) i = if x.s = i then x.b else secAt has i := by
  apply List.ext_getElem?
  intro j
  rw [secAt_get, lay_get has x n hl hs hb]
  by_cases hi : x.s = i
  · subst hi
    rw [if_pos rfl]
    by_cases hj : j < 64
    · rw [if_pos hj, if_neg (by omega), if_pos (by omega), show 64 * x.s + j - 64 * x.s = j by omega]
    · rw [if_neg hj, List.getElem?_eq_none (by omega)]
  · rw [if_neg hi, secAt_get]
    by_cases hj : j < 64
    · rw [if_pos hj, if_pos hj]
      by_cases h1 : 64 * i + j < 64 * x.s
      · rw [if_pos h1]
      · rw [if_neg h1, if_neg (by omega)]
    · rw [if_neg hj, if_neg hj]
theorem layN_sec (has : List UInt8) (ws : List Wt) (n : Nat) (hl : has.length = 64 * n) (hw : ∀ w ∈ ws, w.s < n ∧ w.b.length = 64) (i : Nat) : ∀ k, k ≤ ws.length → secAt (layN has (fun _ => true) ws k) i = readN i (secAt has i) ws k
  | 0, _ => rfl
  | k + 1, hk => by
    have hg : ws.getD k ⟨0, []⟩ = ws[k]'(by omega) := by simp [List.getD, List.getElem?_eq_getElem (show k < ws.length by omega)]
    have hw' := hw _ (List.getElem_mem (show k < ws.length by omega))
    show secAt (lay (layN has (fun _ => true) ws k) (ws.getD k ⟨0, []⟩)) i = if (ws.getD k ⟨0, []⟩).s = i then (ws.getD k ⟨0, []⟩).b else readN i (secAt has i) ws k
    rw [hg, lay_sec _ _ n (layN_length has _ ws n hl hw k (by omega)) hw'.1 hw'.2, layN_sec has ws n hl hw i k (by omega)]
/-- what the reads of the first k sectors say -/
def wasL (d : Dk) : Nat → List UInt8
  | 0 => []
  | k + 1 => wasL d k ++ (d.reads k).1
theorem reads_on {d : Dk} (ho : d.off = false) (k : Nat) (hk : k < d.n) : d.reads k = (d.read k, 0) := by
  unfold Dk.reads
  rw [if_neg (by simp; omega), ho]
  simp
theorem reads_off {d : Dk} (ho : d.off = true) (k : Nat) (hk : k < d.n) : d.reads k = ([], 9) := by
  unfold Dk.reads
  rw [if_neg (by simp; omega), ho]
  simp
theorem wasL_off {d : Dk} (ho : d.off = true) : ∀ k, k ≤ d.n → wasL d k = []
  | 0, _ => rfl
  | k + 1, hk => by rw [wasL, wasL_off ho k (by omega), reads_off ho k (by omega)]; rfl
theorem wasL_on {d : Dk} (ok : d.Ok) (ho : d.off = false) : ∀ k, k ≤ d.n → wasL d k = (layN d.has (fun _ => true) d.waits d.waits.length).take (64 * k)
  | 0, _ => by simp [wasL]
  | k + 1, hk => by
    rw [wasL, wasL_on ok ho k (by omega), reads_on ho k (by omega)]
    have h := layN_sec d.has d.waits d.n ok.len ok.wt k d.waits.length (Nat.le_refl _)
    have h2 : d.read k = secAt (layN d.has (fun _ => true) d.waits d.waits.length) k := by rw [h]; rfl
    rw [h2]
    unfold secAt
    rw [show 64 * (k + 1) = 64 * k + 64 by omega, List.take_add]
theorem wasL_len {d : Dk} (ok : d.Ok) (k : Nat) (hk : k ≤ d.n) : (wasL d k).length ≤ 64 * k := by
  cases ho : d.off
  · rw [wasL_on ok ho k hk, List.length_take]; omega
  · rw [wasL_off ho k hk]; exact Nat.zero_le _
theorem wasL_full {d : Dk} (ok : d.Ok) (ho : d.off = false) : wasL d d.n = layN d.has (fun _ => true) d.waits d.waits.length := by
  rw [wasL_on ok ho d.n (Nat.le_refl _), List.take_of_length_le]
  rw [layN_length d.has _ d.waits d.n ok.len ok.wt _ (Nat.le_refl _)]
  exact Nat.le_refl _
theorem flush_free {d : Dk} (ho : d.off = false) (ha : d.armed = false) : d.flush = ({ d with has := layN d.has (fun _ => true) d.waits d.waits.length, waits := [] }, 0) := by
  have hg : d.goes = (d, true) := by unfold Dk.goes; rw [ho, ha]; rfl
  unfold Dk.flush
  rw [hg]
  rfl
theorem flush_off {d : Dk} (ho : d.off = true) : d.flush = (d, 9) := by
  have hg : d.goes = (d, false) := by unfold Dk.goes; rw [ho]; rfl
  unfold Dk.flush
  rw [hg]
  rfl
set_option maxRecDepth 100000 in
set_option maxHeartbeats 8000000 in
theorem diskFlushes_any (A : Option Addr) (b off n c : Nat) (G : Nat → DAct) (kv : Value) (keep : List Bool) (w : World) (hA : 0 < n → A = some ⟨b, off, none⟩) (hn : n ≤ 9223372036854775807) (h : DActs w w.heap.size b off n G) (hkl : ∀ i, i < n → (G i).kl.length ≤ 140737488351232) (hk : BoolsB w w.heap.size kv keep) :
    Calls Try.prog 7 #[.slice A n c, kv] w fun e w' => e = .returned (.bool true) ∧ Below w.heap.size w w' := by
  have hk' := hide hk
  have hpl := hide (played_any A b off n c G w hA hn h hkl)
  clear hA h hkl hk
  go_enter Try.func7, Try.ntmps7
  go_wp2_with fail
  refine hpl.out.mono ?_
  rintro e w1 ⟨g, rfl, B, d, hD, hB, hn4, hw, hb⟩
  have hD1 := hide hD
  have hB1 := hide hB
  have hb1 := hide hb
  clear hpl hD hB hb
  go_wp2_with fail
  refine (hD1.out.arm_ (-1) (by unfold I64; omega) (.slice none 0 0) [] (Sl.nil _ _) (by simp)).mono ?_
  rintro e w2 ⟨rfl, hD, hT⟩
  have ha := hide (show (d.arm (-1) []).off = false → (d.arm (-1) []).armed = false by
    unfold Dk.arm
    intro h
    split at h
    · rename_i h2; rw [h2] at h; cases h
    · rename_i h2; rw [if_neg h2]; rfl)
  have hn4 := hide (show (d.arm (-1) []).n = 4 by unfold Dk.arm; split <;> exact hn4)
  generalize d.arm (-1) [] = d1 at *
  obtain ⟨B2, hB2e⟩ : ∃ B2 : Nat → Prop, B2 = fun x => B x ∨ (w1.heap.size ≤ x ∧ x < w2.heap.size) := ⟨_, rfl⟩
  rw [← hB2e] at hD
  have hB2 := hide (show ∀ y, B2 y → w.heap.size ≤ y ∧ y < w2.heap.size from fun y hy => by
    have := hb1.out.size
    have := hT.size
    rw [hB2e] at hy
    rcases hy with hy | hy
    · have := hB1.out y hy; omega
    · omega)
  have hb2 := hide (hb1.out.trans (hT.below hb1.out.size (fun y hy e => by have := (hB1.out y e).1; omega)))
  have hD2 := hide hD
  have okd := hide hD.ok
  have hs2 := hb2.out.size
  clear hD hT hb1 hB1 hD1 hw hB2e
  go_wp2_with fail
  have hown0 := hide (show (w2.alloc (.cells #[] 5)).ownsRow w2.heap.size 5 1 (.slice (some ⟨w2.heap.size, 0, none⟩) 0 0) 0 (bytesV (wasL d1 0)) from World.ownsRow_made _ #[] 0 (Nat.le_refl _) (by simp [maxLen]) rfl)
  have hb20 := hide (show Below w2.heap.size w2 (w2.alloc (.cells #[] 5)) from (Below.refl _ _).alloc (Nat.le_refl _) _)
  generalize w2.alloc (.cells #[] 5) = w3 at *
  cases hoff : d1.off
  · have ho := hide hoff
    have ha1 := hide (ha.out hoff)
    clear hoff ha
    go_loopw [6, 7] (fun v i wr => ∃ (k : Nat) (A : Option Addr) (c : Nat), k ≤ 4 ∧ i = .int .i64 (k : Nat) ∧ v = .slice A (wasL d1 k).length c ∧ wr.ownsRow w2.heap.size 5 1 (.slice A (wasL d1 k).length c) (wasL d1 k).length (bytesV (wasL d1 k)) ∧ Below w2.heap.size w2 wr) (fun _ i _ => 4 - (intOf i).toNat)
    case atStart => exact ⟨0, _, _, by omega, rfl, rfl, hown0.out, hb20.out⟩
    case round =>
      obtain ⟨k, A, c, hk4, rfl, rfl, hown, hb⟩ := hrel
      have hown := hide hown
      have hb := hide hb
      by_cases hlt : k < 4
      · have hD3 := hide (hD2.out.below hb.out)
        have hltI : (k : Int) < 4 := by omega
        go_wp2_with fail
        refine (hD3.out.read_ k).mono ?_
        rintro e w4 ⟨v, rfl, hv, hb4⟩
        rw [reads_on ho.out k (by rw [hn4.out]; exact hlt)] at hv ⊢
        obtain ⟨A4, c4, rfl, hc4, hm4, _⟩ := Sl.own hv
        have hv' := hide hv
        have hD4 := hide (hD3.out.below hb4)
        have hb4' := hide (hb.out.trans (hb4.mono hb.out.size))
        have hown4 := hide (own_later hown.out (below_later hb4 (Nat.le_refl _)) (fun _ _ h => h))
        have hs4 := hb4.size
        have hsb := hb.out.size
        have hwl := wasL_len okd.out (k + 1) (by rw [hn4.out]; omega)
        have hsu : wasL d1 (k + 1) = wasL d1 k ++ (d1.read k) := by rw [wasL, reads_on ho.out k (by rw [hn4.out]; exact hlt)]
        have hsl : (wasL d1 (k + 1)).length = (wasL d1 k).length + (d1.read k).length := by rw [hsu, List.length_append]
        have hsu' := hide hsu
        have hsl' := hide hsl
        have hwl' := hide hwl
        clear hv hb hown hb4 hD3 hsu hsl hwl
        generalize d1.read k = x at *
        go_wp2_with fail
        refine hD4.out.on_.mono ?_
        rintro e w5 ⟨rfl, rfl⟩
        rw [ho.out]
        go_wp2_with ((at_builtin; refine list_app_any elem_bytes rfl (.tmp 32) (.tmp 33) rfl w2.heap.size (.slice A (wasL d1 k).length c) (wasL d1 k).length (bytesV (wasL d1 k)) rfl hown4.out (.slice A4 x.length c4) x.length (bytesV x) rfl (Sl.own hv'.out) (bytesV_one _) (by have := hwl'.out; have := hsl'.out; simp only [maxLen]; omega) (by have := hwl'.out; have := hsl'.out; omega) (by omega) ?_))
        intro u w6 hu hg hat
        have hb6 := hide (hb4'.out.grown hg (by omega) (fun y hy => (hown4.out.lt y hy).1))
        rw [← bytesV_append, ← hsu'.out, ← hsl'.out] at hu
        obtain ⟨A6, c6, rfl, _⟩ := Sl.own hu
        have hu' := hide hu
        clear hu hg hat hb4' hown4 hD4
        go_wp2_with fail
        go_roundw
        case rel => exact ⟨k + 1, A6, c6, by omega, by go_num, rfl, hu'.out, hb6.out⟩
        case measure => simp [intOf]; omega
      · obtain rfl : k = 4 := by omega
        have hfl := hide (flush_free ho.out ha1.out)
        have hwf := hide (show wasL d1 4 = layN d1.has (fun _ => true) d1.waits d1.waits.length by have := wasL_full okd.out ho.out; rw [hn4.out] at this; exact this)
        have hwl := wasL_len okd.out 4 (by rw [hn4.out]; exact Nat.le_refl _)
        generalize wasL d1 4 = H at *
        have hD3 := hide (hD2.out.below hb.out)
        have hb3 := hide (hb2.out.trans (hb.out.mono hs2))
        have hsb := hb.out.size
        have hwas := hide (show Bs wr (.slice A H.length c) H from Sl.own hown.out)
        have hwl2 := hide (show ∀ y, (Value.slice A H.length c).ownBlock = some y → w2.heap.size ≤ y from fun y hy => (hown.out.lt y hy).1)
        clear hown0 hb20 hown hb hD2 ha1
        go_wp2_with fail
        refine hD3.out.on_.mono ?_
        rintro e w5 ⟨rfl, rfl⟩
        rw [ho.out]
        go_wp2_with fail
        refine hD3.out.flush_.mono ?_
        rintro e w4 ⟨rfl, hD, hT⟩
        rw [hfl.out] at hD ⊢
        have hD4 := hide hD
        have hb4 := hide (hb3.out.trans (hT.below hb3.out.size (fun y hy e => by have := (hB2.out y e).1; omega)))
        have hwas4 := hide (hwas.out.later hT.2 (fun y hy e => by have := (hB2.out y e).2; have := hwl2.out y hy; omega))
        have hs4 := hT.size
        clear hD hT hD3 hb3 hwas
        go_wp2_with fail
        refine hD4.out.image_.mono ?_
        rintro e w5 ⟨now, rfl, hnow, hb5⟩
        have hD5 := hide (hD4.out.below hb5)
        have hb5' := hide (hb4.out.trans (hb5.mono hb4.out.size))
        have hwas5 := hide (hwas4.out.below hb5)
        have hnl := hide (show ∀ y, now.ownBlock = some y → w4.heap.size ≤ y from fun y hy => (World.ownsRow.lt hnow y hy).1)
        have hnow5 := hide hnow.bs
        dsimp only at hnow5
        have hs5 := hb5.size
        clear hnow hb5 hD4 hb4 hwas4
        have hcr : Dk.crash { d1 with has := layN d1.has (fun _ => true) d1.waits d1.waits.length, waits := [] } keep = { d1 with has := layN d1.has (fun _ => true) d1.waits d1.waits.length, waits := [], off := true, armed := false } := by
          unfold Dk.crash
          rw [if_neg (by rw [ho.out]; simp)]
          rfl
        rw [← hwf.out] at hcr hD5 hnow5
        go_wp2_with fail
        refine (hD5.out.crash_ kv keep (hk'.out.below hb5'.out).1 (fun hl y hy e => by have := (hk'.out.below hb5'.out).2 hl y hy; have := (hB2.out y e).1; omega)).mono ?_
        rintro e w6 ⟨rfl, hD, hT⟩
        rw [hcr] at hD
        have hD6 := hide hD
        have hb6 := hide (hb5'.out.trans (hT.below hb5'.out.size (fun y hy e => by have := (hB2.out y e).1; omega)))
        have hwas6 := hide (hwas5.out.later hT.2 (fun y hy e => by have := (hB2.out y e).2; have := hwl2.out y hy; omega))
        have hnow6 := hide (hnow5.out.later hT.2 (fun y hy e => by have := (hB2.out y e).2; have := hnl.out y hy; omega))
        clear hD hT hD5 hb5' hwas5 hnow5 hcr
        go_wp2_with fail
        have hq : Below w6.heap.size w6 w6.drew := (Below.refl _ _).drew
        have hD7 := hide (hD6.out.below hq)
        have hb7 := hide (hb6.out.trans (hq.mono hb6.out.size))
        have hcw : ∀ w', Later (fun _ => False) w6.drew w' → (convert 40 9 (.slice A H.length c)).run Try.prog w' = .ok (.string ⟨H.toArray⟩) w' := fun w' hl => str_conv w' _ _ ((hwas6.out.below hq).later0 hl)
        have hcn : ∀ w', Later (fun _ => False) w6.drew w' → (convert 40 9 now).run Try.prog w' = .ok (.string ⟨H.toArray⟩) w' := fun w' hl => str_conv w' _ _ ((hnow6.out.below hq).later0 hl)
        have he : (H == H) = true := by simp
        have he2 := strEq H H
        refine region_plan [(true, 0), (true, 1), (true, 2), (true, 3), (false, 4), (true, 5), (true, 6), (true, 7), (true, 8), (true, 9), (true, 10), (true, 11), (true, 12), (true, 13), (true, 14), (true, 15), (true, 16), (true, 19), (true, 20), (false, 17), (true, 18), (true, 21), (true, 22), (true, 23), (true, 24), (false, 25), (true, 26), (true, 27), (true, 28), (false, 29), (true, 30), (true, 31)] (Later fun _ => False) (later_refl _) (later_trans _) (by kernel_rfl) (by kernel_rfl) (fun _ _ d _ _ h => by cases d <;> exact h) ?_
        repeat
          (first
            | (show wpPlan _ _ _ _ ((true, _) :: _) _ _
               refine plan_skip rfl (by rfl) ?_
               simp only [Act.put, List.setIfInBounds_toArray, List.set_cons_zero, List.set_cons_succ])
            | (show wpPlan _ _ _ _ ((false, _) :: _) _ _
               refine plan_skip_eff (later_refl _) rfl (by rfl) ?_
               simp only [Act.put, List.setIfInBounds_toArray, List.set_cons_zero, List.set_cons_succ])
            | (show wpPlan _ _ _ _ ((true, _) :: _) _ _
               refine plan_take (v := ?_) rfl (by rfl) (fun w' hw' => ?_) ?_
               rotate_left
               focus
                 go_simp
                 try with_reducible rfl
                 done
               simp only [Act.put, List.setIfInBounds_toArray, List.set_cons_zero, List.set_cons_succ]))
        refine plan_eff rfl (by rfl) (fun K hK => ?_)
        go_wp2_with fail
        refine (hD7.out.waiting_nil rfl).mono ?_
        rintro e w8 ⟨rfl, rfl⟩
        refine hK _ _ (later_refl _ _) ?_
        clear hK K
        try simp only [Act.put, List.setIfInBounds_toArray, List.set_cons_zero, List.set_cons_succ]
        repeat
          (first
            | (show wpPlan _ _ _ _ ((true, _) :: _) _ _
               refine plan_skip rfl (by rfl) ?_
               simp only [Act.put, List.setIfInBounds_toArray, List.set_cons_zero, List.set_cons_succ])
            | (show wpPlan _ _ _ _ ((false, _) :: _) _ _
               refine plan_skip_eff (later_refl _) rfl (by rfl) ?_
               simp only [Act.put, List.setIfInBounds_toArray, List.set_cons_zero, List.set_cons_succ])
            | (show wpPlan _ _ _ _ ((true, _) :: _) _ _
               refine plan_take (v := ?_) rfl (by rfl) (fun w' hw' => ?_) ?_
               rotate_left
               focus
                 go_simp
                 try with_reducible rfl
                 done
               simp only [Act.put, List.setIfInBounds_toArray, List.set_cons_zero, List.set_cons_succ]))
        refine plan_eff rfl (by rfl) (fun K hK => ?_)
        go_wp2_with fail
        refine hD7.out.image_.mono ?_
        rintro e w8 ⟨im, rfl, him, hb8⟩
        refine hK _ _ (below_later hb8 (Nat.le_refl _)) ?_
        clear hK K
        have hci : ∀ w', Later (fun _ => False) w8 w' → (convert 40 9 im).run Try.prog w' = .ok (.string ⟨H.toArray⟩) w' := fun w' hl => str_conv w' _ _ (him.bs.later0 hl)
        have hD8 := hide (hD7.out.below hb8)
        have hb8' := hide (hb7.out.trans (hb8.mono hb7.out.size))
        clear him hb8 hD7 hb7 hcw hcn
        try simp only [Act.put, List.setIfInBounds_toArray, List.set_cons_zero, List.set_cons_succ]
        repeat
          (first
            | (show wpPlan _ _ _ _ ((true, _) :: _) _ _
               refine plan_skip rfl (by rfl) ?_
               simp only [Act.put, List.setIfInBounds_toArray, List.set_cons_zero, List.set_cons_succ])
            | (show wpPlan _ _ _ _ ((false, _) :: _) _ _
               refine plan_skip_eff (later_refl _) rfl (by rfl) ?_
               simp only [Act.put, List.setIfInBounds_toArray, List.set_cons_zero, List.set_cons_succ])
            | (show wpPlan _ _ _ _ ((true, _) :: _) _ _
               refine plan_take (v := ?_) rfl (by rfl) (fun w' hw' => ?_) ?_
               rotate_left
               focus
                 go_simp
                 try with_reducible rfl
                 done
               simp only [Act.put, List.setIfInBounds_toArray, List.set_cons_zero, List.set_cons_succ]))
        refine plan_eff rfl (by rfl) (fun K hK => ?_)
        go_wp2_with fail
        refine hD8.out.on_.mono ?_
        rintro e w9 ⟨rfl, rfl⟩
        refine hK _ _ (later_refl _ _) ?_
        clear hK K
        repeat
          (first
            | (show wpPlan _ _ _ _ ((true, _) :: _) _ _
               refine plan_skip rfl (by rfl) ?_
               simp only [Act.put, List.setIfInBounds_toArray, List.set_cons_zero, List.set_cons_succ])
            | (show wpPlan _ _ _ _ ((false, _) :: _) _ _
               refine plan_skip_eff (later_refl _) rfl (by rfl) ?_
               simp only [Act.put, List.setIfInBounds_toArray, List.set_cons_zero, List.set_cons_succ])
            | (show wpPlan _ _ _ _ ((true, _) :: _) _ _
               refine plan_take (v := ?_) rfl (by rfl) (fun w' hw' => ?_) ?_
               rotate_left
               focus
                 go_simp
                 try with_reducible rfl
                 done
               simp only [Act.put, List.setIfInBounds_toArray, List.set_cons_zero, List.set_cons_succ]))
        refine plan_eff rfl (by rfl) (fun K hK => ?_)
        go_wp2_with fail
        refine (awake05 _).mono ?_
        rintro e w10 ⟨rfl, hb⟩
        refine hK _ _ (below_later hb (Nat.le_refl _)) ?_
        clear hK K
        have hbz := hide (hb8'.out.trans (hb.mono hb8'.out.size))
        clear hb hci
        try simp only [Act.put, List.setIfInBounds_toArray, List.set_cons_zero, List.set_cons_succ]
        repeat
          (first
            | (show wpPlan _ _ _ _ ((true, _) :: _) _ _
               refine plan_skip rfl (by rfl) ?_
               simp only [Act.put, List.setIfInBounds_toArray, List.set_cons_zero, List.set_cons_succ])
            | (show wpPlan _ _ _ _ ((false, _) :: _) _ _
               refine plan_skip_eff (later_refl _) rfl (by rfl) ?_
               simp only [Act.put, List.setIfInBounds_toArray, List.set_cons_zero, List.set_cons_succ])
            | (show wpPlan _ _ _ _ ((true, _) :: _) _ _
               refine plan_take (v := ?_) rfl (by rfl) (fun w' hw' => ?_) ?_
               rotate_left
               focus
                 go_simp
                 try with_reducible rfl
                 done
               simp only [Act.put, List.setIfInBounds_toArray, List.set_cons_zero, List.set_cons_succ]))
        refine plan_nil ?_
        go_wp2_with fail
        go_ret
        exact ⟨rfl, hbz.out⟩
  · have ho := hide hoff
    clear hoff ha
    go_loopw [6, 7] (fun v i wr => ∃ (k : Nat) (A : Option Addr) (c : Nat), k ≤ 4 ∧ i = .int .i64 (k : Nat) ∧ v = .slice A (wasL d1 k).length c ∧ wr.ownsRow w2.heap.size 5 1 (.slice A (wasL d1 k).length c) (wasL d1 k).length (bytesV (wasL d1 k)) ∧ Below w2.heap.size w2 wr) (fun _ i _ => 4 - (intOf i).toNat)
    case atStart => exact ⟨0, _, _, by omega, rfl, rfl, hown0.out, hb20.out⟩
    case round =>
      obtain ⟨k, A, c, hk4, rfl, rfl, hown, hb⟩ := hrel
      have hown := hide hown
      have hb := hide hb
      by_cases hlt : k < 4
      · have hD3 := hide (hD2.out.below hb.out)
        have hltI : (k : Int) < 4 := by omega
        go_wp2_with fail
        refine (hD3.out.read_ k).mono ?_
        rintro e w4 ⟨v, rfl, hv, hb4⟩
        rw [reads_off ho.out k (by rw [hn4.out]; exact hlt)] at hv ⊢
        obtain ⟨A4, c4, rfl, hc4, hm4, _⟩ := Sl.own hv
        have hv' := hide hv
        have hD4 := hide (hD3.out.below hb4)
        have hb4' := hide (hb.out.trans (hb4.mono hb.out.size))
        have hown4 := hide (own_later hown.out (below_later hb4 (Nat.le_refl _)) (fun _ _ h => h))
        have hs4 := hb4.size
        have hsb := hb.out.size
        have hwl := wasL_len okd.out (k + 1) (by rw [hn4.out]; omega)
        have hsu : wasL d1 (k + 1) = wasL d1 k ++ (([] : List UInt8)) := by rw [wasL, reads_off ho.out k (by rw [hn4.out]; exact hlt)]
        have hsl : (wasL d1 (k + 1)).length = (wasL d1 k).length + (([] : List UInt8)).length := by rw [hsu, List.length_append]
        have hsu' := hide hsu
        have hsl' := hide hsl
        have hwl' := hide hwl
        clear hv hb hown hb4 hD3 hsu hsl hwl
        generalize ([] : List UInt8) = x at *
        go_wp2_with fail
        refine hD4.out.on_.mono ?_
        rintro e w5 ⟨rfl, rfl⟩
        rw [ho.out]
        go_wp2_with ((at_builtin; refine list_app_any elem_bytes rfl (.tmp 32) (.tmp 33) rfl w2.heap.size (.slice A (wasL d1 k).length c) (wasL d1 k).length (bytesV (wasL d1 k)) rfl hown4.out (.slice A4 x.length c4) x.length (bytesV x) rfl (Sl.own hv'.out) (bytesV_one _) (by have := hwl'.out; have := hsl'.out; simp only [maxLen]; omega) (by have := hwl'.out; have := hsl'.out; omega) (by omega) ?_))
        intro u w6 hu hg hat
        have hb6 := hide (hb4'.out.grown hg (by omega) (fun y hy => (hown4.out.lt y hy).1))
        rw [← bytesV_append, ← hsu'.out, ← hsl'.out] at hu
        obtain ⟨A6, c6, rfl, _⟩ := Sl.own hu
        have hu' := hide hu
        clear hu hg hat hb4' hown4 hD4
        go_wp2_with fail
        go_roundw
        case rel => exact ⟨k + 1, A6, c6, by omega, by go_num, rfl, hu'.out, hb6.out⟩
        case measure => simp [intOf]; omega
      · obtain rfl : k = 4 := by omega
        have hfl := hide (flush_off ho.out)
        have hD3 := hide (hD2.out.below hb.out)
        have hb3 := hide (hb2.out.trans (hb.out.mono hs2))
        clear hown0 hb20 hown hb hD2
        go_wp2_with fail
        refine hD3.out.on_.mono ?_
        rintro e w5 ⟨rfl, rfl⟩
        rw [ho.out]
        go_wp2_with fail
        refine hD3.out.flush_.mono ?_
        rintro e w4 ⟨rfl, hD, hT⟩
        rw [hfl.out]
        have hb4 := hide (hb3.out.trans (hT.below hb3.out.size (fun y hy e => by have := (hB2.out y e).1; omega)))
        clear hD hT hD3 hb3
        go_wp2_with fail
        refine (awake05 _).mono ?_
        rintro e w6 ⟨rfl, hb⟩
        have hbz := hide (hb4.out.trans (hb.mono hb4.out.size))
        clear hb hb4
        go_wp2_with fail
        go_ret
        exact ⟨rfl, hbz.out⟩
end Go.Proofs.Ytamkngpkplflcaa
