/- The law OctetBack walked. -/
import Derived.Test.YtihimcgppifcbaaDoorOctetOwn
namespace Go.Proofs.YtihimcgppifcbaaDoor
open Go.RowKit

/-- something that is put -/
structure PutD where
  n : Nat
  z : Int
  s : List UInt8
  t : Bool
def PutD.Ok (p : PutD) : Prop := p.n < 18446744073709551616 ∧ I64 p.z ∧ p.s.length ≤ 9223372036854775807
def PutD.enc (p : PutD) : List UInt8 := if p.t then textV p.s else putV p.n p.z
theorem PutD.enc_le (p : PutD) : p.enc.length ≤ 256 := by
  unfold PutD.enc textV putV
  (repeat' split) <;> simp only [List.length_cons, List.length_nil, le_length] <;> omega
def cat (F : Nat → PutD) (k : Nat) : List UInt8 := ((List.range k).map fun i => (F i).enc).flatten
theorem cat_succ (F : Nat → PutD) (k : Nat) : cat F (k + 1) = cat F k ++ (F k).enc := by unfold cat; rw [List.range_succ, List.map_append, List.flatten_append]; simp
theorem cat_le (F : Nat → PutD) (k : Nat) : (cat F k).length ≤ 256 * k := by
  induction k with
  | zero => simp [cat]
  | succ k ih => rw [cat_succ, List.length_append]; have := (F k).enc_le; omega
theorem cat_split (F : Nat → PutD) (m k : Nat) (h : k < m) : ∃ r, cat F m = cat F k ++ ((F k).enc ++ r) := by
  induction m with
  | zero => omega
  | succ m ih =>
    rw [cat_succ]
    by_cases e : k = m
    · subst e; exact ⟨[], by simp⟩
    · obtain ⟨r, hr⟩ := ih (by omega)
      exact ⟨r ++ (F m).enc, by rw [hr]; simp⟩
theorem num_le (n k : Nat) : Crc.num (le n k) = n % 256 ^ k := by
  have h : le n k = le (n % 256 ^ k) k := by
    unfold le
    refine List.map_congr_left fun i hi => ?_
    have hik : i < k := by simpa using hi
    apply UInt8.toNat_inj.1
    rw [toNat_ofNat8, toNat_ofNat8, show 256 ^ k = 256 ^ i * 256 ^ (k - i) by rw [← Nat.pow_add]; congr 1; omega, Nat.mod_mul_right_div_self, show 256 ^ (k - i) = 256 * 256 ^ (k - i - 1) by rw [← Nat.pow_succ']; congr 1; omega, Nat.mod_mul_right_mod]
  rw [h, le_num _ _ (Nat.mod_lt _ (Nat.pow_pos (by omega)))]

theorem later_false {F : Nat → Prop} {w w' : World} (h : Later (fun _ => False) w w') : Later F w w' := ⟨h.1, fun k hk _ => h.2 k hk (fun h => h)⟩
theorem cut_mid (a m r : List UInt8) (k : Nat) (hk : m.length = k) : ((a ++ (m ++ r)).drop a.length).take k = m := by subst hk; simp
theorem cut_text (a : List UInt8) (x : UInt8) (s r : List UInt8) : ((a ++ ((x :: s) ++ r)).drop (a.length + 1)).take s.length = s := by
  rw [← List.drop_drop, List.drop_left]
  simp
/-- n puts at off of block b -/
structure PutsAt (w : World) (b off n : Nat) (F : Nat → PutD) : Prop where
  lt : 0 < n → b < w.heap.size
  c0 : ∀ i, i < n → w.cell? ⟨b, off + i*4, none⟩ = some (.int .u64 (F i).n)
  c1 : ∀ i, i < n → w.cell? ⟨b, off + i*4 + 1, none⟩ = some (.int .i64 (F i).z)
  c2 : ∀ i, i < n → w.cell? ⟨b, off + i*4 + 2, none⟩ = some (.string ⟨(F i).s.toArray⟩)
  c3 : ∀ i, i < n → w.cell? ⟨b, off + i*4 + 3, none⟩ = some (.bool (F i).t)
theorem PutsAt.below {w w' : World} {b off n : Nat} {F : Nat → PutD} (h : PutsAt w b off n F) (hb : Below w.heap.size w w') : PutsAt w' b off n F :=
  ⟨fun hn => Nat.lt_of_lt_of_le (h.lt hn) hb.size, fun i hi => (hb.cell (p := ⟨b, off + i*4, none⟩) (h.lt (by omega))).trans (h.c0 i hi), fun i hi => (hb.cell (p := ⟨b, off + i*4 + 1, none⟩) (h.lt (by omega))).trans (h.c1 i hi), fun i hi => (hb.cell (p := ⟨b, off + i*4 + 2, none⟩) (h.lt (by omega))).trans (h.c2 i hi), fun i hi => (hb.cell (p := ⟨b, off + i*4 + 3, none⟩) (h.lt (by omega))).trans (h.c3 i hi)⟩

set_option maxRecDepth 100000 in
set_option maxHeartbeats 4000000 in
theorem octetBack_le (A : Option Addr) (b off n c : Nat) (F : Nat → PutD) (w : World) (hA : 0 < n → A = some ⟨b, off, none⟩) (h : PutsAt w b off n F) (hF : ∀ i, i < n → (F i).Ok) (hn : n ≤ 9223372036854775807) (h40 : n ≤ 40) (hE : ErrT w) :
    Calls Tryd.prog 14 #[.slice A n c] w fun e w' => e = .returned (.bool true) ∧ Below w.heap.size w w' := by
  have hA' := hide hA
  clear hA
  have hE' := hide hE
  have h' := hide h
  have hF' := hide hF
  clear hE h hF
  have hx : True := trivial
  go_enter Tryd.func14, Tryd.ntmps14
  go_wp2_with fail
  go_loopw [3, 4] (fun v i wr => ∃ k : Nat, k ≤ n ∧ i = .int .i64 k ∧ OwnB wr w.heap.size 5 v (cat F k) ∧ Below w.heap.size w wr) (fun _ i _ => n - (intOf i).toNat)
  case atStart => exact ⟨0, by omega, rfl, World.ownsRow_nil _ _ _ _, Below.refl _ _⟩
  case round =>
    obtain ⟨k, hk, rfl, hown, hb⟩ := hrel
    have hown' := hide hown
    have hb' := hide hb
    have hbs := hb.size
    clear hown hb
    by_cases hlt : k < n
    · obtain rfl : A = some ⟨b, off, none⟩ := hA'.out (by omega)
      have hkn : (k : Int) < (n : Int) := by omega
      have hk40 : (k : Int) < 40 := by omega
      have hP := h'.out.below hb'.out
      have hkl := hide (cat_le F k)
      have hok := hide (hF'.out k (by omega))
      have c0 := hP.c0 k (by omega)
      have c1 := hP.c1 k (by omega)
      have c2 := hP.c2 k (by omega)
      have c3 := hP.c3 k (by omega)
      have hblt := hP.lt (by omega)
      clear hP
      by_cases ht : (F k).t = true
      · rw [ht] at c3
        have henc := hide (show (F k).enc = textV (F k).s by unfold PutD.enc; rw [if_pos ht])
        have htl := hide (show (textV (F k).s).length ≤ 256 by rw [← henc.out]; exact (F k).enc_le)
        clear ht
        go_wp2_with fail
        refine (text_any (F k).s wr hok.out.2.2).mono ?_
        rintro e w2 ⟨u, rfl, hu, hb2⟩
        have hu' := hide hu
        have hown2 : Hid (OwnB w2 w.heap.size 5 u3 (cat F k)) := hown'.out.below hb2
        have hb2' := hide (hb'.out.trans (hb2.mono hbs))
        have hs2 := hb2.size
        have hlens := hide (show (cat F k).length + (textV (F k).s).length ≤ 20000 by have := hkl.out; have := htl.out; omega)
        clear hu hb2
        go_wp2_with ((at_builtin; refine list_app_any elem_bytes rfl (.tmp 25) (.tmp 31) rfl w.heap.size u3 (cat F k).length (bytesV (cat F k)) rfl hown2.out u (textV (F k).s).length (bytesV (textV (F k).s)) rfl (Sl.own hu'.out) (bytesV_one _) (by have := hlens.out; simp only [maxLen]; omega) (by have := hlens.out; omega) (by omega) ?_))
        intro v1 w3 hown3 hg3 hat3
        have hb3 : Below w.heap.size w w3 := hb2'.out.grown hg3 (by omega) (fun k hk => (hown2.out.lt k hk).1)
        have ho3 : Hid (OwnB w3 w.heap.size 5 v1 (cat F (k + 1))) := by
          rw [cat_succ]
          unfold OwnB
          rw [List.length_append, bytesV_append, henc.out]
          exact hown3
        have hb3' := hide hb3
        clear hown3 hg3 hat3 hb3
        go_wp2_with fail
        go_roundw
        case rel => exact ⟨k + 1, by omega, by go_num, ho3.out, hb3'.out⟩
        case measure => simp [intOf]; omega
      · rw [show (F k).t = false by simpa using ht] at c3
        have henc := hide (show (F k).enc = putV (F k).n (F k).z by unfold PutD.enc; rw [if_neg ht])
        have htl := hide (show (putV (F k).n (F k).z).length ≤ 256 by rw [← henc.out]; exact (F k).enc_le)
        clear ht
        have hnb : ¬ u3.ownBlock = some b := fun e => by have := (hown'.out.lt b e).1; have := h'.out.lt (by omega); omega
        have hwr : ∀ w', Later (fun x => u3.ownBlock = some x) wr w' → w'.cell? ⟨b, off + k*4, none⟩ = some (.int .u64 (F k).n) ∧ w'.cell? ⟨b, off + k*4 + 1, none⟩ = some (.int .i64 (F k).z) := fun w' hl => ⟨(Later.cell hl hblt hnb).1.trans c0, (Later.cell hl hblt hnb).1.trans c1⟩
        have hwr' := hide hwr
        clear hwr
        go_wp2_with fail
        have f0 : ∀ w', Later (fun x => u3.ownBlock = some x) wr.drew w' → w'.cell? ⟨b, off + k*4, none⟩ = some (.int .u64 (F k).n) := fun w' hl => (hwr'.out w' (later_trans _ _ _ _ (later_drew wr) hl)).1
        have f1 : ∀ w', Later (fun x => u3.ownBlock = some x) wr.drew w' → w'.cell? ⟨b, off + k*4 + 1, none⟩ = some (.int .i64 (F k).z) := fun w' hl => (hwr'.out w' (later_trans _ _ _ _ (later_drew wr) hl)).2
        clear hnb
        refine region_plan [(true, 0), (true, 1), (true, 2), (true, 3), (true, 4), (true, 5), (true, 6), (true, 7), (true, 8), (true, 9), (true, 10), (false, 11), (false, 12), (true, 13)] (Later fun x => u3.ownBlock = some x) (later_refl _) (later_trans _) (by kernel_rfl) (by kernel_rfl) (fun _ _ d _ _ h => by cases d <;> exact h) ?_
        repeat
          (first
            | (show wpPlan _ _ _ _ ((true, _) :: _) _ _
               refine plan_skip rfl (by rfl) ?_
               simp only [Act.put, List.setIfInBounds_toArray, List.set_cons_zero, List.set_cons_succ])
            | (show wpPlan _ _ _ _ ((false, _) :: _) _ _
               refine plan_skip_eff (later_refl _) rfl (by rfl) ?_
               simp only [Act.put, List.setIfInBounds_toArray, List.set_cons_zero, List.set_cons_succ])
            | (show wpPlan _ _ _ _ ((true, _) :: _) _ _
               refine plan_take (v := ?_) rfl (by rfl) (fun w' hw' => ?_) ?_
               rotate_left
               focus
                 go_simp
                 try with_reducible rfl
                 done
               simp only [Act.put, List.setIfInBounds_toArray, List.set_cons_zero, List.set_cons_succ]))
        refine plan_eff rfl (by rfl) (fun K hK => ?_)
        go_wp2_with fail
        refine (put_any (F k).n hok.out.1 (F k).z hok.out.2.1 wr.drew).mono ?_
        rintro e w2 ⟨u, rfl, hu, hb2⟩
        refine hK _ _ (later_false (below_later hb2 (Nat.le_refl _))) ?_
        clear hK K
        have hu' := hide hu
        have hq : Q wr wr.drew := Q.drew (Q.refl wr)
        have hown2 : Hid (OwnB w2 w.heap.size 5 u3 (cat F k)) := (hown'.out.below (hq.below _)).below hb2
        have hb2' : Hid (Below w.heap.size w w2) := (hb'.out.trans (hq.below _)).trans (hb2.mono hbs)
        have hs2 : wr.heap.size ≤ w2.heap.size := hb2.size
        have hlens := hide (show (cat F k).length + (putV (F k).n (F k).z).length ≤ 20000 by have := hkl.out; have := htl.out; omega)
        clear hu hb2 hq f0 f1
        try simp only [Act.put, List.setIfInBounds_toArray, List.set_cons_zero, List.set_cons_succ]
        repeat
          (first
            | (show wpPlan _ _ _ _ ((true, _) :: _) _ _
               refine plan_skip rfl (by rfl) ?_
               simp only [Act.put, List.setIfInBounds_toArray, List.set_cons_zero, List.set_cons_succ])
            | (show wpPlan _ _ _ _ ((false, _) :: _) _ _
               refine plan_skip_eff (later_refl _) rfl (by rfl) ?_
               simp only [Act.put, List.setIfInBounds_toArray, List.set_cons_zero, List.set_cons_succ])
            | (show wpPlan _ _ _ _ ((true, _) :: _) _ _
               refine plan_take (v := ?_) rfl (by rfl) (fun w' hw' => ?_) ?_
               rotate_left
               focus
                 go_simp
                 try with_reducible rfl
                 done
               simp only [Act.put, List.setIfInBounds_toArray, List.set_cons_zero, List.set_cons_succ]))
        refine plan_eff rfl (by rfl) (fun K hK => ?_)
        refine wp_app_any elem_bytes (.tmp 33) (.tmp 44) rfl w.heap.size u3 (cat F k).length (bytesV (cat F k)) rfl hown2.out u (putV (F k).n (F k).z).length (bytesV (putV (F k).n (F k).z)) rfl (Sl.own hu'.out) (bytesV_one _) (by have := hlens.out; simp only [maxLen]; omega) (by have := hlens.out; omega) (by omega) ?_
        intro v1 w3 hown3 hg3 hat3
        have hb3 : Below w.heap.size w w3 := hb2'.out.grown hg3 (by omega) (fun k hk => (hown2.out.lt k hk).1)
        have ho3 : Hid (OwnB w3 w.heap.size 5 v1 (cat F (k + 1))) := by
          rw [cat_succ]
          unfold OwnB
          rw [List.length_append, bytesV_append, henc.out]
          exact hown3
        have hb3' := hide hb3
        refine hK _ _ (later_grown hg3 (fun _ h => h)) ?_
        clear hK K hown3 hg3 hat3 hb3
        try simp only [Act.put, List.setIfInBounds_toArray, List.set_cons_zero, List.set_cons_succ]
        repeat
          (first
            | (show wpPlan _ _ _ _ ((true, _) :: _) _ _
               refine plan_skip rfl (by rfl) ?_
               simp only [Act.put, List.setIfInBounds_toArray, List.set_cons_zero, List.set_cons_succ])
            | (show wpPlan _ _ _ _ ((false, _) :: _) _ _
               refine plan_skip_eff (later_refl _) rfl (by rfl) ?_
               simp only [Act.put, List.setIfInBounds_toArray, List.set_cons_zero, List.set_cons_succ])
            | (show wpPlan _ _ _ _ ((true, _) :: _) _ _
               refine plan_take (v := ?_) rfl (by rfl) (fun w' hw' => ?_) ?_
               rotate_left
               focus
                 go_simp
                 try with_reducible rfl
                 done
               simp only [Act.put, List.setIfInBounds_toArray, List.set_cons_zero, List.set_cons_succ]))
        refine plan_nil ?_
        go_wp2_with fail
        go_roundw
        case rel => exact ⟨k + 1, by omega, by go_num, ho3.out, hb3'.out⟩
        case measure => simp [intOf]; omega
    · obtain rfl : n = k := by omega
      have hcl := hide (cat_le F n)
      have hcl2 := hide (show (cat F n).length ≤ 140737488355328 by have := hcl.out; omega)
      obtain ⟨X, cx, rfl, _, _, _⟩ := Sl.own hown'.out
      go_wp2_with fail
      refine (read_any _ (cat F n) wr hown'.out.bs hcl2.out).mono ?_
      rintro e w2 ⟨g, u, rfl, hg, hu, hR, hb2⟩
      have hR' : Hid (Rd w2 g u (cat F n) 0) := hR
      have hown2 : Hid (OwnB w2 w.heap.size 5 _ (cat F n)) := hown'.out.below hb2
      have hb2' := hide (hb'.out.trans (hb2.mono hbs))
      have hu' := hide hu
      have hlt' := hide (fun x (e : (Value.slice X (cat F n).length cx).ownBlock = some x) => hown'.out.lt x e)
      have h2s := hb2.size
      clear hR hb2 hu hown' hb'
      go_wp2_with fail
      obtain ⟨wo, rfl⟩ : ∃ wo : World, wo = wr := ⟨_, rfl⟩
      go_loopw [6] (fun i wr2 => ∃ k : Nat, ∃ m : List UInt8, k ≤ (cat F n).length ∧ m.length = (cat F n).length ∧ i = .int .i64 k ∧ wr2.ownsRow w.heap.size 5 1 (.slice X (cat F n).length cx) (cat F n).length (bytesV m) ∧ Rd wr2 g u (cat F n) 0 ∧ wo.heap.size ≤ wr2.heap.size ∧ Below w.heap.size w wr2) (fun i _ => (cat F n).length - (intOf i).toNat)
      case atStart => exact ⟨0, cat F n, by omega, rfl, rfl, hown2.out, hR'.out, h2s, hb2'.out⟩
      case round =>
        obtain ⟨k2, m, hk2, hm, rfl, hown, hRa, sr, hbr⟩ := hrel
        have hcl2n := hcl2.out
        by_cases hlt2 : k2 < (cat F n).length
        · obtain ⟨q, rfl⟩ : ∃ g, X = some ⟨g, 0, none⟩ := by
            rcases hown.2 with ⟨hh, h0⟩ | ⟨g, _, _, hh, _⟩
            · omega
            · injection hh with hh _ _; exact ⟨g, hh⟩
          have hgb := hlt'.out q rfl
          have hc2 := ownB_cell hown hm k2 hlt2
          have hf := hown.frozenAt k2
          have hst' := hide (ownB_store hown k2 255 (by omega))
          have hRa' := hide hRa
          clear hown hRa hown2 hR'
          generalize (cat F n).length = L at *
          go_wp2_with fail
          go_roundw
          case rel =>
            have hL : Later (fun k => k = q) wr (wr.setCell ⟨q, k2, none⟩ (.int .u8 ((255 : Nat) : Int))) := later_setCell (F := fun k => k = q) wr (p := ⟨q, k2, none⟩) (.int .u8 ((255 : Nat) : Int)) rfl
            exact ⟨k2 + 1, m.set k2 (UInt8.ofNat 255), by omega, by rw [List.length_set]; exact hm, by go_num, hst'.out, Rd.later hRa'.out hL (fun e => by omega) (fun b hb e => by have := hu'.out b hb; omega), Nat.le_trans sr hL.1, hbr.setCell (show w.heap.size ≤ q by omega) _⟩
          case measure => simp [intOf]; omega
        · have hRa' := hide hRa
          have hbr' := hide hbr
          have hwrs : wo.heap.size ≤ wr.heap.size := sr
          clear hown hRa hbr hown2 hR' hb2'
          go_wp2_with fail
          obtain ⟨wp, rfl⟩ : ∃ wp : World, wp = wr := ⟨_, rfl⟩
          go_loopw [7] (fun i wr3 => ∃ k : Nat, k ≤ n ∧ i = .int .i64 k ∧ Rd wr3 g u (cat F n) (cat F k).length ∧ wp.heap.size ≤ wr3.heap.size ∧ Below w.heap.size w wr3) (fun i _ => n - (intOf i).toNat)
          case atStart => exact ⟨0, by omega, rfl, hRa'.out, Nat.le_refl _, hbr'.out⟩
          case round =>
            obtain ⟨k3, hk3, rfl, hR, sr3, hb3⟩ := hrel
            have hR3 := hide hR
            have hb3' := hide hb3
            have hbs3 := hb3.size
            have hgw : w.heap.size ≤ g := by omega
            clear hR hb3 hRa' hbr'
            by_cases hlt3 : k3 < n
            · obtain rfl : A = some ⟨b, off, none⟩ := hA'.out (by omega)
              have hkn : (k3 : Int) < (n : Int) := by omega
              have hk40 : (k3 : Int) < 40 := by omega
              have hP := h'.out.below hb3'.out
              have hok := hide (hF'.out k3 (by omega))
              have c0 := hP.c0 k3 (by omega)
              have c1 := hP.c1 k3 (by omega)
              have c2 := hP.c2 k3 (by omega)
              have c3 := hP.c3 k3 (by omega)
              obtain ⟨rest, hcs⟩ := cat_split F n k3 hlt3
              have hcs' := hide hcs
              have hsucc := hide (cat_succ F k3)
              clear hP hcs hlt'
              obtain ⟨p, hp⟩ : ∃ p, p = F k3 := ⟨_, rfl⟩
              rw [← hp] at c0 c1 c2 c3 hok hcs' hsucc
              clear hp
              by_cases ht : p.t = true
              · rw [ht] at c3
                by_cases hl : p.s.length ≤ 255
                · have henc := hide (show p.enc = UInt8.ofNat p.s.length :: p.s by unfold PutD.enc textV; rw [if_pos ht, if_pos hl])
                  have hsz := str_size p.s
                  have hd : decide ((p.s.length : Int) ≤ 255) = true := decide_eq_true (by omega)
                  have hd2 : decide (p.s.length ≤ 255) = true := decide_eq_true (by omega)
                  clear ht
                  have hgr := hR3.out.lt
                  go_wp2_with fail
                  have hB1 : Below wr.heap.size wr (wr.alloc (.cells #[.int .u64 p.n, .int .i64 p.z, .string ⟨p.s.toArray⟩, .bool true] 62)) := (Below.refl _ _).alloc (Nat.le_refl _) _
                  have hs1 : wr.heap.size < (wr.alloc (.cells #[.int .u64 p.n, .int .i64 p.z, .string ⟨p.s.toArray⟩, .bool true] 62)).heap.size := by simp
                  have x2 : (wr.alloc (.cells #[.int .u64 p.n, .int .i64 p.z, .string ⟨p.s.toArray⟩, .bool true] 62)).cell? ⟨wr.heap.size, 2, none⟩ = some (.string ⟨p.s.toArray⟩) := by simp [go_sem]
                  have hB1' := hide hB1
                  have x2' := hide x2
                  clear c0 c1 c2 c3 hB1 x2
                  generalize wr.alloc (.cells #[.int .u64 p.n, .int .i64 p.z, .string ⟨p.s.toArray⟩, .bool true] 62) = w1 at *
                  have hRn : Rd w1.drew g u (cat F n) (cat F k3).length := hR3.out.below (hB1'.out.trans ((Q.drew (Q.refl w1)).below _))
                  have hRn' := hide hRn
                  have hlen := hide (show (cat F n).length = (cat F k3).length + (1 + p.s.length) + rest.length by rw [hcs'.out, henc.out]; simp; omega)
                  have f2 : ∀ w', Later (fun x => x = g) w1.drew w' → w'.cell? ⟨wr.heap.size, 2, none⟩ = some (.string ⟨p.s.toArray⟩) := fun w' hl => (Later.cell hl hs1 (by omega)).1.trans x2'.out
                  clear hRn
                  refine region_plan [(true, 0), (true, 2), (true, 3), (false, 1), (true, 4)] (Later fun x => x = g) (later_refl _) (later_trans _) (by kernel_rfl) (by kernel_rfl) (fun _ _ d _ _ h => by cases d <;> exact h) ?_
                  repeat
                    (first
                      | (show wpPlan _ _ _ _ ((true, _) :: _) _ _
                         refine plan_skip rfl (by rfl) ?_
                         simp only [Act.put, List.setIfInBounds_toArray, List.set_cons_zero, List.set_cons_succ])
                      | (show wpPlan _ _ _ _ ((false, _) :: _) _ _
                         refine plan_skip_eff (later_refl _) rfl (by rfl) ?_
                         simp only [Act.put, List.setIfInBounds_toArray, List.set_cons_zero, List.set_cons_succ])
                      | (show wpPlan _ _ _ _ ((true, _) :: _) _ _
                         refine plan_take (v := ?_) rfl (by rfl) (fun w' hw' => ?_) ?_
                         rotate_left
                         focus
                           go_simp
                           try with_reducible rfl
                           done
                         simp only [Act.put, List.setIfInBounds_toArray, List.set_cons_zero, List.set_cons_succ]))
                  refine plan_eff rfl (by rfl) (fun K hK => ?_)
                  go_wp2_with fail
                  refine (rdText_ok g u (cat F n) (cat F k3).length p.s.length w1.drew hRn'.out (by have := hlen.out; omega) (by simp only [hcs'.out, henc.out]; simp; omega) (by have := hlen.out; omega) hcl2n).mono ?_
                  rintro e w3 ⟨rfl, hR3n, hT3⟩
                  refine hK _ _ hT3.2 ?_
                  clear hK K
                  have htx : (List.take p.s.length (List.drop ((cat F k3).length + 1) (cat F n))) = p.s := by rw [hcs'.out, henc.out]; exact cut_text _ _ _ _
                  rw [htx]
                  have hRz : Hid (Rd w3 g u (cat F n) (cat F (k3 + 1)).length) := by
                    have e : (cat F (k3 + 1)).length = (cat F k3).length + 1 + p.s.length := by rw [hsucc.out, henc.out]; simp; omega
                    rw [e]; exact hR3n
                  have hTB := hide (hb3'.out.trans ((hB1'.out.trans ((Q.drew (Q.refl w1)).below _)).mono hbs3))
                  have hB3 := hide (hTB.out.trans (hT3.below (show w.heap.size ≤ w1.drew.heap.size from hTB.out.size) (fun k hk e => by omega)))
                  have hs3 : w1.heap.size ≤ w3.heap.size := hT3.size
                  clear htx hT3 hR3n f2 x2'
                  try simp only [Act.put, List.setIfInBounds_toArray, List.set_cons_zero, List.set_cons_succ]
                  repeat
                    (first
                      | (show wpPlan _ _ _ _ ((true, _) :: _) _ _
                         refine plan_skip rfl (by rfl) ?_
                         simp only [Act.put, List.setIfInBounds_toArray, List.set_cons_zero, List.set_cons_succ])
                      | (show wpPlan _ _ _ _ ((false, _) :: _) _ _
                         refine plan_skip_eff (later_refl _) rfl (by rfl) ?_
                         simp only [Act.put, List.setIfInBounds_toArray, List.set_cons_zero, List.set_cons_succ])
                      | (show wpPlan _ _ _ _ ((true, _) :: _) _ _
                         refine plan_take (v := ?_) rfl (by rfl) (fun w' hw' => ?_) ?_
                         rotate_left
                         focus
                           go_simp
                           try with_reducible rfl
                           done
                         simp only [Act.put, List.setIfInBounds_toArray, List.set_cons_zero, List.set_cons_succ]))
                  refine plan_nil ?_
                  go_wp2_with fail
                  go_roundw
                  case rel => exact ⟨k3 + 1, by omega, by go_num, hRz.out, by omega, hB3.out⟩
                  case measure => simp [intOf]; omega
                · have henc := hide (show p.enc = [] by unfold PutD.enc textV; rw [if_pos ht, if_neg hl])
                  have hsz := str_size p.s
                  have hd : decide ((p.s.length : Int) ≤ 255) = false := decide_eq_false (by omega)
                  have hd2 : decide (p.s.length ≤ 255) = false := decide_eq_false (by omega)
                  clear ht
                  have hgr := hR3.out.lt
                  go_wp2_with fail
                  have hB1 : Below wr.heap.size wr (wr.alloc (.cells #[.int .u64 p.n, .int .i64 p.z, .string ⟨p.s.toArray⟩, .bool true] 62)) := (Below.refl _ _).alloc (Nat.le_refl _) _
                  have hs1 : wr.heap.size < (wr.alloc (.cells #[.int .u64 p.n, .int .i64 p.z, .string ⟨p.s.toArray⟩, .bool true] 62)).heap.size := by simp
                  have x2 : (wr.alloc (.cells #[.int .u64 p.n, .int .i64 p.z, .string ⟨p.s.toArray⟩, .bool true] 62)).cell? ⟨wr.heap.size, 2, none⟩ = some (.string ⟨p.s.toArray⟩) := by simp [go_sem]
                  have hB1' := hide hB1
                  have x2' := hide x2
                  clear c0 c1 c2 c3 hB1 x2
                  generalize wr.alloc (.cells #[.int .u64 p.n, .int .i64 p.z, .string ⟨p.s.toArray⟩, .bool true] 62) = w1 at *
                  go_roundw
                  case rel =>
                    refine ⟨k3 + 1, by omega, by go_num, ?_, by omega, hb3'.out.trans (hB1'.out.mono hbs3)⟩
                    have e : (cat F (k3 + 1)).length = (cat F k3).length := by rw [hsucc.out, henc.out]; simp
                    rw [e]
                    exact hR3.out.below hB1'.out
                  case measure => simp [intOf]; omega
              · rw [show p.t = false by simpa using ht] at c3
                have hencp := hide (show p.enc = putV p.n p.z by unfold PutD.enc; rw [if_neg ht])
                clear ht
                have hgr := hR3.out.lt
                by_cases hz : 1 ≤ p.z ∧ p.z ≤ 8
                · have hpn := hok.out.1
                  clear hok
                  obtain ⟨x, hx0⟩ : ∃ x, x = p.n := ⟨_, rfl⟩
                  obtain ⟨z, hz0⟩ : ∃ z, z = p.z := ⟨_, rfl⟩
                  rw [← hx0] at c0 hpn hencp
                  rw [← hz0] at c1 hz hencp
                  clear hx0 hz0
                  have hzz : z = 1 ∨ z = 2 ∨ z = 3 ∨ z = 4 ∨ z = 5 ∨ z = 6 ∨ z = 7 ∨ z = 8 := by omega
                  clear hz
                  rcases hzz with rfl | rfl | rfl | rfl | rfl | rfl | rfl | rfl
                  · have henc := hide (show p.enc = le x 1 by rw [hencp.out]; rfl)
                    have hlen := hide (show (cat F n).length = (cat F k3).length + 1 + rest.length by rw [hcs'.out, henc.out]; simp only [List.length_append, le_length]; omega)
                    go_wp2_with fail
                    have hB1 : Below wr.heap.size wr (wr.alloc (.cells #[.int .u64 x, .int .i64 1, .string ⟨p.s.toArray⟩, .bool false] 62)) := (Below.refl _ _).alloc (Nat.le_refl _) _
                    have hs1 : wr.heap.size < (wr.alloc (.cells #[.int .u64 x, .int .i64 1, .string ⟨p.s.toArray⟩, .bool false] 62)).heap.size := by simp
                    have hB1' := hide hB1
                    clear c0 c1 c2 c3 hB1
                    generalize wr.alloc (.cells #[.int .u64 x, .int .i64 1, .string ⟨p.s.toArray⟩, .bool false] 62) = w1 at *
                    refine (rdNum_ok g u (cat F n) (cat F k3).length 1 w1 (hR3.out.below hB1'.out) (by have := hlen.out; omega) hcl2n (by omega) (by omega)).mono ?_
                    rintro e w3 ⟨rfl, hR3n, hT3⟩
                    have htx : (List.take 1 (List.drop (cat F k3).length (cat F n))) = le x 1 := by rw [hcs'.out, henc.out]; exact cut_mid _ _ _ _ (le_length _ _)
                    rw [htx, num_le, show ((x % 256 ^ 1 : Nat) : Int) = (x : Int) % 256 by omega]
                    have hRz : Hid (Rd w3 g u (cat F n) (cat F (k3 + 1)).length) := by
                      have e : (cat F (k3 + 1)).length = (cat F k3).length + 1 := by rw [hsucc.out, henc.out, List.length_append, le_length]
                      rw [e]; exact hR3n
                    have hTB := hide (hb3'.out.trans (hB1'.out.mono hbs3))
                    have hB3 := hide (hTB.out.trans (hT3.below hTB.out.size (fun k hk e => by omega)))
                    have hs3 : w1.heap.size ≤ w3.heap.size := hT3.size
                    clear htx hT3 hR3n
                    go_wp2_with fail
                    go_roundw
                    case rel => exact ⟨k3 + 1, by omega, by go_num, hRz.out, by omega, hB3.out⟩
                    case measure => simp [intOf]; omega
                  · have henc := hide (show p.enc = le x 2 by rw [hencp.out]; rfl)
                    have hlen := hide (show (cat F n).length = (cat F k3).length + 2 + rest.length by rw [hcs'.out, henc.out]; simp only [List.length_append, le_length]; omega)
                    go_wp2_with fail
                    have hB1 : Below wr.heap.size wr (wr.alloc (.cells #[.int .u64 x, .int .i64 2, .string ⟨p.s.toArray⟩, .bool false] 62)) := (Below.refl _ _).alloc (Nat.le_refl _) _
                    have hs1 : wr.heap.size < (wr.alloc (.cells #[.int .u64 x, .int .i64 2, .string ⟨p.s.toArray⟩, .bool false] 62)).heap.size := by simp
                    have hB1' := hide hB1
                    clear c0 c1 c2 c3 hB1
                    generalize wr.alloc (.cells #[.int .u64 x, .int .i64 2, .string ⟨p.s.toArray⟩, .bool false] 62) = w1 at *
                    refine (rdNum_ok g u (cat F n) (cat F k3).length 2 w1 (hR3.out.below hB1'.out) (by have := hlen.out; omega) hcl2n (by omega) (by omega)).mono ?_
                    rintro e w3 ⟨rfl, hR3n, hT3⟩
                    have htx : (List.take 2 (List.drop (cat F k3).length (cat F n))) = le x 2 := by rw [hcs'.out, henc.out]; exact cut_mid _ _ _ _ (le_length _ _)
                    rw [htx, num_le, show ((x % 256 ^ 2 : Nat) : Int) = (x : Int) % 65536 by omega]
                    have hRz : Hid (Rd w3 g u (cat F n) (cat F (k3 + 1)).length) := by
                      have e : (cat F (k3 + 1)).length = (cat F k3).length + 2 := by rw [hsucc.out, henc.out, List.length_append, le_length]
                      rw [e]; exact hR3n
                    have hTB := hide (hb3'.out.trans (hB1'.out.mono hbs3))
                    have hB3 := hide (hTB.out.trans (hT3.below hTB.out.size (fun k hk e => by omega)))
                    have hs3 : w1.heap.size ≤ w3.heap.size := hT3.size
                    clear htx hT3 hR3n
                    go_wp2_with fail
                    go_roundw
                    case rel => exact ⟨k3 + 1, by omega, by go_num, hRz.out, by omega, hB3.out⟩
                    case measure => simp [intOf]; omega
                  · have henc := hide (show p.enc = le x 3 by rw [hencp.out]; rfl)
                    have hlen := hide (show (cat F n).length = (cat F k3).length + 3 + rest.length by rw [hcs'.out, henc.out]; simp only [List.length_append, le_length]; omega)
                    go_wp2_with fail
                    have hB1 : Below wr.heap.size wr (wr.alloc (.cells #[.int .u64 x, .int .i64 3, .string ⟨p.s.toArray⟩, .bool false] 62)) := (Below.refl _ _).alloc (Nat.le_refl _) _
                    have hs1 : wr.heap.size < (wr.alloc (.cells #[.int .u64 x, .int .i64 3, .string ⟨p.s.toArray⟩, .bool false] 62)).heap.size := by simp
                    have hB1' := hide hB1
                    clear c0 c1 c2 c3 hB1
                    generalize wr.alloc (.cells #[.int .u64 x, .int .i64 3, .string ⟨p.s.toArray⟩, .bool false] 62) = w1 at *
                    refine (rdNum_ok g u (cat F n) (cat F k3).length 3 w1 (hR3.out.below hB1'.out) (by have := hlen.out; omega) hcl2n (by omega) (by omega)).mono ?_
                    rintro e w3 ⟨rfl, hR3n, hT3⟩
                    have htx : (List.take 3 (List.drop (cat F k3).length (cat F n))) = le x 3 := by rw [hcs'.out, henc.out]; exact cut_mid _ _ _ _ (le_length _ _)
                    rw [htx, num_le, show ((x % 256 ^ 3 : Nat) : Int) = (x : Int) % 16777216 by omega]
                    have hRz : Hid (Rd w3 g u (cat F n) (cat F (k3 + 1)).length) := by
                      have e : (cat F (k3 + 1)).length = (cat F k3).length + 3 := by rw [hsucc.out, henc.out, List.length_append, le_length]
                      rw [e]; exact hR3n
                    have hTB := hide (hb3'.out.trans (hB1'.out.mono hbs3))
                    have hB3 := hide (hTB.out.trans (hT3.below hTB.out.size (fun k hk e => by omega)))
                    have hs3 : w1.heap.size ≤ w3.heap.size := hT3.size
                    clear htx hT3 hR3n
                    go_wp2_with fail
                    go_roundw
                    case rel => exact ⟨k3 + 1, by omega, by go_num, hRz.out, by omega, hB3.out⟩
                    case measure => simp [intOf]; omega
                  · have henc := hide (show p.enc = le x 4 by rw [hencp.out]; rfl)
                    have hlen := hide (show (cat F n).length = (cat F k3).length + 4 + rest.length by rw [hcs'.out, henc.out]; simp only [List.length_append, le_length]; omega)
                    go_wp2_with fail
                    have hB1 : Below wr.heap.size wr (wr.alloc (.cells #[.int .u64 x, .int .i64 4, .string ⟨p.s.toArray⟩, .bool false] 62)) := (Below.refl _ _).alloc (Nat.le_refl _) _
                    have hs1 : wr.heap.size < (wr.alloc (.cells #[.int .u64 x, .int .i64 4, .string ⟨p.s.toArray⟩, .bool false] 62)).heap.size := by simp
                    have hB1' := hide hB1
                    clear c0 c1 c2 c3 hB1
                    generalize wr.alloc (.cells #[.int .u64 x, .int .i64 4, .string ⟨p.s.toArray⟩, .bool false] 62) = w1 at *
                    refine (rdNum_ok g u (cat F n) (cat F k3).length 4 w1 (hR3.out.below hB1'.out) (by have := hlen.out; omega) hcl2n (by omega) (by omega)).mono ?_
                    rintro e w3 ⟨rfl, hR3n, hT3⟩
                    have htx : (List.take 4 (List.drop (cat F k3).length (cat F n))) = le x 4 := by rw [hcs'.out, henc.out]; exact cut_mid _ _ _ _ (le_length _ _)
                    rw [htx, num_le, show ((x % 256 ^ 4 : Nat) : Int) = (x : Int) % 4294967296 by omega]
                    have hRz : Hid (Rd w3 g u (cat F n) (cat F (k3 + 1)).length) := by
                      have e : (cat F (k3 + 1)).length = (cat F k3).length + 4 := by rw [hsucc.out, henc.out, List.length_append, le_length]
                      rw [e]; exact hR3n
                    have hTB := hide (hb3'.out.trans (hB1'.out.mono hbs3))
                    have hB3 := hide (hTB.out.trans (hT3.below hTB.out.size (fun k hk e => by omega)))
                    have hs3 : w1.heap.size ≤ w3.heap.size := hT3.size
                    clear htx hT3 hR3n
                    go_wp2_with fail
                    go_roundw
                    case rel => exact ⟨k3 + 1, by omega, by go_num, hRz.out, by omega, hB3.out⟩
                    case measure => simp [intOf]; omega
                  · have henc := hide (show p.enc = le x 5 by rw [hencp.out]; rfl)
                    have hlen := hide (show (cat F n).length = (cat F k3).length + 5 + rest.length by rw [hcs'.out, henc.out]; simp only [List.length_append, le_length]; omega)
                    go_wp2_with fail
                    have hB1 : Below wr.heap.size wr (wr.alloc (.cells #[.int .u64 x, .int .i64 5, .string ⟨p.s.toArray⟩, .bool false] 62)) := (Below.refl _ _).alloc (Nat.le_refl _) _
                    have hs1 : wr.heap.size < (wr.alloc (.cells #[.int .u64 x, .int .i64 5, .string ⟨p.s.toArray⟩, .bool false] 62)).heap.size := by simp
                    have hB1' := hide hB1
                    clear c0 c1 c2 c3 hB1
                    generalize wr.alloc (.cells #[.int .u64 x, .int .i64 5, .string ⟨p.s.toArray⟩, .bool false] 62) = w1 at *
                    refine (rdNum_ok g u (cat F n) (cat F k3).length 5 w1 (hR3.out.below hB1'.out) (by have := hlen.out; omega) hcl2n (by omega) (by omega)).mono ?_
                    rintro e w3 ⟨rfl, hR3n, hT3⟩
                    have htx : (List.take 5 (List.drop (cat F k3).length (cat F n))) = le x 5 := by rw [hcs'.out, henc.out]; exact cut_mid _ _ _ _ (le_length _ _)
                    rw [htx, num_le, show ((x % 256 ^ 5 : Nat) : Int) = (x : Int) % 1099511627776 by omega]
                    have hRz : Hid (Rd w3 g u (cat F n) (cat F (k3 + 1)).length) := by
                      have e : (cat F (k3 + 1)).length = (cat F k3).length + 5 := by rw [hsucc.out, henc.out, List.length_append, le_length]
                      rw [e]; exact hR3n
                    have hTB := hide (hb3'.out.trans (hB1'.out.mono hbs3))
                    have hB3 := hide (hTB.out.trans (hT3.below hTB.out.size (fun k hk e => by omega)))
                    have hs3 : w1.heap.size ≤ w3.heap.size := hT3.size
                    clear htx hT3 hR3n
                    go_wp2_with fail
                    go_roundw
                    case rel => exact ⟨k3 + 1, by omega, by go_num, hRz.out, by omega, hB3.out⟩
                    case measure => simp [intOf]; omega
                  · have henc := hide (show p.enc = le x 6 by rw [hencp.out]; rfl)
                    have hlen := hide (show (cat F n).length = (cat F k3).length + 6 + rest.length by rw [hcs'.out, henc.out]; simp only [List.length_append, le_length]; omega)
                    go_wp2_with fail
                    have hB1 : Below wr.heap.size wr (wr.alloc (.cells #[.int .u64 x, .int .i64 6, .string ⟨p.s.toArray⟩, .bool false] 62)) := (Below.refl _ _).alloc (Nat.le_refl _) _
                    have hs1 : wr.heap.size < (wr.alloc (.cells #[.int .u64 x, .int .i64 6, .string ⟨p.s.toArray⟩, .bool false] 62)).heap.size := by simp
                    have hB1' := hide hB1
                    clear c0 c1 c2 c3 hB1
                    generalize wr.alloc (.cells #[.int .u64 x, .int .i64 6, .string ⟨p.s.toArray⟩, .bool false] 62) = w1 at *
                    refine (rdNum_ok g u (cat F n) (cat F k3).length 6 w1 (hR3.out.below hB1'.out) (by have := hlen.out; omega) hcl2n (by omega) (by omega)).mono ?_
                    rintro e w3 ⟨rfl, hR3n, hT3⟩
                    have htx : (List.take 6 (List.drop (cat F k3).length (cat F n))) = le x 6 := by rw [hcs'.out, henc.out]; exact cut_mid _ _ _ _ (le_length _ _)
                    rw [htx, num_le, show ((x % 256 ^ 6 : Nat) : Int) = (x : Int) % 281474976710656 by omega]
                    have hRz : Hid (Rd w3 g u (cat F n) (cat F (k3 + 1)).length) := by
                      have e : (cat F (k3 + 1)).length = (cat F k3).length + 6 := by rw [hsucc.out, henc.out, List.length_append, le_length]
                      rw [e]; exact hR3n
                    have hTB := hide (hb3'.out.trans (hB1'.out.mono hbs3))
                    have hB3 := hide (hTB.out.trans (hT3.below hTB.out.size (fun k hk e => by omega)))
                    have hs3 : w1.heap.size ≤ w3.heap.size := hT3.size
                    clear htx hT3 hR3n
                    go_wp2_with fail
                    go_roundw
                    case rel => exact ⟨k3 + 1, by omega, by go_num, hRz.out, by omega, hB3.out⟩
                    case measure => simp [intOf]; omega
                  · have henc := hide (show p.enc = le x 7 by rw [hencp.out]; rfl)
                    have hlen := hide (show (cat F n).length = (cat F k3).length + 7 + rest.length by rw [hcs'.out, henc.out]; simp only [List.length_append, le_length]; omega)
                    go_wp2_with fail
                    have hB1 : Below wr.heap.size wr (wr.alloc (.cells #[.int .u64 x, .int .i64 7, .string ⟨p.s.toArray⟩, .bool false] 62)) := (Below.refl _ _).alloc (Nat.le_refl _) _
                    have hs1 : wr.heap.size < (wr.alloc (.cells #[.int .u64 x, .int .i64 7, .string ⟨p.s.toArray⟩, .bool false] 62)).heap.size := by simp
                    have hB1' := hide hB1
                    clear c0 c1 c2 c3 hB1
                    generalize wr.alloc (.cells #[.int .u64 x, .int .i64 7, .string ⟨p.s.toArray⟩, .bool false] 62) = w1 at *
                    refine (rdNum_ok g u (cat F n) (cat F k3).length 7 w1 (hR3.out.below hB1'.out) (by have := hlen.out; omega) hcl2n (by omega) (by omega)).mono ?_
                    rintro e w3 ⟨rfl, hR3n, hT3⟩
                    have htx : (List.take 7 (List.drop (cat F k3).length (cat F n))) = le x 7 := by rw [hcs'.out, henc.out]; exact cut_mid _ _ _ _ (le_length _ _)
                    rw [htx, num_le, show ((x % 256 ^ 7 : Nat) : Int) = (x : Int) % 72057594037927936 by omega]
                    have hRz : Hid (Rd w3 g u (cat F n) (cat F (k3 + 1)).length) := by
                      have e : (cat F (k3 + 1)).length = (cat F k3).length + 7 := by rw [hsucc.out, henc.out, List.length_append, le_length]
                      rw [e]; exact hR3n
                    have hTB := hide (hb3'.out.trans (hB1'.out.mono hbs3))
                    have hB3 := hide (hTB.out.trans (hT3.below hTB.out.size (fun k hk e => by omega)))
                    have hs3 : w1.heap.size ≤ w3.heap.size := hT3.size
                    clear htx hT3 hR3n
                    go_wp2_with fail
                    go_roundw
                    case rel => exact ⟨k3 + 1, by omega, by go_num, hRz.out, by omega, hB3.out⟩
                    case measure => simp [intOf]; omega
                  · have henc := hide (show p.enc = le x 8 by rw [hencp.out]; rfl)
                    have hlen := hide (show (cat F n).length = (cat F k3).length + 8 + rest.length by rw [hcs'.out, henc.out]; simp only [List.length_append, le_length]; omega)
                    go_wp2_with fail
                    have hB1 : Below wr.heap.size wr (wr.alloc (.cells #[.int .u64 x, .int .i64 8, .string ⟨p.s.toArray⟩, .bool false] 62)) := (Below.refl _ _).alloc (Nat.le_refl _) _
                    have hs1 : wr.heap.size < (wr.alloc (.cells #[.int .u64 x, .int .i64 8, .string ⟨p.s.toArray⟩, .bool false] 62)).heap.size := by simp
                    have hB1' := hide hB1
                    clear c0 c1 c2 c3 hB1
                    generalize wr.alloc (.cells #[.int .u64 x, .int .i64 8, .string ⟨p.s.toArray⟩, .bool false] 62) = w1 at *
                    refine (rdNum_ok g u (cat F n) (cat F k3).length 8 w1 (hR3.out.below hB1'.out) (by have := hlen.out; omega) hcl2n (by omega) (by omega)).mono ?_
                    rintro e w3 ⟨rfl, hR3n, hT3⟩
                    have htx : (List.take 8 (List.drop (cat F k3).length (cat F n))) = le x 8 := by rw [hcs'.out, henc.out]; exact cut_mid _ _ _ _ (le_length _ _)
                    rw [htx, num_le, show ((x % 256 ^ 8 : Nat) : Int) = (x : Int) % 18446744073709551616 by omega]
                    have hRz : Hid (Rd w3 g u (cat F n) (cat F (k3 + 1)).length) := by
                      have e : (cat F (k3 + 1)).length = (cat F k3).length + 8 := by rw [hsucc.out, henc.out, List.length_append, le_length]
                      rw [e]; exact hR3n
                    have hTB := hide (hb3'.out.trans (hB1'.out.mono hbs3))
                    have hB3 := hide (hTB.out.trans (hT3.below hTB.out.size (fun k hk e => by omega)))
                    have hs3 : w1.heap.size ≤ w3.heap.size := hT3.size
                    clear htx hT3 hR3n
                    go_wp2_with fail
                    go_roundw
                    case rel => exact ⟨k3 + 1, by omega, by go_num, hRz.out, by omega, hB3.out⟩
                    case measure => simp [intOf]; omega
                · have henc := hide (show p.enc = [] by rw [hencp.out]; exact if_neg hz)
                  have hzI := hide hok.out.2.1
                  clear hok hencp
                  have hc : p.z < 1 ∨ (1 ≤ p.z ∧ 8 < p.z) := by omega
                  clear hz
                  obtain ⟨z, hz⟩ : ∃ z, z = p.z := ⟨_, rfl⟩
                  rw [← hz] at hc hzI c1
                  clear hz
                  rcases hc with hz | ⟨hz, hz2⟩
                  · have hd : decide (1 ≤ z) = false := decide_eq_false (by omega)
                    go_wp2_with fail
                    have hB1 : Below wr.heap.size wr (wr.alloc (.cells #[.int .u64 p.n, .int .i64 z, .string ⟨p.s.toArray⟩, .bool false] 62)) := (Below.refl _ _).alloc (Nat.le_refl _) _
                    have hs1 : wr.heap.size < (wr.alloc (.cells #[.int .u64 p.n, .int .i64 z, .string ⟨p.s.toArray⟩, .bool false] 62)).heap.size := by simp
                    have x2 : (wr.alloc (.cells #[.int .u64 p.n, .int .i64 z, .string ⟨p.s.toArray⟩, .bool false] 62)).cell? ⟨wr.heap.size, 2, none⟩ = some (.string ⟨p.s.toArray⟩) := by simp [go_sem]
                    have hB1' := hide hB1
                    have x2' := hide x2
                    clear c0 c1 c2 c3 hB1 x2
                    generalize wr.alloc (.cells #[.int .u64 p.n, .int .i64 z, .string ⟨p.s.toArray⟩, .bool false] 62) = w1 at *
                    go_roundw
                    case rel =>
                      refine ⟨k3 + 1, by omega, by go_num, ?_, by omega, hb3'.out.trans (hB1'.out.mono hbs3)⟩
                      have e : (cat F (k3 + 1)).length = (cat F k3).length := by rw [hsucc.out, henc.out]; simp
                      rw [e]
                      exact hR3.out.below hB1'.out
                    case measure => simp [intOf]; omega
                  · have hd : decide (1 ≤ z) = true := decide_eq_true (by omega)
                    have hd2 : decide (z ≤ 8) = false := decide_eq_false (by omega)
                    go_wp2_with fail
                    have hB1 : Below wr.heap.size wr (wr.alloc (.cells #[.int .u64 p.n, .int .i64 z, .string ⟨p.s.toArray⟩, .bool false] 62)) := (Below.refl _ _).alloc (Nat.le_refl _) _
                    have hs1 : wr.heap.size < (wr.alloc (.cells #[.int .u64 p.n, .int .i64 z, .string ⟨p.s.toArray⟩, .bool false] 62)).heap.size := by simp
                    have x2 : (wr.alloc (.cells #[.int .u64 p.n, .int .i64 z, .string ⟨p.s.toArray⟩, .bool false] 62)).cell? ⟨wr.heap.size, 2, none⟩ = some (.string ⟨p.s.toArray⟩) := by simp [go_sem]
                    have hB1' := hide hB1
                    have x2' := hide x2
                    clear c0 c1 c2 c3 hB1 x2
                    generalize wr.alloc (.cells #[.int .u64 p.n, .int .i64 z, .string ⟨p.s.toArray⟩, .bool false] 62) = w1 at *
                    go_roundw
                    case rel =>
                      refine ⟨k3 + 1, by omega, by go_num, ?_, by omega, hb3'.out.trans (hB1'.out.mono hbs3)⟩
                      have e : (cat F (k3 + 1)).length = (cat F k3).length := by rw [hsucc.out, henc.out]; simp
                      rw [e]
                      exact hR3.out.below hB1'.out
                    case measure => simp [intOf]; omega
            · obtain rfl : n = k3 := by omega
              have hRf := hide (show RdAt wr g u .nilIface (cat F n) (cat F n).length 0 from hR3.out)
              have hEf := hide (hE'.out.below hb3'.out)
              clear hR3
              go_wp2_with fail
              refine (awake02 wr hEf.out).mono ?_
              rintro e w4 ⟨rfl, hb4⟩
              have hR4 := hide (Rd.below hRf.out hb4)
              have hB4 := hide (hb3'.out.trans (hb4.mono hbs3))
              clear hb4 hRf hEf hb3'
              go_wp2_with fail
              refine (rdEnd_none g u (cat F n) w4 hR4.out hcl2n).mono ?_
              rintro e w5 ⟨rfl, hq⟩
              have hR5 := hide (Rd.below hR4.out (hq.below _))
              have hB5 := hide (hB4.out.trans (hq.below _))
              clear hq hR4 hB4
              go_wp2_with fail
              refine (rdLeft_any g u .nilIface (cat F n) (cat F n).length 0 w5 hR5.out hcl2n).mono ?_
              rintro e w6 ⟨rfl, hq⟩
              rw [Nat.sub_self]
              have hR6 := hide (Rd.below hR5.out (hq.below _))
              have hB6 := hide (hB5.out.trans (hq.below _))
              clear hq hR5 hB5
              go_wp2_with fail
              refine (rdAt_any g u .nilIface (cat F n) (cat F n).length 0 w6 hR6.out).mono ?_
              rintro e w7 ⟨rfl, rfl⟩
              go_wp2_with fail
              go_ret
              exact ⟨rfl, hB6.out⟩
set_option maxRecDepth 100000 in
set_option maxHeartbeats 4000000 in
theorem octetBack_gt (A : Option Addr) (b off n c : Nat) (F : Nat → PutD) (w : World) (hA : 0 < n → A = some ⟨b, off, none⟩) (h : PutsAt w b off n F) (hF : ∀ i, i < n → (F i).Ok) (hn : n ≤ 9223372036854775807) (h40 : 40 < n) (hE : ErrT w) :
    Calls Tryd.prog 14 #[.slice A n c] w fun e w' => e = .returned (.bool true) ∧ Below w.heap.size w w' := by
  have hA' := hide hA
  clear hA
  have hE' := hide hE
  have h' := hide h
  have hF' := hide hF
  clear hE h hF
  have h40b : (40 : Int) < (n : Int) := by omega
  go_enter Tryd.func14, Tryd.ntmps14
  go_wp2_with fail
  go_loopw [3, 4] (fun v i wr => ∃ k : Nat, k ≤ 40 ∧ i = .int .i64 k ∧ OwnB wr w.heap.size 5 v (cat F k) ∧ Below w.heap.size w wr) (fun _ i _ => 40 - (intOf i).toNat)
  case atStart => exact ⟨0, by omega, rfl, World.ownsRow_nil _ _ _ _, Below.refl _ _⟩
  case round =>
    obtain ⟨k, hk, rfl, hown, hb⟩ := hrel
    have hown' := hide hown
    have hb' := hide hb
    have hbs := hb.size
    clear hown hb
    by_cases hlt : k < 40
    · obtain rfl : A = some ⟨b, off, none⟩ := hA'.out (by omega)
      have hkn : (k : Int) < (n : Int) := by omega
      have hk40 : (k : Int) < 40 := by omega
      have hP := h'.out.below hb'.out
      have hkl := hide (cat_le F k)
      have hok := hide (hF'.out k (by omega))
      have c0 := hP.c0 k (by omega)
      have c1 := hP.c1 k (by omega)
      have c2 := hP.c2 k (by omega)
      have c3 := hP.c3 k (by omega)
      have hblt := hP.lt (by omega)
      clear hP
      by_cases ht : (F k).t = true
      · rw [ht] at c3
        have henc := hide (show (F k).enc = textV (F k).s by unfold PutD.enc; rw [if_pos ht])
        have htl := hide (show (textV (F k).s).length ≤ 256 by rw [← henc.out]; exact (F k).enc_le)
        clear ht
        go_wp2_with fail
        refine (text_any (F k).s wr hok.out.2.2).mono ?_
        rintro e w2 ⟨u, rfl, hu, hb2⟩
        have hu' := hide hu
        have hown2 : Hid (OwnB w2 w.heap.size 5 u3 (cat F k)) := hown'.out.below hb2
        have hb2' := hide (hb'.out.trans (hb2.mono hbs))
        have hs2 := hb2.size
        have hlens := hide (show (cat F k).length + (textV (F k).s).length ≤ 20000 by have := hkl.out; have := htl.out; omega)
        clear hu hb2
        go_wp2_with ((at_builtin; refine list_app_any elem_bytes rfl (.tmp 25) (.tmp 31) rfl w.heap.size u3 (cat F k).length (bytesV (cat F k)) rfl hown2.out u (textV (F k).s).length (bytesV (textV (F k).s)) rfl (Sl.own hu'.out) (bytesV_one _) (by have := hlens.out; simp only [maxLen]; omega) (by have := hlens.out; omega) (by omega) ?_))
        intro v1 w3 hown3 hg3 hat3
        have hb3 : Below w.heap.size w w3 := hb2'.out.grown hg3 (by omega) (fun k hk => (hown2.out.lt k hk).1)
        have ho3 : Hid (OwnB w3 w.heap.size 5 v1 (cat F (k + 1))) := by
          rw [cat_succ]
          unfold OwnB
          rw [List.length_append, bytesV_append, henc.out]
          exact hown3
        have hb3' := hide hb3
        clear hown3 hg3 hat3 hb3
        go_wp2_with fail
        go_roundw
        case rel => exact ⟨k + 1, by omega, by go_num, ho3.out, hb3'.out⟩
        case measure => simp [intOf]; omega
      · rw [show (F k).t = false by simpa using ht] at c3
        have henc := hide (show (F k).enc = putV (F k).n (F k).z by unfold PutD.enc; rw [if_neg ht])
        have htl := hide (show (putV (F k).n (F k).z).length ≤ 256 by rw [← henc.out]; exact (F k).enc_le)
        clear ht
        have hnb : ¬ u3.ownBlock = some b := fun e => by have := (hown'.out.lt b e).1; have := h'.out.lt (by omega); omega
        have hwr : ∀ w', Later (fun x => u3.ownBlock = some x) wr w' → w'.cell? ⟨b, off + k*4, none⟩ = some (.int .u64 (F k).n) ∧ w'.cell? ⟨b, off + k*4 + 1, none⟩ = some (.int .i64 (F k).z) := fun w' hl => ⟨(Later.cell hl hblt hnb).1.trans c0, (Later.cell hl hblt hnb).1.trans c1⟩
        have hwr' := hide hwr
        clear hwr
        go_wp2_with fail
        have f0 : ∀ w', Later (fun x => u3.ownBlock = some x) wr.drew w' → w'.cell? ⟨b, off + k*4, none⟩ = some (.int .u64 (F k).n) := fun w' hl => (hwr'.out w' (later_trans _ _ _ _ (later_drew wr) hl)).1
        have f1 : ∀ w', Later (fun x => u3.ownBlock = some x) wr.drew w' → w'.cell? ⟨b, off + k*4 + 1, none⟩ = some (.int .i64 (F k).z) := fun w' hl => (hwr'.out w' (later_trans _ _ _ _ (later_drew wr) hl)).2
        clear hnb
        refine region_plan [(true, 0), (true, 1), (true, 2), (true, 3), (true, 4), (true, 5), (true, 6), (true, 7), (true, 8), (true, 9), (true, 10), (false, 11), (false, 12), (true, 13)] (Later fun x => u3.ownBlock = some x) (later_refl _) (later_trans _) (by kernel_rfl) (by kernel_rfl) (fun _ _ d _ _ h => by cases d <;> exact h) ?_
        repeat
          (first
            | (show wpPlan _ _ _ _ ((true, _) :: _) _ _
               refine plan_skip rfl (by rfl) ?_
               simp only [Act.put, List.setIfInBounds_toArray, List.set_cons_zero, List.set_cons_succ])
            | (show wpPlan _ _ _ _ ((false, _) :: _) _ _
               refine plan_skip_eff (later_refl _) rfl (by rfl) ?_
               simp only [Act.put, List.setIfInBounds_toArray, List.set_cons_zero, List.set_cons_succ])
            | (show wpPlan _ _ _ _ ((true, _) :: _) _ _
               refine plan_take (v := ?_) rfl (by rfl) (fun w' hw' => ?_) ?_
               rotate_left
               focus
                 go_simp
                 try with_reducible rfl
                 done
               simp only [Act.put, List.setIfInBounds_toArray, List.set_cons_zero, List.set_cons_succ]))
        refine plan_eff rfl (by rfl) (fun K hK => ?_)
        go_wp2_with fail
        refine (put_any (F k).n hok.out.1 (F k).z hok.out.2.1 wr.drew).mono ?_
        rintro e w2 ⟨u, rfl, hu, hb2⟩
        refine hK _ _ (later_false (below_later hb2 (Nat.le_refl _))) ?_
        clear hK K
        have hu' := hide hu
        have hq : Q wr wr.drew := Q.drew (Q.refl wr)
        have hown2 : Hid (OwnB w2 w.heap.size 5 u3 (cat F k)) := (hown'.out.below (hq.below _)).below hb2
        have hb2' : Hid (Below w.heap.size w w2) := (hb'.out.trans (hq.below _)).trans (hb2.mono hbs)
        have hs2 : wr.heap.size ≤ w2.heap.size := hb2.size
        have hlens := hide (show (cat F k).length + (putV (F k).n (F k).z).length ≤ 20000 by have := hkl.out; have := htl.out; omega)
        clear hu hb2 hq f0 f1
        try simp only [Act.put, List.setIfInBounds_toArray, List.set_cons_zero, List.set_cons_succ]
        repeat
          (first
            | (show wpPlan _ _ _ _ ((true, _) :: _) _ _
               refine plan_skip rfl (by rfl) ?_
               simp only [Act.put, List.setIfInBounds_toArray, List.set_cons_zero, List.set_cons_succ])
            | (show wpPlan _ _ _ _ ((false, _) :: _) _ _
               refine plan_skip_eff (later_refl _) rfl (by rfl) ?_
               simp only [Act.put, List.setIfInBounds_toArray, List.set_cons_zero, List.set_cons_succ])
            | (show wpPlan _ _ _ _ ((true, _) :: _) _ _
               refine plan_take (v := ?_) rfl (by rfl) (fun w' hw' => ?_) ?_
               rotate_left
               focus
                 go_simp
                 try with_reducible rfl
                 done
               simp only [Act.put, List.setIfInBounds_toArray, List.set_cons_zero, List.set_cons_succ]))
        refine plan_eff rfl (by rfl) (fun K hK => ?_)
        refine wp_app_any elem_bytes (.tmp 33) (.tmp 44) rfl w.heap.size u3 (cat F k).length (bytesV (cat F k)) rfl hown2.out u (putV (F k).n (F k).z).length (bytesV (putV (F k).n (F k).z)) rfl (Sl.own hu'.out) (bytesV_one _) (by have := hlens.out; simp only [maxLen]; omega) (by have := hlens.out; omega) (by omega) ?_
        intro v1 w3 hown3 hg3 hat3
        have hb3 : Below w.heap.size w w3 := hb2'.out.grown hg3 (by omega) (fun k hk => (hown2.out.lt k hk).1)
        have ho3 : Hid (OwnB w3 w.heap.size 5 v1 (cat F (k + 1))) := by
          rw [cat_succ]
          unfold OwnB
          rw [List.length_append, bytesV_append, henc.out]
          exact hown3
        have hb3' := hide hb3
        refine hK _ _ (later_grown hg3 (fun _ h => h)) ?_
        clear hK K hown3 hg3 hat3 hb3
        try simp only [Act.put, List.setIfInBounds_toArray, List.set_cons_zero, List.set_cons_succ]
        repeat
          (first
            | (show wpPlan _ _ _ _ ((true, _) :: _) _ _
               refine plan_skip rfl (by rfl) ?_
               simp only [Act.put, List.setIfInBounds_toArray, List.set_cons_zero, List.set_cons_succ])
            | (show wpPlan _ _ _ _ ((false, _) :: _) _ _
               refine plan_skip_eff (later_refl _) rfl (by rfl) ?_
               simp only [Act.put, List.setIfInBounds_toArray, List.set_cons_zero, List.set_cons_succ])
            | (show wpPlan _ _ _ _ ((true, _) :: _) _ _
               refine plan_take (v := ?_) rfl (by rfl) (fun w' hw' => ?_) ?_
               rotate_left
               focus
                 go_simp
                 try with_reducible rfl
                 done
               simp only [Act.put, List.setIfInBounds_toArray, List.set_cons_zero, List.set_cons_succ]))
        refine plan_nil ?_
        go_wp2_with fail
        go_roundw
        case rel => exact ⟨k + 1, by omega, by go_num, ho3.out, hb3'.out⟩
        case measure => simp [intOf]; omega
    · obtain rfl : 40 = k := by omega
      have hcl := hide (cat_le F 40)
      have hcl2 := hide (show (cat F 40).length ≤ 140737488355328 by have := hcl.out; omega)
      obtain ⟨X, cx, rfl, _, _, _⟩ := Sl.own hown'.out
      go_wp2_with fail
      refine (read_any _ (cat F 40) wr hown'.out.bs hcl2.out).mono ?_
      rintro e w2 ⟨g, u, rfl, hg, hu, hR, hb2⟩
      have hR' : Hid (Rd w2 g u (cat F 40) 0) := hR
      have hown2 : Hid (OwnB w2 w.heap.size 5 _ (cat F 40)) := hown'.out.below hb2
      have hb2' := hide (hb'.out.trans (hb2.mono hbs))
      have hu' := hide hu
      have hlt' := hide (fun x (e : (Value.slice X (cat F 40).length cx).ownBlock = some x) => hown'.out.lt x e)
      have h2s := hb2.size
      clear hR hb2 hu hown' hb'
      go_wp2_with fail
      obtain ⟨wo, rfl⟩ : ∃ wo : World, wo = wr := ⟨_, rfl⟩
      go_loopw [6] (fun i wr2 => ∃ k : Nat, ∃ m : List UInt8, k ≤ (cat F 40).length ∧ m.length = (cat F 40).length ∧ i = .int .i64 k ∧ wr2.ownsRow w.heap.size 5 1 (.slice X (cat F 40).length cx) (cat F 40).length (bytesV m) ∧ Rd wr2 g u (cat F 40) 0 ∧ wo.heap.size ≤ wr2.heap.size ∧ Below w.heap.size w wr2) (fun i _ => (cat F 40).length - (intOf i).toNat)
      case atStart => exact ⟨0, cat F 40, by omega, rfl, rfl, hown2.out, hR'.out, h2s, hb2'.out⟩
      case round =>
        obtain ⟨k2, m, hk2, hm, rfl, hown, hRa, sr, hbr⟩ := hrel
        have hcl2n := hcl2.out
        by_cases hlt2 : k2 < (cat F 40).length
        · obtain ⟨q, rfl⟩ : ∃ g, X = some ⟨g, 0, none⟩ := by
            rcases hown.2 with ⟨hh, h0⟩ | ⟨g, _, _, hh, _⟩
            · omega
            · injection hh with hh _ _; exact ⟨g, hh⟩
          have hgb := hlt'.out q rfl
          have hc2 := ownB_cell hown hm k2 hlt2
          have hf := hown.frozenAt k2
          have hst' := hide (ownB_store hown k2 255 (by omega))
          have hRa' := hide hRa
          clear hown hRa hown2 hR'
          generalize (cat F 40).length = L at *
          go_wp2_with fail
          go_roundw
          case rel =>
            have hL : Later (fun k => k = q) wr (wr.setCell ⟨q, k2, none⟩ (.int .u8 ((255 : Nat) : Int))) := later_setCell (F := fun k => k = q) wr (p := ⟨q, k2, none⟩) (.int .u8 ((255 : Nat) : Int)) rfl
            exact ⟨k2 + 1, m.set k2 (UInt8.ofNat 255), by omega, by rw [List.length_set]; exact hm, by go_num, hst'.out, Rd.later hRa'.out hL (fun e => by omega) (fun b hb e => by have := hu'.out b hb; omega), Nat.le_trans sr hL.1, hbr.setCell (show w.heap.size ≤ q by omega) _⟩
          case measure => simp [intOf]; omega
        · have hRa' := hide hRa
          have hbr' := hide hbr
          have hwrs : wo.heap.size ≤ wr.heap.size := sr
          clear hown hRa hbr hown2 hR' hb2'
          go_wp2_with fail
          obtain ⟨wp, rfl⟩ : ∃ wp : World, wp = wr := ⟨_, rfl⟩
          go_loopw [7] (fun i wr3 => ∃ k : Nat, k ≤ 40 ∧ i = .int .i64 k ∧ Rd wr3 g u (cat F 40) (cat F k).length ∧ wp.heap.size ≤ wr3.heap.size ∧ Below w.heap.size w wr3) (fun i _ => 40 - (intOf i).toNat)
          case atStart => exact ⟨0, by omega, rfl, hRa'.out, Nat.le_refl _, hbr'.out⟩
          case round =>
            obtain ⟨k3, hk3, rfl, hR, sr3, hb3⟩ := hrel
            have hR3 := hide hR
            have hb3' := hide hb3
            have hbs3 := hb3.size
            have hgw : w.heap.size ≤ g := by omega
            clear hR hb3 hRa' hbr'
            by_cases hlt3 : k3 < 40
            · obtain rfl : A = some ⟨b, off, none⟩ := hA'.out (by omega)
              have hkn : (k3 : Int) < (n : Int) := by omega
              have hk40 : (k3 : Int) < 40 := by omega
              have hP := h'.out.below hb3'.out
              have hok := hide (hF'.out k3 (by omega))
              have c0 := hP.c0 k3 (by omega)
              have c1 := hP.c1 k3 (by omega)
              have c2 := hP.c2 k3 (by omega)
              have c3 := hP.c3 k3 (by omega)
              obtain ⟨rest, hcs⟩ := cat_split F 40 k3 hlt3
              have hcs' := hide hcs
              have hsucc := hide (cat_succ F k3)
              clear hP hcs hlt'
              obtain ⟨p, hp⟩ : ∃ p, p = F k3 := ⟨_, rfl⟩
              rw [← hp] at c0 c1 c2 c3 hok hcs' hsucc
              clear hp
              by_cases ht : p.t = true
              · rw [ht] at c3
                by_cases hl : p.s.length ≤ 255
                · have henc := hide (show p.enc = UInt8.ofNat p.s.length :: p.s by unfold PutD.enc textV; rw [if_pos ht, if_pos hl])
                  have hsz := str_size p.s
                  have hd : decide ((p.s.length : Int) ≤ 255) = true := decide_eq_true (by omega)
                  have hd2 : decide (p.s.length ≤ 255) = true := decide_eq_true (by omega)
                  clear ht
                  have hgr := hR3.out.lt
                  go_wp2_with fail
                  have hB1 : Below wr.heap.size wr (wr.alloc (.cells #[.int .u64 p.n, .int .i64 p.z, .string ⟨p.s.toArray⟩, .bool true] 62)) := (Below.refl _ _).alloc (Nat.le_refl _) _
                  have hs1 : wr.heap.size < (wr.alloc (.cells #[.int .u64 p.n, .int .i64 p.z, .string ⟨p.s.toArray⟩, .bool true] 62)).heap.size := by simp
                  have x2 : (wr.alloc (.cells #[.int .u64 p.n, .int .i64 p.z, .string ⟨p.s.toArray⟩, .bool true] 62)).cell? ⟨wr.heap.size, 2, none⟩ = some (.string ⟨p.s.toArray⟩) := by simp [go_sem]
                  have hB1' := hide hB1
                  have x2' := hide x2
                  clear c0 c1 c2 c3 hB1 x2
                  generalize wr.alloc (.cells #[.int .u64 p.n, .int .i64 p.z, .string ⟨p.s.toArray⟩, .bool true] 62) = w1 at *
                  have hRn : Rd w1.drew g u (cat F 40) (cat F k3).length := hR3.out.below (hB1'.out.trans ((Q.drew (Q.refl w1)).below _))
                  have hRn' := hide hRn
                  have hlen := hide (show (cat F 40).length = (cat F k3).length + (1 + p.s.length) + rest.length by rw [hcs'.out, henc.out]; simp; omega)
                  have f2 : ∀ w', Later (fun x => x = g) w1.drew w' → w'.cell? ⟨wr.heap.size, 2, none⟩ = some (.string ⟨p.s.toArray⟩) := fun w' hl => (Later.cell hl hs1 (by omega)).1.trans x2'.out
                  clear hRn
                  refine region_plan [(true, 0), (true, 2), (true, 3), (false, 1), (true, 4)] (Later fun x => x = g) (later_refl _) (later_trans _) (by kernel_rfl) (by kernel_rfl) (fun _ _ d _ _ h => by cases d <;> exact h) ?_
                  repeat
                    (first
                      | (show wpPlan _ _ _ _ ((true, _) :: _) _ _
                         refine plan_skip rfl (by rfl) ?_
                         simp only [Act.put, List.setIfInBounds_toArray, List.set_cons_zero, List.set_cons_succ])
                      | (show wpPlan _ _ _ _ ((false, _) :: _) _ _
                         refine plan_skip_eff (later_refl _) rfl (by rfl) ?_
                         simp only [Act.put, List.setIfInBounds_toArray, List.set_cons_zero, List.set_cons_succ])
                      | (show wpPlan _ _ _ _ ((true, _) :: _) _ _
                         refine plan_take (v := ?_) rfl (by rfl) (fun w' hw' => ?_) ?_
                         rotate_left
                         focus
                           go_simp
                           try with_reducible rfl
                           done
                         simp only [Act.put, List.setIfInBounds_toArray, List.set_cons_zero, List.set_cons_succ]))
                  refine plan_eff rfl (by rfl) (fun K hK => ?_)
                  go_wp2_with fail
                  refine (rdText_ok g u (cat F 40) (cat F k3).length p.s.length w1.drew hRn'.out (by have := hlen.out; omega) (by simp only [hcs'.out, henc.out]; simp; omega) (by have := hlen.out; omega) hcl2n).mono ?_
                  rintro e w3 ⟨rfl, hR3n, hT3⟩
                  refine hK _ _ hT3.2 ?_
                  clear hK K
                  have htx : (List.take p.s.length (List.drop ((cat F k3).length + 1) (cat F 40))) = p.s := by rw [hcs'.out, henc.out]; exact cut_text _ _ _ _
                  rw [htx]
                  have hRz : Hid (Rd w3 g u (cat F 40) (cat F (k3 + 1)).length) := by
                    have e : (cat F (k3 + 1)).length = (cat F k3).length + 1 + p.s.length := by rw [hsucc.out, henc.out]; simp; omega
                    rw [e]; exact hR3n
                  have hTB := hide (hb3'.out.trans ((hB1'.out.trans ((Q.drew (Q.refl w1)).below _)).mono hbs3))
                  have hB3 := hide (hTB.out.trans (hT3.below (show w.heap.size ≤ w1.drew.heap.size from hTB.out.size) (fun k hk e => by omega)))
                  have hs3 : w1.heap.size ≤ w3.heap.size := hT3.size
                  clear htx hT3 hR3n f2 x2'
                  try simp only [Act.put, List.setIfInBounds_toArray, List.set_cons_zero, List.set_cons_succ]
                  repeat
                    (first
                      | (show wpPlan _ _ _ _ ((true, _) :: _) _ _
                         refine plan_skip rfl (by rfl) ?_
                         simp only [Act.put, List.setIfInBounds_toArray, List.set_cons_zero, List.set_cons_succ])
                      | (show wpPlan _ _ _ _ ((false, _) :: _) _ _
                         refine plan_skip_eff (later_refl _) rfl (by rfl) ?_
                         simp only [Act.put, List.setIfInBounds_toArray, List.set_cons_zero, List.set_cons_succ])
                      | (show wpPlan _ _ _ _ ((true, _) :: _) _ _
                         refine plan_take (v := ?_) rfl (by rfl) (fun w' hw' => ?_) ?_
                         rotate_left
                         focus
                           go_simp
                           try with_reducible rfl
                           done
                         simp only [Act.put, List.setIfInBounds_toArray, List.set_cons_zero, List.set_cons_succ]))
                  refine plan_nil ?_
                  go_wp2_with fail
                  go_roundw
                  case rel => exact ⟨k3 + 1, by omega, by go_num, hRz.out, by omega, hB3.out⟩
                  case measure => simp [intOf]; omega
                · have henc := hide (show p.enc = [] by unfold PutD.enc textV; rw [if_pos ht, if_neg hl])
                  have hsz := str_size p.s
                  have hd : decide ((p.s.length : Int) ≤ 255) = false := decide_eq_false (by omega)
                  have hd2 : decide (p.s.length ≤ 255) = false := decide_eq_false (by omega)
                  clear ht
                  have hgr := hR3.out.lt
                  go_wp2_with fail
                  have hB1 : Below wr.heap.size wr (wr.alloc (.cells #[.int .u64 p.n, .int .i64 p.z, .string ⟨p.s.toArray⟩, .bool true] 62)) := (Below.refl _ _).alloc (Nat.le_refl _) _
                  have hs1 : wr.heap.size < (wr.alloc (.cells #[.int .u64 p.n, .int .i64 p.z, .string ⟨p.s.toArray⟩, .bool true] 62)).heap.size := by simp
                  have x2 : (wr.alloc (.cells #[.int .u64 p.n, .int .i64 p.z, .string ⟨p.s.toArray⟩, .bool true] 62)).cell? ⟨wr.heap.size, 2, none⟩ = some (.string ⟨p.s.toArray⟩) := by simp [go_sem]
                  have hB1' := hide hB1
                  have x2' := hide x2
                  clear c0 c1 c2 c3 hB1 x2
                  generalize wr.alloc (.cells #[.int .u64 p.n, .int .i64 p.z, .string ⟨p.s.toArray⟩, .bool true] 62) = w1 at *
                  go_roundw
                  case rel =>
                    refine ⟨k3 + 1, by omega, by go_num, ?_, by omega, hb3'.out.trans (hB1'.out.mono hbs3)⟩
                    have e : (cat F (k3 + 1)).length = (cat F k3).length := by rw [hsucc.out, henc.out]; simp
                    rw [e]
                    exact hR3.out.below hB1'.out
                  case measure => simp [intOf]; omega
              · rw [show p.t = false by simpa using ht] at c3
                have hencp := hide (show p.enc = putV p.n p.z by unfold PutD.enc; rw [if_neg ht])
                clear ht
                have hgr := hR3.out.lt
                by_cases hz : 1 ≤ p.z ∧ p.z ≤ 8
                · have hpn := hok.out.1
                  clear hok
                  obtain ⟨x, hx0⟩ : ∃ x, x = p.n := ⟨_, rfl⟩
                  obtain ⟨z, hz0⟩ : ∃ z, z = p.z := ⟨_, rfl⟩
                  rw [← hx0] at c0 hpn hencp
                  rw [← hz0] at c1 hz hencp
                  clear hx0 hz0
                  have hzz : z = 1 ∨ z = 2 ∨ z = 3 ∨ z = 4 ∨ z = 5 ∨ z = 6 ∨ z = 7 ∨ z = 8 := by omega
                  clear hz
                  rcases hzz with rfl | rfl | rfl | rfl | rfl | rfl | rfl | rfl
                  · have henc := hide (show p.enc = le x 1 by rw [hencp.out]; rfl)
                    have hlen := hide (show (cat F 40).length = (cat F k3).length + 1 + rest.length by rw [hcs'.out, henc.out]; simp only [List.length_append, le_length]; omega)
                    go_wp2_with fail
                    have hB1 : Below wr.heap.size wr (wr.alloc (.cells #[.int .u64 x, .int .i64 1, .string ⟨p.s.toArray⟩, .bool false] 62)) := (Below.refl _ _).alloc (Nat.le_refl _) _
                    have hs1 : wr.heap.size < (wr.alloc (.cells #[.int .u64 x, .int .i64 1, .string ⟨p.s.toArray⟩, .bool false] 62)).heap.size := by simp
                    have hB1' := hide hB1
                    clear c0 c1 c2 c3 hB1
                    generalize wr.alloc (.cells #[.int .u64 x, .int .i64 1, .string ⟨p.s.toArray⟩, .bool false] 62) = w1 at *
                    refine (rdNum_ok g u (cat F 40) (cat F k3).length 1 w1 (hR3.out.below hB1'.out) (by have := hlen.out; omega) hcl2n (by omega) (by omega)).mono ?_
                    rintro e w3 ⟨rfl, hR3n, hT3⟩
                    have htx : (List.take 1 (List.drop (cat F k3).length (cat F 40))) = le x 1 := by rw [hcs'.out, henc.out]; exact cut_mid _ _ _ _ (le_length _ _)
                    rw [htx, num_le, show ((x % 256 ^ 1 : Nat) : Int) = (x : Int) % 256 by omega]
                    have hRz : Hid (Rd w3 g u (cat F 40) (cat F (k3 + 1)).length) := by
                      have e : (cat F (k3 + 1)).length = (cat F k3).length + 1 := by rw [hsucc.out, henc.out, List.length_append, le_length]
                      rw [e]; exact hR3n
                    have hTB := hide (hb3'.out.trans (hB1'.out.mono hbs3))
                    have hB3 := hide (hTB.out.trans (hT3.below hTB.out.size (fun k hk e => by omega)))
                    have hs3 : w1.heap.size ≤ w3.heap.size := hT3.size
                    clear htx hT3 hR3n
                    go_wp2_with fail
                    go_roundw
                    case rel => exact ⟨k3 + 1, by omega, by go_num, hRz.out, by omega, hB3.out⟩
                    case measure => simp [intOf]; omega
                  · have henc := hide (show p.enc = le x 2 by rw [hencp.out]; rfl)
                    have hlen := hide (show (cat F 40).length = (cat F k3).length + 2 + rest.length by rw [hcs'.out, henc.out]; simp only [List.length_append, le_length]; omega)
                    go_wp2_with fail
                    have hB1 : Below wr.heap.size wr (wr.alloc (.cells #[.int .u64 x, .int .i64 2, .string ⟨p.s.toArray⟩, .bool false] 62)) := (Below.refl _ _).alloc (Nat.le_refl _) _
                    have hs1 : wr.heap.size < (wr.alloc (.cells #[.int .u64 x, .int .i64 2, .string ⟨p.s.toArray⟩, .bool false] 62)).heap.size := by simp
                    have hB1' := hide hB1
                    clear c0 c1 c2 c3 hB1
                    generalize wr.alloc (.cells #[.int .u64 x, .int .i64 2, .string ⟨p.s.toArray⟩, .bool false] 62) = w1 at *
                    refine (rdNum_ok g u (cat F 40) (cat F k3).length 2 w1 (hR3.out.below hB1'.out) (by have := hlen.out; omega) hcl2n (by omega) (by omega)).mono ?_
                    rintro e w3 ⟨rfl, hR3n, hT3⟩
                    have htx : (List.take 2 (List.drop (cat F k3).length (cat F 40))) = le x 2 := by rw [hcs'.out, henc.out]; exact cut_mid _ _ _ _ (le_length _ _)
                    rw [htx, num_le, show ((x % 256 ^ 2 : Nat) : Int) = (x : Int) % 65536 by omega]
                    have hRz : Hid (Rd w3 g u (cat F 40) (cat F (k3 + 1)).length) := by
                      have e : (cat F (k3 + 1)).length = (cat F k3).length + 2 := by rw [hsucc.out, henc.out, List.length_append, le_length]
                      rw [e]; exact hR3n
                    have hTB := hide (hb3'.out.trans (hB1'.out.mono hbs3))
                    have hB3 := hide (hTB.out.trans (hT3.below hTB.out.size (fun k hk e => by omega)))
                    have hs3 : w1.heap.size ≤ w3.heap.size := hT3.size
                    clear htx hT3 hR3n
                    go_wp2_with fail
                    go_roundw
                    case rel => exact ⟨k3 + 1, by omega, by go_num, hRz.out, by omega, hB3.out⟩
                    case measure => simp [intOf]; omega
                  · have henc := hide (show p.enc = le x 3 by rw [hencp.out]; rfl)
                    have hlen := hide (show (cat F 40).length = (cat F k3).length + 3 + rest.length by rw [hcs'.out, henc.out]; simp only [List.length_append, le_length]; omega)
                    go_wp2_with fail
                    have hB1 : Below wr.heap.size wr (wr.alloc (.cells #[.int .u64 x, .int .i64 3, .string ⟨p.s.toArray⟩, .bool false] 62)) := (Below.refl _ _).alloc (Nat.le_refl _) _
                    have hs1 : wr.heap.size < (wr.alloc (.cells #[.int .u64 x, .int .i64 3, .string ⟨p.s.toArray⟩, .bool false] 62)).heap.size := by simp
                    have hB1' := hide hB1
                    clear c0 c1 c2 c3 hB1
                    generalize wr.alloc (.cells #[.int .u64 x, .int .i64 3, .string ⟨p.s.toArray⟩, .bool false] 62) = w1 at *
                    refine (rdNum_ok g u (cat F 40) (cat F k3).length 3 w1 (hR3.out.below hB1'.out) (by have := hlen.out; omega) hcl2n (by omega) (by omega)).mono ?_
                    rintro e w3 ⟨rfl, hR3n, hT3⟩
                    have htx : (List.take 3 (List.drop (cat F k3).length (cat F 40))) = le x 3 := by rw [hcs'.out, henc.out]; exact cut_mid _ _ _ _ (le_length _ _)
                    rw [htx, num_le, show ((x % 256 ^ 3 : Nat) : Int) = (x : Int) % 16777216 by omega]
                    have hRz : Hid (Rd w3 g u (cat F 40) (cat F (k3 + 1)).length) := by
                      have e : (cat F (k3 + 1)).length = (cat F k3).length + 3 := by rw [hsucc.out, henc.out, List.length_append, le_length]
                      rw [e]; exact hR3n
                    have hTB := hide (hb3'.out.trans (hB1'.out.mono hbs3))
                    have hB3 := hide (hTB.out.trans (hT3.below hTB.out.size (fun k hk e => by omega)))
                    have hs3 : w1.heap.size ≤ w3.heap.size := hT3.size
                    clear htx hT3 hR3n
                    go_wp2_with fail
                    go_roundw
                    case rel => exact ⟨k3 + 1, by omega, by go_num, hRz.out, by omega, hB3.out⟩
                    case measure => simp [intOf]; omega
                  · have henc := hide (show p.enc = le x 4 by rw [hencp.out]; rfl)
                    have hlen := hide (show (cat F 40).length = (cat F k3).length + 4 + rest.length by rw [hcs'.out, henc.out]; simp only [List.length_append, le_length]; omega)
                    go_wp2_with fail
                    have hB1 : Below wr.heap.size wr (wr.alloc (.cells #[.int .u64 x, .int .i64 4, .string ⟨p.s.toArray⟩, .bool false] 62)) := (Below.refl _ _).alloc (Nat.le_refl _) _
                    have hs1 : wr.heap.size < (wr.alloc (.cells #[.int .u64 x, .int .i64 4, .string ⟨p.s.toArray⟩, .bool false] 62)).heap.size := by simp
                    have hB1' := hide hB1
                    clear c0 c1 c2 c3 hB1
                    generalize wr.alloc (.cells #[.int .u64 x, .int .i64 4, .string ⟨p.s.toArray⟩, .bool false] 62) = w1 at *
                    refine (rdNum_ok g u (cat F 40) (cat F k3).length 4 w1 (hR3.out.below hB1'.out) (by have := hlen.out; omega) hcl2n (by omega) (by omega)).mono ?_
                    rintro e w3 ⟨rfl, hR3n, hT3⟩
                    have htx : (List.take 4 (List.drop (cat F k3).length (cat F 40))) = le x 4 := by rw [hcs'.out, henc.out]; exact cut_mid _ _ _ _ (le_length _ _)
                    rw [htx, num_le, show ((x % 256 ^ 4 : Nat) : Int) = (x : Int) % 4294967296 by omega]
                    have hRz : Hid (Rd w3 g u (cat F 40) (cat F (k3 + 1)).length) := by
                      have e : (cat F (k3 + 1)).length = (cat F k3).length + 4 := by rw [hsucc.out, henc.out, List.length_append, le_length]
                      rw [e]; exact hR3n
                    have hTB := hide (hb3'.out.trans (hB1'.out.mono hbs3))
                    have hB3 := hide (hTB.out.trans (hT3.below hTB.out.size (fun k hk e => by omega)))
                    have hs3 : w1.heap.size ≤ w3.heap.size := hT3.size
                    clear htx hT3 hR3n
                    go_wp2_with fail
                    go_roundw
                    case rel => exact ⟨k3 + 1, by omega, by go_num, hRz.out, by omega, hB3.out⟩
                    case measure => simp [intOf]; omega
                  · have henc := hide (show p.enc = le x 5 by rw [hencp.out]; rfl)
                    have hlen := hide (show (cat F 40).length = (cat F k3).length + 5 + rest.length by rw [hcs'.out, henc.out]; simp only [List.length_append, le_length]; omega)
                    go_wp2_with fail
                    have hB1 : Below wr.heap.size wr (wr.alloc (.cells #[.int .u64 x, .int .i64 5, .string ⟨p.s.toArray⟩, .bool false] 62)) := (Below.refl _ _).alloc (Nat.le_refl _) _
                    have hs1 : wr.heap.size < (wr.alloc (.cells #[.int .u64 x, .int .i64 5, .string ⟨p.s.toArray⟩, .bool false] 62)).heap.size := by simp
                    have hB1' := hide hB1
                    clear c0 c1 c2 c3 hB1
                    generalize wr.alloc (.cells #[.int .u64 x, .int .i64 5, .string ⟨p.s.toArray⟩, .bool false] 62) = w1 at *
                    refine (rdNum_ok g u (cat F 40) (cat F k3).length 5 w1 (hR3.out.below hB1'.out) (by have := hlen.out; omega) hcl2n (by omega) (by omega)).mono ?_
                    rintro e w3 ⟨rfl, hR3n, hT3⟩
                    have htx : (List.take 5 (List.drop (cat F k3).length (cat F 40))) = le x 5 := by rw [hcs'.out, henc.out]; exact cut_mid _ _ _ _ (le_length _ _)
                    rw [htx, num_le, show ((x % 256 ^ 5 : Nat) : Int) = (x : Int) % 1099511627776 by omega]
                    have hRz : Hid (Rd w3 g u (cat F 40) (cat F (k3 + 1)).length) := by
                      have e : (cat F (k3 + 1)).length = (cat F k3).length + 5 := by rw [hsucc.out, henc.out, List.length_append, le_length]
                      rw [e]; exact hR3n
                    have hTB := hide (hb3'.out.trans (hB1'.out.mono hbs3))
                    have hB3 := hide (hTB.out.trans (hT3.below hTB.out.size (fun k hk e => by omega)))
                    have hs3 : w1.heap.size ≤ w3.heap.size := hT3.size
                    clear htx hT3 hR3n
                    go_wp2_with fail
                    go_roundw
                    case rel => exact ⟨k3 + 1, by omega, by go_num, hRz.out, by omega, hB3.out⟩
                    case measure => simp [intOf]; omega
                  · have henc := hide (show p.enc = le x 6 by rw [hencp.out]; rfl)
                    have hlen := hide (show (cat F 40).length = (cat F k3).length + 6 + rest.length by rw [hcs'.out, henc.out]; simp only [List.length_append, le_length]; omega)
                    go_wp2_with fail
                    have hB1 : Below wr.heap.size wr (wr.alloc (.cells #[.int .u64 x, .int .i64 6, .string ⟨p.s.toArray⟩, .bool false] 62)) := (Below.refl _ _).alloc (Nat.le_refl _) _
                    have hs1 : wr.heap.size < (wr.alloc (.cells #[.int .u64 x, .int .i64 6, .string ⟨p.s.toArray⟩, .bool false] 62)).heap.size := by simp
                    have hB1' := hide hB1
                    clear c0 c1 c2 c3 hB1
                    generalize wr.alloc (.cells #[.int .u64 x, .int .i64 6, .string ⟨p.s.toArray⟩, .bool false] 62) = w1 at *
                    refine (rdNum_ok g u (cat F 40) (cat F k3).length 6 w1 (hR3.out.below hB1'.out) (by have := hlen.out; omega) hcl2n (by omega) (by omega)).mono ?_
                    rintro e w3 ⟨rfl, hR3n, hT3⟩
                    have htx : (List.take 6 (List.drop (cat F k3).length (cat F 40))) = le x 6 := by rw [hcs'.out, henc.out]; exact cut_mid _ _ _ _ (le_length _ _)
                    rw [htx, num_le, show ((x % 256 ^ 6 : Nat) : Int) = (x : Int) % 281474976710656 by omega]
                    have hRz : Hid (Rd w3 g u (cat F 40) (cat F (k3 + 1)).length) := by
                      have e : (cat F (k3 + 1)).length = (cat F k3).length + 6 := by rw [hsucc.out, henc.out, List.length_append, le_length]
                      rw [e]; exact hR3n
                    have hTB := hide (hb3'.out.trans (hB1'.out.mono hbs3))
                    have hB3 := hide (hTB.out.trans (hT3.below hTB.out.size (fun k hk e => by omega)))
                    have hs3 : w1.heap.size ≤ w3.heap.size := hT3.size
                    clear htx hT3 hR3n
                    go_wp2_with fail
                    go_roundw
                    case rel => exact ⟨k3 + 1, by omega, by go_num, hRz.out, by omega, hB3.out⟩
                    case measure => simp [intOf]; omega
                  · have henc := hide (show p.enc = le x 7 by rw [hencp.out]; rfl)
                    have hlen := hide (show (cat F 40).length = (cat F k3).length + 7 + rest.length by rw [hcs'.out, henc.out]; simp only [List.length_append, le_length]; omega)
                    go_wp2_with fail
                    have hB1 : Below wr.heap.size wr (wr.alloc (.cells #[.int .u64 x, .int .i64 7, .string ⟨p.s.toArray⟩, .bool false] 62)) := (Below.refl _ _).alloc (Nat.le_refl _) _
                    have hs1 : wr.heap.size < (wr.alloc (.cells #[.int .u64 x, .int .i64 7, .string ⟨p.s.toArray⟩, .bool false] 62)).heap.size := by simp
                    have hB1' := hide hB1
                    clear c0 c1 c2 c3 hB1
                    generalize wr.alloc (.cells #[.int .u64 x, .int .i64 7, .string ⟨p.s.toArray⟩, .bool false] 62) = w1 at *
                    refine (rdNum_ok g u (cat F 40) (cat F k3).length 7 w1 (hR3.out.below hB1'.out) (by have := hlen.out; omega) hcl2n (by omega) (by omega)).mono ?_
                    rintro e w3 ⟨rfl, hR3n, hT3⟩
                    have htx : (List.take 7 (List.drop (cat F k3).length (cat F 40))) = le x 7 := by rw [hcs'.out, henc.out]; exact cut_mid _ _ _ _ (le_length _ _)
                    rw [htx, num_le, show ((x % 256 ^ 7 : Nat) : Int) = (x : Int) % 72057594037927936 by omega]
                    have hRz : Hid (Rd w3 g u (cat F 40) (cat F (k3 + 1)).length) := by
                      have e : (cat F (k3 + 1)).length = (cat F k3).length + 7 := by rw [hsucc.out, henc.out, List.length_append, le_length]
                      rw [e]; exact hR3n
                    have hTB := hide (hb3'.out.trans (hB1'.out.mono hbs3))
                    have hB3 := hide (hTB.out.trans (hT3.below hTB.out.size (fun k hk e => by omega)))
                    have hs3 : w1.heap.size ≤ w3.heap.size := hT3.size
                    clear htx hT3 hR3n
                    go_wp2_with fail
                    go_roundw
                    case rel => exact ⟨k3 + 1, by omega, by go_num, hRz.out, by omega, hB3.out⟩
                    case measure => simp [intOf]; omega
                  · have henc := hide (show p.enc = le x 8 by rw [hencp.out]; rfl)
                    have hlen := hide (show (cat F 40).length = (cat F k3).length + 8 + rest.length by rw [hcs'.out, henc.out]; simp only [List.length_append, le_length]; omega)
                    go_wp2_with fail
                    have hB1 : Below wr.heap.size wr (wr.alloc (.cells #[.int .u64 x, .int .i64 8, .string ⟨p.s.toArray⟩, .bool false] 62)) := (Below.refl _ _).alloc (Nat.le_refl _) _
                    have hs1 : wr.heap.size < (wr.alloc (.cells #[.int .u64 x, .int .i64 8, .string ⟨p.s.toArray⟩, .bool false] 62)).heap.size := by simp
                    have hB1' := hide hB1
                    clear c0 c1 c2 c3 hB1
                    generalize wr.alloc (.cells #[.int .u64 x, .int .i64 8, .string ⟨p.s.toArray⟩, .bool false] 62) = w1 at *
                    refine (rdNum_ok g u (cat F 40) (cat F k3).length 8 w1 (hR3.out.below hB1'.out) (by have := hlen.out; omega) hcl2n (by omega) (by omega)).mono ?_
                    rintro e w3 ⟨rfl, hR3n, hT3⟩
                    have htx : (List.take 8 (List.drop (cat F k3).length (cat F 40))) = le x 8 := by rw [hcs'.out, henc.out]; exact cut_mid _ _ _ _ (le_length _ _)
                    rw [htx, num_le, show ((x % 256 ^ 8 : Nat) : Int) = (x : Int) % 18446744073709551616 by omega]
                    have hRz : Hid (Rd w3 g u (cat F 40) (cat F (k3 + 1)).length) := by
                      have e : (cat F (k3 + 1)).length = (cat F k3).length + 8 := by rw [hsucc.out, henc.out, List.length_append, le_length]
                      rw [e]; exact hR3n
                    have hTB := hide (hb3'.out.trans (hB1'.out.mono hbs3))
                    have hB3 := hide (hTB.out.trans (hT3.below hTB.out.size (fun k hk e => by omega)))
                    have hs3 : w1.heap.size ≤ w3.heap.size := hT3.size
                    clear htx hT3 hR3n
                    go_wp2_with fail
                    go_roundw
                    case rel => exact ⟨k3 + 1, by omega, by go_num, hRz.out, by omega, hB3.out⟩
                    case measure => simp [intOf]; omega
                · have henc := hide (show p.enc = [] by rw [hencp.out]; exact if_neg hz)
                  have hzI := hide hok.out.2.1
                  clear hok hencp
                  have hc : p.z < 1 ∨ (1 ≤ p.z ∧ 8 < p.z) := by omega
                  clear hz
                  obtain ⟨z, hz⟩ : ∃ z, z = p.z := ⟨_, rfl⟩
                  rw [← hz] at hc hzI c1
                  clear hz
                  rcases hc with hz | ⟨hz, hz2⟩
                  · have hd : decide (1 ≤ z) = false := decide_eq_false (by omega)
                    go_wp2_with fail
                    have hB1 : Below wr.heap.size wr (wr.alloc (.cells #[.int .u64 p.n, .int .i64 z, .string ⟨p.s.toArray⟩, .bool false] 62)) := (Below.refl _ _).alloc (Nat.le_refl _) _
                    have hs1 : wr.heap.size < (wr.alloc (.cells #[.int .u64 p.n, .int .i64 z, .string ⟨p.s.toArray⟩, .bool false] 62)).heap.size := by simp
                    have x2 : (wr.alloc (.cells #[.int .u64 p.n, .int .i64 z, .string ⟨p.s.toArray⟩, .bool false] 62)).cell? ⟨wr.heap.size, 2, none⟩ = some (.string ⟨p.s.toArray⟩) := by simp [go_sem]
                    have hB1' := hide hB1
                    have x2' := hide x2
                    clear c0 c1 c2 c3 hB1 x2
                    generalize wr.alloc (.cells #[.int .u64 p.n, .int .i64 z, .string ⟨p.s.toArray⟩, .bool false] 62) = w1 at *
                    go_roundw
                    case rel =>
                      refine ⟨k3 + 1, by omega, by go_num, ?_, by omega, hb3'.out.trans (hB1'.out.mono hbs3)⟩
                      have e : (cat F (k3 + 1)).length = (cat F k3).length := by rw [hsucc.out, henc.out]; simp
                      rw [e]
                      exact hR3.out.below hB1'.out
                    case measure => simp [intOf]; omega
                  · have hd : decide (1 ≤ z) = true := decide_eq_true (by omega)
                    have hd2 : decide (z ≤ 8) = false := decide_eq_false (by omega)
                    go_wp2_with fail
                    have hB1 : Below wr.heap.size wr (wr.alloc (.cells #[.int .u64 p.n, .int .i64 z, .string ⟨p.s.toArray⟩, .bool false] 62)) := (Below.refl _ _).alloc (Nat.le_refl _) _
                    have hs1 : wr.heap.size < (wr.alloc (.cells #[.int .u64 p.n, .int .i64 z, .string ⟨p.s.toArray⟩, .bool false] 62)).heap.size := by simp
                    have x2 : (wr.alloc (.cells #[.int .u64 p.n, .int .i64 z, .string ⟨p.s.toArray⟩, .bool false] 62)).cell? ⟨wr.heap.size, 2, none⟩ = some (.string ⟨p.s.toArray⟩) := by simp [go_sem]
                    have hB1' := hide hB1
                    have x2' := hide x2
                    clear c0 c1 c2 c3 hB1 x2
                    generalize wr.alloc (.cells #[.int .u64 p.n, .int .i64 z, .string ⟨p.s.toArray⟩, .bool false] 62) = w1 at *
                    go_roundw
                    case rel =>
                      refine ⟨k3 + 1, by omega, by go_num, ?_, by omega, hb3'.out.trans (hB1'.out.mono hbs3)⟩
                      have e : (cat F (k3 + 1)).length = (cat F k3).length := by rw [hsucc.out, henc.out]; simp
                      rw [e]
                      exact hR3.out.below hB1'.out
                    case measure => simp [intOf]; omega
            · obtain rfl : 40 = k3 := by omega
              have hRf := hide (show RdAt wr g u .nilIface (cat F 40) (cat F 40).length 0 from hR3.out)
              have hEf := hide (hE'.out.below hb3'.out)
              clear hR3
              go_wp2_with fail
              refine (awake02 wr hEf.out).mono ?_
              rintro e w4 ⟨rfl, hb4⟩
              have hR4 := hide (Rd.below hRf.out hb4)
              have hB4 := hide (hb3'.out.trans (hb4.mono hbs3))
              clear hb4 hRf hEf hb3'
              go_wp2_with fail
              refine (rdEnd_none g u (cat F 40) w4 hR4.out hcl2n).mono ?_
              rintro e w5 ⟨rfl, hq⟩
              have hR5 := hide (Rd.below hR4.out (hq.below _))
              have hB5 := hide (hB4.out.trans (hq.below _))
              clear hq hR4 hB4
              go_wp2_with fail
              refine (rdLeft_any g u .nilIface (cat F 40) (cat F 40).length 0 w5 hR5.out hcl2n).mono ?_
              rintro e w6 ⟨rfl, hq⟩
              rw [Nat.sub_self]
              have hR6 := hide (Rd.below hR5.out (hq.below _))
              have hB6 := hide (hB5.out.trans (hq.below _))
              clear hq hR5 hB5
              go_wp2_with fail
              refine (rdAt_any g u .nilIface (cat F 40) (cat F 40).length 0 w6 hR6.out).mono ?_
              rintro e w7 ⟨rfl, rfl⟩
              go_wp2_with fail
              go_ret
              exact ⟨rfl, hB6.out⟩
theorem octetBack_any (A : Option Addr) (b off n c : Nat) (F : Nat → PutD) (w : World) (hA : 0 < n → A = some ⟨b, off, none⟩) (h : PutsAt w b off n F) (hF : ∀ i, i < n → (F i).Ok) (hn : n ≤ 9223372036854775807) (hE : ErrT w) :
    Calls Tryd.prog 14 #[.slice A n c] w fun e w' => e = .returned (.bool true) ∧ Below w.heap.size w w' := by
  by_cases h40 : n ≤ 40
  · exact octetBack_le A b off n c F w hA h hF hn h40 hE
  · exact octetBack_gt A b off n c F w hA h hF hn (by omega) hE
end Go.Proofs.YtihimcgppifcbaaDoor
