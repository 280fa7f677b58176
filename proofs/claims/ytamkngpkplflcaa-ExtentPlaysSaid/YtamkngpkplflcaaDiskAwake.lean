/- nacellelaw05: Sector, awake walked; the document's Noughts. -/
import Derived.Test.YtamkngpkplflcaaDiskDsk
namespace Go.Proofs.Ytamkngpkplflcaa
open Go.RowKit

theorem toNat_ofNat8' (n : Nat) : (UInt8.ofNat n).toNat = n % 256 := UInt8.toNat_ofNat'
theorem str_append' (l m : List UInt8) : (ByteArray.mk l.toArray ++ ByteArray.mk m.toArray) = ⟨(l ++ m).toArray⟩ := by
  apply ByteArray.ext
  simp
/-- the row behind k rounds -/
def fillV (c : UInt8) (m k : Nat) : List Value := bytesV (List.replicate k c) ++ List.replicate (m - k) (.int .u8 0)
theorem fillV_set (c : UInt8) (m k : Nat) (h : k < m) : (fillV c m k).set k (.int .u8 (c.toNat : Int)) = fillV c m (k + 1) := by
  unfold fillV
  rw [List.set_append_right _ _ (by rw [bytesV_length, List.length_replicate]; omega), bytesV_length, List.length_replicate, Nat.sub_self, List.replicate_succ', bytesV_append, List.append_assoc,
    show m - k = (m - (k + 1)) + 1 by omega, List.replicate_succ]
  rfl
theorem fillV_length (c : UInt8) (m k : Nat) (h : k ≤ m) : (fillV c m k).length = m := by
  unfold fillV
  rw [List.length_append, bytesV_length, List.length_replicate, List.length_replicate]
  omega
def secN (off : Int) : Nat := if -64 < off ∧ off < 64 then (64 + off).toNat else 64
def sec (c : UInt8) (off : Int) : List UInt8 := List.replicate (secN off) c
theorem sec0 (c : UInt8) : sec c 0 = List.replicate 64 c := rfl
theorem secN_le (off : Int) : secN off ≤ 127 := by unfold secN; split <;> omega

set_option maxRecDepth 100000 in
theorem sector_in (c : UInt8) (off : Int) (h1 : -64 < off) (h2 : off < 64) (m : Nat) (hm : (64 : Int) + off = m) (w : World) :
    Calls Try.prog 27 #[.int .u8 (c.toNat : Int), .int .i64 off] w fun e w' => ∃ v, e = .returned v ∧ OwnB w' w.heap.size 5 v (List.replicate m c) ∧ Below w.heap.size w w' := by
  have hmb : m ≤ 127 := by omega
  have hp : 0 < m := by omega
  have e1 : decide (-64 < off) = true := decide_eq_true h1
  have e2 : decide (off < 64) = true := decide_eq_true h2
  go_enter Try.func27, Try.ntmps27
  go_wp2_with ((at_make; refine list_make Try.underlying40 (z := .int .u8 0) (bytes := 1) (by kernel_rfl) rfl rfl _ _ rfl w.heap.size .i64 .i64 m m m rfl rfl rfl rfl (by omega) (by simp only [maxLen]; omega) (Nat.le_refl _) ?_))
  intro w1 hown hg hlt
  have hb : Below w.heap.size w w1 := (Below.refl _ _).grown hg (Nat.le_refl _) (by simp)
  have hown' := hide hown
  clear hown hg
  go_wp2
  go_loopw [7] (fun i wr => ∃ k : Nat, k ≤ m ∧ i = .int .i64 k ∧ wr.ownsRow w.heap.size 5 1 (.slice (some ⟨w.heap.size, 0, none⟩) m m) m (fillV c m k) ∧ Below w.heap.size w wr) (fun i _ => m - (intOf i).toNat)
  case atStart => exact ⟨0, by omega, rfl, hown'.out, hb⟩
  case round =>
    obtain ⟨k, hk, rfl, hown, hbr⟩ := hrel
    by_cases hlt2 : k < m
    · obtain ⟨u, hc⟩ : ∃ u, wr.cell? ⟨w.heap.size, k, none⟩ = some u := ⟨_, (hown.cellAt k (by omega)).trans (List.getElem?_eq_getElem (by rw [fillV_length _ _ _ hk]; exact hlt2))⟩
      have hf := hown.frozenAt k
      have hst := (hown.stored k (.int .u8 (c.toNat : Int))).1
      rw [fillV_set c m k hlt2] at hst
      have hst' := hide hst
      have hkI : (k : Int) < (m : Int) := by omega
      clear hst hown
      go_wp2
      go_roundw
      case rel => exact ⟨k + 1, by omega, by go_num, hst'.out, hbr.setCell (Nat.le_refl _) _⟩
      case measure => simp [intOf]; omega
    · obtain rfl : m = k := by omega
      go_wp2
      go_ret
      refine ⟨_, rfl, ?_, hbr⟩
      have := hown
      unfold fillV at this
      rw [Nat.sub_self, List.replicate_zero, List.append_nil] at this
      unfold OwnB
      rw [List.length_replicate]
      exact this
set_option maxRecDepth 100000 in
theorem sector_out (c : UInt8) (off : Int) (h : ¬ (-64 < off ∧ off < 64)) (w : World) :
    Calls Try.prog 27 #[.int .u8 (c.toNat : Int), .int .i64 off] w fun e w' => ∃ v, e = .returned v ∧ OwnB w' w.heap.size 5 v (List.replicate 64 c) ∧ Below w.heap.size w w' := by
  have hh : ¬ -64 < off ∨ (-64 < off ∧ ¬ off < 64) := by omega
  clear h
  rcases hh with h | ⟨h, h2⟩
  · have e1 : decide (-64 < off) = false := decide_eq_false h
    go_enter Try.func27, Try.ntmps27
    go_wp2_with ((at_make; refine list_make Try.underlying40 (z := .int .u8 0) (bytes := 1) (by kernel_rfl) rfl rfl _ _ rfl w.heap.size .i64 .i64 _ _ 64 rfl rfl rfl rfl (by omega) (by simp only [maxLen]; omega) (Nat.le_refl _) ?_))
    intro w1 hown hg hlt
    have hb : Below w.heap.size w w1 := (Below.refl _ _).grown hg (Nat.le_refl _) (by simp)
    have hown' := hide hown
    clear hown hg
    go_wp2
    go_loopw [7] (fun i wr => ∃ k : Nat, k ≤ 64 ∧ i = .int .i64 k ∧ wr.ownsRow w.heap.size 5 1 (.slice (some ⟨w.heap.size, 0, none⟩) 64 64) 64 (fillV c 64 k) ∧ Below w.heap.size w wr) (fun i _ => 64 - (intOf i).toNat)
    case atStart => exact ⟨0, by omega, rfl, hown'.out, hb⟩
    case round =>
      obtain ⟨k, hk, rfl, hown, hbr⟩ := hrel
      by_cases hlt2 : k < 64
      · obtain ⟨u, hc⟩ : ∃ u, wr.cell? ⟨w.heap.size, k, none⟩ = some u := ⟨_, (hown.cellAt k (by omega)).trans (List.getElem?_eq_getElem (by rw [fillV_length _ _ _ hk]; exact hlt2))⟩
        have hf := hown.frozenAt k
        have hst := (hown.stored k (.int .u8 (c.toNat : Int))).1
        rw [fillV_set c 64 k hlt2] at hst
        have hst' := hide hst
        have hkI : (k : Int) < (64 : Int) := by omega
        clear hst hown
        go_wp2
        go_roundw
        case rel => exact ⟨k + 1, by omega, by go_num, hst'.out, hbr.setCell (Nat.le_refl _) _⟩
        case measure => simp [intOf]; omega
      · obtain rfl : 64 = k := by omega
        go_wp2
        go_ret
        refine ⟨_, rfl, ?_, hbr⟩
        have := hown
        unfold fillV at this
        rw [Nat.sub_self, List.replicate_zero, List.append_nil] at this
        unfold OwnB
        rw [List.length_replicate]
        exact this
  · have e1 : decide (-64 < off) = true := decide_eq_true h
    have e2 : decide (off < 64) = false := decide_eq_false h2
    go_enter Try.func27, Try.ntmps27
    go_wp2_with ((at_make; refine list_make Try.underlying40 (z := .int .u8 0) (bytes := 1) (by kernel_rfl) rfl rfl _ _ rfl w.heap.size .i64 .i64 _ _ 64 rfl rfl rfl rfl (by omega) (by simp only [maxLen]; omega) (Nat.le_refl _) ?_))
    intro w1 hown hg hlt
    have hb : Below w.heap.size w w1 := (Below.refl _ _).grown hg (Nat.le_refl _) (by simp)
    have hown' := hide hown
    clear hown hg
    go_wp2
    go_loopw [7] (fun i wr => ∃ k : Nat, k ≤ 64 ∧ i = .int .i64 k ∧ wr.ownsRow w.heap.size 5 1 (.slice (some ⟨w.heap.size, 0, none⟩) 64 64) 64 (fillV c 64 k) ∧ Below w.heap.size w wr) (fun i _ => 64 - (intOf i).toNat)
    case atStart => exact ⟨0, by omega, rfl, hown'.out, hb⟩
    case round =>
      obtain ⟨k, hk, rfl, hown, hbr⟩ := hrel
      by_cases hlt2 : k < 64
      · obtain ⟨u, hc⟩ : ∃ u, wr.cell? ⟨w.heap.size, k, none⟩ = some u := ⟨_, (hown.cellAt k (by omega)).trans (List.getElem?_eq_getElem (by rw [fillV_length _ _ _ hk]; exact hlt2))⟩
        have hf := hown.frozenAt k
        have hst := (hown.stored k (.int .u8 (c.toNat : Int))).1
        rw [fillV_set c 64 k hlt2] at hst
        have hst' := hide hst
        have hkI : (k : Int) < (64 : Int) := by omega
        clear hst hown
        go_wp2
        go_roundw
        case rel => exact ⟨k + 1, by omega, by go_num, hst'.out, hbr.setCell (Nat.le_refl _) _⟩
        case measure => simp [intOf]; omega
      · obtain rfl : 64 = k := by omega
        go_wp2
        go_ret
        refine ⟨_, rfl, ?_, hbr⟩
        have := hown
        unfold fillV at this
        rw [Nat.sub_self, List.replicate_zero, List.append_nil] at this
        unfold OwnB
        rw [List.length_replicate]
        exact this
theorem sector_any (c : UInt8) (off : Int) (w : World) :
    Calls Try.prog 27 #[.int .u8 (c.toNat : Int), .int .i64 off] w fun e w' => ∃ v, e = .returned v ∧ OwnB w' w.heap.size 5 v (sec c off) ∧ Below w.heap.size w w' := by
  unfold sec secN
  by_cases h : -64 < off ∧ off < 64
  · rw [if_pos h]
    exact sector_in c off h.1 h.2 (64 + off).toNat (by omega) w
  · rw [if_neg h]
    exact sector_out c off h w

set_option maxRecDepth 100000 in
theorem noughts_any (w : World) : Calls Try.prog 22 #[] w fun e w' => e = .returned (.string ⟨(List.replicate 64 (0 : UInt8)).toArray⟩) ∧ w' = w := by
  go_enter Try.func22, Try.ntmps22
  go_wp2
  go_loop [1, 2] (fun s i => ∃ k : Nat, k ≤ 64 ∧ i = .int .i64 k ∧ s = .string ⟨(List.replicate k (0 : UInt8)).toArray⟩) (fun _ i => 64 - (intOf i).toNat)
  case atStart => exact ⟨0, by omega, rfl, rfl⟩
  case round =>
    obtain ⟨k, hk, rfl, rfl⟩ := hrel
    have hst := str_append' (List.replicate k (0 : UInt8)) [0]
    rw [← List.replicate_succ'] at hst
    have hst' := hide hst
    clear hst
    by_cases hlt : k < 64
    · go_wp2
      go_round
      case rel => exact ⟨k + 1, by omega, by go_num, by rw [← hst'.out]; rfl⟩
      case measure => simp [intOf]; omega
    · obtain rfl : k = 64 := by omega
      go_wp2
      go_ret
      exact ⟨rfl, rfl⟩

theorem str_conv (W : World) (v : Value) (l : List UInt8) (h : Bs W v l) : (convert 40 9 v).run Try.prog W = .ok (.string ⟨l.toArray⟩) W :=
  run_str (P := Try.prog) 40 5 Try.underlying40 Try.underlying5 9 Try.underlying9 v l h
theorem OwnB.later {w w' : World} {F : Nat → Prop} {base : Nat} {e : TypeId} {v : Value} {l : List UInt8} (h : OwnB w base e v l) (t : Later F w w') (hv : ∀ b, base ≤ b → b < w.heap.size → ¬ F b) : OwnB w' base e v l :=
  own_later h t (fun b hb => hv b (h.lt b hb).1 (h.lt b hb).2)

def aw1 : Dk := ((newDk 4).write 3 (List.replicate 64 7)).1
def aw2 : Dk := ((aw1.write 3 (List.replicate 64 8)).1).crash [true]
theorem aw_a : (aw1.reads 3).1 = List.replicate 64 7 := by decide +kernel
theorem aw_b : aw1.sector 3 = List.replicate 64 0 := by decide +kernel
theorem aw_c : aw2.sector 3 = List.replicate 64 7 := by decide +kernel
theorem aw_d : (aw2.reads 3).2 = 9 := by decide +kernel
theorem aw_e : aw2.off = true := by decide +kernel
theorem aw_n1 : aw1.n = 4 := by decide +kernel
theorem aw_n2 : aw2.n = 4 := by decide +kernel
theorem aw_w : aw1.waits.length ≤ 1000000 := by decide +kernel

set_option maxRecDepth 100000 in
set_option maxHeartbeats 2000000 in
theorem awake05 (w : World) : Calls Try.prog 17 #[] w fun e w' => e = .returned (.bool true) ∧ Below w.heap.size w w' := by
  go_enter Try.func17, Try.ntmps17
  go_wp2_with fail
  refine (dnew_dsk 4 (by omega) (by omega) w).mono ?_
  rintro e w1 ⟨g, rfl, hg, hD, hb⟩
  have hD' := hide hD
  have hb' := hide hb
  have s1 := hb.size
  clear hD hb
  go_wp2_with fail
  refine (sector_any 7 0 w1).mono ?_
  rintro e w2 ⟨a, rfl, ha, hb⟩
  rw [sec0] at ha
  have ha2 := hide ha
  have hD2 := hide (hD'.out.below hb)
  have hb2 := hide (hb'.out.trans (hb.mono s1))
  have s2 := hb.size
  clear ha hb hD' hb'
  go_wp2_with fail
  refine (sector_any 8 0 w2).mono ?_
  rintro e w3 ⟨b, rfl, hbb, hb⟩
  rw [sec0] at hbb
  have hbb3 := hide hbb
  have ha3 := hide (ha2.out.below hb)
  have hal := hide (fun x hx => ha2.out.lt x hx)
  have hbl := hide (fun x hx => hbb.lt x hx)
  have hD3 := hide (hD2.out.below hb)
  have hb3 := hide (hb2.out.trans (hb.mono hb2.out.size))
  have s3 := hb.size
  clear hbb hb hD2 hb2 ha2
  go_wp2_with fail
  refine (hD3.out.write_ 3 a _ (fun x hx hB => by have := hal.out x hx; omega) ha3.out.bs (by simp [newDk])).mono ?_
  rintro e w4 ⟨rfl, hD, hT⟩
  rw [show ((newDk 4).write 3 (List.replicate 64 7)).2 = 0 by decide +kernel]
  have ha4 := hide (show OwnB w4 w1.heap.size 5 a (List.replicate 64 7) from own_later ha3.out hT.2 (fun x hx e => by have := hal.out x hx; omega))
  have hbb4 := hide (show OwnB w4 w2.heap.size 5 b (List.replicate 64 8) from own_later hbb3.out hT.2 (fun x hx e => by have := hbl.out x hx; omega))
  have hD4 : Hid (Dsk w4 g _ aw1) := hD
  have hb4 := hide (hb3.out.trans (hT.below hb3.out.size (fun x h1 h2 => by omega)))
  have s4 := hT.size
  clear hD hT ha3 hbb3 hD3 hb3
  go_wp2_with fail
  refine (hD4.out.read_ 3).mono ?_
  rintro e w5 ⟨x, rfl, hx, hb⟩
  rw [aw_a] at hx
  have hx5 := hide hx
  have hxl := hide (fun y hy => hx.lt y hy)
  have ha5 := hide (ha4.out.below hb)
  have hbb5 := hide (hbb4.out.below hb)
  have hD5 := hide (hD4.out.below hb)
  have hb5 := hide (hb4.out.trans (hb.mono hb4.out.size))
  have s5 := hb.size
  clear hx hb ha4 hbb4 hD4 hb4
  go_wp2_with fail
  refine (hD5.out.has_ 3 (by rw [aw_n1]; omega)).mono ?_
  rintro e w6 ⟨y, rfl, hy, hb⟩
  rw [aw_b] at hy
  have hy6 := hide hy
  have hx6 := hide (hx5.out.below hb)
  have ha6 := hide (ha5.out.below hb)
  have hbb6 := hide (hbb5.out.below hb)
  have hD6 := hide (hD5.out.below hb)
  have hb6 := hide (hb5.out.trans (hb.mono hb5.out.size))
  have s6 := hb.size
  clear hy hb ha5 hbb5 hD5 hb5 hx5
  go_wp2_with fail
  refine (hD6.out.write_ 3 b _ (fun x hx hB => by have := hbl.out x hx; omega) hbb6.out.bs aw_w).mono ?_
  rintro e w7 ⟨rfl, hD, hT⟩
  rw [show (aw1.write 3 (List.replicate 64 8)).2 = 0 by decide +kernel]
  have hyl := hide (fun z hz => hy6.out.lt z hz)
  have ha7 := hide (show OwnB w7 w1.heap.size 5 a (List.replicate 64 7) from own_later ha6.out hT.2 (fun x hx e => by have := hal.out x hx; omega))
  have hx7 := hide (show OwnB w7 w4.heap.size 5 x (List.replicate 64 7) from own_later hx6.out hT.2 (fun z hz e => by have := hxl.out z hz; omega))
  have hy7 := hide (show OwnB w7 w5.heap.size 5 y (List.replicate 64 0) from own_later hy6.out hT.2 (fun z hz e => by have := hyl.out z hz; omega))
  have hD7 := hide hD
  have hb7 := hide (hb6.out.trans (hT.below hb6.out.size (fun x h1 h2 => by omega)))
  have s7 := hT.size
  clear hD hT ha6 hx6 hy6 hbb6 hD6 hb6
  go_wp2_with fail
  have hq : Below w7.heap.size w7 (w7.alloc (.cells #[.bool true] 4)) := (Below.refl _ _).alloc (Nat.le_refl _) _
  have hs1 : Bools (w7.alloc (.cells #[.bool true] 4)) (.slice (some ⟨w7.heap.size, 0, none⟩) 1 1) [true] := ⟨_, 1, rfl, Nat.le_refl _, by simp [maxLen], rfl, fun _ => ⟨w7.heap.size, 0, rfl, by simp, fun j u hu => by
    have := cell_of_row (w7.alloc (.cells #[.bool true] 4)) w7.heap.size (0 + j) _ _ _ (heap_alloc_new w7 _)
    rw [this, Nat.zero_add, ← Array.getElem?_toList]
    exact hu⟩⟩
  have s8 : w7.heap.size ≤ (w7.alloc (.cells #[.bool true] 4)).heap.size := hq.size
  have ha8 := hide (ha7.out.below hq)
  have hx8 := hide (hx7.out.below hq)
  have hy8 := hide (hy7.out.below hq)
  have hD8 := hide (hD7.out.below hq)
  have hb8 := hide (hb7.out.trans (hq.mono hb7.out.size))
  have hs1' := hide hs1
  clear hq hs1 ha7 hx7 hy7 hD7 hb7
  generalize w7.alloc (.cells #[.bool true] 4) = w8 at *
  refine (hD8.out.crash_ _ [true] hs1'.out (fun _ z hz hB => by injection hz with hz; dsimp only at hz; subst hz; omega)).mono ?_
  rintro e w9 ⟨rfl, hD, hT⟩
  have ha9 := hide (show OwnB w9 w1.heap.size 5 a (List.replicate 64 7) from own_later ha8.out hT.2 (fun x hx e => by have := hal.out x hx; omega))
  have hx9 := hide (show OwnB w9 w4.heap.size 5 x (List.replicate 64 7) from own_later hx8.out hT.2 (fun z hz e => by have := hxl.out z hz; omega))
  have hy9 := hide (show OwnB w9 w5.heap.size 5 y (List.replicate 64 0) from own_later hy8.out hT.2 (fun z hz e => by have := hyl.out z hz; omega))
  have hD9 : Hid (Dsk w9 g _ aw2) := hD
  have hb9 := hide (hb8.out.trans (hT.below hb8.out.size (fun x h1 h2 => by omega)))
  clear hD hT ha8 hx8 hy8 hD8 hb8 hs1'
  go_wp2_with fail
  refine (hD9.out.has_ 3 (by rw [aw_n2]; omega)).mono ?_
  rintro e w10 ⟨z, rfl, hz, hb⟩
  rw [aw_c] at hz
  have hz10 := hide hz
  have ha10 := hide (ha9.out.below hb)
  have hx10 := hide (hx9.out.below hb)
  have hy10 := hide (hy9.out.below hb)
  have hD10 := hide (hD9.out.below hb)
  have hb10 := hide (hb9.out.trans (hb.mono hb9.out.size))
  clear hz hb ha9 hx9 hy9 hD9 hb9
  go_wp2_with fail
  refine (hD10.out.read_ 3).mono ?_
  rintro e w11 ⟨f, rfl, _, hb⟩
  rw [aw_d]
  have hz11 := hide (hz10.out.below hb)
  have ha11 := hide (ha10.out.below hb)
  have hx11 := hide (hx10.out.below hb)
  have hy11 := hide (hy10.out.below hb)
  have hD11 := hide (hD10.out.below hb)
  have hb11 := hide (hb10.out.trans (hb.mono hb10.out.size))
  clear hb ha10 hx10 hy10 hz10 hD10 hb10
  go_wp2_with fail
  have hL0 : Later (fun _ => False) w11 w11.drew := later_drew w11
  have hca : ∀ w', Later (fun _ => False) w11.drew w' → (convert 40 9 a).run Try.prog w' = .ok (.string ⟨(List.replicate 64 (7 : UInt8)).toArray⟩) w' := fun w' hl => str_conv w' a _ (ha11.out.bs.later0 (later_trans _ _ _ _ hL0 hl))
  have hcx : ∀ w', Later (fun _ => False) w11.drew w' → (convert 40 9 x).run Try.prog w' = .ok (.string ⟨(List.replicate 64 (7 : UInt8)).toArray⟩) w' := fun w' hl => str_conv w' x _ (hx11.out.bs.later0 (later_trans _ _ _ _ hL0 hl))
  have hcy : ∀ w', Later (fun _ => False) w11.drew w' → (convert 40 9 y).run Try.prog w' = .ok (.string ⟨(List.replicate 64 (0 : UInt8)).toArray⟩) w' := fun w' hl => str_conv w' y _ (hy11.out.bs.later0 (later_trans _ _ _ _ hL0 hl))
  have hcz : ∀ w', Later (fun _ => False) w11.drew w' → (convert 40 9 z).run Try.prog w' = .ok (.string ⟨(List.replicate 64 (7 : UInt8)).toArray⟩) w' := fun w' hl => str_conv w' z _ (hz11.out.bs.later0 (later_trans _ _ _ _ hL0 hl))
  have hq : Q w11 w11.drew := Q.drew (Q.refl _)
  have hD12 := hide (hD11.out.below (hq.below _))
  have hb12 := hide (hb11.out.trans (hq.below _))
  clear hq hL0 hD11 hb11
  refine region_plan [(true, 0), (true, 1), (true, 2), (true, 3), (true, 4), (true, 5), (true, 6), (true, 7), (false, 8), (true, 9), (true, 10), (true, 11), (true, 12), (true, 13), (true, 14), (true, 15), (true, 16), (true, 17), (true, 18), (true, 19), (true, 20), (true, 21), (true, 22), (true, 23), (false, 24), (true, 25), (true, 26), (true, 27), (true, 28), (false, 29), (true, 30), (true, 31), (true, 32)] (Later fun _ => False) (later_refl _) (later_trans _) (by kernel_rfl) (by kernel_rfl) (fun _ _ d _ _ h => by cases d <;> exact h) ?_
  repeat
    (first
      | (show wpPlan _ _ _ _ ((true, _) :: _) _ _
         refine plan_skip rfl (by rfl) ?_
         simp only [Act.put, List.setIfInBounds_toArray, List.set_cons_zero, List.set_cons_succ])
      | (show wpPlan _ _ _ _ ((false, _) :: _) _ _
         refine plan_skip_eff (later_refl _) rfl (by rfl) ?_
         simp only [Act.put, List.setIfInBounds_toArray, List.set_cons_zero, List.set_cons_succ])
      | (show wpPlan _ _ _ _ ((true, _) :: _) _ _
         refine plan_take (v := ?_) rfl (by rfl) (fun w' hw' => ?_) ?_
         rotate_left
         focus
           go_simp
           try with_reducible rfl
           done
         simp only [Act.put, List.setIfInBounds_toArray, List.set_cons_zero, List.set_cons_succ]))
  refine plan_eff rfl (by rfl) (fun K hK => ?_)
  go_wp2_with fail
  refine (noughts_any _).mono ?_
  rintro e w12 ⟨rfl, rfl⟩
  refine hK _ _ (later_refl _ _) ?_
  clear hK K
  try simp only [Act.put, List.setIfInBounds_toArray, List.set_cons_zero, List.set_cons_succ]
  repeat
    (first
      | (show wpPlan _ _ _ _ ((true, _) :: _) _ _
         refine plan_skip rfl (by rfl) ?_
         simp only [Act.put, List.setIfInBounds_toArray, List.set_cons_zero, List.set_cons_succ])
      | (show wpPlan _ _ _ _ ((false, _) :: _) _ _
         refine plan_skip_eff (later_refl _) rfl (by rfl) ?_
         simp only [Act.put, List.setIfInBounds_toArray, List.set_cons_zero, List.set_cons_succ])
      | (show wpPlan _ _ _ _ ((true, _) :: _) _ _
         refine plan_take (v := ?_) rfl (by rfl) (fun w' hw' => ?_) ?_
         rotate_left
         focus
           go_simp
           try with_reducible rfl
           done
         simp only [Act.put, List.setIfInBounds_toArray, List.set_cons_zero, List.set_cons_succ]))
  refine plan_eff rfl (by rfl) (fun K hK => ?_)
  go_wp2_with fail
  refine hD12.out.on_.mono ?_
  rintro e w12 ⟨rfl, rfl⟩
  rw [aw_e]
  refine hK _ _ (later_refl _ _) ?_
  clear hK K
  try simp only [Act.put, List.setIfInBounds_toArray, List.set_cons_zero, List.set_cons_succ]
  repeat
    (first
      | (show wpPlan _ _ _ _ ((true, _) :: _) _ _
         refine plan_skip rfl (by rfl) ?_
         simp only [Act.put, List.setIfInBounds_toArray, List.set_cons_zero, List.set_cons_succ])
      | (show wpPlan _ _ _ _ ((false, _) :: _) _ _
         refine plan_skip_eff (later_refl _) rfl (by rfl) ?_
         simp only [Act.put, List.setIfInBounds_toArray, List.set_cons_zero, List.set_cons_succ])
      | (show wpPlan _ _ _ _ ((true, _) :: _) _ _
         refine plan_take (v := ?_) rfl (by rfl) (fun w' hw' => ?_) ?_
         rotate_left
         focus
           go_simp
           try with_reducible rfl
           done
         simp only [Act.put, List.setIfInBounds_toArray, List.set_cons_zero, List.set_cons_succ]))
  refine plan_eff rfl (by rfl) (fun K hK => ?_)
  go_wp2_with fail
  refine hD12.out.size_.mono ?_
  rintro e w12 ⟨rfl, rfl⟩
  rw [aw_n2]
  refine hK _ _ (later_refl _ _) ?_
  clear hK K
  try simp only [Act.put, List.setIfInBounds_toArray, List.set_cons_zero, List.set_cons_succ]
  repeat
    (first
      | (show wpPlan _ _ _ _ ((true, _) :: _) _ _
         refine plan_skip rfl (by rfl) ?_
         simp only [Act.put, List.setIfInBounds_toArray, List.set_cons_zero, List.set_cons_succ])
      | (show wpPlan _ _ _ _ ((false, _) :: _) _ _
         refine plan_skip_eff (later_refl _) rfl (by rfl) ?_
         simp only [Act.put, List.setIfInBounds_toArray, List.set_cons_zero, List.set_cons_succ])
      | (show wpPlan _ _ _ _ ((true, _) :: _) _ _
         refine plan_take (v := ?_) rfl (by rfl) (fun w' hw' => ?_) ?_
         rotate_left
         focus
           go_simp
           try with_reducible rfl
           done
         simp only [Act.put, List.setIfInBounds_toArray, List.set_cons_zero, List.set_cons_succ]))
  refine plan_nil ?_
  clear hca hcx hcy hcz
  go_wp2_with fail
  go_ret
  exact ⟨rfl, hb12.out⟩
end Go.Proofs.Ytamkngpkplflcaa
