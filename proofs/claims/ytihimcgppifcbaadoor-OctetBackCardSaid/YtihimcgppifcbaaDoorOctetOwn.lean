/- The law OctetOwn walked. -/
import Derived.Test.YtihimcgppifcbaaDoorOctetAwake
namespace Go.Proofs.YtihimcgppifcbaaDoor
open Go.RowKit

/-- a byte row of the call's own: a store of a byte, a cell -/
theorem ownB_store {w : World} {base g n cap : Nat} {e : TypeId} {l : List UInt8} (h : w.ownsRow base e 1 (.slice (some ⟨g, 0, none⟩) n cap) n (bytesV l)) (k x : Nat) (hx : x < 256) :
    (w.setCell ⟨g, k, none⟩ (.int .u8 (x : Int))).ownsRow base e 1 (.slice (some ⟨g, 0, none⟩) n cap) n (bytesV (l.set k (UInt8.ofNat x))) := by
  have := (h.stored k (.int .u8 (x : Int))).1
  have e : (bytesV l).set k (.int .u8 (x : Int)) = bytesV (l.set k (UInt8.ofNat x)) := by
    unfold bytesV
    rw [List.map_set, UInt8.toNat_ofNat', Nat.mod_eq_of_lt hx]
  rwa [e] at this
theorem ownB_cell {w : World} {base g n cap : Nat} {e : TypeId} {l : List UInt8} (h : w.ownsRow base e 1 (.slice (some ⟨g, 0, none⟩) n cap) n (bytesV l)) (hl : l.length = n) (k : Nat) (hk : k < n) :
    w.cell? ⟨g, k, none⟩ = some (.int .u8 ((l[k]'(by omega)).toNat)) := (h.cellAt k (by omega)).trans (bytesV_get l k (by omega))
theorem Rd.vlt {w : World} {g : Nat} {v : Value} {l : List UInt8} {at_ : Nat} (h : Rd w g v l at_) : ∀ b, v.ownBlock = some b → b < w.heap.size := fun b hb => (h.b.lt b hb).2

set_option maxRecDepth 100000 in
theorem octetOwn_bad (v : Value) (l : List UInt8) (w : World) (h : Bs w v l) (n : Int) (hI : I64 n) (hn : n < 0 ∨ (l.length : Int) < n) (hE : ErrT w) :
    Calls Tryd.prog 13 #[v, .int .i64 n] w fun e w' => e = .returned (.bool true) ∧ Below w.heap.size w w' := by
  obtain ⟨A, cp, rfl, h1, h2, h3⟩ := h.open_
  have hE' := hide hE
  have hI' := hide hI
  have hc : n < 0 ∨ (¬ n < 0 ∧ (l.length : Int) < n) := by omega
  clear hE h h3 hn hI
  rcases hc with h | ⟨h, h2⟩
  all_goals
    go_enter Tryd.func13, Tryd.ntmps13
    go_wp2_with fail
    refine (awake02 w hE'.out).mono ?_
    rintro e w1 ⟨rfl, hb1⟩
    have hb1' := hide hb1
    clear hb1
    go_wp2_with fail
    go_ret
    exact ⟨rfl, hb1'.out⟩

set_option maxRecDepth 100000 in
set_option maxHeartbeats 2000000 in
theorem octetOwn_ok (v : Value) (l : List UInt8) (w : World) (h : Bs w v l) (n : Nat) (hn : n ≤ l.length) (hl : l.length ≤ 140737488355328) (hE : ErrT w) :
    Calls Tryd.prog 13 #[v, .int .i64 n] w fun e w' => e = .returned (.bool true) ∧ Below w.heap.size w w' := by
  obtain ⟨A, cp, rfl, h1, h2, h3⟩ := h.open_
  have hE' := hide hE
  have h' := hide h
  have d1 : decide ((n : Int) < 0) = false := decide_eq_false (by omega)
  have d2 : decide ((l.length : Int) < (n : Int)) = false := decide_eq_false (by omega)
  have d3 : decide (l.length < n) = false := decide_eq_false (by omega)
  clear hE h h3
  go_enter Tryd.func13, Tryd.ntmps13
  go_wp2_with fail
  refine (read_any _ l w h'.out hl).mono ?_
  rintro e w1 ⟨g1, v1, rfl, hg1, hv1, hR1, hb1⟩
  have hb1' := hide hb1
  have hR1' : Hid (Rd w1 g1 v1 l 0) := hR1
  have hg1' : g1 < w1.heap.size := hR1.lt
  have hv1' := hide (Rd.vlt hR1)
  clear hR1 hb1
  go_wp2_with fail
  refine (read_any _ l w1 (h'.out.below hb1'.out) hl).mono ?_
  rintro e w2 ⟨g2, v2, rfl, hg2, hv2, hR2, hb2⟩
  have hR1 := hide (hR1'.out.below hb2)
  have hR2' : Hid (Rd w2 g2 v2 l 0) := hR2
  have hg2' : g2 < w2.heap.size := hR2.lt
  have hb2' := hide (hb1'.out.trans (hb2.mono hb1'.out.size))
  have s12 := hb2.size
  have sw1 := hb1'.out.size
  have hvlt2 := hide (Rd.vlt hR2)
  have hv2' := hide hv2
  clear hR2 hb2 hR1' hb1' hv2
  go_wp2_with fail
  refine (rdBytes_ok g1 v1 l 0 n w2 hR1.out (by omega) hl).mono ?_
  rintro e w3 ⟨x, rfl, hx, hR13, hT3⟩
  have hx0 : OwnB w3 w2.heap.size 5 x (l.take n) := by simpa using hx
  have hR13' : Hid (Rd w3 g1 v1 l n) := by rw [Nat.zero_add] at hR13; exact hR13
  have hR23 := hide (Rd.later hR2'.out hT3.2 (fun e => by omega) (fun b hb e => by have := hv2'.out b hb; omega))
  have hb3 := hide (hb2'.out.trans (hT3.below hb2'.out.size (fun k hk e => by omega)))
  have s23 := hT3.size
  have hln : (l.take n).length = n := by rw [List.length_take]; omega
  unfold OwnB at hx0
  rw [hln] at hx0
  have hx' := hide hx0
  obtain ⟨X, cx, rfl, _, _, _⟩ := Sl.own hx0
  have hln' := hide hln
  clear hx hx0 hR13 hT3 hR1 hR2' hb2' hln
  go_wp2_with fail
  go_loopw [8] (fun i wr => ∃ k : Nat, ∃ m : List UInt8, k ≤ n ∧ m.length = n ∧ i = .int .i64 k ∧ wr.ownsRow w2.heap.size 5 1 (.slice X n cx) n (bytesV m) ∧ Rd wr g1 v1 l n ∧ Rd wr g2 v2 l 0 ∧ w2.heap.size ≤ wr.heap.size ∧ Below w.heap.size w wr) (fun i _ => n - (intOf i).toNat)
  case atStart => exact ⟨0, l.take n, by omega, hln'.out, rfl, hx'.out, hR13'.out, hR23.out, s23, hb3.out⟩
  case round =>
    obtain ⟨k, m, hk, hm, rfl, hown, hRa, hRb, sr, hbr⟩ := hrel
    by_cases hlt : k < n
    · obtain ⟨g, rfl⟩ : ∃ g, X = some ⟨g, 0, none⟩ := by
        rcases hown.2 with ⟨hh, h0⟩ | ⟨g, _, _, hh, _⟩
        · omega
        · injection hh with hh _ _; exact ⟨g, hh⟩
      have hgb := (hown.lt g rfl).1
      have hc := ownB_cell hown hm k hlt
      have hf := hown.frozenAt k
      have hst' := hide (fun y hy => ownB_store hown k y hy)
      have hml := UInt8.toNat_lt (m[k]'(by omega))
      have hkl : (k : Int) < (n : Int) := by omega
      have hRa' := hide hRa
      have hRb' := hide hRb
      generalize (m[k]'(by omega)).toNat = p at *
      obtain ⟨q, hq, f1⟩ : ∃ q : Nat, q < 256 ∧ bits .xor .u8 (p : Int) 255 = q := ⟨p ^^^ 255, Nat.xor_lt_two_pow (n := 8) hml (by omega), u8_xor_nat p 255 hml (by omega)⟩
      clear hown hx' hRa hRb
      go_wp2_with fail
      go_roundw
      case rel =>
        have hL : Later (fun k => k = g) wr (wr.setCell ⟨g, k, none⟩ (.int .u8 (q : Int))) := later_setCell (F := fun k => k = g) wr (p := ⟨g, k, none⟩) (.int .u8 (q : Int)) rfl
        exact ⟨k + 1, m.set k (UInt8.ofNat q), by omega, by rw [List.length_set]; exact hm, by go_num, hst'.out q hq, Rd.later hRa'.out hL (fun e => by omega) (fun b hb e => by have := hv1'.out b hb; omega), Rd.later hRb'.out hL (fun e => by omega) (fun b hb e => by have := hvlt2.out b hb; omega), Nat.le_trans sr hL.1, hbr.setCell (show w.heap.size ≤ g by omega) _⟩
      case measure => simp [intOf]; omega
    · have hRa' := hide hRa
      have hRb' := hide hRb
      have hb4 := hide hbr
      clear hx' hown hR13' hR23 hb3 hRa hRb hbr
      go_wp2_with fail
      refine (rdBytes_ok g2 v2 l 0 n wr hRb'.out (by omega) hl).mono ?_
      rintro e w5 ⟨y, rfl, hy, hR25, hT5⟩
      have hy0 : OwnB w5 wr.heap.size 5 y (l.take n) := by simpa using hy
      have hR25' : Hid (Rd w5 g2 v2 l n) := by rw [Nat.zero_add] at hR25; exact hR25
      have hR15 := hide (Rd.later hRa'.out hT5.2 (fun e => by omega) (fun b hb e => by have := hv1'.out b hb; omega))
      have hb5 := hide (hb4.out.trans (hT5.below hb4.out.size (fun k hk e => by omega)))
      have s5 := hT5.size
      have hy' := hide hy0
      have hyl : (l.take n).length = n := by rw [List.length_take]; omega
      have hyl' := hide hyl
      have hsub : (l.length : Int) - (n : Int) = ((l.length - n : Nat) : Int) := by omega
      have hsub' := hide hsub
      have e0 : Bs (w5.alloc (.cells #[] 5)) y (l.take n) := hy0.bs.below ((Below.refl _ _).alloc (Nat.le_refl _) _)
      have e0' := hide e0
      clear hy hy0 hR25 hT5 hRa' hRb' hb4 hyl hsub e0
      go_wp2_with ((at_builtin; refine list_app_any elem_bytes rfl (.tmp 44) (.tmp 45) rfl w5.heap.size (.slice (some ⟨w5.heap.size, 0, none⟩) 0 0) 0 [] rfl (World.ownsRow_made _ #[] 0 (Nat.le_refl _) (by simp [maxLen]) rfl) y (l.take n).length (bytesV (l.take n)) rfl e0'.out (bytesV_one _) (by simp only [maxLen, List.length_take]; omega) (by simp only [List.length_take]; omega) (by simp) ?_))
      intro z1 w6 hz1 hg6 hat6
      have hz1' : OwnB w6 w5.heap.size 5 z1 (l.take n) := by unfold OwnB; rw [hyl'.out]; exact hz1
      have hb6 : Below w5.heap.size w5 w6 := ((Below.refl _ _).alloc (Nat.le_refl _) _).grown hg6 (by simp) (by simp [Value.ownBlock])
      have hz6 := hide hz1'
      have s6 := hb6.size
      have hR26 := hide (hR25'.out.below hb6)
      have hR16 := hide (hR15.out.below hb6)
      have hB6 := hide (hb5.out.trans (hb6.mono (by have := hb5.out.size; omega)))
      clear hz1 hg6 hat6 hz1' hb6 hR25' hR15 hb5 hy' e0'
      go_wp2_with fail
      rw [hsub'.out]
      refine (rdBytes_ok g2 v2 l n (l.length - n) w6 hR26.out (by omega) hl).mono ?_
      rintro e w7 ⟨t, rfl, ht, hR27, hT7⟩
      have htk : (l.drop n).take (l.length - n) = l.drop n := List.take_of_length_le (by rw [List.length_drop]; omega)
      rw [htk] at ht
      have hR27' : Hid (Rd w7 g2 v2 l l.length) := by rw [Nat.add_sub_cancel' hn] at hR27; exact hR27
      have hR17 := hide (Rd.later hR16.out hT7.2 (fun e => by omega) (fun b hb e => by have := hv1'.out b hb; omega))
      have hz7 : Hid (OwnB w7 w5.heap.size 5 z1 (l.take n)) := own_laterO hz6.out hT7.2 (fun b hb e => by have := (hz6.out.lt b hb).1; omega)
      have hB7 := hide (hB6.out.trans (hT7.below hB6.out.size (fun k hk e => by omega)))
      have s7 := hT7.size
      have ht' := hide ht
      have htl : (l.drop n).length = l.length - n := List.length_drop
      have hbz7 := hide hB7.out.size
      clear ht hR27 hT7 hR26 hR16 hz6 hB6 htk
      go_wp2_with ((at_builtin; refine list_app_any elem_bytes rfl (.tmp 46) (.tmp 52) rfl w5.heap.size z1 (l.take n).length (bytesV (l.take n)) rfl hz7.out t (l.drop n).length (bytesV (l.drop n)) rfl (Sl.own ht'.out) (bytesV_one _) (by simp only [maxLen, List.length_take]; omega) (by simp only [List.length_take]; omega) (by omega) ?_))
      intro z w8 hz hg8 hat8
      have hzb : Bs w8 z l := by
        have h0 : OwnB w8 w5.heap.size 5 z (l.take n ++ l.drop n) := by
          unfold OwnB
          rw [bytesV_append, List.take_append_drop]
          exact hz
        rw [List.take_append_drop] at h0
        exact h0.bs
      have hT8 : Touch (fun k => z1.ownBlock = some k) w7 w8 := ⟨(Below.refl _ _).grown hg8 (Nat.zero_le _) (fun _ _ => Nat.zero_le _), later_grown hg8 (fun _ h => h)⟩
      have hzz := hide (fun k (e : z1.ownBlock = some k) => (hz7.out.lt k e).1)
      have hR18 := hide (Rd.later hR17.out hT8.2 (fun e => by have := hzz.out _ e; omega) (fun b hb e => by have := hzz.out _ e; have := hv1'.out b hb; omega))
      have hR28 := hide (Rd.later hR27'.out hT8.2 (fun e => by have := hzz.out _ e; omega) (fun b hb e => by have := hzz.out _ e; have := hvlt2.out b hb; omega))
      have hB8 := hide (hB7.out.trans (hT8.below hB7.out.size (fun k hk e => by have := hzz.out _ e; omega)))
      have hzb' := hide hzb
      clear hz hg8 hat8 hT8 hz7 ht' hR17 hR27' hB7 hzb htl
      go_wp2_with fail
      refine (awake02 w8 (hE'.out.below hB8.out)).mono ?_
      rintro e w9 ⟨rfl, hb9⟩
      have hR19 := hide (hR18.out.below hb9)
      have hR29 := hide (hR28.out.below hb9)
      have hB9 := hide (hB8.out.trans (hb9.mono hB8.out.size))
      have hzb9 := hide (hzb'.out.below hb9)
      clear hb9 hR18 hR28 hB8 hzb'
      go_wp2_with fail
      refine (same02_any z _ l l w9 hzb9.out (h'.out.below hB9.out)).mono ?_
      rintro e w10 ⟨rfl, rfl⟩
      have hd : decide (l = l) = true := by simp
      rw [hd]
      clear hd hzb9
      go_wp2_with fail
      refine (rdLeft_any g1 v1 .nilIface l n 0 _ hR19.out hl).mono ?_
      rintro e w11 ⟨rfl, hq⟩
      have hR211 := hide (hR29.out.below (hq.below _))
      have hB11 := hide (hB9.out.trans (hq.below _))
      have d7 : (((l.length - n : Nat) : Int) == (l.length : Int) - (n : Int)) = true := by simp; omega
      clear hq hR29 hB9 hR19
      go_wp2_with fail
      refine (rdEnd_none g2 v2 l _ hR211.out hl).mono ?_
      rintro e w12 ⟨rfl, hq⟩
      have hB12 := hide (hB11.out.trans (hq.below _))
      clear hq
      go_wp2_with fail
      go_ret
      exact ⟨rfl, hB12.out⟩
end Go.Proofs.YtihimcgppifcbaaDoor
