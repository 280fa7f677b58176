/- The laws OctetPuts, OctetGets, OctetUnlike walked. -/
import Derived.Test.YtihimcgppifcbaaDoorOctetAwake
namespace Go.Proofs.YtihimcgppifcbaaDoor
open Go.RowKit

set_option maxRecDepth 100000 in
set_option maxHeartbeats 1000000 in
theorem octetPuts_any (n : Nat) (hn : n < 18446744073709551616) (size : Int) (hs : I64 size) (l : List UInt8) (hl : l.length ≤ 9223372036854775807) (w : World) (hE : ErrT w) :
    Calls Tryd.prog 10 #[.int .u64 n, .int .i64 size, .string ⟨l.toArray⟩] w fun e w' => e = .returned (.bool true) ∧ Below w.heap.size w w' := by
  have hE' := hide hE
  have hs' := hide hs
  clear hE hs
  go_enter Tryd.func10, Tryd.ntmps10
  go_wp2_with fail
  refine (awake02 w hE'.out).mono ?_
  rintro e w1 ⟨rfl, hb1⟩
  have hb1' := hide hb1
  clear hb1
  go_wp2_with fail
  refine (put_any n hn size hs'.out w1).mono ?_
  rintro e w2 ⟨a, rfl, ha, hb2⟩
  have ha2 := hide ha
  have hb2' := hide (hb1'.out.trans (hb2.mono hb1'.out.size))
  clear ha hb2 hb1'
  go_wp2_with fail
  refine (refPut_any n hn size hs'.out w2).mono ?_
  rintro e w3 ⟨b, rfl, hb, hb3⟩
  have ha3 := hide (ha2.out.below hb3)
  have hbb := hide hb
  have hb3' := hide (hb2'.out.trans (hb3.mono hb2'.out.size))
  clear hb hb3 hb2' ha2
  go_wp2_with fail
  refine (same02_any a b _ _ w3 ha3.out.bs hbb.out.bs).mono ?_
  rintro e w4 ⟨rfl, rfl⟩
  have hd : decide (putV n size = putV n size) = true := by simp
  rw [hd]
  clear hd ha3 hbb
  go_wp2_with fail
  refine (text_any l _ hl).mono ?_
  rintro e w5 ⟨c, rfl, hc, hb5⟩
  have hc5 := hide hc
  have hb5' := hide (hb3'.out.trans (hb5.mono hb3'.out.size))
  clear hc hb5 hb3'
  go_wp2_with fail
  refine (refText_any l _ hl).mono ?_
  rintro e w6 ⟨d, rfl, hd, hb6⟩
  have hc6 := hide (hc5.out.below hb6)
  have hd6 := hide hd
  have hb6' := hide (hb5'.out.trans (hb6.mono hb5'.out.size))
  clear hd hb6 hb5' hc5
  go_wp2_with fail
  refine (same02_any c d _ _ w6 hc6.out.bs hd6.out).mono ?_
  rintro e w7 ⟨rfl, rfl⟩
  have hd : decide (textV l = textV l) = true := by simp
  rw [hd]
  go_wp2_with fail
  go_ret
  exact ⟨rfl, hb6'.out⟩

set_option maxRecDepth 100000 in
set_option maxHeartbeats 1000000 in
theorem octetGets_any (v : Value) (l : List UInt8) (w : World) (h : Bs w v l) (hE : ErrT w) :
    Calls Tryd.prog 11 #[v] w fun e w' => e = .returned (.bool true) ∧ Below w.heap.size w w' := by
  obtain ⟨A, cp, rfl, h1, h2, h3⟩ := h.open_
  have hE' := hide hE
  have h' := hide h
  clear hE h h3
  by_cases hl : 1 ≤ l.length ∧ l.length ≤ 8
  · have hg := hide (show getV l = (Crc.num l, 0) from if_pos hl)
    have i1 : ¬ l.length < 1 := by omega
    have i2 : ¬ l.length = 0 := by omega
    have i3 : ¬ (8 : Int) < (l.length : Int) := by omega
    have hl8 : l.length ≤ 8 := hl.2
    clear hl
    go_enter Tryd.func11, Tryd.ntmps11
    go_wp2_with fail
    refine (get_any _ l w h'.out).mono ?_
    rintro e w1 ⟨rfl, rfl⟩
    rw [hg.out]
    go_wp2_with fail
    refine (awake02 _ hE'.out).mono ?_
    rintro e w1 ⟨rfl, hb1⟩
    have hb1' := hide hb1
    clear hb1
    go_wp2_with fail
    refine (number_any _ l hl8 _ (h'.out.below hb1'.out)).mono ?_
    rintro e w2 ⟨rfl, rfl⟩
    go_wp2_with fail
    go_ret
    exact ⟨rfl, hb1'.out⟩
  · have hg := hide (show getV l = (0, 1) from if_neg hl)
    by_cases h0 : l.length < 1
    · obtain rfl : l = [] := List.eq_nil_of_length_eq_zero (by omega)
      clear hl h0
      go_enter Tryd.func11, Tryd.ntmps11
      go_wp2_with fail
      refine (get_any _ [] w h'.out).mono ?_
      rintro e w1 ⟨rfl, rfl⟩
      rw [hg.out]
      go_wp2_with fail
      refine (awake02 _ hE'.out).mono ?_
      rintro e w1 ⟨rfl, hb1⟩
      have hb1' := hide hb1
      clear hb1
      go_wp2_with fail
      go_ret
      exact ⟨rfl, hb1'.out⟩
    · have i3 : (8 : Int) < (l.length : Int) := by omega
      have i1 : ¬ (l.length : Int) < 1 := by omega
      clear hl h0
      go_enter Tryd.func11, Tryd.ntmps11
      go_wp2_with fail
      refine (get_any _ l w h'.out).mono ?_
      rintro e w1 ⟨rfl, rfl⟩
      rw [hg.out]
      go_wp2_with fail
      refine (awake02 _ hE'.out).mono ?_
      rintro e w1 ⟨rfl, hb1⟩
      have hb1' := hide hb1
      clear hb1
      go_wp2_with fail
      go_ret
      exact ⟨rfl, hb1'.out⟩
end Go.Proofs.YtihimcgppifcbaaDoor
