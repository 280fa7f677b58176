/- nacellelaw02.awake walked. -/
import Derived.Test.YtihimcgppifcbaaDoorOctetRd2
namespace Go.Proofs.YtihimcgppifcbaaDoor
open Go.RowKit

set_option maxRecDepth 100000 in
set_option maxHeartbeats 1000000 in
theorem awake02 (w : World) (hE : ErrT w) : Calls Tryd.prog 27 #[] w fun e w' => e = .returned (.bool true) ∧ Below w.heap.size w w' := by
  have hE' := hide hE
  clear hE
  go_enter Tryd.func27, Tryd.ntmps27
  go_wp2_with fail
  refine (get_any (.slice (some ⟨w.heap.size, 0, none⟩) 2 2) [2, 1] _ (Bs.lit w _ _ [2, 1] 2 rfl (by rfl) (by omega))).mono ?_
  rintro e w1 ⟨rfl, rfl⟩
  have hg : getV [2, 1] = (258, 0) := by decide
  rw [hg]
  clear hg
  have hb1 := hide ((Below.refl w.heap.size w).alloc (Nat.le_refl _) (.cells #[.int .u8 2, .int .u8 1] 5))
  have s1 : (w.alloc (.cells #[.int .u8 2, .int .u8 1] 5)).heap.size = w.heap.size + 1 := by simp
  generalize w.alloc (.cells #[.int .u8 2, .int .u8 1] 5) = w1 at *
  go_wp2_with fail
  have hb2 := hide ((Below.refl w1.heap.size w1).alloc (Nat.le_refl _) (.cells #[.int .u8 1, .int .u8 0, .int .u8 9] 5))
  have hbs := Bs.lit w1 #[.int .u8 1, .int .u8 0, .int .u8 9] 5 (fr := (0, 0)) [1, 0, 9] 3 rfl (by rfl) (by omega)
  rw [s1] at hbs
  have hbs' := hide hbs
  clear hbs s1
  generalize w1.alloc (.cells #[.int .u8 1, .int .u8 0, .int .u8 9] 5) = w2 at *
  refine (read_any _ [1, 0, 9] w2 hbs'.out (by decide)).mono ?_
  rintro e w3 ⟨g, v, rfl, hg1, hv1, hR, hb3⟩
  have hR' : Hid (Rd w3 g v [1, 0, 9] 0) := hR
  have hb3' := hide (hb1.out.trans ((hb2.out.trans (hb3.mono hb2.out.size)).mono hb1.out.size))
  have hg1' : w.heap.size ≤ g := Nat.le_trans hb1.out.size (Nat.le_trans hb2.out.size hg1)
  have hv' := hide (show ∀ b, v.ownBlock = some b → w.heap.size ≤ b from fun b hb => Nat.le_trans hb1.out.size (Nat.le_trans hb2.out.size (hv1 b hb)))
  have hE3 := hide (hE'.out.below hb3'.out)
  clear hb1 hb2 hb3 hR hg1 hv1 hbs'
  go_wp2_with fail
  refine (put_any 258 (by omega) 2 (by unfold I64; omega) _).mono ?_
  rintro e w4 ⟨u, rfl, hu, hb4⟩
  have hu' := hide hu
  have hR4 := hide (hR'.out.below hb4)
  have hE4 := hide (hE3.out.below hb4)
  have hb4' := hide (hb3'.out.trans (hb4.mono hb3'.out.size))
  clear hu hb4 hR' hE3 hb3'
  go_wp2_with fail
  have hq : Below w4.heap.size w4 (w4.alloc (.cells #[.int .u8 2, .int .u8 1] 5)) := (Below.refl _ _).alloc (Nat.le_refl _) _
  refine (same02_any u (.slice (some ⟨w4.heap.size, 0, none⟩) 2 2) (putV 258 2) [2, 1] _ (hu'.out.bs.below hq) (Bs.lit w4 _ _ [2, 1] 2 rfl (by rfl) (by omega))).mono ?_
  rintro e w5 ⟨rfl, rfl⟩
  have hR5 := hide (hR4.out.below hq)
  have hE5 := hide (hE4.out.below hq)
  have hb5 := hide (hb4'.out.trans (hq.mono hb4'.out.size))
  have hd : decide (putV 258 2 = [2, 1]) = true := by decide
  rw [hd]
  clear hd hq hR4 hE4 hb4' hu'
  generalize w4.alloc (.cells #[.int .u8 2, .int .u8 1] 5) = w5 at *
  go_wp2_with fail
  refine (text_any [97, 98] w5 (by decide)).mono ?_
  rintro e w6 ⟨t, rfl, ht, hb6⟩
  have ht' := hide ht
  have hR6 := hide (hR5.out.below hb6)
  have hE6 := hide (hE5.out.below hb6)
  have hb6' := hide (hb5.out.trans (hb6.mono hb5.out.size))
  clear ht hb6 hR5 hE5 hb5
  go_wp2_with fail
  have hq : Below w6.heap.size w6 (w6.alloc (.cells #[.int .u8 2, .int .u8 97, .int .u8 98] 5)) := (Below.refl _ _).alloc (Nat.le_refl _) _
  refine (same02_any t (.slice (some ⟨w6.heap.size, 0, none⟩) 3 3) (textV [97, 98]) [2, 97, 98] _ (ht'.out.bs.below hq) (Bs.lit w6 _ _ [2, 97, 98] 3 rfl (by rfl) (by omega))).mono ?_
  rintro e w7 ⟨rfl, rfl⟩
  have hR7 := hide (hR6.out.below hq)
  have hE7 := hide (hE6.out.below hq)
  have hb7 := hide (hb6'.out.trans (hq.mono hb6'.out.size))
  have hd : decide (textV [97, 98] = [2, 97, 98]) = true := by decide
  rw [hd]
  clear hd hq hR6 hE6 hb6' ht'
  generalize w6.alloc (.cells #[.int .u8 2, .int .u8 97, .int .u8 98] 5) = w7 at *
  go_wp2_with fail
  refine (rdNum_ok g v [1, 0, 9] 0 2 w7 hR7.out (by decide) (by decide) (by omega) (by omega)).mono ?_
  rintro e w8 ⟨rfl, hR8, hT8⟩
  have hE8 := hide (hE7.out.later hT8.2 (fun e => by have := hE'.out.lt; omega))
  have hb8 := hide (hb7.out.trans (hT8.below hb7.out.size (fun k hk e => by omega)))
  have hd : Crc.num ((([1, 0, 9] : List UInt8).drop 0).take 2) = 1 := by decide
  rw [hd]
  have hR8' := hide hR8
  clear hd hR7 hE7 hb7 hT8 hR8
  go_wp2_with fail
  refine (rdEnd_extra g v [1, 0, 9] 2 w8 hR8'.out (by decide) (by decide)).mono ?_
  rintro e w9 ⟨gf, rfl, hF, hb9⟩
  have hE9 := hide (hE8.out.below hb9)
  have hF' := hide hF
  have hb9' := hide (hb8.out.trans (hb9.mono hb8.out.size))
  clear hE8 hF hb9 hb8
  go_wp2_with fail
  refine (code_one gf 7 _ w9 hF'.out hE9.out).mono ?_
  rintro e w10 ⟨rfl, hb10⟩
  have hb10' := hide (hb9'.out.trans (hb10.mono hb9'.out.size))
  clear hb10 hb9'
  go_wp2_with fail
  go_ret
  exact ⟨rfl, hb10'.out⟩
end Go.Proofs.YtihimcgppifcbaaDoor
