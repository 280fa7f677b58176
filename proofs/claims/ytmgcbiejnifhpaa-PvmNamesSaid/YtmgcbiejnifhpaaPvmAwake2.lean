/- law 08's awake walked, whole. -/
import Derived.Test.YtmgcbiejnifhpaaPvmAwake
namespace Go.Proofs.Ytmgcbiejnifhpaa
open Go.RowKit
set_option maxRecDepth 100000 in
set_option maxHeartbeats 8000000 in
theorem awake08 (w : World) : Calls Try.prog 10 #[] w fun e w' => e = .returned (.bool true) ∧ Below w.heap.size w w' := by
  have hb0 := hide (Below.refl w.heap.size w)
  go_enter Try.func10, Try.ntmps10
  go_wp2_with fail
  have hp1 := hide (inss2 w ⟨1, 0, 5, 0⟩ 56)
  have hbp1 : Below w.heap.size w (w.alloc (.cells #[.int .u8 1, .int .u8 0, .int .u8 5, .int .u8 0, .int .u8 0, .int .u8 0, .int .u8 0, .int .u8 0] 56)) := (Below.refl _ _).alloc (Nat.le_refl _) _
  have hq1 := hide (hb0.out.trans (hbp1.mono hb0.out.size))
  replace hp1 := hide (show Inss (w.alloc (.cells #[.int .u8 1, .int .u8 0, .int .u8 5, .int .u8 0, .int .u8 0, .int .u8 0, .int .u8 0, .int .u8 0] 56)) (.slice (some ⟨w.heap.size, 0, none⟩) 2 2) [⟨1, 0, 5, 0⟩, hlt] from hp1.out)
  clear hbp1
  generalize w.alloc (.cells #[.int .u8 1, .int .u8 0, .int .u8 5, .int .u8 0, .int .u8 0, .int .u8 0, .int .u8 0, .int .u8 0] 56) = wp1 at *
  refine (pnew_none 0 (by omega) wp1).mono ?_
  rintro e wn1 ⟨An1, rfl, hm1, hb⟩
  replace hp1 := hide (Inss.below hp1.out hb)
  replace hq1 := hide (hq1.out.trans (hb.mono hq1.out.size))
  have hm1' := hide hm1
  clear hb hm1
  go_wp2_with fail
  refine (step_set _ An1 0 wn1 hp1.out hm1'.out).mono ?_
  rintro e ws1 ⟨As1, cs1, rfl, _, hb⟩
  replace hq1 := hide (hq1.out.trans (hb.mono hq1.out.size))
  clear hb hp1 hm1'
  go_upto_region 2 with (fail)
  have hT1 := Row.new ws1 27 [.int .i64 1, .int .i64 (aw1 0), .int .i64 (aw1 1), .int .i64 (aw1 2), .int .i64 (aw1 3), .int .i64 (aw1 4), .int .i64 (aw1 5), .int .i64 (aw1 6), .int .i64 (aw1 7), .slice As1 0 cs1, .int .i64 0, .int .i64 0]
  have hbT1 : Below ws1.heap.size ws1 (ws1.alloc (.cells #[.int .i64 1, .int .i64 (aw1 0), .int .i64 (aw1 1), .int .i64 (aw1 2), .int .i64 (aw1 3), .int .i64 (aw1 4), .int .i64 (aw1 5), .int .i64 (aw1 6), .int .i64 (aw1 7), .slice As1 0 cs1, .int .i64 0, .int .i64 0] 27)) := (Below.refl _ _).alloc (Nat.le_refl _) _
  have hsT1 : (ws1.alloc (.cells #[.int .i64 1, .int .i64 (aw1 0), .int .i64 (aw1 1), .int .i64 (aw1 2), .int .i64 (aw1 3), .int .i64 (aw1 4), .int .i64 (aw1 5), .int .i64 (aw1 6), .int .i64 (aw1 7), .slice As1 0 cs1, .int .i64 0, .int .i64 0] 27)).heap.size = ws1.heap.size + 1 := by simp
  generalize ws1.alloc (.cells #[.int .i64 1, .int .i64 (aw1 0), .int .i64 (aw1 1), .int .i64 (aw1 2), .int .i64 (aw1 3), .int .i64 (aw1 4), .int .i64 (aw1 5), .int .i64 (aw1 6), .int .i64 (aw1 7), .slice As1 0 cs1, .int .i64 0, .int .i64 0] 27) = wt1 at *
  have hV1 := Row.new wt1 38 [.int .i64 0, .int .i64 0]
  have hbV1 : Below wt1.heap.size wt1 (wt1.alloc (.cells #[.int .i64 0, .int .i64 0] 38)) := (Below.refl _ _).alloc (Nat.le_refl _) _
  have hbb1 := hbT1.trans (hbV1.mono hbT1.size)
  have hT1' := hide (hT1.below hbV1)
  replace hq1 := hide (hq1.out.trans (hbb1.mono hq1.out.size))
  generalize wt1.alloc (.cells #[.int .i64 0, .int .i64 0] 38) = wv1 at *
  rw [hsT1] at hV1
  generalize ws1.heap.size = bt1 at *
  have hV1' := hide hV1
  clear hT1 hbT1 hsT1 hV1 hbV1 hbb1
  go_wp2_with fail
  have hp2 := hide (inss2 wv1 ⟨6, 0, 0, 1⟩ 56)
  have hbp2 : Below wv1.heap.size wv1 (wv1.alloc (.cells #[.int .u8 6, .int .u8 0, .int .u8 0, .int .u8 1, .int .u8 0, .int .u8 0, .int .u8 0, .int .u8 0] 56)) := (Below.refl _ _).alloc (Nat.le_refl _) _
  have hq2 := hide (hq1.out.trans (hbp2.mono hq1.out.size))
  replace hT1' := hide (hT1'.out.below hbp2)
  replace hV1' := hide (hV1'.out.below hbp2)
  replace hp2 := hide (show Inss (wv1.alloc (.cells #[.int .u8 6, .int .u8 0, .int .u8 0, .int .u8 1, .int .u8 0, .int .u8 0, .int .u8 0, .int .u8 0] 56)) (.slice (some ⟨wv1.heap.size, 0, none⟩) 2 2) [⟨6, 0, 0, 1⟩, hlt] from hp2.out)
  clear hbp2
  generalize wv1.alloc (.cells #[.int .u8 6, .int .u8 0, .int .u8 0, .int .u8 1, .int .u8 0, .int .u8 0, .int .u8 0, .int .u8 0] 56) = wp2 at *
  refine (pnew_none 0 (by omega) wp2).mono ?_
  rintro e wn2 ⟨An2, rfl, hm2, hb⟩
  replace hp2 := hide (Inss.below hp2.out hb)
  replace hq2 := hide (hq2.out.trans (hb.mono hq2.out.size))
  replace hT1' := hide (hT1'.out.below hb)
  replace hV1' := hide (hV1'.out.below hb)
  have hm2' := hide hm2
  clear hb hm2
  go_wp2_with fail
  refine (step_div _ An2 0 wn2 hp2.out hm2'.out).mono ?_
  rintro e ws2 ⟨As2, cs2, rfl, _, hb⟩
  replace hq2 := hide (hq2.out.trans (hb.mono hq2.out.size))
  replace hT1' := hide (hT1'.out.below hb)
  replace hV1' := hide (hV1'.out.below hb)
  clear hb hp2 hm2'
  go_upto_region 3 with (fail)
  have hT2 := Row.new ws2 27 [.int .i64 0, .int .i64 (aw0 0), .int .i64 (aw0 1), .int .i64 (aw0 2), .int .i64 (aw0 3), .int .i64 (aw0 4), .int .i64 (aw0 5), .int .i64 (aw0 6), .int .i64 (aw0 7), .slice As2 0 cs2, .int .i64 2, .int .i64 80]
  have hbT2 : Below ws2.heap.size ws2 (ws2.alloc (.cells #[.int .i64 0, .int .i64 (aw0 0), .int .i64 (aw0 1), .int .i64 (aw0 2), .int .i64 (aw0 3), .int .i64 (aw0 4), .int .i64 (aw0 5), .int .i64 (aw0 6), .int .i64 (aw0 7), .slice As2 0 cs2, .int .i64 2, .int .i64 80] 27)) := (Below.refl _ _).alloc (Nat.le_refl _) _
  have hsT2 : (ws2.alloc (.cells #[.int .i64 0, .int .i64 (aw0 0), .int .i64 (aw0 1), .int .i64 (aw0 2), .int .i64 (aw0 3), .int .i64 (aw0 4), .int .i64 (aw0 5), .int .i64 (aw0 6), .int .i64 (aw0 7), .slice As2 0 cs2, .int .i64 2, .int .i64 80] 27)).heap.size = ws2.heap.size + 1 := by simp
  generalize ws2.alloc (.cells #[.int .i64 0, .int .i64 (aw0 0), .int .i64 (aw0 1), .int .i64 (aw0 2), .int .i64 (aw0 3), .int .i64 (aw0 4), .int .i64 (aw0 5), .int .i64 (aw0 6), .int .i64 (aw0 7), .slice As2 0 cs2, .int .i64 2, .int .i64 80] 27) = wt2 at *
  have hV2 := Row.new wt2 38 [.int .i64 3, .int .i64 80]
  have hbV2 : Below wt2.heap.size wt2 (wt2.alloc (.cells #[.int .i64 3, .int .i64 80] 38)) := (Below.refl _ _).alloc (Nat.le_refl _) _
  have hbb2 := hbT2.trans (hbV2.mono hbT2.size)
  have hT2' := hide (hT2.below hbV2)
  replace hq2 := hide (hq2.out.trans (hbb2.mono hq2.out.size))
  replace hT1' := hide (hT1'.out.below hbb2)
  replace hV1' := hide (hV1'.out.below hbb2)
  generalize wt2.alloc (.cells #[.int .i64 3, .int .i64 80] 38) = wv2 at *
  rw [hsT2] at hV2
  generalize ws2.heap.size = bt2 at *
  have hV2' := hide hV2
  clear hT2 hbT2 hsT2 hV2 hbV2 hbb2
  go_wp2_with fail
  have hp3 := hide (inss2 wv2 ⟨17, 7, 0, 0⟩ 56)
  have hbp3 : Below wv2.heap.size wv2 (wv2.alloc (.cells #[.int .u8 17, .int .u8 7, .int .u8 0, .int .u8 0, .int .u8 0, .int .u8 0, .int .u8 0, .int .u8 0] 56)) := (Below.refl _ _).alloc (Nat.le_refl _) _
  have hq3 := hide (hq2.out.trans (hbp3.mono hq2.out.size))
  replace hT1' := hide (hT1'.out.below hbp3)
  replace hV1' := hide (hV1'.out.below hbp3)
  replace hT2' := hide (hT2'.out.below hbp3)
  replace hV2' := hide (hV2'.out.below hbp3)
  replace hp3 := hide (show Inss (wv2.alloc (.cells #[.int .u8 17, .int .u8 7, .int .u8 0, .int .u8 0, .int .u8 0, .int .u8 0, .int .u8 0, .int .u8 0] 56)) (.slice (some ⟨wv2.heap.size, 0, none⟩) 2 2) [⟨17, 7, 0, 0⟩, hlt] from hp3.out)
  clear hbp3
  generalize wv2.alloc (.cells #[.int .u8 17, .int .u8 7, .int .u8 0, .int .u8 0, .int .u8 0, .int .u8 0, .int .u8 0, .int .u8 0] 56) = wp3 at *
  refine (pnew_none 0 (by omega) wp3).mono ?_
  rintro e wn3 ⟨An3, rfl, hm3, hb⟩
  replace hp3 := hide (Inss.below hp3.out hb)
  replace hq3 := hide (hq3.out.trans (hb.mono hq3.out.size))
  replace hT1' := hide (hT1'.out.below hb)
  replace hV1' := hide (hV1'.out.below hb)
  replace hT2' := hide (hT2'.out.below hb)
  replace hV2' := hide (hV2'.out.below hb)
  have hm3' := hide hm3
  clear hb hm3
  go_wp2_with fail
  refine (run_call _ An3 0 wn3 hp3.out hm3'.out).mono ?_
  rintro e ws3 ⟨As3, cs3, rfl, hb⟩
  replace hq3 := hide (hq3.out.trans (hb.mono hq3.out.size))
  replace hT1' := hide (hT1'.out.below hb)
  replace hV1' := hide (hV1'.out.below hb)
  replace hT2' := hide (hT2'.out.below hb)
  replace hV2' := hide (hV2'.out.below hb)
  clear hb hp3 hm3'
  go_upto_region 4 with (fail)
  have hT3 := Row.new ws3 27 [.int .i64 1, .int .i64 (aw0 0), .int .i64 (aw0 1), .int .i64 (aw0 2), .int .i64 (aw0 3), .int .i64 (aw0 4), .int .i64 (aw0 5), .int .i64 (aw0 6), .int .i64 (aw0 7), .slice As3 0 cs3, .int .i64 0, .int .i64 0]
  have hbT3 : Below ws3.heap.size ws3 (ws3.alloc (.cells #[.int .i64 1, .int .i64 (aw0 0), .int .i64 (aw0 1), .int .i64 (aw0 2), .int .i64 (aw0 3), .int .i64 (aw0 4), .int .i64 (aw0 5), .int .i64 (aw0 6), .int .i64 (aw0 7), .slice As3 0 cs3, .int .i64 0, .int .i64 0] 27)) := (Below.refl _ _).alloc (Nat.le_refl _) _
  have hsT3 : (ws3.alloc (.cells #[.int .i64 1, .int .i64 (aw0 0), .int .i64 (aw0 1), .int .i64 (aw0 2), .int .i64 (aw0 3), .int .i64 (aw0 4), .int .i64 (aw0 5), .int .i64 (aw0 6), .int .i64 (aw0 7), .slice As3 0 cs3, .int .i64 0, .int .i64 0] 27)).heap.size = ws3.heap.size + 1 := by simp
  generalize ws3.alloc (.cells #[.int .i64 1, .int .i64 (aw0 0), .int .i64 (aw0 1), .int .i64 (aw0 2), .int .i64 (aw0 3), .int .i64 (aw0 4), .int .i64 (aw0 5), .int .i64 (aw0 6), .int .i64 (aw0 7), .slice As3 0 cs3, .int .i64 0, .int .i64 0] 27) = wt3 at *
  have hV3 := Row.new wt3 38 [.int .i64 1, .int .i64 7]
  have hbV3 : Below wt3.heap.size wt3 (wt3.alloc (.cells #[.int .i64 1, .int .i64 7] 38)) := (Below.refl _ _).alloc (Nat.le_refl _) _
  have hbb3 := hbT3.trans (hbV3.mono hbT3.size)
  have hT3' := hide (hT3.below hbV3)
  replace hq3 := hide (hq3.out.trans (hbb3.mono hq3.out.size))
  replace hT1' := hide (hT1'.out.below hbb3)
  replace hV1' := hide (hV1'.out.below hbb3)
  replace hT2' := hide (hT2'.out.below hbb3)
  replace hV2' := hide (hV2'.out.below hbb3)
  generalize wt3.alloc (.cells #[.int .i64 1, .int .i64 7] 38) = wv3 at *
  rw [hsT3] at hV3
  generalize ws3.heap.size = bt3 at *
  have hV3' := hide hV3
  clear hT3 hbT3 hsT3 hV3 hbV3 hbb3
  have x1 := hT1'.out.c 1 _ rfl
  have hr0 : aw1 0 = 5 := rfl
  rw [hr0] at x1
  have x0 := hT1'.out.c 0 _ rfl
  have v0 := hV1'.out.c 0 _ rfl
  have v1 := hV1'.out.c 1 _ rfl
  have y11 := hT2'.out.c 11 _ rfl
  have y10 := hT2'.out.c 10 _ rfl
  have u0 := hV2'.out.c 0 _ rfl
  have u1 := hV2'.out.c 1 _ rfl
  have z0 := hT3'.out.c 0 _ rfl
  have s0 := hV3'.out.c 0 _ rfl
  have s1 := hV3'.out.c 1 _ rfl
  go_wp2_with fail
  go_ret
  exact ⟨rfl, hq3.out⟩
end Go.Proofs.Ytmgcbiejnifhpaa
