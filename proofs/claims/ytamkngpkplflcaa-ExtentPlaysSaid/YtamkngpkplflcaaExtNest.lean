/- The law ExtentNested walked. -/
import Derived.Test.YtamkngpkplflcaaExtPart2
import Derived.Test.YtamkngpkplflcaaExtConf
namespace Go.Proofs.Ytamkngpkplflcaa
open Go.RowKit

theorem CInv.flush {d : Dk} {V : Nat → UInt8} (h : CInv d V) : d.flush = ({ d with has := layN d.has (fun _ => true) d.waits d.waits.length, waits := [] }, 0) := by
  have hg : d.goes = (d, true) := by unfold Dk.goes; rw [if_neg (by simp [h.off]), if_pos h.arm]
  unfold Dk.flush
  rw [hg]
  rfl
theorem later_monoN {F G : Nat → Prop} {w w' : World} (h : Later F w w') (hG : ∀ k, F k → G k) : Later G w w' := ⟨h.1, fun k hk hg => h.2 k hk (fun e => hg (hG k e))⟩
theorem lies_nat (f c n : Int) (h : liesV f c n = true) : ∃ a b : Nat, f = a ∧ c = b ∧ 1 ≤ b ∧ (a + b : Int) ≤ n := by
  have h' : 1 ≤ c ∧ 0 ≤ f ∧ c ≤ n ∧ f ≤ n - c := by unfold liesV at h; simpa using h
  exact ⟨f.toNat, c.toNat, by omega, by omega, by omega, by omega⟩

set_option maxRecDepth 100000 in
theorem ewrite_out {w : World} {p : Nat} {f c : Int} {gd : Nat} (h : PtAt w p f c gd) (at_ : Int) (hat : I64 at_) (ho : ¬ (0 ≤ at_ ∧ at_ < c)) (bv : Value) :
    Calls Try.prog 32 #[.pointer (some ⟨p, 0, none⟩), .int .i64 at_, bv] w fun e w' => e = .returned (.int .i64 4) ∧ Below w.heap.size w w' := by
  have c0 := h.c0
  have c1 := h.c1
  have hpl := hide (place_any f c at_ w h.iF h.iC hat)
  have hpo := hide (place_out f c at_ ho)
  clear h ho
  go_enter Try.func32, Try.ntmps32
  go_wp2_with fail
  refine hpl.out.mono ?_
  rintro e w1 ⟨rfl, hb⟩
  rw [hpo.out]
  have hb1 := hide hb
  clear hpl hb
  go_wp2_with fail
  go_ret
  exact ⟨rfl, hb1.out⟩
set_option maxRecDepth 100000 in
set_option maxHeartbeats 1000000 in
theorem nested_bad (xf xc yf yc : Int) (c : UInt8) (h1 : I64 xf) (h2 : I64 xc) (hl : liesV xf xc 9 = false) (w : World) :
    Calls Try.prog 10 #[.agg #[.int .i64 xf, .int .i64 xc], .agg #[.int .i64 yf, .int .i64 yc], .int .u8 (c.toNat : Int)] w fun e w' => e = .returned (.bool true) ∧ Below w.heap.size w w' := by
  have h1' := hide h1
  have h2' := hide h2
  have hl' := hide hl
  clear h1 h2 hl
  go_enter Try.func10, Try.ntmps10
  go_wp2_with fail
  have hbA : Below w.heap.size w ((w.alloc (.cells #[.int .i64 xf, .int .i64 xc] 25)).alloc (.cells #[.int .i64 yf, .int .i64 yc] 25)) := ((Below.refl _ _).alloc (Nat.le_refl _) _).alloc (by simp) _
  have hz0 : ((w.alloc (.cells #[.int .i64 xf, .int .i64 xc] 25)).alloc (.cells #[.int .i64 yf, .int .i64 yc] 25)).heap.size = w.heap.size + 2 := by simp
  have hx0 : ((w.alloc (.cells #[.int .i64 xf, .int .i64 xc] 25)).alloc (.cells #[.int .i64 yf, .int .i64 yc] 25)).cell? ⟨w.heap.size, 0, none⟩ = some (.int .i64 xf) := by simp [go_sem]
  have hx1 : ((w.alloc (.cells #[.int .i64 xf, .int .i64 xc] 25)).alloc (.cells #[.int .i64 yf, .int .i64 yc] 25)).cell? ⟨w.heap.size, 1, none⟩ = some (.int .i64 xc) := by simp [go_sem]
  have hy0 : ((w.alloc (.cells #[.int .i64 xf, .int .i64 xc] 25)).alloc (.cells #[.int .i64 yf, .int .i64 yc] 25)).cell? ⟨w.heap.size + 1, 0, none⟩ = some (.int .i64 yf) := by simp [go_sem]
  have hy1 : ((w.alloc (.cells #[.int .i64 xf, .int .i64 xc] 25)).alloc (.cells #[.int .i64 yf, .int .i64 yc] 25)).cell? ⟨w.heap.size + 1, 1, none⟩ = some (.int .i64 yc) := by simp [go_sem]
  have hbA' := hide hbA
  have hx0' := hide hx0
  have hx1' := hide hx1
  have hy0' := hide hy0
  have hy1' := hide hy1
  clear hbA hx0 hx1 hy0 hy1
  generalize (w.alloc (.cells #[.int .i64 xf, .int .i64 xc] 25)).alloc (.cells #[.int .i64 yf, .int .i64 yc] 25) = w0 at *
  refine (dnew_dsk 9 (by omega) (by omega) w0).mono ?_
  rintro e w1 ⟨gd, rfl, hgd, hD, hb⟩
  have x0 := (hb.cell (p := ⟨w.heap.size, 0, none⟩) (by simp; omega)).trans hx0'.out
  have x1 := (hb.cell (p := ⟨w.heap.size, 1, none⟩) (by simp; omega)).trans hx1'.out
  have y0 := (hb.cell (p := ⟨w.heap.size + 1, 0, none⟩) (by simp; omega)).trans hy0'.out
  have y1 := (hb.cell (p := ⟨w.heap.size + 1, 1, none⟩) (by simp; omega)).trans hy1'.out
  have hD1 := hide hD
  have hb1 := hide (hbA'.out.trans (hb.mono (by omega)))
  have s1 := hb.size
  clear hD hb hx0' hx1' hy0' hy1' hbA'
  go_wp2_with fail
  refine (enew_any gd _ _ xf xc h1'.out h2'.out w1 hD1.out).mono ?_
  rintro e w2 ⟨hb, hp⟩
  rw [show (((newDk 9).n : Nat) : Int) = 9 from rfl, if_neg (by rw [hl'.out]; simp)] at hp
  subst hp
  replace x0 := (hb.cell (p := ⟨w.heap.size, 0, none⟩) (by simp; omega)).trans x0
  replace x1 := (hb.cell (p := ⟨w.heap.size, 1, none⟩) (by simp; omega)).trans x1
  have hb2 := hide (hb1.out.trans (hb.mono hb1.out.size))
  clear hb y0 y1
  go_wp2_with fail
  refine (lies_any xf xc 9 _ h1'.out h2'.out (by unfold I64; omega)).mono ?_
  rintro e w3 ⟨rfl, hb⟩
  rw [hl'.out]
  have hb3 := hide (hb2.out.trans (hb.mono hb2.out.size))
  clear hb hb2
  go_wp2_with fail
  refine (awake06 _).mono ?_
  rintro e w4 ⟨rfl, hb⟩
  have hb4 := hide (hb3.out.trans (hb.mono hb3.out.size))
  clear hb hb3
  go_wp2_with fail
  go_ret
  exact ⟨rfl, hb4.out⟩

set_option maxRecDepth 100000 in
set_option maxHeartbeats 1000000 in
theorem nested_part (xf xc : Nat) (yf yc : Int) (c : UInt8) (hx1 : 1 ≤ xc) (hx2 : xf + xc ≤ 9) (h3 : I64 yf) (h4 : I64 yc) (hl : liesV yf yc xc = false) (w : World) :
    Calls Try.prog 10 #[.agg #[.int .i64 xf, .int .i64 xc], .agg #[.int .i64 yf, .int .i64 yc], .int .u8 (c.toNat : Int)] w fun e w' => e = .returned (.bool true) ∧ Below w.heap.size w w' := by
  have h3' := hide h3
  have h4' := hide h4
  have hl' := hide hl
  have hlx := hide (show liesV xf xc 9 = true by unfold liesV; simp; omega)
  clear h3 h4 hl
  go_enter Try.func10, Try.ntmps10
  go_wp2_with fail
  have hbA : Below w.heap.size w ((w.alloc (.cells #[.int .i64 xf, .int .i64 xc] 25)).alloc (.cells #[.int .i64 yf, .int .i64 yc] 25)) := ((Below.refl _ _).alloc (Nat.le_refl _) _).alloc (by simp) _
  have hz0 : ((w.alloc (.cells #[.int .i64 xf, .int .i64 xc] 25)).alloc (.cells #[.int .i64 yf, .int .i64 yc] 25)).heap.size = w.heap.size + 2 := by simp
  have hx0 : ((w.alloc (.cells #[.int .i64 xf, .int .i64 xc] 25)).alloc (.cells #[.int .i64 yf, .int .i64 yc] 25)).cell? ⟨w.heap.size, 0, none⟩ = some (.int .i64 xf) := by simp [go_sem]
  have hx1 : ((w.alloc (.cells #[.int .i64 xf, .int .i64 xc] 25)).alloc (.cells #[.int .i64 yf, .int .i64 yc] 25)).cell? ⟨w.heap.size, 1, none⟩ = some (.int .i64 xc) := by simp [go_sem]
  have hy0 : ((w.alloc (.cells #[.int .i64 xf, .int .i64 xc] 25)).alloc (.cells #[.int .i64 yf, .int .i64 yc] 25)).cell? ⟨w.heap.size + 1, 0, none⟩ = some (.int .i64 yf) := by simp [go_sem]
  have hy1 : ((w.alloc (.cells #[.int .i64 xf, .int .i64 xc] 25)).alloc (.cells #[.int .i64 yf, .int .i64 yc] 25)).cell? ⟨w.heap.size + 1, 1, none⟩ = some (.int .i64 yc) := by simp [go_sem]
  have hbA' := hide hbA
  have hx0' := hide hx0
  have hx1' := hide hx1
  have hy0' := hide hy0
  have hy1' := hide hy1
  clear hbA hx0 hx1 hy0 hy1
  generalize (w.alloc (.cells #[.int .i64 xf, .int .i64 xc] 25)).alloc (.cells #[.int .i64 yf, .int .i64 yc] 25) = w0 at *
  refine (dnew_dsk 9 (by omega) (by omega) w0).mono ?_
  rintro e w1 ⟨gd, rfl, hgd, hD, hb⟩
  have x0 := (hb.cell (p := ⟨w.heap.size, 0, none⟩) (by simp; omega)).trans hx0'.out
  have x1 := (hb.cell (p := ⟨w.heap.size, 1, none⟩) (by simp; omega)).trans hx1'.out
  have y0 := (hb.cell (p := ⟨w.heap.size + 1, 0, none⟩) (by simp; omega)).trans hy0'.out
  have y1 := (hb.cell (p := ⟨w.heap.size + 1, 1, none⟩) (by simp; omega)).trans hy1'.out
  have hD1 := hide hD
  have hb1 := hide (hbA'.out.trans (hb.mono (by omega)))
  have s1 := hb.size
  clear hD hb hx0' hx1' hy0' hy1' hbA'
  go_wp2_with fail
  refine (enew_any gd _ _ xf xc (by unfold I64; omega) (by unfold I64; omega) w1 hD1.out).mono ?_
  rintro e w2 ⟨hb, hp⟩
  rw [show (((newDk 9).n : Nat) : Int) = 9 from rfl, if_pos hlx.out] at hp
  obtain ⟨p, rfl, hpl, hP⟩ := hp
  replace x0 := (hb.cell (p := ⟨w.heap.size, 0, none⟩) (by simp; omega)).trans x0
  replace x1 := (hb.cell (p := ⟨w.heap.size, 1, none⟩) (by simp; omega)).trans x1
  replace y0 := (hb.cell (p := ⟨w.heap.size + 1, 0, none⟩) (by simp; omega)).trans y0
  replace y1 := (hb.cell (p := ⟨w.heap.size + 1, 1, none⟩) (by simp; omega)).trans y1
  have hP2 := hide hP
  have hplt : p < w2.heap.size := hP.lt
  have hD2 := hide (hD1.out.below hb)
  have hb2 := hide (hb1.out.trans (hb.mono hb1.out.size))
  have s2 := hb.size
  clear hb hP hD1 hb1
  go_wp2_with fail
  refine (epart_any p xf xc gd yf yc h3'.out h4'.out w2 hP2.out (by omega) (by omega)).mono ?_
  rintro e w3 ⟨hb, hq⟩
  rw [if_neg (by rw [hl'.out]; simp)] at hq
  subst hq
  replace x0 := (hb.cell (p := ⟨w.heap.size, 0, none⟩) (by simp; omega)).trans x0
  replace x1 := (hb.cell (p := ⟨w.heap.size, 1, none⟩) (by simp; omega)).trans x1
  replace y0 := (hb.cell (p := ⟨w.heap.size + 1, 0, none⟩) (by simp; omega)).trans y0
  replace y1 := (hb.cell (p := ⟨w.heap.size + 1, 1, none⟩) (by simp; omega)).trans y1
  have hb3 := hide (hb2.out.trans (hb.mono hb2.out.size))
  clear hb hb2
  go_wp2_with fail
  refine (lies_any yf yc xc _ h3'.out h4'.out (by unfold I64; omega)).mono ?_
  rintro e w4 ⟨rfl, hb⟩
  rw [hl'.out]
  have hb4 := hide (hb3.out.trans (hb.mono hb3.out.size))
  clear hb hb3
  go_wp2_with fail
  refine (awake06 _).mono ?_
  rintro e w5 ⟨rfl, hb⟩
  have hb5 := hide (hb4.out.trans (hb.mono hb4.out.size))
  clear hb hb4
  go_wp2_with fail
  go_ret
  exact ⟨rfl, hb5.out⟩

set_option maxRecDepth 100000 in
set_option maxHeartbeats 4000000 in
theorem nested_ok (xf xc yf yc : Nat) (c : UInt8) (hx1 : 1 ≤ xc) (hx2 : xf + xc ≤ 9) (hyc : 1 ≤ yc) (hyf : yf + yc ≤ xc) (w : World) :
    Calls Try.prog 10 #[.agg #[.int .i64 xf, .int .i64 xc], .agg #[.int .i64 yf, .int .i64 yc], .int .u8 (c.toNat : Int)] w fun e w' => e = .returned (.bool true) ∧ Below w.heap.size w w' := by
  have hlx := hide (show liesV xf xc 9 = true by unfold liesV; simp; omega)
  have hly := hide (show liesV yf yc xc = true by unfold liesV; simp; omega)
  have hlr := hide (show liesV ((xf + yf : Nat) : Int) yc 9 = true by unfold liesV; simp; omega)
  go_enter Try.func10, Try.ntmps10
  go_wp2_with fail
  have hbA : Below w.heap.size w ((w.alloc (.cells #[.int .i64 xf, .int .i64 xc] 25)).alloc (.cells #[.int .i64 yf, .int .i64 yc] 25)) := ((Below.refl _ _).alloc (Nat.le_refl _) _).alloc (by simp) _
  have hz0 : ((w.alloc (.cells #[.int .i64 xf, .int .i64 xc] 25)).alloc (.cells #[.int .i64 yf, .int .i64 yc] 25)).heap.size = w.heap.size + 2 := by simp
  have hx0 : ((w.alloc (.cells #[.int .i64 xf, .int .i64 xc] 25)).alloc (.cells #[.int .i64 yf, .int .i64 yc] 25)).cell? ⟨w.heap.size, 0, none⟩ = some (.int .i64 xf) := by simp [go_sem]
  have hx1 : ((w.alloc (.cells #[.int .i64 xf, .int .i64 xc] 25)).alloc (.cells #[.int .i64 yf, .int .i64 yc] 25)).cell? ⟨w.heap.size, 1, none⟩ = some (.int .i64 xc) := by simp [go_sem]
  have hy0 : ((w.alloc (.cells #[.int .i64 xf, .int .i64 xc] 25)).alloc (.cells #[.int .i64 yf, .int .i64 yc] 25)).cell? ⟨w.heap.size + 1, 0, none⟩ = some (.int .i64 yf) := by simp [go_sem]
  have hy1 : ((w.alloc (.cells #[.int .i64 xf, .int .i64 xc] 25)).alloc (.cells #[.int .i64 yf, .int .i64 yc] 25)).cell? ⟨w.heap.size + 1, 1, none⟩ = some (.int .i64 yc) := by simp [go_sem]
  have hbA' := hide hbA
  have hx0' := hide hx0
  have hx1' := hide hx1
  have hy0' := hide hy0
  have hy1' := hide hy1
  clear hbA hx0 hx1 hy0 hy1
  generalize (w.alloc (.cells #[.int .i64 xf, .int .i64 xc] 25)).alloc (.cells #[.int .i64 yf, .int .i64 yc] 25) = w0 at *
  refine (dnew_dsk 9 (by omega) (by omega) w0).mono ?_
  rintro e w1 ⟨gd, rfl, hgd, hD, hb⟩
  have x0 := (hb.cell (p := ⟨w.heap.size, 0, none⟩) (by simp; omega)).trans hx0'.out
  have x1 := (hb.cell (p := ⟨w.heap.size, 1, none⟩) (by simp; omega)).trans hx1'.out
  have y0 := (hb.cell (p := ⟨w.heap.size + 1, 0, none⟩) (by simp; omega)).trans hy0'.out
  have y1 := (hb.cell (p := ⟨w.heap.size + 1, 1, none⟩) (by simp; omega)).trans hy1'.out
  have hD1 := hide hD
  have hb1 := hide (hbA'.out.trans (hb.mono (by omega)))
  have s1 := hb.size
  clear hD hb hx0' hx1' hy0' hy1' hbA'
  go_wp2_with fail
  refine (enew_any gd _ _ xf xc (by unfold I64; omega) (by unfold I64; omega) w1 hD1.out).mono ?_
  rintro e w2 ⟨hb, hp⟩
  rw [show (((newDk 9).n : Nat) : Int) = 9 from rfl, if_pos hlx.out] at hp
  obtain ⟨p, rfl, hpl, hP⟩ := hp
  replace x0 := (hb.cell (p := ⟨w.heap.size, 0, none⟩) (by simp; omega)).trans x0
  replace x1 := (hb.cell (p := ⟨w.heap.size, 1, none⟩) (by simp; omega)).trans x1
  replace y0 := (hb.cell (p := ⟨w.heap.size + 1, 0, none⟩) (by simp; omega)).trans y0
  replace y1 := (hb.cell (p := ⟨w.heap.size + 1, 1, none⟩) (by simp; omega)).trans y1
  have hP2 := hide hP
  have hplt : p < w2.heap.size := hP.lt
  have hD2 := hide (hD1.out.below hb)
  have hb2 := hide (hb1.out.trans (hb.mono hb1.out.size))
  have s2 := hb.size
  clear hb hP hD1 hb1
  go_wp2_with fail
  refine (epart_any p xf xc gd yf yc (by unfold I64; omega) (by unfold I64; omega) w2 hP2.out (by omega) (by omega)).mono ?_
  rintro e w3 ⟨hb, hq⟩
  rw [if_pos hly.out] at hq
  obtain ⟨q, rfl, hql, hQ⟩ := hq
  rw [show (xf : Int) + (yf : Int) = ((xf + yf : Nat) : Int) by omega] at hQ
  replace x0 := (hb.cell (p := ⟨w.heap.size, 0, none⟩) (by simp; omega)).trans x0
  replace x1 := (hb.cell (p := ⟨w.heap.size, 1, none⟩) (by simp; omega)).trans x1
  replace y0 := (hb.cell (p := ⟨w.heap.size + 1, 0, none⟩) (by simp; omega)).trans y0
  replace y1 := (hb.cell (p := ⟨w.heap.size + 1, 1, none⟩) (by simp; omega)).trans y1
  have hP3 := hide (hP2.out.below hb)
  have hQ3 := hide hQ
  have hqlt : q < w3.heap.size := hQ.lt
  have hD3 := hide (hD2.out.below hb)
  have hb3 := hide (hb2.out.trans (hb.mono hb2.out.size))
  have s3 := hb.size
  clear hb hb2 hQ hP2 hD2
  go_wp2_with fail
  refine (lies_any yf yc xc _ (by unfold I64; omega) (by unfold I64; omega) (by unfold I64; omega)).mono ?_
  rintro e w4 ⟨rfl, hb⟩
  rw [hly.out]
  replace x0 := (hb.cell (p := ⟨w.heap.size, 0, none⟩) (by simp; omega)).trans x0
  replace x1 := (hb.cell (p := ⟨w.heap.size, 1, none⟩) (by simp; omega)).trans x1
  replace y0 := (hb.cell (p := ⟨w.heap.size + 1, 0, none⟩) (by simp; omega)).trans y0
  replace y1 := (hb.cell (p := ⟨w.heap.size + 1, 1, none⟩) (by simp; omega)).trans y1
  have hP4 := hide (hP3.out.below hb)
  have hQ4 := hide (hQ3.out.below hb)
  have hD4 := hide (hD3.out.below hb)
  have hb4 := hide (hb3.out.trans (hb.mono hb3.out.size))
  have s4 := hb.size
  clear hb hb3 hP3 hQ3 hD3
  go_wp2_with fail
  rw [show (xf : Int) + (yf : Int) = ((xf + yf : Nat) : Int) by omega]
  refine (enew_any gd _ _ ((xf + yf : Nat) : Int) yc (by unfold I64; omega) (by unfold I64; omega) w4 hD4.out).mono ?_
  rintro e w5 ⟨hb, hr⟩
  rw [show (((newDk 9).n : Nat) : Int) = 9 from rfl, if_pos hlr.out] at hr
  obtain ⟨r, rfl, hrl, hR⟩ := hr
  replace y0 := (hb.cell (p := ⟨w.heap.size + 1, 0, none⟩) (by simp; omega)).trans y0
  replace y1 := (hb.cell (p := ⟨w.heap.size + 1, 1, none⟩) (by simp; omega)).trans y1
  have hP5 := hide (hP4.out.below hb)
  have hQ5 := hide (hQ4.out.below hb)
  have hR5 := hide hR
  have hrlt : r < w5.heap.size := hR.lt
  have hD5 := hide (hD4.out.below hb)
  have hb5 := hide (hb4.out.trans (hb.mono hb4.out.size))
  have s5 := hb.size
  clear hb hb4 hP4 hQ4 hD4 hR x0 x1
  go_wp2_with fail
  have hLd := later_drew (F := fun _ => False) w5
  have gy : ∀ w', Later (fun _ => False) w5.drew w' → w'.cell? ⟨w.heap.size + 1, 1, none⟩ = some (.int .i64 yc) := fun w' hl => (Later.cell (later_trans _ _ _ _ hLd hl) (by omega) (fun h => h)).1.trans y1
  have hq : Below w5.heap.size w5 w5.drew := (Below.refl _ _).drew
  have hP6 := hide (hP5.out.below hq)
  have hQ6 := hide (hQ5.out.below hq)
  have hR6 := hide (hR5.out.below hq)
  have hD6 := hide (hD5.out.below hq)
  have hb6 := hide (hb5.out.trans (hq.mono hb5.out.size))
  clear hq hb5 hP5 hQ5 hD5 hR5
  refine region_plan [(true, 0), (true, 1), (true, 2), (true, 3), (true, 4), (true, 5), (true, 6), (true, 7), (true, 9), (true, 10), (false, 8), (true, 11), (true, 12), (true, 13), (true, 14), (true, 15), (true, 16)] (Later fun _ => False) (later_refl _) (later_trans _) (by kernel_rfl) (by kernel_rfl) (fun _ _ d _ _ h => by cases d <;> exact h) ?_
  repeat
    (first
      | (show wpPlan _ _ _ _ ((true, _) :: _) _ _
         refine plan_skip rfl (by rfl) ?_
         simp only [Act.put, List.setIfInBounds_toArray, List.set_cons_zero, List.set_cons_succ])
      | (show wpPlan _ _ _ _ ((false, _) :: _) _ _
         refine plan_skip_eff (later_refl _) rfl (by rfl) ?_
         simp only [Act.put, List.setIfInBounds_toArray, List.set_cons_zero, List.set_cons_succ])
      | (show wpPlan _ _ _ _ ((true, _) :: _) _ _
         refine plan_take (v := ?_) rfl (by rfl) (fun w' hw' => ?_) ?_
         rotate_left
         focus
           go_simp
           try with_reducible rfl
           done
         simp only [Act.put, List.setIfInBounds_toArray, List.set_cons_zero, List.set_cons_succ]))
  refine plan_eff rfl (by rfl) (fun K hK => ?_)
  go_wp2_with fail
  refine (esize_any hQ6.out).mono ?_
  rintro e w6 ⟨rfl, rfl⟩
  refine hK _ _ (later_refl _ _) ?_
  clear hK K
  try simp only [Act.put, List.setIfInBounds_toArray, List.set_cons_zero, List.set_cons_succ]
  repeat
    (first
      | (show wpPlan _ _ _ _ ((true, _) :: _) _ _
         refine plan_skip rfl (by rfl) ?_
         simp only [Act.put, List.setIfInBounds_toArray, List.set_cons_zero, List.set_cons_succ])
      | (show wpPlan _ _ _ _ ((false, _) :: _) _ _
         refine plan_skip_eff (later_refl _) rfl (by rfl) ?_
         simp only [Act.put, List.setIfInBounds_toArray, List.set_cons_zero, List.set_cons_succ])
      | (show wpPlan _ _ _ _ ((true, _) :: _) _ _
         refine plan_take (v := ?_) rfl (by rfl) (fun w' hw' => ?_) ?_
         rotate_left
         focus
           go_simp
           try with_reducible rfl
           done
         simp only [Act.put, List.setIfInBounds_toArray, List.set_cons_zero, List.set_cons_succ]))
  refine plan_nil ?_
  clear gy hLd
  go_wp2_with fail
  refine (sector_any c 0 w5.drew).mono ?_
  rintro e w7 ⟨s, rfl, hs, hb⟩
  rw [sec0] at hs
  have z5 : w5.heap.size ≤ w7.heap.size := hb.size
  replace y0 := (hb.cell (p := ⟨w.heap.size + 1, 0, none⟩) (show w.heap.size + 1 < w5.heap.size by omega)).trans y0
  replace y1 := (hb.cell (p := ⟨w.heap.size + 1, 1, none⟩) (show w.heap.size + 1 < w5.heap.size by omega)).trans y1
  have hs7 := hide hs
  have hP7 := hide (hP6.out.below hb)
  have hQ7 := hide (hQ6.out.below hb)
  have hR7 := hide (hR6.out.below hb)
  have hD7 := hide (hD6.out.below hb)
  have hb7 := hide (hb6.out.trans (hb.mono hb6.out.size))
  clear hs hb hb6 hP6 hQ6 hD6 hR6
  go_wp2_with fail
  have hyl : (yc : Int) - 1 = ((yc - 1 : Nat) : Int) := by omega
  rw [hyl]
  obtain ⟨hpw, hI⟩ := CInv.new.pwrite_in (xf + yf) yc (yc - 1) (by omega) (by omega) (by omega) (by omega) c
  have hdn : (newDk 9).waits.length ≤ 1000000 := by simp [newDk]
  refine (ewrite_any hQ7.out _ _ hD7.out ((yc - 1 : Nat) : Int) (by unfold I64; omega) s (List.replicate 64 c) (fun y hy e => by have h1 : w5.heap.size ≤ y := (hs7.out.lt y hy).1; omega) hs7.out.bs hdn).mono ?_
  rintro e w8 ⟨rfl, hD, hT⟩
  rw [hpw] at hD ⊢
  have hnw : ∀ k, k < w0.heap.size ∨ w1.heap.size ≤ k → ¬ (w0.heap.size ≤ k ∧ k < w1.heap.size) := fun k h1 h2 => by omega
  replace y0 := (Later.cell hT.2 (o := 0) (show w.heap.size + 1 < w7.heap.size by omega) (hnw _ (by omega))).1.trans y0
  replace y1 := (Later.cell hT.2 (o := 1) (show w.heap.size + 1 < w7.heap.size by omega) (hnw _ (by omega))).1.trans y1
  have hP8 := hide (hP7.out.later hT.2 (hnw _ (by omega)))
  have hQ8 := hide (hQ7.out.later hT.2 (hnw _ (by omega)))
  have hR8 := hide (hR7.out.later hT.2 (hnw _ (by omega)))
  have hD8 := hide hD
  have hI8 := hide hI
  have hb8 := hide (hb7.out.trans (hT.below hb7.out.size (fun k hk e => by omega)))
  have s8 := hT.size
  have hnw' := hide hnw
  clear hD hT hpw hI hnw hdn hP7 hQ7 hR7 hD7 hb7 hs7
  generalize ({ newDk 9 with waits := (newDk 9).waits ++ [⟨xf + yf + (yc - 1), List.replicate 64 c⟩] } : Dk) = d1 at *
  go_wp2_with fail
  have hpr : pread d1 ((xf + yf : Nat) : Int) yc ((yc - 1 : Nat) : Int) = (List.replicate 64 c, 0) := by
    have := hI8.out.pread_in (xf + yf) yc (yc - 1) (by omega) (by omega) (by omega) (by omega)
    rw [this]; unfold upd; rw [if_pos rfl]
  have hpr2 : pread d1 xf xc ((yf + (yc - 1) : Nat) : Int) = (List.replicate 64 c, 0) := by
    have := hI8.out.pread_in xf xc (yf + (yc - 1)) (by omega) (by omega) (by omega) (by omega)
    rw [this]; unfold upd; rw [if_pos (by omega)]
  have hpr2' := hide hpr2
  clear hpr2
  refine (eread_any hR8.out _ d1 hD8.out ((yc - 1 : Nat) : Int) (by unfold I64; omega)).mono ?_
  rintro e w9 ⟨v1, rfl, hv, hb⟩
  rw [hpr] at hv ⊢
  replace y0 := (hb.cell (p := ⟨w.heap.size + 1, 0, none⟩) (show w.heap.size + 1 < w8.heap.size by omega)).trans y0
  replace y1 := (hb.cell (p := ⟨w.heap.size + 1, 1, none⟩) (show w.heap.size + 1 < w8.heap.size by omega)).trans y1
  have hv9 := hide hv
  have hP9 := hide (hP8.out.below hb)
  have hQ9 := hide (hQ8.out.below hb)
  have hR9 := hide (hR8.out.below hb)
  have hD9 := hide (hD8.out.below hb)
  have hb9 := hide (hb8.out.trans (hb.mono hb8.out.size))
  have s9 := hb.size
  clear hv hb hpr hP8 hQ8 hR8 hD8 hb8
  go_wp2_with fail
  try rw [show (yf : Int) + ((yc - 1 : Nat) : Int) = ((yf + (yc - 1) : Nat) : Int) by omega]
  refine (eread_any hP9.out _ d1 hD9.out ((yf + (yc - 1) : Nat) : Int) (by unfold I64; omega)).mono ?_
  rintro e w10 ⟨v2, rfl, hv, hb⟩
  rw [hpr2'.out] at hv ⊢
  replace y1 := (hb.cell (p := ⟨w.heap.size + 1, 1, none⟩) (show w.heap.size + 1 < w9.heap.size by omega)).trans y1
  have hva := hide (hv9.out.below hb)
  have hvb := hide hv
  have hQa := hide (hQ9.out.below hb)
  have hRa := hide (hR9.out.below hb)
  have hDa := hide (hD9.out.below hb)
  have hba := hide (hb9.out.trans (hb.mono hb9.out.size))
  have s10 := hb.size
  clear hv hb hv9 hP9 hQ9 hR9 hD9 hb9 y0 hpr2'
  go_wp2_with fail
  have hq : Below w10.heap.size w10 w10.drew := (Below.refl _ _).drew
  have hv1 := hide (hva.out.below hq)
  have hv2 := hide (hvb.out.below hq)
  have hQb := hide (hQa.out.below hq)
  have hRb := hide (hRa.out.below hq)
  have hDb := hide (hDa.out.below hq)
  have hbb := hide (hba.out.trans (hq.mono hba.out.size))
  have hwd : w10.drew.heap.size = w10.heap.size := rfl
  obtain ⟨Fz, hFz⟩ : ∃ Fz : Nat → Prop, ∀ x, Fz x ↔ (w0.heap.size ≤ x ∧ x < w1.heap.size ∨ w7.heap.size ≤ x ∧ x < w8.heap.size) := ⟨_, fun _ => Iff.rfl⟩
  have hFz' := hide hFz
  clear hFz
  have gy1 : w10.drew.cell? ⟨w.heap.size + 1, 1, none⟩ = some (.int .i64 yc) := y1
  have hcv1 : ∀ w', Later Fz w10.drew w' → (convert 40 9 v1).run Try.prog w' = .ok (.string ⟨(List.replicate 64 c).toArray⟩) w' := fun w' hl => str_conv w' v1 _ (hv1.out.bs.later hl (fun b hb e => by have := (hv1.out.lt b hb).1; have := (hFz'.out _).1 e; omega))
  have hcv2 : ∀ w', Later Fz w10.drew w' → (convert 40 9 v2).run Try.prog w' = .ok (.string ⟨(List.replicate 64 c).toArray⟩) w' := fun w' hl => str_conv w' v2 _ (hv2.out.bs.later hl (fun b hb e => by have := (hv2.out.lt b hb).1; have := (hFz'.out _).1 e; omega))
  have gy : ∀ w', Later Fz w10.drew w' → w'.cell? ⟨w.heap.size + 1, 1, none⟩ = some (.int .i64 yc) := fun w' hl => (Later.cell hl (show w.heap.size + 1 < w10.heap.size by omega) (fun e => by have := (hFz'.out _).1 e; omega)).1.trans gy1
  clear hq hva hvb hQa hRa hDa hba y1 gy1
  refine region_plan [(true, 0), (true, 1), (true, 2), (true, 3), (true, 4), (true, 5), (true, 6), (true, 7), (true, 8), (true, 9), (true, 10), (true, 11), (true, 12), (true, 13), (true, 14), (true, 15), (true, 16), (false, 17), (true, 18), (true, 19), (true, 20), (true, 21), (true, 22), (true, 23), (true, 24), (true, 25), (false, 26), (true, 27), (true, 28), (true, 29), (true, 30), (false, 31), (true, 32), (true, 33), (true, 34), (true, 35), (true, 38), (false, 36), (true, 37), (false, 39), (true, 40), (true, 41), (true, 42), (true, 43), (false, 44), (true, 45), (true, 46)] (Later Fz) (later_refl _) (later_trans _) (by kernel_rfl) (by kernel_rfl) (fun _ _ d _ _ h => by cases d <;> exact h) ?_
  repeat
    (first
      | (show wpPlan _ _ _ _ ((true, _) :: _) _ _
         refine plan_skip rfl (by rfl) ?_
         simp only [Act.put, List.setIfInBounds_toArray, List.set_cons_zero, List.set_cons_succ])
      | (show wpPlan _ _ _ _ ((false, _) :: _) _ _
         refine plan_skip_eff (later_refl _) rfl (by rfl) ?_
         simp only [Act.put, List.setIfInBounds_toArray, List.set_cons_zero, List.set_cons_succ])
      | (show wpPlan _ _ _ _ ((true, _) :: _) _ _
         refine plan_take (v := ?_) rfl (by rfl) (fun w' hw' => ?_) ?_
         rotate_left
         focus
           go_simp
           try with_reducible rfl
           done
         simp only [Act.put, List.setIfInBounds_toArray, List.set_cons_zero, List.set_cons_succ]))
  clear hcv2
  refine plan_eff rfl (by rfl) (fun K hK => ?_)
  go_wp2_with fail
  refine (sector_any c 0 w10.drew).mono ?_
  rintro e w11 ⟨s2, rfl, hs2, hb⟩
  rw [sec0] at hs2
  have hL : Later Fz w10.drew w11 := ⟨hb.size, fun k hk _ => hb.block k hk⟩
  refine hK _ _ hL ?_
  clear hK K
  have hs2' := hide hs2
  have hQc := hide (hQb.out.below hb)
  have hRc := hide (hRb.out.below hb)
  have hDc := hide (hDb.out.below hb)
  have hbc := hide (hbb.out.trans (hb.mono hbb.out.size))
  have gy2 := hide (fun w' hl => gy w' (later_trans _ _ _ _ hL hl))
  have s11 : w10.heap.size ≤ w11.heap.size := hb.size
  have hcs : ∀ w', Later Fz w11 w' → (convert 40 9 s2).run Try.prog w' = .ok (.string ⟨(List.replicate 64 c).toArray⟩) w' := fun w' hl => str_conv w' s2 _ (hs2'.out.bs.later hl (fun b hb e => by have h1 : w10.heap.size ≤ b := (hs2'.out.lt b hb).1; have := (hFz'.out _).1 e; omega))
  clear hs2 hb hQb hRb hDb hbb hcv1 gy hL
  have gy := fun w' hl => gy2.out w' hl
  try simp only [Act.put, List.setIfInBounds_toArray, List.set_cons_zero, List.set_cons_succ]
  repeat
    (first
      | (show wpPlan _ _ _ _ ((true, _) :: _) _ _
         refine plan_skip rfl (by rfl) ?_
         simp only [Act.put, List.setIfInBounds_toArray, List.set_cons_zero, List.set_cons_succ])
      | (show wpPlan _ _ _ _ ((false, _) :: _) _ _
         refine plan_skip_eff (later_refl _) rfl (by rfl) ?_
         simp only [Act.put, List.setIfInBounds_toArray, List.set_cons_zero, List.set_cons_succ])
      | (show wpPlan _ _ _ _ ((true, _) :: _) _ _
         refine plan_take (v := ?_) rfl (by rfl) (fun w' hw' => ?_) ?_
         rotate_left
         focus
           go_simp
           try with_reducible rfl
           done
         simp only [Act.put, List.setIfInBounds_toArray, List.set_cons_zero, List.set_cons_succ]))
  clear hcs gy gy2
  refine plan_eff rfl (by rfl) (fun K hK => ?_)
  go_wp2_with fail
  refine (ewrite_out hQc.out yc (by unfold I64; omega) (by omega) v1).mono ?_
  rintro e w12 ⟨rfl, hb⟩
  refine hK _ _ ⟨hb.size, fun k hk _ => hb.block k hk⟩ ?_
  clear hK K
  have hQd := hide (hQc.out.below hb)
  have hRd := hide (hRc.out.below hb)
  have hDd := hide (hDc.out.below hb)
  have hbd := hide (hbc.out.trans (hb.mono hbc.out.size))
  have s12 := hb.size
  clear hb hQc hRc hDc hbc hs2'
  try simp only [Act.put, List.setIfInBounds_toArray, List.set_cons_zero, List.set_cons_succ]
  repeat
    (first
      | (show wpPlan _ _ _ _ ((true, _) :: _) _ _
         refine plan_skip rfl (by rfl) ?_
         simp only [Act.put, List.setIfInBounds_toArray, List.set_cons_zero, List.set_cons_succ])
      | (show wpPlan _ _ _ _ ((false, _) :: _) _ _
         refine plan_skip_eff (later_refl _) rfl (by rfl) ?_
         simp only [Act.put, List.setIfInBounds_toArray, List.set_cons_zero, List.set_cons_succ])
      | (show wpPlan _ _ _ _ ((true, _) :: _) _ _
         refine plan_take (v := ?_) rfl (by rfl) (fun w' hw' => ?_) ?_
         rotate_left
         focus
           go_simp
           try with_reducible rfl
           done
         simp only [Act.put, List.setIfInBounds_toArray, List.set_cons_zero, List.set_cons_succ]))
  refine plan_eff rfl (by rfl) (fun K hK => ?_)
  go_wp2_with fail
  have hfl := hI8.out.flush
  refine (eflush_any hQd.out _ d1 hDd.out).mono ?_
  rintro e w13 ⟨rfl, hD, hT⟩
  rw [hfl] at hD ⊢
  refine hK _ _ (later_monoN hT.2 (fun x e => (hFz'.out x).2 e)) ?_
  clear hK K
  have hQe := hide (hQd.out.later hT.2 (fun e => by omega))
  have hRe := hide (hRd.out.later hT.2 (fun e => by omega))
  have hDe := hide hD
  have hbe := hide (hbd.out.trans (hT.below hbd.out.size (fun k hk e => by omega)))
  have s13 := hT.size
  have hn := hide (show d1.n = 9 from hI8.out.n)
  clear hD hT hfl hQd hRd hDd hbd
  repeat
    (first
      | (show wpPlan _ _ _ _ ((true, _) :: _) _ _
         refine plan_skip rfl (by rfl) ?_
         simp only [Act.put, List.setIfInBounds_toArray, List.set_cons_zero, List.set_cons_succ])
      | (show wpPlan _ _ _ _ ((false, _) :: _) _ _
         refine plan_skip_eff (later_refl _) rfl (by rfl) ?_
         simp only [Act.put, List.setIfInBounds_toArray, List.set_cons_zero, List.set_cons_succ])
      | (show wpPlan _ _ _ _ ((true, _) :: _) _ _
         refine plan_take (v := ?_) rfl (by rfl) (fun w' hw' => ?_) ?_
         rotate_left
         focus
           go_simp
           try with_reducible rfl
           done
         simp only [Act.put, List.setIfInBounds_toArray, List.set_cons_zero, List.set_cons_succ]))
  refine plan_eff rfl (by rfl) (fun K hK => ?_)
  go_wp2_with fail
  refine (eimage_any q (xf + yf) yc gd _ _ w13 hQe.out hDe.out (by have := hn.out; show _ ≤ d1.n; omega)).mono ?_
  rintro e w14 ⟨u1, rfl, hu, hb⟩
  refine hK _ _ ⟨hb.size, fun k hk _ => hb.block k hk⟩ ?_
  clear hK K
  have hu1 := hide hu
  have hRf := hide (hRe.out.below hb)
  have hDf := hide (hDe.out.below hb)
  have hbf := hide (hbe.out.trans (hb.mono hbe.out.size))
  have s14 := hb.size
  obtain ⟨im, him0⟩ : ∃ im, im = (List.take (64 * yc) (List.drop (64 * (xf + yf)) ({ d1 with has := layN d1.has (fun _ => true) d1.waits d1.waits.length, waits := [] } : Dk).has)) := ⟨_, rfl⟩
  rw [← him0] at hu1
  have him := hide him0
  clear him0
  have hcu : ∀ w', Later Fz w14 w' → (convert 40 9 u1).run Try.prog w' = .ok (.string ⟨im.toArray⟩) w' := fun w' hl => str_conv w' u1 _ (hu1.out.bs.later hl (fun b hb e => by have h1 := (hu1.out.lt b hb).1; have := (hFz'.out _).1 e; omega))
  clear hu hb hQe hRe hDe hbe
  try simp only [Act.put, List.setIfInBounds_toArray, List.set_cons_zero, List.set_cons_succ]
  repeat
    (first
      | (show wpPlan _ _ _ _ ((true, _) :: _) _ _
         refine plan_skip rfl (by rfl) ?_
         simp only [Act.put, List.setIfInBounds_toArray, List.set_cons_zero, List.set_cons_succ])
      | (show wpPlan _ _ _ _ ((false, _) :: _) _ _
         refine plan_skip_eff (later_refl _) rfl (by rfl) ?_
         simp only [Act.put, List.setIfInBounds_toArray, List.set_cons_zero, List.set_cons_succ])
      | (show wpPlan _ _ _ _ ((true, _) :: _) _ _
         refine plan_take (v := ?_) rfl (by rfl) (fun w' hw' => ?_) ?_
         rotate_left
         focus
           go_simp
           try with_reducible rfl
           done
         simp only [Act.put, List.setIfInBounds_toArray, List.set_cons_zero, List.set_cons_succ]))
  refine plan_eff rfl (by rfl) (fun K hK => ?_)
  go_wp2_with fail
  refine (eimage_any r (xf + yf) yc gd _ _ w14 hRf.out hDf.out (by have := hn.out; show _ ≤ d1.n; omega)).mono ?_
  rintro e w15 ⟨u2, rfl, hu, hb⟩
  have him' := him.out
  have hu2 := hide (show OwnB w15 w14.heap.size 5 u2 im by rw [him']; exact hu)
  refine hK _ _ ⟨hb.size, fun k hk _ => hb.block k hk⟩ ?_
  clear hK K
  have hbg := hide (hbf.out.trans (hb.mono hbf.out.size))
  have s15 := hb.size
  have hcu2 : ∀ w', Later Fz w15 w' → (convert 40 9 u2).run Try.prog w' = .ok (.string ⟨im.toArray⟩) w' := fun w' hl => str_conv w' u2 _ (hu2.out.bs.later hl (fun b hb e => by have h1 := (hu2.out.lt b hb).1; have := (hFz'.out _).1 e; omega))
  clear hu hb him' hRf hDf hbf hcu
  try simp only [Act.put, List.setIfInBounds_toArray, List.set_cons_zero, List.set_cons_succ]
  repeat
    (first
      | (show wpPlan _ _ _ _ ((true, _) :: _) _ _
         refine plan_skip rfl (by rfl) ?_
         simp only [Act.put, List.setIfInBounds_toArray, List.set_cons_zero, List.set_cons_succ])
      | (show wpPlan _ _ _ _ ((false, _) :: _) _ _
         refine plan_skip_eff (later_refl _) rfl (by rfl) ?_
         simp only [Act.put, List.setIfInBounds_toArray, List.set_cons_zero, List.set_cons_succ])
      | (show wpPlan _ _ _ _ ((true, _) :: _) _ _
         refine plan_take (v := ?_) rfl (by rfl) (fun w' hw' => ?_) ?_
         rotate_left
         focus
           go_simp
           try with_reducible rfl
           done
         simp only [Act.put, List.setIfInBounds_toArray, List.set_cons_zero, List.set_cons_succ]))
  clear hcu2
  refine plan_eff rfl (by rfl) (fun K hK => ?_)
  go_wp2_with fail
  refine (awake06 _).mono ?_
  rintro e w16 ⟨rfl, hb⟩
  refine hK _ _ ⟨hb.size, fun k hk _ => hb.block k hk⟩ ?_
  clear hK K
  have hbh := hide (hbg.out.trans (hb.mono hbg.out.size))
  clear hb hbg
  try simp only [Act.put, List.setIfInBounds_toArray, List.set_cons_zero, List.set_cons_succ]
  repeat
    (first
      | (show wpPlan _ _ _ _ ((true, _) :: _) _ _
         refine plan_skip rfl (by rfl) ?_
         simp only [Act.put, List.setIfInBounds_toArray, List.set_cons_zero, List.set_cons_succ])
      | (show wpPlan _ _ _ _ ((false, _) :: _) _ _
         refine plan_skip_eff (later_refl _) rfl (by rfl) ?_
         simp only [Act.put, List.setIfInBounds_toArray, List.set_cons_zero, List.set_cons_succ])
      | (show wpPlan _ _ _ _ ((true, _) :: _) _ _
         refine plan_take (v := ?_) rfl (by rfl) (fun w' hw' => ?_) ?_
         rotate_left
         focus
           go_simp
           try with_reducible rfl
           done
         simp only [Act.put, List.setIfInBounds_toArray, List.set_cons_zero, List.set_cons_succ]))
  refine plan_nil ?_
  go_wp2_with fail
  go_ret
  exact ⟨rfl, hbh.out⟩

theorem extentNested_any (xf xc yf yc : Int) (c : UInt8) (h1 : I64 xf) (h2 : I64 xc) (h3 : I64 yf) (h4 : I64 yc) (w : World) :
    Calls Try.prog 10 #[.agg #[.int .i64 xf, .int .i64 xc], .agg #[.int .i64 yf, .int .i64 yc], .int .u8 (c.toNat : Int)] w fun e w' => e = .returned (.bool true) ∧ Below w.heap.size w w' := by
  cases hl : liesV xf xc 9
  · exact nested_bad xf xc yf yc c h1 h2 hl w
  · obtain ⟨a, b, rfl, rfl, k1, k2⟩ := lies_nat xf xc 9 hl
    cases hm : liesV yf yc b
    · exact nested_part a b yf yc c k1 (by omega) h3 h4 hm w
    · obtain ⟨f, g, rfl, rfl, k3, k4⟩ := lies_nat yf yc b hm
      exact nested_ok a b f g c k1 (by omega) k3 (by omega) w
end Go.Proofs.Ytamkngpkplflcaa
