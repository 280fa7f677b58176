/- The law ExtentConfined walked (le_neg). -/
import Derived.Test.YtamkngpkplflcaaExtConf
namespace Go.Proofs.Ytamkngpkplflcaa
open Go.RowKit

set_option maxRecDepth 100000 in
set_option maxHeartbeats 4000000 in
theorem extConf_le_neg (A : Option Addr) (b off m c : Nat) (G : Nat → DAct) (w : World) (hA : 0 < m → A = some ⟨b, off, none⟩) (hm : m ≤ 9223372036854775807) (h40 : m ≤ 40) (h : DActs w w.heap.size b off m G) (cut : Int) (hcut : ¬ 0 < cut) (hI : I64 cut) :
    Calls Try.prog 8 #[.int .i64 cut, .slice A m c] w fun e w' => e = .returned (.bool true) ∧ Below w.heap.size w w' := by
  have hA' := hide hA
  have h' := hide h
  have hI' := hide hI
  have hx : True := trivial
  have hne : ((9 : Int) == 9) = true := rfl
  have hl1 := hide (show liesV 1 1 (newDk 9).n = true by first | (unfold liesV newDk; simp; done) | (unfold liesV newDk; simp; omega))
  have hl2 := hide (show liesV ((1 + 1 : Nat) : Int) 3 (newDk 9).n = true by first | (unfold liesV newDk; simp; done) | (unfold liesV newDk; simp; omega))
  clear hA h hI hne
  go_enter Try.func8, Try.ntmps8
  go_wp2_with fail
  refine (dnew_dsk 9 (by omega) (by omega) w).mono ?_
  rintro e w1 ⟨gd, rfl, hgd, hD, hb⟩
  have hD1 := hide hD
  have hb1 := hide hb
  have s1 := hb.size
  clear hD hb
  go_wp2_with fail
  skip
  refine (enew_any gd _ _ 1 1 (by unfold I64; omega) (by unfold I64; omega) w1 hD1.out).mono ?_
  rintro e w2 ⟨hb, hp⟩
  rw [if_pos hl1.out] at hp
  obtain ⟨p, rfl, hpl, hP⟩ := hp
  have hP2 := hide hP
  have hD2 := hide (hD1.out.below hb)
  have hb2 := hide (hb1.out.trans (hb.mono s1))
  have s2 := hb.size
  have hplt : p < w2.heap.size := hP.lt
  clear hb hP hD1 hb1
  go_wp2_with fail
  skip
  refine (enew_any gd _ _ ((1 + 1 : Nat) : Int) 3 (by unfold I64; omega) (by unfold I64; omega) w2 hD2.out).mono ?_
  rintro e w3 ⟨hb, hq⟩
  rw [if_pos hl2.out] at hq
  obtain ⟨q, rfl, hql, hQ⟩ := hq
  have hQ3 := hide hQ
  have hP3 := hide (hP2.out.below hb)
  have hD3 := hide (hD2.out.below hb)
  have hb3 := hide (hb2.out.trans (hb.mono hb2.out.size))
  have s3 := hb.size
  have hqlt : q < w3.heap.size := hQ.lt
  clear hb hQ hD2 hb2 hP2
  go_wp2_with fail
  have hbA : Below w3.heap.size w3 (w3.alloc (.cells #[.int .u8 0, .int .u8 0, .int .u8 0, .int .u8 0, .int .u8 0, .int .u8 0, .int .u8 0, .int .u8 0, .int .u8 0] 65)) := (Below.refl _ _).alloc (Nat.le_refl _) _
  have hA1 := arr9_new w3 65
  have hsA : (w3.alloc (.cells #[.int .u8 0, .int .u8 0, .int .u8 0, .int .u8 0, .int .u8 0, .int .u8 0, .int .u8 0, .int .u8 0, .int .u8 0] 65)).heap.size = w3.heap.size + 1 := by simp
  have hP4 := hP3.out.below hbA
  have hQ4 := hQ3.out.below hbA
  have hD4 := hD3.out.below hbA
  have hb4 := hb3.out.trans (hbA.mono hb3.out.size)
  have hbB : Below (w3.alloc (.cells #[.int .u8 0, .int .u8 0, .int .u8 0, .int .u8 0, .int .u8 0, .int .u8 0, .int .u8 0, .int .u8 0, .int .u8 0] 65)).heap.size _ ((w3.alloc (.cells #[.int .u8 0, .int .u8 0, .int .u8 0, .int .u8 0, .int .u8 0, .int .u8 0, .int .u8 0, .int .u8 0, .int .u8 0] 65)).alloc (.cells #[.int .u8 0, .int .u8 0, .int .u8 0, .int .u8 0, .int .u8 0, .int .u8 0, .int .u8 0, .int .u8 0, .int .u8 0] 65)) := (Below.refl _ _).alloc (Nat.le_refl _) _
  have hA2 := arr9_new (w3.alloc (.cells #[.int .u8 0, .int .u8 0, .int .u8 0, .int .u8 0, .int .u8 0, .int .u8 0, .int .u8 0, .int .u8 0, .int .u8 0] 65)) 65
  rw [hsA] at hA2
  have hrel0 := hide (show CRel w gd p q w3.heap.size (w3.heap.size + 1) 1 0 _ from ⟨newDk 9, fun _ => 0, fun _ => 0, _, (by
      have e : vOf 1 (fun _ => 0) (fun _ => 0) = fun _ => (0 : UInt8) := by funext k; unfold vOf; (repeat' split) <;> rfl
      rw [e]; exact CInv.new), hD4.below hbB, Nat.le_refl _, hP4.below hbB, hQ4.below hbB, hA1.below hbB, hA2, (fun y hy => ⟨hy.1, by have := hbA.size; have := hbB.size; omega, by omega, by omega, by omega, by omega⟩), hb4.trans (hbB.mono hb4.size)⟩)
  clear hbA hA1 hsA hP4 hQ4 hD4 hb4 hbB hA2 hP3 hQ3 hD3 hb3
  generalize (w3.alloc (.cells #[.int .u8 0, .int .u8 0, .int .u8 0, .int .u8 0, .int .u8 0, .int .u8 0, .int .u8 0, .int .u8 0, .int .u8 0] 65)).alloc (.cells #[.int .u8 0, .int .u8 0, .int .u8 0, .int .u8 0, .int .u8 0, .int .u8 0, .int .u8 0, .int .u8 0, .int .u8 0] 65) = w5 at *
  obtain ⟨bo, hbo⟩ : ∃ bo, bo = w3.heap.size := ⟨_, rfl⟩
  rw [← hbo] at hrel0 ⊢
  obtain ⟨bt, hbt⟩ : ∃ bt, bt = bo + 1 := ⟨_, rfl⟩
  rw [← hbt] at hrel0 ⊢
  have hbot : bo ≠ bt := by omega
  have hbp : bo ≠ p ∧ bo ≠ q ∧ bt ≠ p ∧ bt ≠ q := ⟨by omega, by omega, by omega, by omega⟩
  have hwbo : w.heap.size ≤ bo ∧ w.heap.size ≤ bt := by omega
  clear hbo hbt
  go_loopw [14] (fun i wr => ∃ k : Nat, k ≤ m ∧ i = .int .i64 k ∧ CRel w gd p q bo bt 1 k wr) (fun i _ => m - (intOf i).toNat)
  case atStart => exact ⟨0, by omega, rfl, hrel0.out⟩
  case round =>
    obtain ⟨k, hkM, rfl, d, one, two, B, hI, hD, hw, hP, hQ, hO, hT, hB, hb⟩ := hrel
    have hIn := hide hI
    have hDn := hide hD
    have hPn := hide hP
    have hQn := hide hQ
    have hOn := hide hO
    have hTn := hide hT
    have hBn := hide hB
    have hbn := hide hb
    have hbs := hb.size
    clear hI hD hP hQ hO hT hB hb hrel0
    by_cases hlt : k < m
    · obtain rfl : A = some ⟨b, off, none⟩ := hA'.out (by omega)
      have hlm : k < m := by omega
      have hA := h'.out.below hbn.out
      have hltI : (k : Int) < (m : Int) := by omega
      have hlt40 : (k : Int) < 40 := by omega
      have hblt : b < wr.heap.size := Nat.lt_of_lt_of_le (hA.lt (by omega)) hbs
      have c0 := hA.c0 k hlm
      have c1 := hA.c1 k hlm
      have c2 := hA.c2 k hlm
      have c3 := hA.c3 k hlm
      have c4 := hA.c4 k hlm
      have hIa := hide ((h'.out.r0 k hlm).2.1)
      clear hA
      obtain ⟨A4, n4, n4c, hkv⟩ : ∃ A m c, (G k).kv = .slice A m c := by
        obtain ⟨A, c, h, _⟩ := (h'.out.k k hlm).1
        exact ⟨A, _, c, h⟩
      rw [hkv] at c4
      clear hkv
      obtain ⟨a, ha⟩ : ∃ a, a = G k := ⟨_, rfl⟩
      rw [← ha] at c0 c1 c2 c3 hIa
      clear ha
      have hB1 : Below wr.heap.size wr (wr.alloc (.cells #[.int .i64 a.do_, .int .i64 a.at_, .int .i64 a.off, .int .u8 (a.fill.toNat : Int), .slice A4 n4 n4c] 66)) := (Below.refl _ _).alloc (Nat.le_refl _) _
      have hba := hide hB1
      have hnew := hide (heap_alloc_new wr (.cells #[.int .i64 a.do_, .int .i64 a.at_, .int .i64 a.off, .int .u8 (a.fill.toNat : Int), .slice A4 n4 n4c] 66))
      have hsa : wr.heap.size < (wr.alloc (.cells #[.int .i64 a.do_, .int .i64 a.at_, .int .i64 a.off, .int .u8 (a.fill.toNat : Int), .slice A4 n4 n4c] 66)).heap.size := by simp
      clear hB1
      go_wp2_with fail
      generalize wr.alloc (.cells #[.int .i64 a.do_, .int .i64 a.at_, .int .i64 a.off, .int .u8 (a.fill.toNat : Int), .slice A4 n4 n4c] 66) = wa at *
      refine (sector_any a.fill 0 wa).mono ?_
      rintro e wb ⟨s, rfl, hs, hb⟩
      rw [sec0] at hs
      have hs' := hide hs
      have hbb := hide (hba.out.trans (hb.mono hba.out.size))
      have x0 := (hb.cell (p := ⟨wr.heap.size, 0, none⟩) hsa).trans (cell_of_row _ _ 0 _ _ _ hnew.out)
      have x1 := (hb.cell (p := ⟨wr.heap.size, 1, none⟩) hsa).trans (cell_of_row _ _ 1 _ _ _ hnew.out)
      have x3 := hide ((hb.cell (p := ⟨wr.heap.size, 3, none⟩) hsa).trans (cell_of_row _ _ 3 _ _ _ hnew.out))
      have sab := hb.size
      clear hs hb hnew hba
      change wb.cell? ⟨wr.heap.size, 0, none⟩ = some (.int .i64 a.do_) at x0
      change wb.cell? ⟨wr.heap.size, 1, none⟩ = some (.int .i64 a.at_) at x1
      by_cases he : a.do_.tmod 2 = 0
      · have e2 : (a.do_.tmod 2 == 0) = true := by simp [he]
        clear he
        go_wp2_with fail
        refine (ewrite_any ((hPn).out.below hbb.out) B d (hDn.out.below hbb.out) a.at_ hIa.out s _ (fun y hy e => by have := (hs'.out.lt y hy).1; have := (hBn.out y e).2.1; omega) hs'.out.bs (by omega)).mono ?_
        rintro e wc ⟨rfl, hD, hT⟩
        have hnb : ¬ B wr.heap.size := fun e => by have := (hBn.out _ e).2.1; omega
        have hwl : wr.heap.size < wb.heap.size := by omega
        have y1 := (Later.cell hT.2 (o := 1) hwl hnb).1.trans x1
        have y3 := (Later.cell hT.2 (o := 3) hwl hnb).1.trans x3.out
        change wc.cell? ⟨wr.heap.size, 3, none⟩ = some (.int .u8 (a.fill.toNat : Int)) at y3
        have hPc := hide ((hPn.out.below hbb.out).later hT.2 (fun e => (hBn.out _ e).2.2.1 rfl))
        have hQc := hide ((hQn.out.below hbb.out).later hT.2 (fun e => (hBn.out _ e).2.2.2.1 rfl))
        have hOc := hide ((hOn.out.below hbb.out).later hT.2 (fun e => (hBn.out _ e).2.2.2.2.1 rfl))
        have hTc := hide ((hTn.out.below hbb.out).later hT.2 (fun e => (hBn.out _ e).2.2.2.2.2 rfl))
        have hbc := hide ((hbn.out.trans (hbb.out.mono hbs)).trans (hT.below (by have := hbb.out.size; omega) (fun y hy e => by have := (hBn.out y e).1; omega)))
        have sbc := hT.size
        have sbb := hbb.out.size
        have lp := hPn.out.lt
        have lq := hQn.out.lt
        have lo := hOn.out.lt
        have lt := hTn.out.lt
        have hBc := hide (fun y (hy : B y ∨ (wb.heap.size ≤ y ∧ y < wc.heap.size)) => show w.heap.size ≤ y ∧ y < wc.heap.size ∧ y ≠ p ∧ y ≠ q ∧ y ≠ bo ∧ y ≠ bt by
          rcases hy with hy | hy
          · have h1 := hBn.out y hy
            exact ⟨h1.1, by omega, h1.2.2⟩
          · exact ⟨by omega, hy.2, by omega, by omega, by omega, by omega⟩)
        clear hnb hwl hT x0 x1 x3 hPn hQn hOn hTn hBn hbb hDn hs' hbn c0 c1 c2 c3 c4
        by_cases hr : 0 ≤ a.at_ ∧ a.at_ < ((1 : Nat) : Int)
        · obtain ⟨j, hj⟩ : ∃ j : Nat, a.at_ = j := ⟨a.at_.toNat, by omega⟩
          obtain ⟨hpw, hI2⟩ := hIn.out.pwrite_in (1) (1) j (by omega) (by omega) (by omega) (by omega) a.fill
          have hpw' : pwrite d (1) ((1 : Nat) : Int) a.at_ (List.replicate 64 a.fill) = ({ d with waits := d.waits ++ [⟨(1) + j, List.replicate 64 a.fill⟩] }, 0) := by rw [hj]; exact hpw
          skip
          rw [hpw'] at hD ⊢
          rw [hj] at y1
          have hjn : j < 9 := by omega
          have hI2' := hide hI2
          have hDc := hide hD
          have z1 := (hOc).out.c j hjn
          have zf := (hOc).out.z j
          have hjc := hr.2
          rw [hj] at hjc
          have hne1 := hbp
          clear hpw hpw' hI2 hD hIn hj hr
          go_wp2_with fail
          have hLs : Later (fun x => x = bo) wc (wc.setCell ⟨bo, j, none⟩ (.int .u8 (a.fill.toNat : Int))) := later_setCell (F := fun x => x = bo) wc (p := ⟨bo, j, none⟩) _ rfl
          have hSet := (hOc).out.set j hjn a.fill
          have hPs := hPc.out.later hLs (fun e => by omega)
          have hQs := hQc.out.later hLs (fun e => by omega)
          have hDs := hDc.out.later hLs (fun y hy e => by have := hBc.out y hy; omega)
          have hOth : ∀ {z : Nat} {H : Nat → UInt8}, Arr9 wc z H → z ≠ bo → Arr9 (wc.setCell ⟨bo, j, none⟩ (.int .u8 (a.fill.toNat : Int))) z H := fun h hne => h.later hLs hne
          have hBs := fun y hy => (show w.heap.size ≤ y ∧ y < (wc.setCell ⟨bo, j, none⟩ (.int .u8 (a.fill.toNat : Int))).heap.size ∧ y ≠ p ∧ y ≠ q ∧ y ≠ bo ∧ y ≠ bt from by have h1 := hBc.out y hy; exact ⟨h1.1, Nat.lt_of_lt_of_le h1.2.1 hLs.1, h1.2.2⟩)
          have hbS := hbc.out.setCell (p := ⟨bo, j, none⟩) (show w.heap.size ≤ bo by omega) (.int .u8 (a.fill.toNat : Int))
          go_roundw
          · exact ⟨k + 1, by omega, by go_num, _, upd one j a.fill, two, _, by rw [← vOf_one 1 one two j (by omega)]; exact hI2'.out, hDs, by simp; omega, hPs, hQs, hSet, hOth hTc.out (Ne.symm hbot), hBs, hbS⟩
          · simp [intOf]; omega
        · have hpo := pwrite_out d (1) (((1 : Nat) : Int)) a.at_ (List.replicate 64 a.fill) hr
          rw [hpo] at hD ⊢
          have hDc := hide hD
          clear hpo hD hr
          go_wp2_with fail
          go_roundw
          case rel => exact ⟨k + 1, by omega, by go_num, d, one, two, _, hIn.out, hDc.out, by omega, hPc.out, hQc.out, hOc.out, hTc.out, hBc.out, hbc.out⟩
          case measure => simp [intOf]; omega
      · have e2 : (a.do_.tmod 2 == 0) = false := by simp [he]
        clear he
        go_wp2_with fail
        refine (ewrite_any ((hQn).out.below hbb.out) B d (hDn.out.below hbb.out) a.at_ hIa.out s _ (fun y hy e => by have := (hs'.out.lt y hy).1; have := (hBn.out y e).2.1; omega) hs'.out.bs (by omega)).mono ?_
        rintro e wc ⟨rfl, hD, hT⟩
        have hnb : ¬ B wr.heap.size := fun e => by have := (hBn.out _ e).2.1; omega
        have hwl : wr.heap.size < wb.heap.size := by omega
        have y1 := (Later.cell hT.2 (o := 1) hwl hnb).1.trans x1
        have y3 := (Later.cell hT.2 (o := 3) hwl hnb).1.trans x3.out
        change wc.cell? ⟨wr.heap.size, 3, none⟩ = some (.int .u8 (a.fill.toNat : Int)) at y3
        have hPc := hide ((hPn.out.below hbb.out).later hT.2 (fun e => (hBn.out _ e).2.2.1 rfl))
        have hQc := hide ((hQn.out.below hbb.out).later hT.2 (fun e => (hBn.out _ e).2.2.2.1 rfl))
        have hOc := hide ((hOn.out.below hbb.out).later hT.2 (fun e => (hBn.out _ e).2.2.2.2.1 rfl))
        have hTc := hide ((hTn.out.below hbb.out).later hT.2 (fun e => (hBn.out _ e).2.2.2.2.2 rfl))
        have hbc := hide ((hbn.out.trans (hbb.out.mono hbs)).trans (hT.below (by have := hbb.out.size; omega) (fun y hy e => by have := (hBn.out y e).1; omega)))
        have sbc := hT.size
        have sbb := hbb.out.size
        have lp := hPn.out.lt
        have lq := hQn.out.lt
        have lo := hOn.out.lt
        have lt := hTn.out.lt
        have hBc := hide (fun y (hy : B y ∨ (wb.heap.size ≤ y ∧ y < wc.heap.size)) => show w.heap.size ≤ y ∧ y < wc.heap.size ∧ y ≠ p ∧ y ≠ q ∧ y ≠ bo ∧ y ≠ bt by
          rcases hy with hy | hy
          · have h1 := hBn.out y hy
            exact ⟨h1.1, by omega, h1.2.2⟩
          · exact ⟨by omega, hy.2, by omega, by omega, by omega, by omega⟩)
        clear hnb hwl hT x0 x1 x3 hPn hQn hOn hTn hBn hbb hDn hs' hbn c0 c1 c2 c3 c4
        by_cases hr : 0 ≤ a.at_ ∧ a.at_ < ((3 : Nat) : Int)
        · obtain ⟨j, hj⟩ : ∃ j : Nat, a.at_ = j := ⟨a.at_.toNat, by omega⟩
          obtain ⟨hpw, hI2⟩ := hIn.out.pwrite_in (1 + 1) (3) j (by omega) (by omega) (by omega) (by omega) a.fill
          have hpw' : pwrite d (((1 + 1 : Nat) : Int)) ((3 : Nat) : Int) a.at_ (List.replicate 64 a.fill) = ({ d with waits := d.waits ++ [⟨(1 + 1) + j, List.replicate 64 a.fill⟩] }, 0) := by rw [hj]; exact hpw
          rw [show ((3 : Nat) : Int) = (3 : Int) from rfl] at hpw'
          rw [hpw'] at hD ⊢
          rw [hj] at y1
          have hjn : j < 9 := by omega
          have hI2' := hide hI2
          have hDc := hide hD
          have z1 := (hTc).out.c j hjn
          have zf := (hTc).out.z j
          have hjc := hr.2
          rw [hj] at hjc
          have hne1 := hbp
          clear hpw hpw' hI2 hD hIn hj hr
          go_wp2_with fail
          have hLs : Later (fun x => x = bt) wc (wc.setCell ⟨bt, j, none⟩ (.int .u8 (a.fill.toNat : Int))) := later_setCell (F := fun x => x = bt) wc (p := ⟨bt, j, none⟩) _ rfl
          have hSet := (hTc).out.set j hjn a.fill
          have hPs := hPc.out.later hLs (fun e => by omega)
          have hQs := hQc.out.later hLs (fun e => by omega)
          have hDs := hDc.out.later hLs (fun y hy e => by have := hBc.out y hy; omega)
          have hOth : ∀ {z : Nat} {H : Nat → UInt8}, Arr9 wc z H → z ≠ bt → Arr9 (wc.setCell ⟨bt, j, none⟩ (.int .u8 (a.fill.toNat : Int))) z H := fun h hne => h.later hLs hne
          have hBs := fun y hy => (show w.heap.size ≤ y ∧ y < (wc.setCell ⟨bt, j, none⟩ (.int .u8 (a.fill.toNat : Int))).heap.size ∧ y ≠ p ∧ y ≠ q ∧ y ≠ bo ∧ y ≠ bt from by have h1 := hBc.out y hy; exact ⟨h1.1, Nat.lt_of_lt_of_le h1.2.1 hLs.1, h1.2.2⟩)
          have hbS := hbc.out.setCell (p := ⟨bt, j, none⟩) (show w.heap.size ≤ bt by omega) (.int .u8 (a.fill.toNat : Int))
          go_roundw
          · exact ⟨k + 1, by omega, by go_num, _, one, upd two j a.fill, _, by rw [← vOf_two 1 one two j (by omega)]; exact hI2'.out, hDs, by simp; omega, hPs, hQs, hOth hOc.out hbot, hSet, hBs, hbS⟩
          · simp [intOf]; omega
        · have hpo := pwrite_out d (((1 + 1 : Nat) : Int)) (3) a.at_ (List.replicate 64 a.fill) hr
          rw [hpo] at hD ⊢
          have hDc := hide hD
          clear hpo hD hr
          go_wp2_with fail
          go_roundw
          case rel => exact ⟨k + 1, by omega, by go_num, d, one, two, _, hIn.out, hDc.out, by omega, hPc.out, hQc.out, hOc.out, hTc.out, hBc.out, hbc.out⟩
          case measure => simp [intOf]; omega
    · obtain rfl : m = k := by omega
      try rw [show ((40 : Nat) : Int) = 40 from rfl]
      clear hA'
      go_wp2_with fail
      obtain ⟨wo, rfl⟩ : ∃ wo : World, wo = wr := ⟨_, rfl⟩
      go_loopw [17] (fun i wr => ∃ j : Nat, j ≤ 1 ∧ i = .int .i64 j ∧ Below wo.heap.size wo wr) (fun i _ => 1 - (intOf i).toNat)
      case atStart => exact ⟨0, by omega, rfl, Below.refl _ _⟩
      case round =>
        obtain ⟨j, hj, rfl, hb2⟩ := hrel
        have hb2' := hide hb2
        have s2b := hb2.size
        clear hb2
        by_cases hlj : j < 1
        · have hljI : (j : Int) < (1 : Int) := by omega
          have hpr : pread d (1) (((1 : Nat) : Int)) j = (List.replicate 64 ((one) j), 0) := by have := hIn.out.pread_in (1) (1) j (by omega) (by omega) (by omega) (by omega); rw [vOf_1 1 one two j hlj] at this; exact this
          have hpr' := hide hpr
          clear hpr
          go_wp2_with fail
          refine (eread_any ((hPn).out.below hb2'.out) B d (hDn.out.below hb2'.out) j (by unfold I64; omega)).mono ?_
          rintro e w6 ⟨v, rfl, hv, hb⟩
          rw [show pread d (1) (((1 : Nat) : Int)) j = _ from hpr'.out] at hv ⊢
          have hv' := hide hv
          have hb6 := hide (hb2'.out.trans (hb.mono s2b))
          have hA6 := hide (((hOn).out.below hb2'.out).below hb)
          clear hv hb
          go_wp2_with fail
          have hL0 : Later (fun _ => False) w6 w6.drew := later_drew w6
          have hcv : ∀ w', Later (fun _ => False) w6.drew w' → (convert 40 9 v).run Try.prog w' = .ok (.string ⟨(List.replicate 64 ((one) j)).toArray⟩) w' := fun w' hl => str_conv w' v _ (hv'.out.bs.later0 (later_trans _ _ _ _ hL0 hl))
          have hca : ∀ w', Later (fun _ => False) w6.drew w' → w'.cell? ⟨_, j, none⟩ = some (.int .u8 (((one) j).toNat : Int)) := fun w' hl => (Later.cell (later_trans _ _ _ _ hL0 hl) hA6.out.lt (fun h => h)).1.trans (hA6.out.c j (by omega))
          have hj9 : (j : Int) < 9 := by omega
          have hb7 := hide (hb6.out.trans ((Q.drew (Q.refl w6)).below _))
          clear hb6 hL0
          refine region_plan [(true, 0), (true, 1), (true, 2), (true, 3), (true, 4), (false, 5), (true, 6), (true, 7)] (Later fun _ => False) (later_refl _) (later_trans _) (by kernel_rfl) (by kernel_rfl) (fun _ _ d _ _ h => by cases d <;> exact h) ?_
          repeat
            (first
              | (show wpPlan _ _ _ _ ((true, _) :: _) _ _
                 refine plan_skip rfl (by rfl) ?_
                 simp only [Act.put, List.setIfInBounds_toArray, List.set_cons_zero, List.set_cons_succ])
              | (show wpPlan _ _ _ _ ((false, _) :: _) _ _
                 refine plan_skip_eff (later_refl _) rfl (by rfl) ?_
                 simp only [Act.put, List.setIfInBounds_toArray, List.set_cons_zero, List.set_cons_succ])
              | (show wpPlan _ _ _ _ ((true, _) :: _) _ _
                 refine plan_take (v := ?_) rfl (by rfl) (fun w' hw' => ?_) ?_
                 rotate_left
                 focus
                   go_simp
                   try with_reducible rfl
                   done
                 simp only [Act.put, List.setIfInBounds_toArray, List.set_cons_zero, List.set_cons_succ]))
          refine plan_eff rfl (by rfl) (fun K hK => ?_)
          go_wp2_with fail
          refine (sector_any ((one) j) 0 _).mono ?_
          rintro e w8 ⟨s, rfl, hs, hb⟩
          rw [sec0] at hs
          refine hK _ _ (below_later hb (Nat.le_refl _)) ?_
          clear hK K
          have hb8 := hide (hb7.out.trans (hb.mono hb7.out.size))
          have hcs : ∀ w', Later (fun _ => False) w8 w' → (convert 40 9 s).run Try.prog w' = .ok (.string ⟨(List.replicate 64 ((one) j)).toArray⟩) w' := fun w' hl => str_conv w' s _ (hs.bs.later0 hl)
          clear hs hb hcv hca
          try simp only [Act.put, List.setIfInBounds_toArray, List.set_cons_zero, List.set_cons_succ]
          repeat
            (first
              | (show wpPlan _ _ _ _ ((true, _) :: _) _ _
                 refine plan_skip rfl (by rfl) ?_
                 simp only [Act.put, List.setIfInBounds_toArray, List.set_cons_zero, List.set_cons_succ])
              | (show wpPlan _ _ _ _ ((false, _) :: _) _ _
                 refine plan_skip_eff (later_refl _) rfl (by rfl) ?_
                 simp only [Act.put, List.setIfInBounds_toArray, List.set_cons_zero, List.set_cons_succ])
              | (show wpPlan _ _ _ _ ((true, _) :: _) _ _
                 refine plan_take (v := ?_) rfl (by rfl) (fun w' hw' => ?_) ?_
                 rotate_left
                 focus
                   go_simp
                   try with_reducible rfl
                   done
                 simp only [Act.put, List.setIfInBounds_toArray, List.set_cons_zero, List.set_cons_succ]))
          clear hcs
          refine plan_nil ?_
          go_wp2_with fail
          go_roundw
          case rel => exact ⟨j + 1, by omega, by go_num, hb8.out⟩
          case measure => simp [intOf]; omega
        · obtain rfl : 1 = j := by omega
          try rw [show ((1 : Nat) : Int) = 1 from rfl]
          go_wp2_with fail
          obtain ⟨wu, rfl⟩ : ∃ wu : World, wu = wr := ⟨_, rfl⟩
          go_loopw [20] (fun i wr => ∃ j : Nat, j ≤ 3 ∧ i = .int .i64 j ∧ Below wo.heap.size wo wr) (fun i _ => 3 - (intOf i).toNat)
          case atStart => exact ⟨0, by omega, rfl, hb2'.out⟩
          case round =>
            obtain ⟨j, hj, rfl, hb2⟩ := hrel
            clear hb2' s2b
            have hb2' := hide hb2
            have s2b := hb2.size
            clear hb2
            by_cases hlj : j < 3
            · have hljI : (j : Int) < 3 := by omega
              have hpr : pread d (((1 + 1 : Nat) : Int)) (3) j = (List.replicate 64 ((two) j), 0) := by have := hIn.out.pread_in (1 + 1) (3) j (by omega) (by omega) (by omega) (by omega); rw [vOf_2 1 one two j hlj] at this; exact this
              have hpr' := hide hpr
              clear hpr
              go_wp2_with fail
              refine (eread_any ((hQn).out.below hb2'.out) B d (hDn.out.below hb2'.out) j (by unfold I64; omega)).mono ?_
              rintro e w6 ⟨v, rfl, hv, hb⟩
              rw [show pread d (((1 + 1 : Nat) : Int)) (3) j = _ from hpr'.out] at hv ⊢
              have hv' := hide hv
              have hb6 := hide (hb2'.out.trans (hb.mono s2b))
              have hA6 := hide (((hTn).out.below hb2'.out).below hb)
              clear hv hb
              go_wp2_with fail
              have hL0 : Later (fun _ => False) w6 w6.drew := later_drew w6
              have hcv : ∀ w', Later (fun _ => False) w6.drew w' → (convert 40 9 v).run Try.prog w' = .ok (.string ⟨(List.replicate 64 ((two) j)).toArray⟩) w' := fun w' hl => str_conv w' v _ (hv'.out.bs.later0 (later_trans _ _ _ _ hL0 hl))
              have hca : ∀ w', Later (fun _ => False) w6.drew w' → w'.cell? ⟨_, j, none⟩ = some (.int .u8 (((two) j).toNat : Int)) := fun w' hl => (Later.cell (later_trans _ _ _ _ hL0 hl) hA6.out.lt (fun h => h)).1.trans (hA6.out.c j (by omega))
              have hj9 : (j : Int) < 9 := by omega
              have hb7 := hide (hb6.out.trans ((Q.drew (Q.refl w6)).below _))
              clear hb6 hL0
              refine region_plan [(true, 0), (true, 1), (true, 2), (true, 3), (true, 4), (false, 5), (true, 6), (true, 7)] (Later fun _ => False) (later_refl _) (later_trans _) (by kernel_rfl) (by kernel_rfl) (fun _ _ d _ _ h => by cases d <;> exact h) ?_
              repeat
                (first
                  | (show wpPlan _ _ _ _ ((true, _) :: _) _ _
                     refine plan_skip rfl (by rfl) ?_
                     simp only [Act.put, List.setIfInBounds_toArray, List.set_cons_zero, List.set_cons_succ])
                  | (show wpPlan _ _ _ _ ((false, _) :: _) _ _
                     refine plan_skip_eff (later_refl _) rfl (by rfl) ?_
                     simp only [Act.put, List.setIfInBounds_toArray, List.set_cons_zero, List.set_cons_succ])
                  | (show wpPlan _ _ _ _ ((true, _) :: _) _ _
                     refine plan_take (v := ?_) rfl (by rfl) (fun w' hw' => ?_) ?_
                     rotate_left
                     focus
                       go_simp
                       try with_reducible rfl
                       done
                     simp only [Act.put, List.setIfInBounds_toArray, List.set_cons_zero, List.set_cons_succ]))
              refine plan_eff rfl (by rfl) (fun K hK => ?_)
              go_wp2_with fail
              refine (sector_any ((two) j) 0 _).mono ?_
              rintro e w8 ⟨s, rfl, hs, hb⟩
              rw [sec0] at hs
              refine hK _ _ (below_later hb (Nat.le_refl _)) ?_
              clear hK K
              have hb8 := hide (hb7.out.trans (hb.mono hb7.out.size))
              have hcs : ∀ w', Later (fun _ => False) w8 w' → (convert 40 9 s).run Try.prog w' = .ok (.string ⟨(List.replicate 64 ((two) j)).toArray⟩) w' := fun w' hl => str_conv w' s _ (hs.bs.later0 hl)
              clear hs hb hcv hca
              try simp only [Act.put, List.setIfInBounds_toArray, List.set_cons_zero, List.set_cons_succ]
              repeat
                (first
                  | (show wpPlan _ _ _ _ ((true, _) :: _) _ _
                     refine plan_skip rfl (by rfl) ?_
                     simp only [Act.put, List.setIfInBounds_toArray, List.set_cons_zero, List.set_cons_succ])
                  | (show wpPlan _ _ _ _ ((false, _) :: _) _ _
                     refine plan_skip_eff (later_refl _) rfl (by rfl) ?_
                     simp only [Act.put, List.setIfInBounds_toArray, List.set_cons_zero, List.set_cons_succ])
                  | (show wpPlan _ _ _ _ ((true, _) :: _) _ _
                     refine plan_take (v := ?_) rfl (by rfl) (fun w' hw' => ?_) ?_
                     rotate_left
                     focus
                       go_simp
                       try with_reducible rfl
                       done
                     simp only [Act.put, List.setIfInBounds_toArray, List.set_cons_zero, List.set_cons_succ]))
              clear hcs
              refine plan_nil ?_
              go_wp2_with fail
              go_roundw
              case rel => exact ⟨j + 1, by omega, by go_num, hb8.out⟩
              case measure => simp [intOf]; omega
            · obtain rfl : 3 = j := by omega
              have hD8 := hide (hDn.out.below hb2'.out)
              have hbz := hide (hbn.out.trans (hb2'.out.mono hbs))
              have hV0 := hide (hIn.out.reads 0 (by omega))
              have hV8 := hide (hIn.out.reads 8 (by omega))
              have v0 : vOf 1 one two 0 = 0 := by unfold vOf; rw [if_neg (by omega), if_neg (by omega)]
              have v8 : vOf 1 one two 8 = 0 := by unfold vOf; rw [if_neg (by omega), if_neg (by omega)]
              have v0' := hide v0
              have v8' := hide v8
              clear v0 v8 hb2'
              go_wp2_with fail
              refine (hD8.out.read_ 0).mono ?_
              rintro e w6 ⟨x, rfl, hx, hb⟩
              rw [show d.reads 0 = _ from hV0.out, v0'.out] at hx
              have hx6 := hide hx
              have hD9 := hide (hD8.out.below hb)
              have hb6 := hide (hbz.out.trans (hb.mono hbz.out.size))
              clear hx hb hD8 hbz
              go_wp2_with fail
              refine (hD9.out.read_ 8).mono ?_
              rintro e w7 ⟨y, rfl, hy, hb⟩
              rw [show d.reads 8 = _ from hV8.out, v8'.out] at hy
              have hy7 := hide hy
              have hx7 := hide (hx6.out.below hb)
              have hb7 := hide (hb6.out.trans (hb.mono hb6.out.size))
              clear hy hb hx6 hb6 hD9
              go_wp2_with fail
              have hL0 : Later (fun _ => False) w7 w7.drew := later_drew w7
              have hcx : ∀ w', Later (fun _ => False) w7.drew w' → (convert 40 9 x).run Try.prog w' = .ok (.string ⟨(List.replicate 64 (0 : UInt8)).toArray⟩) w' := fun w' hl => str_conv w' x _ (hx7.out.bs.later0 (later_trans _ _ _ _ hL0 hl))
              have hcy : ∀ w', Later (fun _ => False) w7.drew w' → (convert 40 9 y).run Try.prog w' = .ok (.string ⟨(List.replicate 64 (0 : UInt8)).toArray⟩) w' := fun w' hl => str_conv w' y _ (hy7.out.bs.later0 (later_trans _ _ _ _ hL0 hl))
              have hb8 := hide (hb7.out.trans ((Q.drew (Q.refl w7)).below _))
              clear hb7
              refine region_plan [(true, 0), (true, 1), (false, 2), (true, 3), (true, 4), (true, 5), (true, 6), (false, 7), (true, 8), (true, 9), (true, 10), (false, 11), (true, 12), (true, 13)] (Later fun _ => False) (later_refl _) (later_trans _) (by kernel_rfl) (by kernel_rfl) (fun _ _ d _ _ h => by cases d <;> exact h) ?_
              repeat
                (first
                  | (show wpPlan _ _ _ _ ((true, _) :: _) _ _
                     refine plan_skip rfl (by rfl) ?_
                     simp only [Act.put, List.setIfInBounds_toArray, List.set_cons_zero, List.set_cons_succ])
                  | (show wpPlan _ _ _ _ ((false, _) :: _) _ _
                     refine plan_skip_eff (later_refl _) rfl (by rfl) ?_
                     simp only [Act.put, List.setIfInBounds_toArray, List.set_cons_zero, List.set_cons_succ])
                  | (show wpPlan _ _ _ _ ((true, _) :: _) _ _
                     refine plan_take (v := ?_) rfl (by rfl) (fun w' hw' => ?_) ?_
                     rotate_left
                     focus
                       go_simp
                       try with_reducible rfl
                       done
                     simp only [Act.put, List.setIfInBounds_toArray, List.set_cons_zero, List.set_cons_succ]))
              refine plan_eff rfl (by rfl) (fun K hK => ?_)
              go_wp2_with fail
              refine (noughts_any _).mono ?_
              rintro e w8 ⟨rfl, rfl⟩
              refine hK _ _ (later_refl _ _) ?_
              clear hK K
              try simp only [Act.put, List.setIfInBounds_toArray, List.set_cons_zero, List.set_cons_succ]
              repeat
                (first
                  | (show wpPlan _ _ _ _ ((true, _) :: _) _ _
                     refine plan_skip rfl (by rfl) ?_
                     simp only [Act.put, List.setIfInBounds_toArray, List.set_cons_zero, List.set_cons_succ])
                  | (show wpPlan _ _ _ _ ((false, _) :: _) _ _
                     refine plan_skip_eff (later_refl _) rfl (by rfl) ?_
                     simp only [Act.put, List.setIfInBounds_toArray, List.set_cons_zero, List.set_cons_succ])
                  | (show wpPlan _ _ _ _ ((true, _) :: _) _ _
                     refine plan_take (v := ?_) rfl (by rfl) (fun w' hw' => ?_) ?_
                     rotate_left
                     focus
                       go_simp
                       try with_reducible rfl
                       done
                     simp only [Act.put, List.setIfInBounds_toArray, List.set_cons_zero, List.set_cons_succ]))
              refine plan_eff rfl (by rfl) (fun K hK => ?_)
              go_wp2_with fail
              refine (noughts_any _).mono ?_
              rintro e w8 ⟨rfl, rfl⟩
              refine hK _ _ (later_refl _ _) ?_
              clear hK K
              try simp only [Act.put, List.setIfInBounds_toArray, List.set_cons_zero, List.set_cons_succ]
              repeat
                (first
                  | (show wpPlan _ _ _ _ ((true, _) :: _) _ _
                     refine plan_skip rfl (by rfl) ?_
                     simp only [Act.put, List.setIfInBounds_toArray, List.set_cons_zero, List.set_cons_succ])
                  | (show wpPlan _ _ _ _ ((false, _) :: _) _ _
                     refine plan_skip_eff (later_refl _) rfl (by rfl) ?_
                     simp only [Act.put, List.setIfInBounds_toArray, List.set_cons_zero, List.set_cons_succ])
                  | (show wpPlan _ _ _ _ ((true, _) :: _) _ _
                     refine plan_take (v := ?_) rfl (by rfl) (fun w' hw' => ?_) ?_
                     rotate_left
                     focus
                       go_simp
                       try with_reducible rfl
                       done
                     simp only [Act.put, List.setIfInBounds_toArray, List.set_cons_zero, List.set_cons_succ]))
              refine plan_eff rfl (by rfl) (fun K hK => ?_)
              go_wp2_with fail
              refine (awake06 _).mono ?_
              rintro e w9 ⟨rfl, hb⟩
              refine hK _ _ (below_later hb (Nat.le_refl _)) ?_
              clear hK K
              have hb9 := hide (hb8.out.trans (hb.mono hb8.out.size))
              clear hcx hcy hb hL0
              try simp only [Act.put, List.setIfInBounds_toArray, List.set_cons_zero, List.set_cons_succ]
              repeat
                (first
                  | (show wpPlan _ _ _ _ ((true, _) :: _) _ _
                     refine plan_skip rfl (by rfl) ?_
                     simp only [Act.put, List.setIfInBounds_toArray, List.set_cons_zero, List.set_cons_succ])
                  | (show wpPlan _ _ _ _ ((false, _) :: _) _ _
                     refine plan_skip_eff (later_refl _) rfl (by rfl) ?_
                     simp only [Act.put, List.setIfInBounds_toArray, List.set_cons_zero, List.set_cons_succ])
                  | (show wpPlan _ _ _ _ ((true, _) :: _) _ _
                     refine plan_take (v := ?_) rfl (by rfl) (fun w' hw' => ?_) ?_
                     rotate_left
                     focus
                       go_simp
                       try with_reducible rfl
                       done
                     simp only [Act.put, List.setIfInBounds_toArray, List.set_cons_zero, List.set_cons_succ]))
              refine plan_nil ?_
              go_wp2_with fail
              go_ret
              exact ⟨rfl, hb9.out⟩
end Go.Proofs.Ytamkngpkplflcaa
