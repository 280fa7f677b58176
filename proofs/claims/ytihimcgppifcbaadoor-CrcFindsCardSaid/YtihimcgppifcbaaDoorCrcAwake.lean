/- The chapter's examples of crc (nacellelaw03.awake): they come out true. -/
import Derived.Test.YtihimcgppifcbaaDoorCrcSeal
import Derived.Lib.SlBytesConst
namespace Go.Proofs.YtihimcgppifcbaaDoor
open Go.RowKit

def digits9 : List UInt8 := [49, 50, 51, 52, 53, 54, 55, 56, 57]

set_option maxRecDepth 100000 in
set_option maxHeartbeats 1000000 in
theorem awake03 (w : World) (ht : Table w) : Calls Tryd.prog 15 #[] w fun e w' => e = .returned (.bool true) ∧ Below w.heap.size w w' := by
  have hgw := fun i hi => World.block_lt_of_cell? w _ (ht i hi)
  have o1 : openV [0, 0, 0, 1] = ([], 8) := by decide +kernel
  have o2 : openV [0, 0, 0, 0] = ([], 0) := by decide +kernel
  have o3 : Crc.of_ digits9 = 3808858755 := by decide +kernel
  have o4 : Crc.of_ [] = 0 := by decide +kernel
  have c1 := fun W A (hW : Bs W (.slice (some A) 4 4) [0, 0, 0, 1]) hT => open_any (.slice (some A) 4 4) [0, 0, 0, 1] W hW hT (by decide)
  have c2 := fun W A (hW : Bs W (.slice (some A) 4 4) [0, 0, 0, 0]) hT => open_any (.slice (some A) 4 4) [0, 0, 0, 0] W hW hT (by decide)
  have c3 := fun W A (hW : Bs W (.slice (some A) 9 9) digits9) hT => of_any (.slice (some A) 9 9) digits9 W hW hT
  have c4 := fun W hT => of_any (.slice none 0 0) [] W (Sl.nil _ _) hT
  have c5 := fun W hT => seal_any (.slice none 0 0) [] W (Sl.nil _ _) hT (by decide)
  rw [o1] at c1
  rw [o2] at c2
  rw [o3] at c3
  rw [o4] at c4
  have d1 := hide c1
  have d2 := hide c2
  have d3 := hide c3
  have d4 := hide c4
  have d5 := hide c5
  have ht' := hide ht
  clear o1 o2 o3 o4 c1 c2 c3 c4 c5 ht hgw
  have kc := fun (w : World) (C : Array Value) (n c : Nat) => Lib.run_convert_bytes_const (P := Tryd.prog) w 23 5 C n c Tryd.underlying23 Tryd.underlying5
  go_enter Tryd.func15, Tryd.ntmps15
  go_wp2_with fail
  refine (d1.out _ _ (Bs.lit w _ _ [0, 0, 0, 1] 4 rfl rfl (by omega)) (ht'.out.below ((Below.refl _ _).alloc (Nat.le_refl _) _))).mono ?_
  rintro e w1 ⟨v1, rfl, hown1, hb1⟩
  have hb1' : Below w.heap.size w w1 := ((Below.refl _ _).alloc (Nat.le_refl _) _).trans (hb1.mono (by simp))
  have z1 := hb1'.size
  clear hown1 hb1
  go_wp2_with fail
  refine (d2.out _ _ (Bs.lit w1 _ _ [0, 0, 0, 0] 4 rfl rfl (by omega)) (ht'.out.below (hb1'.alloc z1 _))).mono ?_
  rintro e w2 ⟨v2, rfl, hown2, hb2⟩
  have hb2' : Below w.heap.size w w2 := (hb1'.alloc z1 _).trans (hb2.mono (by simp; omega))
  have z2 := hb2'.size
  have hown2' := hide hown2
  clear hown2 hb2 hb1'
  go_wp2_with fail
  refine (d3.out _ _ (Bs.lit w2 _ _ digits9 9 rfl rfl (by omega)) (ht'.out.below (hb2'.alloc z2 _))).mono ?_
  rintro e w3 ⟨rfl, hw3⟩
  have hb3' : Below w.heap.size w w3 := by rw [hw3]; exact hb2'.alloc z2 _
  have z3' := hb3'.size
  clear hb2' hw3
  go_wp2_with fail
  refine (d4.out _ (ht'.out.below hb3')).mono ?_
  rintro e w4 ⟨rfl, rfl⟩
  go_wp2_with fail
  refine (d5.out _ (ht'.out.below hb3')).mono ?_
  rintro e w5 ⟨v5, rfl, hown5, hb5⟩
  have hb5' := hide (hb3'.trans (hb5.mono z3'))
  have hv5 : ∃ A c, v5 = .slice A 4 c := by
    obtain ⟨A, c, hv, _⟩ := hown5.bs
    rw [sealV_length] at hv
    exact ⟨A, c, hv⟩
  have hv2 : ∃ A c, v2 = .slice A 0 c := by
    obtain ⟨A, c, hv, _⟩ := hown2'.out.bs
    exact ⟨A, c, hv⟩
  obtain ⟨A5, k5, rfl⟩ := hv5
  obtain ⟨A2, k2, rfl⟩ := hv2
  clear hown5 hb5
  go_wp2_with fail
  go_ret
  exact ⟨rfl, hb5'.out⟩
end Go.Proofs.YtihimcgppifcbaaDoor
