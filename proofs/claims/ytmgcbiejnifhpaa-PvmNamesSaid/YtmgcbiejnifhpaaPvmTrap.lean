/- Variables of many cells; pvm's trap walked. -/
import Derived.Test.YtmgcbiejnifhpaaPvmCheck
namespace Go.Proofs.Ytmgcbiejnifhpaa
open Go.RowKit

/-- a variable at b -/
structure Row (w : World) (b : Nat) (vs : List Value) : Prop where
  lt : b < w.heap.size
  c : ∀ (k : Nat) (v : Value), vs[k]? = some v → w.cell? ⟨b, k, none⟩ = some v
  z : ∀ j, w.frozen? ⟨b, j, none⟩ = false
theorem Row.later {F : Nat → Prop} {w w' : World} {b : Nat} {vs : List Value} (h : Row w b vs) (t : Later F w w') (hF : ¬ F b) : Row w' b vs :=
  ⟨Nat.lt_of_lt_of_le h.lt t.1, fun k v hv => (Later.cell t h.lt hF).1.trans (h.c k v hv), fun j => (Later.cell t h.lt hF).2.trans (h.z j)⟩
theorem Row.below {w w' : World} {b : Nat} {vs : List Value} (h : Row w b vs) (t : Below w.heap.size w w') : Row w' b vs := h.later (F := fun _ => False) (below_later t (Nat.le_refl _)) (fun h => h)
theorem Row.new (w : World) (T : TypeId) (vs : List Value) : Row (w.alloc (.cells vs.toArray T)) w.heap.size vs :=
  ⟨by simp, fun k v hv => by
    rw [cell_of_row (w.alloc (.cells vs.toArray T)) w.heap.size k _ _ _ (heap_alloc_new w _)]
    rw [← Array.getElem?_toList]
    exact hv, fun j => by simp [go_sem]⟩
theorem Row.set {w : World} {b : Nat} {vs : List Value} (h : Row w b vs) (k : Nat) (hk : k < vs.length) (v : Value) : Row (w.setCell ⟨b, k, none⟩ v) b (vs.set k v) := by
  refine ⟨Nat.lt_of_lt_of_le h.lt (later_setCell (F := fun _ => True) w (p := ⟨b, k, none⟩) v trivial).1, fun j u hu => ?_, fun j => by rw [World.frozen?_setCell]; exact h.z j⟩
  by_cases e : j = k
  · subst e
    rw [List.getElem?_set_self hk] at hu
    cases hu
    exact World.cell?_setCell_same _ _ _ (h.c j _ (List.getElem?_eq_getElem hk))
  · rw [List.getElem?_set_ne (fun h => e h.symm)] at hu
    exact (World.cell?_setCell_other _ _ _ _ (by simp)).trans (h.c j u hu)
/-- a machine as a value -/
def mcV (p : Int) (r : Nat → Int) (sl : Value) (st tr : Int) : List Value := [.int .i64 p, .int .i64 (r 0), .int .i64 (r 1), .int .i64 (r 2), .int .i64 (r 3), .int .i64 (r 4), .int .i64 (r 5), .int .i64 (r 6), .int .i64 (r 7), sl, .int .i64 st, .int .i64 tr]
def z12V : List Value := [.int .i64 0, .int .i64 0, .int .i64 0, .int .i64 0, .int .i64 0, .int .i64 0, .int .i64 0, .int .i64 0, .int .i64 0, .slice none 0 0, .int .i64 0, .int .i64 0]
set_option maxRecDepth 100000 in
set_option maxHeartbeats 4000000 in
theorem trap_any (p : Int) (r : Nat → Int) (A : Option Addr) (n cp : Nat) (st tr er : Int) (w : World) :
    Calls Try.prog 20 #[.agg #[.int .i64 p, .int .i64 (r 0), .int .i64 (r 1), .int .i64 (r 2), .int .i64 (r 3), .int .i64 (r 4), .int .i64 (r 5), .int .i64 (r 6), .int .i64 (r 7), .slice A n cp, .int .i64 st, .int .i64 tr], .int .i64 er] w fun e w' => e = .returned (.tuple #[.agg #[.int .i64 p, .int .i64 (r 0), .int .i64 (r 1), .int .i64 (r 2), .int .i64 (r 3), .int .i64 (r 4), .int .i64 (r 5), .int .i64 (r 6), .int .i64 (r 7), .slice A n cp, .int .i64 2, .int .i64 er], .agg #[.int .i64 3, .int .i64 er]]) ∧ Below w.heap.size w w' := by
  go_enter Try.func20, Try.ntmps20
  go_upto_region 1 with (fail)
  have hM1 := Row.new w 27 [.int .i64 (p), .int .i64 (r 0), .int .i64 (r 1), .int .i64 (r 2), .int .i64 (r 3), .int .i64 (r 4), .int .i64 (r 5), .int .i64 (r 6), .int .i64 (r 7), .slice A n cp, .int .i64 (st), .int .i64 tr]
  have hbA : Below w.heap.size w (w.alloc (.cells #[.int .i64 (p), .int .i64 (r 0), .int .i64 (r 1), .int .i64 (r 2), .int .i64 (r 3), .int .i64 (r 4), .int .i64 (r 5), .int .i64 (r 6), .int .i64 (r 7), .slice A n cp, .int .i64 (st), .int .i64 tr] 27)) := (Below.refl _ _).alloc (Nat.le_refl _) _
  have hsA : (w.alloc (.cells #[.int .i64 (p), .int .i64 (r 0), .int .i64 (r 1), .int .i64 (r 2), .int .i64 (r 3), .int .i64 (r 4), .int .i64 (r 5), .int .i64 (r 6), .int .i64 (r 7), .slice A n cp, .int .i64 (st), .int .i64 tr] 27)).heap.size = w.heap.size + 1 := by simp
  generalize w.alloc (.cells #[.int .i64 (p), .int .i64 (r 0), .int .i64 (r 1), .int .i64 (r 2), .int .i64 (r 3), .int .i64 (r 4), .int .i64 (r 5), .int .i64 (r 6), .int .i64 (r 7), .slice A n cp, .int .i64 (st), .int .i64 tr] 27) = wa at *
  have hZ1 := Row.new wa 27 [.int .i64 0, .int .i64 0, .int .i64 0, .int .i64 0, .int .i64 0, .int .i64 0, .int .i64 0, .int .i64 0, .int .i64 0, .slice none 0 0, .int .i64 0, .int .i64 0]
  have hbB : Below wa.heap.size wa (wa.alloc (.cells #[.int .i64 0, .int .i64 0, .int .i64 0, .int .i64 0, .int .i64 0, .int .i64 0, .int .i64 0, .int .i64 0, .int .i64 0, .slice none 0 0, .int .i64 0, .int .i64 0] 27)) := (Below.refl _ _).alloc (Nat.le_refl _) _
  have hsB : (wa.alloc (.cells #[.int .i64 0, .int .i64 0, .int .i64 0, .int .i64 0, .int .i64 0, .int .i64 0, .int .i64 0, .int .i64 0, .int .i64 0, .slice none 0 0, .int .i64 0, .int .i64 0] 27)).heap.size = wa.heap.size + 1 := by simp
  have hM2 := hM1.below hbB
  generalize wa.alloc (.cells #[.int .i64 0, .int .i64 0, .int .i64 0, .int .i64 0, .int .i64 0, .int .i64 0, .int .i64 0, .int .i64 0, .int .i64 0, .slice none 0 0, .int .i64 0, .int .i64 0] 27) = wb at *
  have hE1 := Row.new wb 38 [.int .i64 0, .int .i64 0]
  have hbC : Below wb.heap.size wb (wb.alloc (.cells #[.int .i64 0, .int .i64 0] 38)) := (Below.refl _ _).alloc (Nat.le_refl _) _
  have hM3 := hM2.below hbC
  have hZ3 := hZ1.below hbC
  generalize wb.alloc (.cells #[.int .i64 0, .int .i64 0] 38) = wc at *
  obtain ⟨bm, hbm⟩ : ∃ bm, bm = w.heap.size := ⟨_, rfl⟩
  rw [show wa.heap.size = bm + 1 by omega] at hZ3
  rw [show wb.heap.size = bm + 2 by omega] at hE1
  have hb' := hide ((hbA.trans (hbB.mono hbA.size)).trans (hbC.mono (Nat.le_trans hbA.size hbB.size)))
  rw [← hbm] at hM3 ⊢
  have hM' := hide hM3
  have hZ' := hide hZ3
  have hE' := hide hE1
  have hbm' := hide hbm
  have hcl := hE1.lt
  obtain ⟨be, hbe⟩ : ∃ be, be = bm + 1 + 1 := ⟨_, rfl⟩
  obtain ⟨bz, hbz⟩ : ∃ bz, bz = bm + 1 := ⟨_, rfl⟩
  rw [show bm + 2 = be by omega] at hE'
  rw [← hbz] at hZ'
  rw [← hbe]
  rw [← hbz]
  have hlt1 : bm < bz := by omega
  have hlt2 : bz < be := by omega
  have hcl2 : be < wc.heap.size := by omega
  clear hM1 hbA hsA hZ1 hbB hsB hM2 hE1 hbC hM3 hZ3 hbm hbe hbz
  have x0 := hM'.out.c 0 _ rfl
  have x1 := hM'.out.c 1 _ rfl
  have x2 := hM'.out.c 2 _ rfl
  have x3 := hM'.out.c 3 _ rfl
  have x4 := hM'.out.c 4 _ rfl
  have x5 := hM'.out.c 5 _ rfl
  have x6 := hM'.out.c 6 _ rfl
  have x7 := hM'.out.c 7 _ rfl
  have x8 := hM'.out.c 8 _ rfl
  have x9 := hM'.out.c 9 _ rfl
  have x10 := hM'.out.c 10 _ rfl
  have x11 := hM'.out.c 11 _ rfl
  have t10 := hM'.out.z 10
  have t11 := hM'.out.z 11
  go_upto_region 2 with (fail)
  have hT : Touch (fun y => y = bm) wc ((wc.setCell ⟨bm, 10, none⟩ (.int .i64 2)).setCell ⟨bm, 11, none⟩ (.int .i64 er)) := ((Touch.refl (fun y => y = bm) wc).setCell (p := ⟨bm, 10, none⟩) rfl _).setCell (p := ⟨bm, 11, none⟩) rfl _
  have hM2 : Row ((wc.setCell ⟨bm, 10, none⟩ (.int .i64 2)).setCell ⟨bm, 11, none⟩ (.int .i64 er)) bm [.int .i64 p, .int .i64 (r 0), .int .i64 (r 1), .int .i64 (r 2), .int .i64 (r 3), .int .i64 (r 4), .int .i64 (r 5), .int .i64 (r 6), .int .i64 (r 7), .slice A n cp, .int .i64 2, .int .i64 er] := (hM'.out.set 10 (by simp) (.int .i64 2)).set 11 (by simp) (.int .i64 er)
  have hM2' := hide hM2
  have hZ2 := hide (hZ'.out.later hT.2 (by omega))
  have hE2 := hide (hE'.out.later hT.2 (by omega))
  have hb2 := hide (hb'.out.trans (hT.below hb'.out.size (fun y hy e => by have := hbm'.out; omega)))
  clear x0 x1 x2 x3 x4 x5 x6 x7 x8 x9 x10 x11 t10 t11 hM2 hT hM' hZ' hE' hb'
  generalize (wc.setCell ⟨bm, 10, none⟩ (.int .i64 2)).setCell ⟨bm, 11, none⟩ (.int .i64 er) = wd at *
  have x0 := hM2'.out.c 0 _ rfl
  have x1 := hM2'.out.c 1 _ rfl
  have x2 := hM2'.out.c 2 _ rfl
  have x3 := hM2'.out.c 3 _ rfl
  have x4 := hM2'.out.c 4 _ rfl
  have x5 := hM2'.out.c 5 _ rfl
  have x6 := hM2'.out.c 6 _ rfl
  have x7 := hM2'.out.c 7 _ rfl
  have x8 := hM2'.out.c 8 _ rfl
  have x9 := hM2'.out.c 9 _ rfl
  have x10 := hM2'.out.c 10 _ rfl
  have x11 := hM2'.out.c 11 _ rfl
  have z0 := hZ2.out.c 0 _ rfl
  have z1 := hZ2.out.c 1 _ rfl
  have z2 := hZ2.out.c 2 _ rfl
  have z3 := hZ2.out.c 3 _ rfl
  have z4 := hZ2.out.c 4 _ rfl
  have z5 := hZ2.out.c 5 _ rfl
  have z6 := hZ2.out.c 6 _ rfl
  have z7 := hZ2.out.c 7 _ rfl
  have z8 := hZ2.out.c 8 _ rfl
  have z9 := hZ2.out.c 9 _ rfl
  have z10 := hZ2.out.c 10 _ rfl
  have z11 := hZ2.out.c 11 _ rfl
  have t0 := hZ2.out.z 0
  have t1 := hZ2.out.z 1
  have t2 := hZ2.out.z 2
  have t3 := hZ2.out.z 3
  have t4 := hZ2.out.z 4
  have t5 := hZ2.out.z 5
  have t6 := hZ2.out.z 6
  have t7 := hZ2.out.z 7
  have t8 := hZ2.out.z 8
  have t9 := hZ2.out.z 9
  have t10 := hZ2.out.z 10
  have t11 := hZ2.out.z 11
  have q0 := hE2.out.c 0 _ rfl
  have q1 := hE2.out.c 1 _ rfl
  have s0 := hE2.out.z 0
  have s1 := hE2.out.z 1
  go_wp2_with fail
  have hT5 : Touch (fun y => y = bz) wd ((((((((((((wd.setCell ⟨bz, 0, none⟩ (.int .i64 (p))).setCell ⟨bz, 1, none⟩ (.int .i64 (r 0))).setCell ⟨bz, 2, none⟩ (.int .i64 (r 1))).setCell ⟨bz, 3, none⟩ (.int .i64 (r 2))).setCell ⟨bz, 4, none⟩ (.int .i64 (r 3))).setCell ⟨bz, 5, none⟩ (.int .i64 (r 4))).setCell ⟨bz, 6, none⟩ (.int .i64 (r 5))).setCell ⟨bz, 7, none⟩ (.int .i64 (r 6))).setCell ⟨bz, 8, none⟩ (.int .i64 (r 7))).setCell ⟨bz, 9, none⟩ (.slice A n cp)).setCell ⟨bz, 10, none⟩ (.int .i64 (2))).setCell ⟨bz, 11, none⟩ (.int .i64 (er))) := (Touch.setCell (Touch.setCell (Touch.setCell (Touch.setCell (Touch.setCell (Touch.setCell (Touch.setCell (Touch.setCell (Touch.setCell (Touch.setCell (Touch.setCell (Touch.setCell (Touch.refl (fun y => y = bz) wd) (p := ⟨bz, 0, none⟩) rfl (.int .i64 (p))) (p := ⟨bz, 1, none⟩) rfl (.int .i64 (r 0))) (p := ⟨bz, 2, none⟩) rfl (.int .i64 (r 1))) (p := ⟨bz, 3, none⟩) rfl (.int .i64 (r 2))) (p := ⟨bz, 4, none⟩) rfl (.int .i64 (r 3))) (p := ⟨bz, 5, none⟩) rfl (.int .i64 (r 4))) (p := ⟨bz, 6, none⟩) rfl (.int .i64 (r 5))) (p := ⟨bz, 7, none⟩) rfl (.int .i64 (r 6))) (p := ⟨bz, 8, none⟩) rfl (.int .i64 (r 7))) (p := ⟨bz, 9, none⟩) rfl (.slice A n cp)) (p := ⟨bz, 10, none⟩) rfl (.int .i64 (2))) (p := ⟨bz, 11, none⟩) rfl (.int .i64 (er)))
  have hZ5 : Row ((((((((((((wd.setCell ⟨bz, 0, none⟩ (.int .i64 (p))).setCell ⟨bz, 1, none⟩ (.int .i64 (r 0))).setCell ⟨bz, 2, none⟩ (.int .i64 (r 1))).setCell ⟨bz, 3, none⟩ (.int .i64 (r 2))).setCell ⟨bz, 4, none⟩ (.int .i64 (r 3))).setCell ⟨bz, 5, none⟩ (.int .i64 (r 4))).setCell ⟨bz, 6, none⟩ (.int .i64 (r 5))).setCell ⟨bz, 7, none⟩ (.int .i64 (r 6))).setCell ⟨bz, 8, none⟩ (.int .i64 (r 7))).setCell ⟨bz, 9, none⟩ (.slice A n cp)).setCell ⟨bz, 10, none⟩ (.int .i64 (2))).setCell ⟨bz, 11, none⟩ (.int .i64 (er))) (bz) [.int .i64 (p), .int .i64 (r 0), .int .i64 (r 1), .int .i64 (r 2), .int .i64 (r 3), .int .i64 (r 4), .int .i64 (r 5), .int .i64 (r 6), .int .i64 (r 7), .slice A n cp, .int .i64 (2), .int .i64 (er)] := (Row.set (Row.set (Row.set (Row.set (Row.set (Row.set (Row.set (Row.set (Row.set (Row.set (Row.set (Row.set hZ2.out 0 (by simp) (.int .i64 (p))) 1 (by simp) (.int .i64 (r 0))) 2 (by simp) (.int .i64 (r 1))) 3 (by simp) (.int .i64 (r 2))) 4 (by simp) (.int .i64 (r 3))) 5 (by simp) (.int .i64 (r 4))) 6 (by simp) (.int .i64 (r 5))) 7 (by simp) (.int .i64 (r 6))) 8 (by simp) (.int .i64 (r 7))) 9 (by simp) (.slice A n cp)) 10 (by simp) (.int .i64 (2))) 11 (by simp) (.int .i64 (er)))
  have hE5 := hE2.out.later hT5.2 (by omega)
  have hb5 := hb2.out.trans (hT5.below hb2.out.size (fun y hy e => by have := hbm'.out; omega))
  have hL5 := hide (show Later (fun y => y = bz ∨ y = be) wd _ from ⟨hT5.2.1, fun k hk hf => hT5.2.2 k hk (fun e => hf (.inl e))⟩)
  clear z0 z1 z2 z3 z4 z5 z6 z7 z8 z9 z10 z11 t0 t1 t2 t3 t4 t5 t6 t7 t8 t9 t10 t11 q0 q1 s0 s1 hT5
  generalize ((((((((((((wd.setCell ⟨bz, 0, none⟩ (.int .i64 (p))).setCell ⟨bz, 1, none⟩ (.int .i64 (r 0))).setCell ⟨bz, 2, none⟩ (.int .i64 (r 1))).setCell ⟨bz, 3, none⟩ (.int .i64 (r 2))).setCell ⟨bz, 4, none⟩ (.int .i64 (r 3))).setCell ⟨bz, 5, none⟩ (.int .i64 (r 4))).setCell ⟨bz, 6, none⟩ (.int .i64 (r 5))).setCell ⟨bz, 7, none⟩ (.int .i64 (r 6))).setCell ⟨bz, 8, none⟩ (.int .i64 (r 7))).setCell ⟨bz, 9, none⟩ (.slice A n cp)).setCell ⟨bz, 10, none⟩ (.int .i64 (2))).setCell ⟨bz, 11, none⟩ (.int .i64 (er))) = we at *
  have hT6 : Touch (fun y => y = be) we ((we.setCell ⟨be, 0, none⟩ (.int .i64 (3))).setCell ⟨be, 1, none⟩ (.int .i64 (er))) := ((Touch.refl (fun y => y = be) we).setCell (p := ⟨be, 0, none⟩) rfl _).setCell (p := ⟨be, 1, none⟩) rfl _
  have hE6 : Row ((we.setCell ⟨be, 0, none⟩ (.int .i64 (3))).setCell ⟨be, 1, none⟩ (.int .i64 (er))) (be) [.int .i64 (3), .int .i64 (er)] := (hE5.set 0 (by simp) (.int .i64 (3))).set 1 (by simp) (.int .i64 (er))
  have hZ6 := hide (hZ5.later hT6.2 (by omega))
  have hb6 := hb5.trans (hT6.below hb5.size (fun y hy e => by have := hbm'.out; omega))
  have hL6 := hide (show Later (fun y => y = bz ∨ y = be) wd _ from later_trans _ _ _ _ hL5.out ⟨hT6.2.1, fun k hk hf => hT6.2.2 k hk (fun e => hf (.inr e))⟩)
  clear hT6 hZ5 hE5 hb5 hL5
  generalize (we.setCell ⟨be, 0, none⟩ (.int .i64 (3))).setCell ⟨be, 1, none⟩ (.int .i64 (er)) = wf at *
  have z0 := hZ6.out.c 0 _ rfl
  have z1 := hZ6.out.c 1 _ rfl
  have z2 := hZ6.out.c 2 _ rfl
  have z3 := hZ6.out.c 3 _ rfl
  have z4 := hZ6.out.c 4 _ rfl
  have z5 := hZ6.out.c 5 _ rfl
  have z6 := hZ6.out.c 6 _ rfl
  have z7 := hZ6.out.c 7 _ rfl
  have z8 := hZ6.out.c 8 _ rfl
  have z9 := hZ6.out.c 9 _ rfl
  have z10 := hZ6.out.c 10 _ rfl
  have z11 := hZ6.out.c 11 _ rfl
  have q0 := hE6.c 0 _ rfl
  have q1 := hE6.c 1 _ rfl
  refine bodyPost_ret (v := .tuple #[.agg #[.int .i64 (p), .int .i64 (r 0), .int .i64 (r 1), .int .i64 (r 2), .int .i64 (r 3), .int .i64 (r 4), .int .i64 (r 5), .int .i64 (r 6), .int .i64 (r 7), .slice A n cp, .int .i64 (2), .int .i64 (er)], .agg #[.int .i64 (3), .int .i64 (er)]]) (by simp [results, Try.results20, go_sem, z0, z1, z2, z3, z4, z5, z6, z7, z8, z9, z10, z11, q0, q1]) rfl ?_
  exact ⟨rfl, hb6⟩
end Go.Proofs.Ytmgcbiejnifhpaa
