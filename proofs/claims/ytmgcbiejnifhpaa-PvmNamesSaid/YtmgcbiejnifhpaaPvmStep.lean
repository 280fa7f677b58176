/- pvm's Step walked, given what do does. -/
import Derived.Test.YtmgcbiejnifhpaaPvmDo2
namespace Go.Proofs.Ytmgcbiejnifhpaa
open Go.RowKit
theorem elem_i64s : Elem Try.prog 24 2 1 8 := Elem.of (z := .int .i64 0) Try.underlying24 (by kernel_rfl) rfl (by omega)
theorem Sl.kept0P {w w' : World} {size n : Nat} {v : Value} {xs : List Value} (h : Sl w size v n xs) (hs : w.heap.size ≤ w'.heap.size) (hk : 0 < n → ∀ b, v.ownBlock = some b → b < w.heap.size → w'.heap[b]? = w.heap[b]?) : Sl w' size v n xs := by
  rcases Nat.eq_zero_or_pos n with h0 | h0
  · obtain ⟨A, c, e, h1, h2, h3, _⟩ := h
    exact ⟨A, c, e, h1, h2, h3, fun h => by omega⟩
  · exact h.kept hs (hk h0)
def i64V (l : List Int) : List Value := l.map fun x => .int .i64 x
theorem i64V_one (l : List Int) : ∀ u ∈ i64V l, u.oneCell' = true := by
  intro u hu
  obtain ⟨c, _, rfl⟩ := List.mem_map.1 hu
  rfl
def Mem (w : World) (v : Value) (l : List Int) : Prop := Sl w 1 v l.length (i64V l)
set_option maxRecDepth 100000 in
set_option maxHeartbeats 4000000 in
theorem step_do (lv : Value) (l : List Ins) (ok : ∀ i ∈ l, i.Ok) (p : Nat) (hp : p < l.length) (hl : l.length ≤ 1000000) (r : Nat → Int) (mem : List Int) (hm : mem.length ≤ 1000000) (A : Option Addr) (n cp : Nat) (hn : n = mem.length) (tr : Int) (w : World) (h : Inss w lv l) (hmem : Sl w 1 (.slice A n cp) n (i64V mem)) (hf : (l[p]).formed = true)
    (p' : Int) (r' : Nat → Int) (st' tr' k1 k2 : Int)
    (hd : ∀ (A : Option Addr) (cp : Nat) (w : World), Calls Try.prog 22 #[.agg #[.int .i64 (p : Nat), .int .i64 (r 0), .int .i64 (r 1), .int .i64 (r 2), .int .i64 (r 3), .int .i64 (r 4), .int .i64 (r 5), .int .i64 (r 6), .int .i64 (r 7), .slice A n cp, .int .i64 0, .int .i64 tr], (l[p]).v] w fun e w' => e = .returned (.tuple #[.agg #[.int .i64 p', .int .i64 (r' 0), .int .i64 (r' 1), .int .i64 (r' 2), .int .i64 (r' 3), .int .i64 (r' 4), .int .i64 (r' 5), .int .i64 (r' 6), .int .i64 (r' 7), .slice A n cp, .int .i64 st', .int .i64 tr'], .agg #[.int .i64 k1, .int .i64 k2]]) ∧ Below w.heap.size w w') :
    Calls Try.prog 13 #[lv, .agg #[.int .i64 (p : Nat), .int .i64 (r 0), .int .i64 (r 1), .int .i64 (r 2), .int .i64 (r 3), .int .i64 (r 4), .int .i64 (r 5), .int .i64 (r 6), .int .i64 (r 7), .slice A n cp, .int .i64 0, .int .i64 tr]] w fun e w' => ∃ A' cp', e = .returned (.tuple #[.agg #[.int .i64 p', .int .i64 (r' 0), .int .i64 (r' 1), .int .i64 (r' 2), .int .i64 (r' 3), .int .i64 (r' 4), .int .i64 (r' 5), .int .i64 (r' 6), .int .i64 (r' 7), .slice A' n cp', .int .i64 st', .int .i64 tr'], .agg #[.int .i64 k1, .int .i64 k2]]) ∧ Sl w' 1 (.slice A' n cp') n (i64V mem) ∧ Below w.heap.size w w' := by
  obtain ⟨LA, lc, rfl, hn1, hm1, _, hcell⟩ := h
  obtain ⟨b, off, rfl, hb, hcell⟩ := hcell (by omega)
  obtain ⟨g0, g1, g2, g3⟩ := insV_get l p hp
  have hr := hide (show ∀ w' : World, Below w.heap.size w w' → w'.cell? ⟨b, off + p*4, none⟩ = some (.int .u8 ((l[p]).o : Nat)) ∧ w'.cell? ⟨b, off + p*4 + 1, none⟩ = some (.int .u8 ((l[p]).a : Nat)) ∧ w'.cell? ⟨b, off + p*4 + 2, none⟩ = some (.int .u8 ((l[p]).b : Nat)) ∧ w'.cell? ⟨b, off + p*4 + 3, none⟩ = some (.int .u8 ((l[p]).c : Nat)) by
    intro w' hbw
    have t := fun o u (hu : (insV l)[4 * p + o]? = some u) => by
      have := hcell _ _ hu
      rw [show off + (4 * p + o) = off + p * 4 + o by omega] at this
      exact (hbw.cell (p := ⟨b, off + p * 4 + o, none⟩) hb).trans this
    exact ⟨t 0 _ g0, t 1 _ g1, t 2 _ g2, t 3 _ g3⟩)
  have hi := hide (ok _ (List.getElem_mem hp))
  obtain ⟨i, hie⟩ : ∃ i, i = l[p] := ⟨_, rfl⟩
  rw [← hie] at hr hi hf hd
  have hf' := hide hf
  have hd' := hide hd
  have hmem' := hide hmem
  have hn' := hide hn
  have hpI : (p : Int) < (l.length : Int) := by omega
  unfold maxLen at hm1
  clear g0 g1 g2 g3 hcell ok hie hf hd hmem hn
  go_enter Try.func13, Try.ntmps13
  go_upto_region 1 with (fail)
  have hM1 := Row.new w 27 [.int .i64 ((p : Nat)), .int .i64 (r 0), .int .i64 (r 1), .int .i64 (r 2), .int .i64 (r 3), .int .i64 (r 4), .int .i64 (r 5), .int .i64 (r 6), .int .i64 (r 7), .slice A n cp, .int .i64 (0), .int .i64 tr]
  have hbA : Below w.heap.size w (w.alloc (.cells #[.int .i64 ((p : Nat)), .int .i64 (r 0), .int .i64 (r 1), .int .i64 (r 2), .int .i64 (r 3), .int .i64 (r 4), .int .i64 (r 5), .int .i64 (r 6), .int .i64 (r 7), .slice A n cp, .int .i64 (0), .int .i64 tr] 27)) := (Below.refl _ _).alloc (Nat.le_refl _) _
  have hsA : (w.alloc (.cells #[.int .i64 ((p : Nat)), .int .i64 (r 0), .int .i64 (r 1), .int .i64 (r 2), .int .i64 (r 3), .int .i64 (r 4), .int .i64 (r 5), .int .i64 (r 6), .int .i64 (r 7), .slice A n cp, .int .i64 (0), .int .i64 tr] 27)).heap.size = w.heap.size + 1 := by simp
  generalize w.alloc (.cells #[.int .i64 ((p : Nat)), .int .i64 (r 0), .int .i64 (r 1), .int .i64 (r 2), .int .i64 (r 3), .int .i64 (r 4), .int .i64 (r 5), .int .i64 (r 6), .int .i64 (r 7), .slice A n cp, .int .i64 (0), .int .i64 tr] 27) = wa at *
  have hZ1 := Row.new wa 27 [.int .i64 0, .int .i64 0, .int .i64 0, .int .i64 0, .int .i64 0, .int .i64 0, .int .i64 0, .int .i64 0, .int .i64 0, .slice none 0 0, .int .i64 0, .int .i64 0]
  have hbB : Below wa.heap.size wa (wa.alloc (.cells #[.int .i64 0, .int .i64 0, .int .i64 0, .int .i64 0, .int .i64 0, .int .i64 0, .int .i64 0, .int .i64 0, .int .i64 0, .slice none 0 0, .int .i64 0, .int .i64 0] 27)) := (Below.refl _ _).alloc (Nat.le_refl _) _
  have hsB : (wa.alloc (.cells #[.int .i64 0, .int .i64 0, .int .i64 0, .int .i64 0, .int .i64 0, .int .i64 0, .int .i64 0, .int .i64 0, .int .i64 0, .slice none 0 0, .int .i64 0, .int .i64 0] 27)).heap.size = wa.heap.size + 1 := by simp
  have hM2 := hM1.below hbB
  generalize wa.alloc (.cells #[.int .i64 0, .int .i64 0, .int .i64 0, .int .i64 0, .int .i64 0, .int .i64 0, .int .i64 0, .int .i64 0, .int .i64 0, .slice none 0 0, .int .i64 0, .int .i64 0] 27) = wb at *
  have hE1 := Row.new wb 38 [.int .i64 0, .int .i64 0]
  have hbC : Below wb.heap.size wb (wb.alloc (.cells #[.int .i64 0, .int .i64 0] 38)) := (Below.refl _ _).alloc (Nat.le_refl _) _
  have hM3 := hM2.below hbC
  have hZ3 := hZ1.below hbC
  generalize wb.alloc (.cells #[.int .i64 0, .int .i64 0] 38) = wc at *
  obtain ⟨bm, hbm⟩ : ∃ bm, bm = w.heap.size := ⟨_, rfl⟩
  rw [show wa.heap.size = bm + 1 by omega] at hZ3
  rw [show wb.heap.size = bm + 2 by omega] at hE1
  have hb' := hide ((hbA.trans (hbB.mono hbA.size)).trans (hbC.mono (Nat.le_trans hbA.size hbB.size)))
  rw [← hbm] at hM3 ⊢
  have hM' := hide hM3
  have hZ' := hide hZ3
  have hE' := hide hE1
  have hbm' := hide hbm
  have hcl := hE1.lt
  obtain ⟨be, hbe⟩ : ∃ be, be = bm + 1 + 1 := ⟨_, rfl⟩
  obtain ⟨bz, hbz⟩ : ∃ bz, bz = bm + 1 := ⟨_, rfl⟩
  rw [show bm + 2 = be by omega] at hE'
  rw [← hbz] at hZ'
  rw [← hbe]
  rw [← hbz]
  have hlt1 : bm < bz := by omega
  have hlt2 : bz < be := by omega
  have hcl2 : be < wc.heap.size := by omega
  clear hM1 hbA hsA hZ1 hbB hsB hM2 hE1 hbC hM3 hZ3 hbm hbe hbz
  have x0 := hM'.out.c 0 _ rfl
  have x1 := hM'.out.c 1 _ rfl
  have x2 := hM'.out.c 2 _ rfl
  have x3 := hM'.out.c 3 _ rfl
  have x4 := hM'.out.c 4 _ rfl
  have x5 := hM'.out.c 5 _ rfl
  have x6 := hM'.out.c 6 _ rfl
  have x7 := hM'.out.c 7 _ rfl
  have x8 := hM'.out.c 8 _ rfl
  have x9 := hM'.out.c 9 _ rfl
  have x10 := hM'.out.c 10 _ rfl
  have x11 := hM'.out.c 11 _ rfl
  go_upto_region 2 with (fail)
  have hO1 := Row.new wc 27 [.int .i64 (p : Nat), .int .i64 (r 0), .int .i64 (r 1), .int .i64 (r 2), .int .i64 (r 3), .int .i64 (r 4), .int .i64 (r 5), .int .i64 (r 6), .int .i64 (r 7), .slice A n cp, .int .i64 0, .int .i64 tr]
  have hbO : Below wc.heap.size wc (wc.alloc (.cells #[.int .i64 (p : Nat), .int .i64 (r 0), .int .i64 (r 1), .int .i64 (r 2), .int .i64 (r 3), .int .i64 (r 4), .int .i64 (r 5), .int .i64 (r 6), .int .i64 (r 7), .slice A n cp, .int .i64 0, .int .i64 tr] 27)) := (Below.refl _ _).alloc (Nat.le_refl _) _
  have hM2 := hM'.out.below hbO
  have hZ2 := hZ'.out.below hbO
  have hE2 := hE'.out.below hbO
  have hb2 := hb'.out.trans (hbO.mono hb'.out.size)
  generalize wc.alloc (.cells #[.int .i64 (p : Nat), .int .i64 (r 0), .int .i64 (r 1), .int .i64 (r 2), .int .i64 (r 3), .int .i64 (r 4), .int .i64 (r 5), .int .i64 (r 6), .int .i64 (r 7), .slice A n cp, .int .i64 0, .int .i64 tr] 27) = wd at *
  obtain ⟨bo, hbo⟩ : ∃ bo, bo = wc.heap.size := ⟨_, rfl⟩
  rw [← hbo] at hO1 ⊢
  have hlt3 : be < bo := by omega
  have hO1' := hide hO1
  have hM2' := hide hM2
  have hZ2' := hide hZ2
  have hE2' := hide hE2
  have hb2' := hide hb2
  have hmem2 := hide (Sl.below hmem'.out hb2)
  clear x0 x1 x2 x3 x4 x5 x6 x7 x8 x9 x10 x11 hM' hZ' hE' hb' hbO hM2 hZ2 hE2 hb2 hbo hO1
  have x9 := hM2'.out.c 9 _ rfl
  have hnl : n ≤ 1000000 := by rw [hn'.out]; exact hm
  go_wp2_with ((at_builtin; refine list_app_any elem_i64s rfl (.const (.slice none 0 0)) (.tmp 10) rfl wd.heap.size (.slice none 0 0) 0 [] rfl (World.ownsRow_nil _ _ _ _) (.slice A n cp) n (i64V mem) rfl hmem2.out (i64V_one _) (by simp only [maxLen]; omega) (by omega) (Nat.le_refl _) ?_))
  intro v5 w5 hv hg hat
  have hb35 : Below wd.heap.size wd w5 := (Below.refl _ _).grown hg (Nat.le_refl _) (by simp [Value.ownBlock])
  obtain ⟨A8, c8, rfl, _⟩ := Sl.own hv
  have hvl := hide (show ∀ y, (Value.slice A8 n c8).ownBlock = some y → wd.heap.size ≤ y from fun y hy => (World.ownsRow.lt hv y hy).1)
  have hvs := hide (Sl.own hv)
  have hM3 := hide (hM2'.out.below hb35)
  have hZ3 := hide (hZ2'.out.below hb35)
  have hE3 := hide (hE2'.out.below hb35)
  have hO3 := hide (hO1'.out.below hb35)
  have hb3 := hide (hb2'.out.trans (hb35.mono hb2'.out.size))
  have hbol := hide hO1'.out.lt
  have hs35 := hb35.size
  clear hv hg hat hb35 hM2' hZ2' hE2' hb2' hmem2 x9 hO1'
  have o9 := hO3.out.c 9 _ rfl
  have t9 := hO3.out.z 9
  go_upto_region 3 with (fail)
  have hT4 : Touch (fun y => y = bo) w5 (w5.setCell ⟨bo, 9, none⟩ (.slice A8 n c8)) := (Touch.refl (fun y => y = bo) w5).setCell (p := ⟨bo, 9, none⟩) rfl _
  have hO4 := hide (show Row (w5.setCell ⟨bo, 9, none⟩ (.slice A8 n c8)) bo [.int .i64 (p : Nat), .int .i64 (r 0), .int .i64 (r 1), .int .i64 (r 2), .int .i64 (r 3), .int .i64 (r 4), .int .i64 (r 5), .int .i64 (r 6), .int .i64 (r 7), .slice A8 n c8, .int .i64 0, .int .i64 tr] from hO3.out.set 9 (by simp) (.slice A8 n c8))
  have hM4 := hide (hM3.out.later hT4.2 (by omega))
  have hZ4 := hide (hZ3.out.later hT4.2 (by omega))
  have hE4 := hide (hE3.out.later hT4.2 (by omega))
  have hvs4 := hide (Sl.kept0P hvs.out hT4.2.1 (fun _ y hy hlt => hT4.2.2 y hlt (fun e => by have := hvl.out y hy; have := hbol.out; omega)))
  have hb4 := hide (hb3.out.trans (hT4.below hb3.out.size (fun y hy e => by have := hbm'.out; omega)))
  have hs4 := hT4.size
  clear hT4 hO3 hM3 hZ3 hE3 hvs hb3 o9 t9
  generalize w5.setCell ⟨bo, 9, none⟩ (.slice A8 n c8) = w6 at *
  have x0 := hM4.out.c 0 _ rfl
  have x10 := hM4.out.c 10 _ rfl
  obtain ⟨y0, y1, y2, y3⟩ := hr.out w6 hb4.out
  have hd1 : decide ((p : Int) < 0) = false := decide_eq_false (by omega)
  have hd2 : decide ((l.length : Int) ≤ (p : Int)) = false := decide_eq_false (by omega)
  have hd3 : decide (l.length ≤ p) = false := decide_eq_false (by omega)
  have hbl6 : b < w6.heap.size := by have := hb4.out.size; omega
  go_upto_region 8 with (fail)
  have hI5 := Row.new w6 56 [.int .u8 (i.o : Nat), .int .u8 (i.a : Nat), .int .u8 (i.b : Nat), .int .u8 (i.c : Nat)]
  have hbI : Below w6.heap.size w6 (w6.alloc (.cells #[.int .u8 (i.o : Nat), .int .u8 (i.a : Nat), .int .u8 (i.b : Nat), .int .u8 (i.c : Nat)] 56)) := (Below.refl _ _).alloc (Nat.le_refl _) _
  have hO5 := hide (hO4.out.below hbI)
  have hZ5 := hide (hZ4.out.below hbI)
  have hE5 := hide (hE4.out.below hbI)
  have hvs5 := hide (Sl.below hvs4.out hbI)
  have hb5 := hide (hb4.out.trans (hbI.mono hb4.out.size))
  generalize w6.alloc (.cells #[.int .u8 (i.o : Nat), .int .u8 (i.a : Nat), .int .u8 (i.b : Nat), .int .u8 (i.c : Nat)] 56) = w7 at *
  generalize w6.heap.size = bi at *
  have hI5' := hide hI5
  clear hI5 hbI hO4 hM4 hZ4 hE4 hvs4 hb4 x0 x10 y0 y1 y2 y3 hd1 hd2 hd3
  have i0 := hI5'.out.c 0 _ rfl
  have i1 := hI5'.out.c 1 _ rfl
  have i2 := hI5'.out.c 2 _ rfl
  have i3 := hI5'.out.c 3 _ rfl
  go_wp2_with fail
  refine (ill_any i hi.out w7).mono ?_
  rintro e w8 ⟨rfl, hb⟩
  rw [hf'.out]
  have hO6 := hide (hO5.out.below hb)
  have hZ6' := hide (hZ5.out.below hb)
  have hE6' := hide (hE5.out.below hb)
  have hI6 := hide (hI5'.out.below hb)
  have hvs6 := hide (Sl.below hvs5.out hb)
  have hb6' := hide (hb5.out.trans (hb.mono hb5.out.size))
  clear hb hO5 hZ5 hE5 hI5' hvs5 hb5 i0 i1 i2 i3
  have i0 := hI6.out.c 0 _ rfl
  have i1 := hI6.out.c 1 _ rfl
  have i2 := hI6.out.c 2 _ rfl
  have i3 := hI6.out.c 3 _ rfl
  have x0 := hO6.out.c 0 _ rfl
  have x1 := hO6.out.c 1 _ rfl
  have x2 := hO6.out.c 2 _ rfl
  have x3 := hO6.out.c 3 _ rfl
  have x4 := hO6.out.c 4 _ rfl
  have x5 := hO6.out.c 5 _ rfl
  have x6 := hO6.out.c 6 _ rfl
  have x7 := hO6.out.c 7 _ rfl
  have x8 := hO6.out.c 8 _ rfl
  have x9 := hO6.out.c 9 _ rfl
  have x10 := hO6.out.c 10 _ rfl
  have x11 := hO6.out.c 11 _ rfl
  go_wp2_with fail
  refine (hd'.out A8 c8 w8).mono ?_
  rintro e wd ⟨rfl, hb⟩
  have hZ2 := hide (hZ6'.out.below hb)
  have hE2 := hide (hE6'.out.below hb)
  have hvs7 := hide (Sl.below hvs6.out hb)
  have hb2 := hide (hb6'.out.trans (hb.mono hb6'.out.size))
  clear hb hO6 hZ6' hE6' hI6 hvs6 hb6' i0 i1 i2 i3 x0 x1 x2 x3 x4 x5 x6 x7 x8 x9 x10 x11
  have z0 := hZ2.out.c 0 _ rfl
  have z1 := hZ2.out.c 1 _ rfl
  have z2 := hZ2.out.c 2 _ rfl
  have z3 := hZ2.out.c 3 _ rfl
  have z4 := hZ2.out.c 4 _ rfl
  have z5 := hZ2.out.c 5 _ rfl
  have z6 := hZ2.out.c 6 _ rfl
  have z7 := hZ2.out.c 7 _ rfl
  have z8 := hZ2.out.c 8 _ rfl
  have z9 := hZ2.out.c 9 _ rfl
  have z10 := hZ2.out.c 10 _ rfl
  have z11 := hZ2.out.c 11 _ rfl
  have t0 := hZ2.out.z 0
  have t1 := hZ2.out.z 1
  have t2 := hZ2.out.z 2
  have t3 := hZ2.out.z 3
  have t4 := hZ2.out.z 4
  have t5 := hZ2.out.z 5
  have t6 := hZ2.out.z 6
  have t7 := hZ2.out.z 7
  have t8 := hZ2.out.z 8
  have t9 := hZ2.out.z 9
  have t10 := hZ2.out.z 10
  have t11 := hZ2.out.z 11
  have q0 := hE2.out.c 0 _ rfl
  have q1 := hE2.out.c 1 _ rfl
  have s0 := hE2.out.z 0
  have s1 := hE2.out.z 1
  go_wp2_with fail
  have hT5 : Touch (fun y => y = bz) wd ((((((((((((wd.setCell ⟨bz, 0, none⟩ (.int .i64 (p'))).setCell ⟨bz, 1, none⟩ (.int .i64 (r' 0))).setCell ⟨bz, 2, none⟩ (.int .i64 (r' 1))).setCell ⟨bz, 3, none⟩ (.int .i64 (r' 2))).setCell ⟨bz, 4, none⟩ (.int .i64 (r' 3))).setCell ⟨bz, 5, none⟩ (.int .i64 (r' 4))).setCell ⟨bz, 6, none⟩ (.int .i64 (r' 5))).setCell ⟨bz, 7, none⟩ (.int .i64 (r' 6))).setCell ⟨bz, 8, none⟩ (.int .i64 (r' 7))).setCell ⟨bz, 9, none⟩ (.slice A8 n c8)).setCell ⟨bz, 10, none⟩ (.int .i64 (st'))).setCell ⟨bz, 11, none⟩ (.int .i64 (tr'))) := (Touch.setCell (Touch.setCell (Touch.setCell (Touch.setCell (Touch.setCell (Touch.setCell (Touch.setCell (Touch.setCell (Touch.setCell (Touch.setCell (Touch.setCell (Touch.setCell (Touch.refl (fun y => y = bz) wd) (p := ⟨bz, 0, none⟩) rfl (.int .i64 (p'))) (p := ⟨bz, 1, none⟩) rfl (.int .i64 (r' 0))) (p := ⟨bz, 2, none⟩) rfl (.int .i64 (r' 1))) (p := ⟨bz, 3, none⟩) rfl (.int .i64 (r' 2))) (p := ⟨bz, 4, none⟩) rfl (.int .i64 (r' 3))) (p := ⟨bz, 5, none⟩) rfl (.int .i64 (r' 4))) (p := ⟨bz, 6, none⟩) rfl (.int .i64 (r' 5))) (p := ⟨bz, 7, none⟩) rfl (.int .i64 (r' 6))) (p := ⟨bz, 8, none⟩) rfl (.int .i64 (r' 7))) (p := ⟨bz, 9, none⟩) rfl (.slice A8 n c8)) (p := ⟨bz, 10, none⟩) rfl (.int .i64 (st'))) (p := ⟨bz, 11, none⟩) rfl (.int .i64 (tr')))
  have hZ5 : Row ((((((((((((wd.setCell ⟨bz, 0, none⟩ (.int .i64 (p'))).setCell ⟨bz, 1, none⟩ (.int .i64 (r' 0))).setCell ⟨bz, 2, none⟩ (.int .i64 (r' 1))).setCell ⟨bz, 3, none⟩ (.int .i64 (r' 2))).setCell ⟨bz, 4, none⟩ (.int .i64 (r' 3))).setCell ⟨bz, 5, none⟩ (.int .i64 (r' 4))).setCell ⟨bz, 6, none⟩ (.int .i64 (r' 5))).setCell ⟨bz, 7, none⟩ (.int .i64 (r' 6))).setCell ⟨bz, 8, none⟩ (.int .i64 (r' 7))).setCell ⟨bz, 9, none⟩ (.slice A8 n c8)).setCell ⟨bz, 10, none⟩ (.int .i64 (st'))).setCell ⟨bz, 11, none⟩ (.int .i64 (tr'))) (bz) [.int .i64 (p'), .int .i64 (r' 0), .int .i64 (r' 1), .int .i64 (r' 2), .int .i64 (r' 3), .int .i64 (r' 4), .int .i64 (r' 5), .int .i64 (r' 6), .int .i64 (r' 7), .slice A8 n c8, .int .i64 (st'), .int .i64 (tr')] := (Row.set (Row.set (Row.set (Row.set (Row.set (Row.set (Row.set (Row.set (Row.set (Row.set (Row.set (Row.set hZ2.out 0 (by simp) (.int .i64 (p'))) 1 (by simp) (.int .i64 (r' 0))) 2 (by simp) (.int .i64 (r' 1))) 3 (by simp) (.int .i64 (r' 2))) 4 (by simp) (.int .i64 (r' 3))) 5 (by simp) (.int .i64 (r' 4))) 6 (by simp) (.int .i64 (r' 5))) 7 (by simp) (.int .i64 (r' 6))) 8 (by simp) (.int .i64 (r' 7))) 9 (by simp) (.slice A8 n c8)) 10 (by simp) (.int .i64 (st'))) 11 (by simp) (.int .i64 (tr')))
  have hE5 := hE2.out.later hT5.2 (by omega)
  have hb5 := hb2.out.trans (hT5.below hb2.out.size (fun y hy e => by have := hbm'.out; omega))
  have hL5 := hide (show Later (fun y => y = bz ∨ y = be) wd _ from ⟨hT5.2.1, fun k hk hf => hT5.2.2 k hk (fun e => hf (.inl e))⟩)
  clear z0 z1 z2 z3 z4 z5 z6 z7 z8 z9 z10 z11 t0 t1 t2 t3 t4 t5 t6 t7 t8 t9 t10 t11 q0 q1 s0 s1 hT5
  generalize ((((((((((((wd.setCell ⟨bz, 0, none⟩ (.int .i64 (p'))).setCell ⟨bz, 1, none⟩ (.int .i64 (r' 0))).setCell ⟨bz, 2, none⟩ (.int .i64 (r' 1))).setCell ⟨bz, 3, none⟩ (.int .i64 (r' 2))).setCell ⟨bz, 4, none⟩ (.int .i64 (r' 3))).setCell ⟨bz, 5, none⟩ (.int .i64 (r' 4))).setCell ⟨bz, 6, none⟩ (.int .i64 (r' 5))).setCell ⟨bz, 7, none⟩ (.int .i64 (r' 6))).setCell ⟨bz, 8, none⟩ (.int .i64 (r' 7))).setCell ⟨bz, 9, none⟩ (.slice A8 n c8)).setCell ⟨bz, 10, none⟩ (.int .i64 (st'))).setCell ⟨bz, 11, none⟩ (.int .i64 (tr'))) = we at *
  have hT6 : Touch (fun y => y = be) we ((we.setCell ⟨be, 0, none⟩ (.int .i64 (k1))).setCell ⟨be, 1, none⟩ (.int .i64 (k2))) := ((Touch.refl (fun y => y = be) we).setCell (p := ⟨be, 0, none⟩) rfl _).setCell (p := ⟨be, 1, none⟩) rfl _
  have hE6 : Row ((we.setCell ⟨be, 0, none⟩ (.int .i64 (k1))).setCell ⟨be, 1, none⟩ (.int .i64 (k2))) (be) [.int .i64 (k1), .int .i64 (k2)] := (hE5.set 0 (by simp) (.int .i64 (k1))).set 1 (by simp) (.int .i64 (k2))
  have hZ6 := hide (hZ5.later hT6.2 (by omega))
  have hb6 := hb5.trans (hT6.below hb5.size (fun y hy e => by have := hbm'.out; omega))
  have hL6 := hide (show Later (fun y => y = bz ∨ y = be) wd _ from later_trans _ _ _ _ hL5.out ⟨hT6.2.1, fun k hk hf => hT6.2.2 k hk (fun e => hf (.inr e))⟩)
  clear hT6 hZ5 hE5 hb5 hL5
  generalize (we.setCell ⟨be, 0, none⟩ (.int .i64 (k1))).setCell ⟨be, 1, none⟩ (.int .i64 (k2)) = wf at *
  have z0 := hZ6.out.c 0 _ rfl
  have z1 := hZ6.out.c 1 _ rfl
  have z2 := hZ6.out.c 2 _ rfl
  have z3 := hZ6.out.c 3 _ rfl
  have z4 := hZ6.out.c 4 _ rfl
  have z5 := hZ6.out.c 5 _ rfl
  have z6 := hZ6.out.c 6 _ rfl
  have z7 := hZ6.out.c 7 _ rfl
  have z8 := hZ6.out.c 8 _ rfl
  have z9 := hZ6.out.c 9 _ rfl
  have z10 := hZ6.out.c 10 _ rfl
  have z11 := hZ6.out.c 11 _ rfl
  have q0 := hE6.c 0 _ rfl
  have q1 := hE6.c 1 _ rfl
  refine bodyPost_ret (v := .tuple #[.agg #[.int .i64 (p'), .int .i64 (r' 0), .int .i64 (r' 1), .int .i64 (r' 2), .int .i64 (r' 3), .int .i64 (r' 4), .int .i64 (r' 5), .int .i64 (r' 6), .int .i64 (r' 7), .slice A8 n c8, .int .i64 (st'), .int .i64 (tr')], .agg #[.int .i64 (k1), .int .i64 (k2)]]) (by simp [results, Try.results13, go_sem, z0, z1, z2, z3, z4, z5, z6, z7, z8, z9, z10, z11, q0, q1]) rfl ?_
  exact ⟨A8, c8, rfl, Sl.kept0P hvs7.out hL6.out.1 (fun _ y hy hlt => hL6.out.2 y hlt (fun e => by have := hvl.out y hy; have := hbol.out; rcases e with e | e <;> omega)), hb6⟩
end Go.Proofs.Ytmgcbiejnifhpaa
