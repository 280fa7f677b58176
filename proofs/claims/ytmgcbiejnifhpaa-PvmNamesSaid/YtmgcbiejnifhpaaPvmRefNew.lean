/- The document's machine (nacelleref08): New walked. -/
import Derived.Test.YtmgcbiejnifhpaaPvmNew
namespace Go.Proofs.Ytmgcbiejnifhpaa
open Go.RowKit
theorem own_laterP {w w' : World} {F : Nat → Prop} {base : Nat} {e : TypeId} {size : Nat} {v : Value} {n : Nat} {xs : List Value} (h : w.ownsRow base e size v n xs) (t : Later F w w') (hv : ∀ b, v.ownBlock = some b → ¬ F b) : w'.ownsRow base e size v n xs := by
  rcases h with ⟨h0, h | ⟨g, cap, cur, rfl, h1, h2, h3⟩⟩
  · exact ⟨h0, .inl h⟩
  · have hlt : g < w.heap.size := (Array.getElem?_eq_some_iff.1 h2).1
    exact ⟨h0, .inr ⟨g, cap, cur, rfl, h1, (t.2 g hlt (hv g rfl)).trans h2, h3⟩⟩
theorem replicate_pushP {α : Type} (n : Nat) (x : α) : List.replicate n x ++ [x] = List.replicate (n + 1) x := by rw [List.replicate_succ']
set_option maxRecDepth 100000 in
set_option maxHeartbeats 4000000 in
theorem r8new_any (x : Int) (m : Nat) (hm : max 0 (min x 64) = (m : Int)) (w : World) :
    Calls Try.prog 9 #[.int .i64 x] w fun e w' => ∃ A cp, e = .returned (.agg #[.int .i64 0, .int .i64 0, .int .i64 0, .int .i64 0, .int .i64 0, .int .i64 0, .int .i64 0, .int .i64 0, .int .i64 0, .slice A m cp, .int .i64 0, .int .i64 0]) ∧ Sl w' 1 (.slice A m cp) m (i64V (List.replicate m 0)) ∧ Below w.heap.size w w' := by
  have hm' := hide hm
  have hm64 : m ≤ 64 := by omega
  clear hm
  go_enter Try.func9, Try.ntmps9
  go_upto_region 1 with (fail)
  have hZ1 := Row.new w 30 [.int .i64 0, .int .i64 0, .int .i64 0, .int .i64 0, .int .i64 0, .int .i64 0, .int .i64 0, .int .i64 0, .int .i64 0, .slice none 0 0, .int .i64 0, .int .i64 0]
  have hbA : Below w.heap.size w (w.alloc (.cells #[.int .i64 0, .int .i64 0, .int .i64 0, .int .i64 0, .int .i64 0, .int .i64 0, .int .i64 0, .int .i64 0, .int .i64 0, .slice none 0 0, .int .i64 0, .int .i64 0] 30)) := (Below.refl _ _).alloc (Nat.le_refl _) _
  have hsA : (w.alloc (.cells #[.int .i64 0, .int .i64 0, .int .i64 0, .int .i64 0, .int .i64 0, .int .i64 0, .int .i64 0, .int .i64 0, .int .i64 0, .slice none 0 0, .int .i64 0, .int .i64 0] 30)).heap.size = w.heap.size + 1 := by simp
  generalize w.alloc (.cells #[.int .i64 0, .int .i64 0, .int .i64 0, .int .i64 0, .int .i64 0, .int .i64 0, .int .i64 0, .int .i64 0, .int .i64 0, .slice none 0 0, .int .i64 0, .int .i64 0] 30) = wa at *
  go_upto_region 2 with (fail)
  have hM1 := Row.new wa 30 [.int .i64 0, .int .i64 0, .int .i64 0, .int .i64 0, .int .i64 0, .int .i64 0, .int .i64 0, .int .i64 0, .int .i64 0, .slice none 0 0, .int .i64 0, .int .i64 0]
  have hbB : Below wa.heap.size wa (wa.alloc (.cells #[.int .i64 0, .int .i64 0, .int .i64 0, .int .i64 0, .int .i64 0, .int .i64 0, .int .i64 0, .int .i64 0, .int .i64 0, .slice none 0 0, .int .i64 0, .int .i64 0] 30)) := (Below.refl _ _).alloc (Nat.le_refl _) _
  have hsB : (wa.alloc (.cells #[.int .i64 0, .int .i64 0, .int .i64 0, .int .i64 0, .int .i64 0, .int .i64 0, .int .i64 0, .int .i64 0, .int .i64 0, .slice none 0 0, .int .i64 0, .int .i64 0] 30)).heap.size = wa.heap.size + 1 := by simp
  have hZ2 := hide (hZ1.below hbB)
  have hb2 := hide (hbA.trans (hbB.mono hbA.size))
  generalize wa.alloc (.cells #[.int .i64 0, .int .i64 0, .int .i64 0, .int .i64 0, .int .i64 0, .int .i64 0, .int .i64 0, .int .i64 0, .int .i64 0, .slice none 0 0, .int .i64 0, .int .i64 0] 30) = wb at *
  rw [hsA] at hM1
  obtain ⟨bz, hbz⟩ : ∃ bz, bz = w.heap.size := ⟨_, rfl⟩
  rw [← hbz] at hM1 hZ2 ⊢
  obtain ⟨bm, hbm⟩ : ∃ bm, bm = bz + 1 := ⟨_, rfl⟩
  rw [← hbm] at hM1 ⊢
  obtain ⟨bb, hbb⟩ : ∃ bb, bb = wb.heap.size := ⟨_, rfl⟩
  have hbz' := hide hbz
  have hlt1 : bz < bm := by omega
  have hlt2 : bm < bb := by omega
  have hM1' := hide hM1
  have hbb' := hide hbb
  clear hZ1 hbA hsA hM1 hbB hsB hbz hbm hbb
  go_wp2_with fail
  go_loopw [4] (fun i wr => ∃ k A cp, k ≤ m ∧ i = .int .i64 (k : Nat) ∧ Row wr bm [.int .i64 0, .int .i64 0, .int .i64 0, .int .i64 0, .int .i64 0, .int .i64 0, .int .i64 0, .int .i64 0, .int .i64 0, .slice A k cp, .int .i64 0, .int .i64 0] ∧ Row wr bz [.int .i64 0, .int .i64 0, .int .i64 0, .int .i64 0, .int .i64 0, .int .i64 0, .int .i64 0, .int .i64 0, .int .i64 0, .slice none 0 0, .int .i64 0, .int .i64 0] ∧ wr.ownsRow bb 2 1 (.slice A k cp) k (i64V (List.replicate k 0)) ∧ Below w.heap.size w wr ∧ bb ≤ wr.heap.size) (fun i _ => m - (intOf i).toNat)
  case atStart => exact ⟨0, none, 0, by omega, rfl, hM1'.out, hZ2.out, World.ownsRow_nil _ _ _ _, hb2.out, Nat.le_of_eq hbb'.out⟩
  case round =>
    obtain ⟨k, A, cp, hk, rfl, hM, hZ, hown, hb, hbbr⟩ := hrel
    have hM3 := hide hM
    have hZ3 := hide hZ
    have hown' := hide hown
    have hb3 := hide hb
    clear hM hZ hown hb hM1' hZ2 hb2
    by_cases hlt : k < m
    · have hd1 : decide ((k : Int) < x) = true := decide_eq_true (by have := hm'.out; omega)
      have hd2 : decide ((k : Int) < 64) = true := decide_eq_true (by omega)
      have hd3 : decide (k < 64) = true := decide_eq_true (by omega)
      have x9 := hM3.out.c 9 _ rfl
      have t9 := hM3.out.z 9
      have hbml := hM3.out.lt
      have hx6 := hide (show Sl (wr.alloc (.cells #[.int .i64 0] 2)) 1 (.slice (some ⟨wr.heap.size, 0, none⟩) 1 1) 1 [.int .i64 0] from
        ⟨_, 1, rfl, Nat.le_refl _, by simp [maxLen], rfl, fun _ => ⟨wr.heap.size, 0, rfl, by simp, fun j u hu => by
          have := cell_of_row (wr.alloc (.cells #[.int .i64 0] 2)) wr.heap.size (0 + j) _ _ _ (heap_alloc_new wr _)
          rw [this, Nat.zero_add, ← Array.getElem?_toList]
          exact hu⟩⟩)
      go_wp2_with ((at_builtin; refine list_app_any elem_i64s rfl (.tmp 16) (.tmp 17) rfl bb (.slice A k cp) k (i64V (List.replicate k 0)) rfl (own_laterP hown'.out (later_alloc (F := fun _ => False) _ _) (fun _ _ h => h)) (.slice (some ⟨wr.heap.size, 0, none⟩) 1 1) 1 [.int .i64 0] rfl hx6.out (by simp [Value.oneCell']) (by simp only [maxLen]; omega) (by omega) (by simp; omega) ?_))
      intro v7 w7 hv hg hat
      have hv2 : w7.ownsRow bb 2 1 v7 (k + 1) (i64V (List.replicate (k + 1) 0)) := by
        rw [← replicate_pushP]; simpa [i64V] using hv
      have hn5 : ∀ y, (Value.slice A k cp).ownBlock = some y → bb ≤ y := fun y hy => (hown'.out.lt y hy).1
      have hL7 : Later (fun y => bb ≤ y) wr w7 := later_trans _ _ _ _ (later_alloc _ _) (later_grown hg (fun y hy => hn5 y hy))
      have hwbb := hide (show w.heap.size ≤ bb by have := hbz'.out; omega)
      have hb7 := hide (hb3.out.trans (((Below.refl _ _).alloc hb3.out.size _).grown hg (Nat.le_trans hb3.out.size (by simp)) (fun y hy => Nat.le_trans hwbb.out (hn5 y hy))))
      have hM7 := hide (hM3.out.later hL7 (by omega))
      have hZ7 := hide (hZ3.out.later hL7 (by omega))
      have hs7 := hL7.1
      have hv' := hide hv2
      have hvl := hide (show ∀ y, v7.ownBlock = some y → bb ≤ y from fun y hy => (hv2.lt y hy).1)
      obtain ⟨A9, c9, rfl, _⟩ := Sl.own hv2
      clear hv hg hat hn5 hx6 hv2 hL7 x9 t9 hd1 hd2 hd3
      have x9 := hM7.out.c 9 _ rfl
      have t9 := hM7.out.z 9
      go_wp2_with fail
      have hT8 : Touch (fun y => y = bm) w7 (w7.setCell ⟨bm, 9, none⟩ (.slice A9 (k + 1) c9)) := (Touch.refl (fun y => y = bm) w7).setCell (p := ⟨bm, 9, none⟩) rfl _
      have hM8 := hM7.out.set 9 (by simp) (.slice A9 (k + 1) c9)
      have hZ8 := hZ7.out.later hT8.2 (by omega)
      have hv8 := own_laterP hv'.out hT8.2 (fun y hy e => by have := hvl.out y hy; omega)
      have hb8 := hb7.out.trans (hT8.below hb7.out.size (fun y hy e => by have := hbz'.out; omega))
      have hs8 := hT8.size
      go_roundw
      case rel => exact ⟨k + 1, A9, c9, by omega, by go_num, hM8, hZ8, hv8, hb8, by omega⟩
      case measure => simp [intOf]; omega
    · obtain rfl : m = k := by omega
      have x0 := hM3.out.c 0 _ rfl
      have x1 := hM3.out.c 1 _ rfl
      have x2 := hM3.out.c 2 _ rfl
      have x3 := hM3.out.c 3 _ rfl
      have x4 := hM3.out.c 4 _ rfl
      have x5 := hM3.out.c 5 _ rfl
      have x6 := hM3.out.c 6 _ rfl
      have x7 := hM3.out.c 7 _ rfl
      have x8 := hM3.out.c 8 _ rfl
      have x9 := hM3.out.c 9 _ rfl
      have x10 := hM3.out.c 10 _ rfl
      have x11 := hM3.out.c 11 _ rfl
      have z0 := hZ3.out.c 0 _ rfl
      have z1 := hZ3.out.c 1 _ rfl
      have z2 := hZ3.out.c 2 _ rfl
      have z3 := hZ3.out.c 3 _ rfl
      have z4 := hZ3.out.c 4 _ rfl
      have z5 := hZ3.out.c 5 _ rfl
      have z6 := hZ3.out.c 6 _ rfl
      have z7 := hZ3.out.c 7 _ rfl
      have z8 := hZ3.out.c 8 _ rfl
      have z9 := hZ3.out.c 9 _ rfl
      have z10 := hZ3.out.c 10 _ rfl
      have z11 := hZ3.out.c 11 _ rfl
      have t0 := hZ3.out.z 0
      have t1 := hZ3.out.z 1
      have t2 := hZ3.out.z 2
      have t3 := hZ3.out.z 3
      have t4 := hZ3.out.z 4
      have t5 := hZ3.out.z 5
      have t6 := hZ3.out.z 6
      have t7 := hZ3.out.z 7
      have t8 := hZ3.out.z 8
      have t9 := hZ3.out.z 9
      have t10 := hZ3.out.z 10
      have t11 := hZ3.out.z 11
      by_cases hx : (m : Int) < x
      · have hd1 : decide ((m : Int) < x) = true := decide_eq_true hx
        have hd2 : decide ((m : Int) < 64) = false := decide_eq_false (by have := hm'.out; omega)
        have hd3 : decide (m < 64) = false := decide_eq_false (by have := hm'.out; omega)
        go_wp2_with fail
        have hT5 : Touch (fun y => y = bz) wr ((((((((((((wr.setCell ⟨bz, 0, none⟩ (.int .i64 0)).setCell ⟨bz, 1, none⟩ (.int .i64 0)).setCell ⟨bz, 2, none⟩ (.int .i64 0)).setCell ⟨bz, 3, none⟩ (.int .i64 0)).setCell ⟨bz, 4, none⟩ (.int .i64 0)).setCell ⟨bz, 5, none⟩ (.int .i64 0)).setCell ⟨bz, 6, none⟩ (.int .i64 0)).setCell ⟨bz, 7, none⟩ (.int .i64 0)).setCell ⟨bz, 8, none⟩ (.int .i64 0)).setCell ⟨bz, 9, none⟩ (.slice A m cp)).setCell ⟨bz, 10, none⟩ (.int .i64 0)).setCell ⟨bz, 11, none⟩ (.int .i64 0)) := (Touch.setCell (Touch.setCell (Touch.setCell (Touch.setCell (Touch.setCell (Touch.setCell (Touch.setCell (Touch.setCell (Touch.setCell (Touch.setCell (Touch.setCell (Touch.setCell (Touch.refl (fun y => y = bz) wr) (p := ⟨bz, 0, none⟩) rfl (.int .i64 0)) (p := ⟨bz, 1, none⟩) rfl (.int .i64 0)) (p := ⟨bz, 2, none⟩) rfl (.int .i64 0)) (p := ⟨bz, 3, none⟩) rfl (.int .i64 0)) (p := ⟨bz, 4, none⟩) rfl (.int .i64 0)) (p := ⟨bz, 5, none⟩) rfl (.int .i64 0)) (p := ⟨bz, 6, none⟩) rfl (.int .i64 0)) (p := ⟨bz, 7, none⟩) rfl (.int .i64 0)) (p := ⟨bz, 8, none⟩) rfl (.int .i64 0)) (p := ⟨bz, 9, none⟩) rfl (.slice A m cp)) (p := ⟨bz, 10, none⟩) rfl (.int .i64 0)) (p := ⟨bz, 11, none⟩) rfl (.int .i64 0))
        have hZ5 : Row ((((((((((((wr.setCell ⟨bz, 0, none⟩ (.int .i64 0)).setCell ⟨bz, 1, none⟩ (.int .i64 0)).setCell ⟨bz, 2, none⟩ (.int .i64 0)).setCell ⟨bz, 3, none⟩ (.int .i64 0)).setCell ⟨bz, 4, none⟩ (.int .i64 0)).setCell ⟨bz, 5, none⟩ (.int .i64 0)).setCell ⟨bz, 6, none⟩ (.int .i64 0)).setCell ⟨bz, 7, none⟩ (.int .i64 0)).setCell ⟨bz, 8, none⟩ (.int .i64 0)).setCell ⟨bz, 9, none⟩ (.slice A m cp)).setCell ⟨bz, 10, none⟩ (.int .i64 0)).setCell ⟨bz, 11, none⟩ (.int .i64 0)) bz [.int .i64 0, .int .i64 0, .int .i64 0, .int .i64 0, .int .i64 0, .int .i64 0, .int .i64 0, .int .i64 0, .int .i64 0, .slice A m cp, .int .i64 0, .int .i64 0] := (Row.set (Row.set (Row.set (Row.set (Row.set (Row.set (Row.set (Row.set (Row.set (Row.set (Row.set (Row.set hZ3.out 0 (by simp) (.int .i64 0)) 1 (by simp) (.int .i64 0)) 2 (by simp) (.int .i64 0)) 3 (by simp) (.int .i64 0)) 4 (by simp) (.int .i64 0)) 5 (by simp) (.int .i64 0)) 6 (by simp) (.int .i64 0)) 7 (by simp) (.int .i64 0)) 8 (by simp) (.int .i64 0)) 9 (by simp) (.slice A m cp)) 10 (by simp) (.int .i64 0)) 11 (by simp) (.int .i64 0))
        have hb5 := hb3.out.trans (hT5.below hb3.out.size (fun y hy e => by have := hbz'.out; omega))
        have hm5 := Sl.own (own_laterP hown'.out hT5.2 (fun y hy e => by have := (hown'.out.lt y hy).1; omega))
        clear x0 x1 x2 x3 x4 x5 x6 x7 x8 x9 x10 x11 z0 z1 z2 z3 z4 z5 z6 z7 z8 z9 z10 z11 t0 t1 t2 t3 t4 t5 t6 t7 t8 t9 t10 t11 hT5
        generalize ((((((((((((wr.setCell ⟨bz, 0, none⟩ (.int .i64 0)).setCell ⟨bz, 1, none⟩ (.int .i64 0)).setCell ⟨bz, 2, none⟩ (.int .i64 0)).setCell ⟨bz, 3, none⟩ (.int .i64 0)).setCell ⟨bz, 4, none⟩ (.int .i64 0)).setCell ⟨bz, 5, none⟩ (.int .i64 0)).setCell ⟨bz, 6, none⟩ (.int .i64 0)).setCell ⟨bz, 7, none⟩ (.int .i64 0)).setCell ⟨bz, 8, none⟩ (.int .i64 0)).setCell ⟨bz, 9, none⟩ (.slice A m cp)).setCell ⟨bz, 10, none⟩ (.int .i64 0)).setCell ⟨bz, 11, none⟩ (.int .i64 0)) = we at *
        have hZ6 := hide hZ5
        clear hZ5
        have z0 := hZ6.out.c 0 _ rfl
        have z1 := hZ6.out.c 1 _ rfl
        have z2 := hZ6.out.c 2 _ rfl
        have z3 := hZ6.out.c 3 _ rfl
        have z4 := hZ6.out.c 4 _ rfl
        have z5 := hZ6.out.c 5 _ rfl
        have z6 := hZ6.out.c 6 _ rfl
        have z7 := hZ6.out.c 7 _ rfl
        have z8 := hZ6.out.c 8 _ rfl
        have z9 := hZ6.out.c 9 _ rfl
        have z10 := hZ6.out.c 10 _ rfl
        have z11 := hZ6.out.c 11 _ rfl
        refine bodyPost_ret (v := .agg #[.int .i64 0, .int .i64 0, .int .i64 0, .int .i64 0, .int .i64 0, .int .i64 0, .int .i64 0, .int .i64 0, .int .i64 0, .slice A m cp, .int .i64 0, .int .i64 0]) (by simp [results, Try.results9, go_sem, z0, z1, z2, z3, z4, z5, z6, z7, z8, z9, z10, z11]) rfl ⟨_, _, rfl, hm5, hb5⟩
      · have hd1 : decide ((m : Int) < x) = false := decide_eq_false hx
        go_wp2_with fail
        have hT5 : Touch (fun y => y = bz) wr ((((((((((((wr.setCell ⟨bz, 0, none⟩ (.int .i64 0)).setCell ⟨bz, 1, none⟩ (.int .i64 0)).setCell ⟨bz, 2, none⟩ (.int .i64 0)).setCell ⟨bz, 3, none⟩ (.int .i64 0)).setCell ⟨bz, 4, none⟩ (.int .i64 0)).setCell ⟨bz, 5, none⟩ (.int .i64 0)).setCell ⟨bz, 6, none⟩ (.int .i64 0)).setCell ⟨bz, 7, none⟩ (.int .i64 0)).setCell ⟨bz, 8, none⟩ (.int .i64 0)).setCell ⟨bz, 9, none⟩ (.slice A m cp)).setCell ⟨bz, 10, none⟩ (.int .i64 0)).setCell ⟨bz, 11, none⟩ (.int .i64 0)) := (Touch.setCell (Touch.setCell (Touch.setCell (Touch.setCell (Touch.setCell (Touch.setCell (Touch.setCell (Touch.setCell (Touch.setCell (Touch.setCell (Touch.setCell (Touch.setCell (Touch.refl (fun y => y = bz) wr) (p := ⟨bz, 0, none⟩) rfl (.int .i64 0)) (p := ⟨bz, 1, none⟩) rfl (.int .i64 0)) (p := ⟨bz, 2, none⟩) rfl (.int .i64 0)) (p := ⟨bz, 3, none⟩) rfl (.int .i64 0)) (p := ⟨bz, 4, none⟩) rfl (.int .i64 0)) (p := ⟨bz, 5, none⟩) rfl (.int .i64 0)) (p := ⟨bz, 6, none⟩) rfl (.int .i64 0)) (p := ⟨bz, 7, none⟩) rfl (.int .i64 0)) (p := ⟨bz, 8, none⟩) rfl (.int .i64 0)) (p := ⟨bz, 9, none⟩) rfl (.slice A m cp)) (p := ⟨bz, 10, none⟩) rfl (.int .i64 0)) (p := ⟨bz, 11, none⟩) rfl (.int .i64 0))
        have hZ5 : Row ((((((((((((wr.setCell ⟨bz, 0, none⟩ (.int .i64 0)).setCell ⟨bz, 1, none⟩ (.int .i64 0)).setCell ⟨bz, 2, none⟩ (.int .i64 0)).setCell ⟨bz, 3, none⟩ (.int .i64 0)).setCell ⟨bz, 4, none⟩ (.int .i64 0)).setCell ⟨bz, 5, none⟩ (.int .i64 0)).setCell ⟨bz, 6, none⟩ (.int .i64 0)).setCell ⟨bz, 7, none⟩ (.int .i64 0)).setCell ⟨bz, 8, none⟩ (.int .i64 0)).setCell ⟨bz, 9, none⟩ (.slice A m cp)).setCell ⟨bz, 10, none⟩ (.int .i64 0)).setCell ⟨bz, 11, none⟩ (.int .i64 0)) bz [.int .i64 0, .int .i64 0, .int .i64 0, .int .i64 0, .int .i64 0, .int .i64 0, .int .i64 0, .int .i64 0, .int .i64 0, .slice A m cp, .int .i64 0, .int .i64 0] := (Row.set (Row.set (Row.set (Row.set (Row.set (Row.set (Row.set (Row.set (Row.set (Row.set (Row.set (Row.set hZ3.out 0 (by simp) (.int .i64 0)) 1 (by simp) (.int .i64 0)) 2 (by simp) (.int .i64 0)) 3 (by simp) (.int .i64 0)) 4 (by simp) (.int .i64 0)) 5 (by simp) (.int .i64 0)) 6 (by simp) (.int .i64 0)) 7 (by simp) (.int .i64 0)) 8 (by simp) (.int .i64 0)) 9 (by simp) (.slice A m cp)) 10 (by simp) (.int .i64 0)) 11 (by simp) (.int .i64 0))
        have hb5 := hb3.out.trans (hT5.below hb3.out.size (fun y hy e => by have := hbz'.out; omega))
        have hm5 := Sl.own (own_laterP hown'.out hT5.2 (fun y hy e => by have := (hown'.out.lt y hy).1; omega))
        clear x0 x1 x2 x3 x4 x5 x6 x7 x8 x9 x10 x11 z0 z1 z2 z3 z4 z5 z6 z7 z8 z9 z10 z11 t0 t1 t2 t3 t4 t5 t6 t7 t8 t9 t10 t11 hT5
        generalize ((((((((((((wr.setCell ⟨bz, 0, none⟩ (.int .i64 0)).setCell ⟨bz, 1, none⟩ (.int .i64 0)).setCell ⟨bz, 2, none⟩ (.int .i64 0)).setCell ⟨bz, 3, none⟩ (.int .i64 0)).setCell ⟨bz, 4, none⟩ (.int .i64 0)).setCell ⟨bz, 5, none⟩ (.int .i64 0)).setCell ⟨bz, 6, none⟩ (.int .i64 0)).setCell ⟨bz, 7, none⟩ (.int .i64 0)).setCell ⟨bz, 8, none⟩ (.int .i64 0)).setCell ⟨bz, 9, none⟩ (.slice A m cp)).setCell ⟨bz, 10, none⟩ (.int .i64 0)).setCell ⟨bz, 11, none⟩ (.int .i64 0)) = we at *
        have hZ6 := hide hZ5
        clear hZ5
        have z0 := hZ6.out.c 0 _ rfl
        have z1 := hZ6.out.c 1 _ rfl
        have z2 := hZ6.out.c 2 _ rfl
        have z3 := hZ6.out.c 3 _ rfl
        have z4 := hZ6.out.c 4 _ rfl
        have z5 := hZ6.out.c 5 _ rfl
        have z6 := hZ6.out.c 6 _ rfl
        have z7 := hZ6.out.c 7 _ rfl
        have z8 := hZ6.out.c 8 _ rfl
        have z9 := hZ6.out.c 9 _ rfl
        have z10 := hZ6.out.c 10 _ rfl
        have z11 := hZ6.out.c 11 _ rfl
        refine bodyPost_ret (v := .agg #[.int .i64 0, .int .i64 0, .int .i64 0, .int .i64 0, .int .i64 0, .int .i64 0, .int .i64 0, .int .i64 0, .int .i64 0, .slice A m cp, .int .i64 0, .int .i64 0]) (by simp [results, Try.results9, go_sem, z0, z1, z2, z3, z4, z5, z6, z7, z8, z9, z10, z11]) rfl ⟨_, _, rfl, hm5, hb5⟩
end Go.Proofs.Ytmgcbiejnifhpaa
