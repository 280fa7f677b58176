/- The document's disk: Load walked. -/
import Derived.Test.YtamkngpkplflcaaRefDisk6
namespace Go.Proofs.Ytamkngpkplflcaa
open Go.RowKit


/-- an image cut into sectors -/
def chunks (img : List UInt8) (k : Nat) : List (List UInt8) := (List.range k).map fun i => (img.drop (64 * i)).take 64
theorem chunks_succ (img : List UInt8) (k : Nat) : chunks img (k + 1) = chunks img k ++ [(img.drop (64 * k)).take 64] := by unfold chunks; rw [List.range_succ, List.map_append]; rfl
theorem chunks_length (img : List UInt8) (k : Nat) : (chunks img k).length = k := by simp [chunks]
theorem strsV_push (l : List (List UInt8)) (b : List UInt8) : strsV (l ++ [b]) = strsV l ++ [.string ⟨b.toArray⟩] := by simp [strsV]
theorem ext_chunk (b : List UInt8) (i j : Nat) : ByteArray.extract ⟨b.toArray⟩ i (i + j) = ⟨((b.drop i).take j).toArray⟩ := by
  apply ByteArray.ext
  rw [ByteArray.data_extract]
  simp
def Rk.load (r : Rk) (img : List UInt8) : Rk × Int := if img.length ≠ 64 * r.has.length then (r, 1) else ({ r with has := chunks img r.has.length, waits := [] }, 0)
set_option maxRecDepth 100000 in
set_option maxHeartbeats 1000000 in
theorem rload_bad (B : Nat → Prop) (v : Value) (r : Rk) (b : List UInt8) (w : World) (h : RkAt w B v r) (hz : b.length ≠ 64 * r.has.length) (ok : r.Ok) :
    Calls Try.prog 57 #[v, .string ⟨b.toArray⟩] w fun e w' => ∃ u, e = .returned (.tuple #[u, .int .i64 1]) ∧ RkAt w' (fun y => B y ∨ w.heap.size ≤ y) u r ∧ Below w.heap.size w w' := by
  have ht := h.tight
  obtain ⟨A1, c1, A2, c2, A3, c3, rfl, h1, _⟩ := h
  have hcap : r.has.length ≤ c1 := by
    obtain ⟨A, c, e, hc, _⟩ := h1
    cases e
    exact hc
  have hn := ok.n
  generalize ho : r.off = o at ht ⊢
  have hR := hide ht
  clear h1 ht ho ok
  have hd3 : ((b.length : Int) == 64 * (r.has.length : Int)) = false := by simp; omega
  have hd4 : decide ((b.length : Int) = 64 * (r.has.length : Int)) = false := decide_eq_false (by omega)
  go_enter Try.func57, Try.ntmps57
  go_upto_region 1 with (fail)
  have hX1 := RBox.new w 71 (.slice A1 r.has.length c1) (.slice A2 r.waits.length c2) (.bool o) (.int .i64 r.left) (.slice A3 r.surv.length c3)
  have hbA : Below w.heap.size w (w.alloc (.cells #[.slice A1 r.has.length c1, .slice A2 r.waits.length c2, .bool o, .int .i64 r.left, .slice A3 r.surv.length c3] 71)) := (Below.refl _ _).alloc (Nat.le_refl _) _
  have hsA : (w.alloc (.cells #[.slice A1 r.has.length c1, .slice A2 r.waits.length c2, .bool o, .int .i64 r.left, .slice A3 r.surv.length c3] 71)).heap.size = w.heap.size + 1 := by simp
  generalize w.alloc (.cells #[.slice A1 r.has.length c1, .slice A2 r.waits.length c2, .bool o, .int .i64 r.left, .slice A3 r.surv.length c3] 71) = wa at *
  have hZ1 := RBox.new wa 71 (.slice none 0 0) (.slice none 0 0) (.bool false) (.int .i64 0) (.slice none 0 0)
  have hbB : Below wa.heap.size wa (wa.alloc (.cells #[.slice none 0 0, .slice none 0 0, .bool false, .int .i64 0, .slice none 0 0] 71)) := (Below.refl _ _).alloc (Nat.le_refl _) _
  have hX2 := hX1.below hbB
  have hb2 := hbA.trans (hbB.mono hbA.size)
  rw [hsA] at hZ1
  generalize wa.alloc (.cells #[.slice none 0 0, .slice none 0 0, .bool false, .int .i64 0, .slice none 0 0] 71) = wb at *
  have hX' := hide hX2
  have hZ' := hide hZ1
  have hb' := hide hb2
  clear hX1 hbA hsA hZ1 hbB hX2 hb2
  obtain ⟨bx, hbx⟩ : ∃ bx, bx = w.heap.size := ⟨_, rfl⟩
  rw [← hbx] at hX' hZ' ⊢
  have hbx' := hide hbx
  clear hbx
  have hX4 := hX'
  have hZ4 := hZ'
  have hb4 := hb'
  have hbz := hide hZ'.out.lt
  have hu4 := hide ((hR.out.below hb'.out).mono (C := fun y => (B y ∧ y < w.heap.size) ∨ wb.heap.size ≤ y) (fun y hy => .inl hy))
  clear hX' hZ' hR
  obtain ⟨w4, rfl⟩ : ∃ w4 : World, w4 = wb := ⟨_, rfl⟩
  have y0 := hX4.out.c0
  have y1 := hX4.out.c1
  have y2 := hX4.out.c2
  have y3 := hX4.out.c3
  have y4 := hX4.out.c4
  have z0 := hZ4.out.c0
  have z1 := hZ4.out.c1
  have z2 := hZ4.out.c2
  have z3 := hZ4.out.c3
  have z4 := hZ4.out.c4
  have tz0 := hZ4.out.z 0
  have tz1 := hZ4.out.z 1
  have tz2 := hZ4.out.z 2
  have tz3 := hZ4.out.z 3
  have tz4 := hZ4.out.z 4
  go_wp2_with fail
  have hT5 := touch_set5 (fun y => y = bx + 1) w4 (bx + 1) (.slice A1 r.has.length c1) (.slice A2 r.waits.length c2) (.bool o) (.int .i64 r.left) (.slice A3 r.surv.length c3) rfl
  have hZ5 := hZ4.out.set5 (.slice A1 r.has.length c1) (.slice A2 r.waits.length c2) (.bool o) (.int .i64 r.left) (.slice A3 r.surv.length c3)
  have hu5 := hu4.out.later hT5.2 (fun y hy e => by have := hbx'.out; have := hbz.out; rcases hy with hy | hy; have := hy.2; omega; omega)
  have hb5 := hb4.out.trans (hT5.below hb4.out.size (fun y hy e => by have := hbx'.out; omega))
  refine bodyPost_ret (v := .tuple #[.agg #[.slice A1 r.has.length c1, .slice A2 r.waits.length c2, .bool o, .int .i64 r.left, .slice A3 r.surv.length c3], .int .i64 1]) (by simp [results, Try.results57, go_sem, z0, z1, z2, z3, z4]) rfl ⟨_, rfl, ?_, hb5⟩
  refine hu5.mono (fun y hy => ?_)
  have := hb'.out.size
  rcases hy with hy | hy
  · exact .inl hy.1
  · exact .inr (by omega)
set_option maxRecDepth 100000 in
set_option maxHeartbeats 1000000 in
theorem rload_ok (B : Nat → Prop) (v : Value) (r : Rk) (b : List UInt8) (w : World) (h : RkAt w B v r) (hz : b.length = 64 * r.has.length) (ok : r.Ok) :
    Calls Try.prog 57 #[v, .string ⟨b.toArray⟩] w fun e w' => ∃ u, e = .returned (.tuple #[u, .int .i64 0]) ∧ RkAt w' (fun y => B y ∨ w.heap.size ≤ y) u { r with has := chunks b r.has.length, waits := [] } ∧ Below w.heap.size w w' := by
  have ht := h.tight
  obtain ⟨A1, c1, A2, c2, A3, c3, rfl, h1, _⟩ := h
  have hcap : r.has.length ≤ c1 := by
    obtain ⟨A, c, e, hc, _⟩ := h1
    cases e
    exact hc
  have hn := ok.n
  obtain ⟨p, hp⟩ : ∃ p : Rk, p = { r with has := chunks b r.has.length, waits := [] } := ⟨_, rfl⟩
  rw [← hp]
  have hp' := hide hp
  clear hp
  generalize ho : r.off = o at ht ⊢
  have hR := hide ht
  have ho2 := hide ho
  clear h1 ht ho ok
  have hd3 : ((b.length : Int) == 64 * (r.has.length : Int)) = true := by simp; omega
  have hd4 : decide ((b.length : Int) = 64 * (r.has.length : Int)) = true := decide_eq_true (by omega)
  have hzI : (b.length : Int) = 64 * (r.has.length : Int) := by omega
  go_enter Try.func57, Try.ntmps57
  go_upto_region 1 with (fail)
  have hX1 := RBox.new w 71 (.slice A1 r.has.length c1) (.slice A2 r.waits.length c2) (.bool o) (.int .i64 r.left) (.slice A3 r.surv.length c3)
  have hbA : Below w.heap.size w (w.alloc (.cells #[.slice A1 r.has.length c1, .slice A2 r.waits.length c2, .bool o, .int .i64 r.left, .slice A3 r.surv.length c3] 71)) := (Below.refl _ _).alloc (Nat.le_refl _) _
  have hsA : (w.alloc (.cells #[.slice A1 r.has.length c1, .slice A2 r.waits.length c2, .bool o, .int .i64 r.left, .slice A3 r.surv.length c3] 71)).heap.size = w.heap.size + 1 := by simp
  generalize w.alloc (.cells #[.slice A1 r.has.length c1, .slice A2 r.waits.length c2, .bool o, .int .i64 r.left, .slice A3 r.surv.length c3] 71) = wa at *
  have hZ1 := RBox.new wa 71 (.slice none 0 0) (.slice none 0 0) (.bool false) (.int .i64 0) (.slice none 0 0)
  have hbB : Below wa.heap.size wa (wa.alloc (.cells #[.slice none 0 0, .slice none 0 0, .bool false, .int .i64 0, .slice none 0 0] 71)) := (Below.refl _ _).alloc (Nat.le_refl _) _
  have hX2 := hX1.below hbB
  have hb2 := hbA.trans (hbB.mono hbA.size)
  rw [hsA] at hZ1
  generalize wa.alloc (.cells #[.slice none 0 0, .slice none 0 0, .bool false, .int .i64 0, .slice none 0 0] 71) = wb at *
  have hX' := hide hX2
  have hZ' := hide hZ1
  have hb' := hide hb2
  clear hX1 hbA hsA hZ1 hbB hX2 hb2
  obtain ⟨bx, hbx⟩ : ∃ bx, bx = w.heap.size := ⟨_, rfl⟩
  rw [← hbx] at hX' hZ' ⊢
  have hbx' := hide hbx
  clear hbx
  have hbz := hide hZ'.out.lt
  have y0 := hX'.out.c0
  go_upto_region 3 with (fail)
  clear hd3 hd4
  go_wp2_with fail
  have hbC : Below wb.heap.size wb (wb.alloc (.cells #[] 9)) := (Below.refl _ _).alloc (Nat.le_refl _) _
  have hoC : (wb.alloc (.cells #[] 9)).ownsRow wb.heap.size 9 1 (.slice (some ⟨wb.heap.size, 0, none⟩) 0 0) 0 (strsV (chunks b 0)) := World.ownsRow_made _ #[] 0 (Nat.le_refl _) (by simp [maxLen]) rfl
  generalize wb.alloc (.cells #[] 9) = wc at *
  have hbC' := hide hbC
  have hoC' := hide hoC
  clear hbC hoC y0
  go_loopw [6, 7] (fun o i wr => ∃ k A c, k ≤ r.has.length ∧ o = .slice A k c ∧ i = .int .i64 (k : Nat) ∧ wr.ownsRow wb.heap.size 9 1 (.slice A k c) k (strsV (chunks b k)) ∧ Below wb.heap.size wb wr) (fun _ i _ => r.has.length - (intOf i).toNat)
  case atStart => exact ⟨0, _, _, by omega, rfl, rfl, hoC'.out, hbC'.out⟩
  case round =>
    obtain ⟨k, A, c, hk, rfl, rfl, hown, hb⟩ := hrel
    have hX3 := hX'.out.below hb
    have y0 := hX3.c0
    have hown' := hide hown
    have hb3 := hide hb
    have hX3' := hide hX3
    clear hown hb hX3
    by_cases hlt : k < r.has.length
    · have hltI : (k : Int) < (r.has.length : Int) := by omega
      have hbs3 := hb3.out.size
      have hx6 := hide (show Sl (wr.alloc (.cells #[.string (ByteArray.extract ⟨b.toArray⟩ (64 * k) (64 * k + 64))] 9)) 1 (.slice (some ⟨wr.heap.size, 0, none⟩) 1 1) 1 [.string (ByteArray.extract ⟨b.toArray⟩ (64 * k) (64 * k + 64))] from
        ⟨_, 1, rfl, Nat.le_refl _, by simp [maxLen], rfl, fun _ => ⟨wr.heap.size, 0, rfl, by simp, fun j u hu => by
          have := cell_of_row (wr.alloc (.cells #[.string (ByteArray.extract ⟨b.toArray⟩ (64 * k) (64 * k + 64))] 9)) wr.heap.size (0 + j) _ _ _ (heap_alloc_new wr _)
          rw [this, Nat.zero_add, ← Array.getElem?_toList]
          exact hu⟩⟩)
      go_wp2_with ((at_builtin; refine list_app_any elem_strs rfl (.tmp 24) (.tmp 32) rfl wb.heap.size (.slice A k c) k (strsV (chunks b k)) rfl (own_later hown'.out (later_alloc (F := fun _ => False) _ _) (fun _ _ h => h)) (.slice (some ⟨wr.heap.size, 0, none⟩) 1 1) 1 [.string (ByteArray.extract ⟨b.toArray⟩ (64 * k) (64 * k + 64))] rfl hx6.out (by simp [Value.oneCell']) (by simp only [maxLen]; omega) (by omega) (by simp; omega) ?_))
      intro v7 w7 hv hg hat
      rw [ext_chunk, ← strsV_push, ← chunks_succ] at hv
      have hn5 : ∀ x, (Value.slice A k c).ownBlock = some x → wb.heap.size ≤ x := fun x hx => (hown'.out.lt x hx).1
      have hb37 : Below wb.heap.size wb w7 := hb3.out.trans (((Below.refl _ _).alloc hbs3 _).grown hg (Nat.le_trans hbs3 (by simp)) hn5)
      have hv' := hide hv
      have hb7' := hide hb37
      obtain ⟨A9, c9, rfl, _⟩ := Sl.own hv
      clear hv hg hat hn5 hb37 hx6
      go_wp2_with fail
      go_roundw
      case rel => exact ⟨k + 1, A9, c9, by omega, rfl, by go_num, hv'.out, hb7'.out⟩
      case measure => simp [intOf]; omega
    · obtain rfl : r.has.length = k := by omega
      have hsl := hide (Sl.own hown'.out)
      have hvl := hide (show ∀ x, (Value.slice A r.has.length c).ownBlock = some x → wb.heap.size ≤ x from fun x hx => (World.ownsRow.lt hown'.out x hx).1)
      have y1 := hX3'.out.c1
      have t0 := hX3'.out.z 0
      have t1 := hX3'.out.z 1
      go_upto_region 9 with (fail)
      have hT4 : Touch (fun y => y = bx) wr ((wr.setCell ⟨bx, 0, none⟩ (.slice A r.has.length c)).setCell ⟨bx, 1, none⟩ (.slice none 0 0)) := ((Touch.refl (fun y => y = bx) wr).setCell (p := ⟨bx, 0, none⟩) rfl _).setCell (p := ⟨bx, 1, none⟩) rfl _
      have hX4 := hide ((hX3'.out.set0 (.slice A r.has.length c)).set1 (.slice none 0 0))
      have hZ4 := hide ((hZ'.out.below hb3.out).later hT4.2 (by omega))
      have hbw := hb'.out.size
      have hb4 := hide ((hb'.out.trans (hb3.out.mono hbw)).trans (hT4.below (Nat.le_trans hbw hb3.out.size) (fun y hy e => by have := hbx'.out; omega)))
      have hp := hp'.out
      have hu4 := hide (show RkAt ((wr.setCell ⟨bx, 0, none⟩ (.slice A r.has.length c)).setCell ⟨bx, 1, none⟩ (.slice none 0 0)) (fun y => (B y ∧ y < w.heap.size) ∨ wb.heap.size ≤ y) (.agg #[.slice A r.has.length c, .slice none 0 0, .bool o, .int .i64 r.left, .slice A3 r.surv.length c3]) p by
        obtain ⟨a1, b1, a2, b2, a3, b3, e, _, _, k3, _, _, k6⟩ := (hR.out.below hb'.out).below hb3.out
        simp only [Value.agg.injEq, Array.mk.injEq, List.cons.injEq, and_true] at e
        obtain ⟨_, _, _, _, e5⟩ := e
        have hne : ∀ y, (B y ∧ y < w.heap.size) → ¬ y = bx := fun y hy e => by
          have := hbx'.out
          have := hy.2
          omega
        have g1 : p.has.length = r.has.length := by rw [hp]; exact chunks_length _ _
        have g3 : p.surv = r.surv := by rw [hp]
        have g2 : p.waits = [] := by rw [hp]
        refine ⟨A, c, none, 0, a3, b3, by rw [g1, e5, hp, ho2.out]; rfl, ?_, ?_, ?_, ?_, ?_, ?_⟩
        · unfold Strs
          rw [g1, hp]
          exact Sl.kept0 hsl.out hT4.2.1 (fun hp b hb hlt => hT4.2.2 b hlt (fun e => by have := hvl.out b hb; have := hbz.out; omega))
        · rw [g2]; exact Sl.nil _ _
        · rw [g3]; exact Sl.kept0 k3 hT4.2.1 (fun hp b hb hlt => hT4.2.2 b hlt (hne b (k6 hp b hb)))
        · rw [g1]; intro _ y hy; exact .inr (hvl.out y hy)
        · rw [g2]; intro h; exact absurd h (Nat.lt_irrefl _)
        · rw [g3]; intro hp y hy; exact .inl (k6 hp y hy))
      clear hp y0 y1 t0 t1 hT4 hX3' hsl hvl hown'
      generalize (wr.setCell ⟨bx, 0, none⟩ (.slice A r.has.length c)).setCell ⟨bx, 1, none⟩ (.slice none 0 0) = w4 at *
      have y0 := hX4.out.c0
      have y1 := hX4.out.c1
      have y2 := hX4.out.c2
      have y3 := hX4.out.c3
      have y4 := hX4.out.c4
      have z0 := hZ4.out.c0
      have z1 := hZ4.out.c1
      have z2 := hZ4.out.c2
      have z3 := hZ4.out.c3
      have z4 := hZ4.out.c4
      have tz0 := hZ4.out.z 0
      have tz1 := hZ4.out.z 1
      have tz2 := hZ4.out.z 2
      have tz3 := hZ4.out.z 3
      have tz4 := hZ4.out.z 4
      go_wp2_with fail
      have hT5 := touch_set5 (fun y => y = bx + 1) w4 (bx + 1) (.slice A r.has.length c) (.slice none 0 0) (.bool o) (.int .i64 r.left) (.slice A3 r.surv.length c3) rfl
      have hZ5 := hZ4.out.set5 (.slice A r.has.length c) (.slice none 0 0) (.bool o) (.int .i64 r.left) (.slice A3 r.surv.length c3)
      have hu5 := hu4.out.later hT5.2 (fun y hy e => by have := hbx'.out; have := hbz.out; rcases hy with hy | hy; have := hy.2; omega; omega)
      have hb5 := hb4.out.trans (hT5.below hb4.out.size (fun y hy e => by have := hbx'.out; omega))
      refine bodyPost_ret (v := .tuple #[.agg #[.slice A r.has.length c, .slice none 0 0, .bool o, .int .i64 r.left, .slice A3 r.surv.length c3], .int .i64 0]) (by simp [results, Try.results57, go_sem, z0, z1, z2, z3, z4]) rfl ⟨_, rfl, ?_, hb5⟩
      refine hu5.mono (fun y hy => ?_)
      have := hb'.out.size
      rcases hy with hy | hy
      · exact .inl hy.1
      · exact .inr (by omega)
theorem rload_any (B : Nat → Prop) (v : Value) (r : Rk) (b : List UInt8) (w : World) (h : RkAt w B v r) (ok : r.Ok) :
    Calls Try.prog 57 #[v, .string ⟨b.toArray⟩] w fun e w' => ∃ u, e = .returned (.tuple #[u, .int .i64 (r.load b).2]) ∧ RkAt w' (fun y => B y ∨ w.heap.size ≤ y) u (r.load b).1 ∧ Below w.heap.size w w' := by
  unfold Rk.load
  by_cases hz : b.length = 64 * r.has.length
  · rw [if_neg (by simpa using hz)]
    exact rload_ok B v r b w h hz ok
  · rw [if_pos hz]
    exact rload_bad B v r b w h hz ok
end Go.Proofs.Ytamkngpkplflcaa
