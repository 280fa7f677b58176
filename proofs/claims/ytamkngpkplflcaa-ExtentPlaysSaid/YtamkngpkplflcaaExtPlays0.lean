/- The law ExtentPlays: where there is no part. -/
import Derived.Test.YtamkngpkplflcaaExtPair
namespace Go.Proofs.Ytamkngpkplflcaa
open Go.RowKit
theorem Pair.newX {base : Nat} {X : Nat → Prop} {w w' : World} {g : Nat} {d : Dk} {u : Value} {r : Rk} (p : Pair base X 0 0 w g d u r) (hb : Below w.heap.size w w') (bx : Nat) (hx : w.heap.size ≤ bx) (hs : bx < w'.heap.size) (hbase : base ≤ bx) : Pair base (fun y => X y ∨ y = bx) 0 0 w' g d u r := by
  obtain ⟨B, C, h1, h2, h3, h4, h5⟩ := p
  refine ⟨B, C, h1.below hb, h2.below hb, fun y hy => ⟨(h3 y hy).1, by have := (h3 y hy).2.1; omega, (h3 y hy).2.2⟩, fun y hy => ⟨by have := (h4 y hy).1; omega, (h4 y hy).2⟩, fun y hy => ?_⟩
  rcases hy with hy | hy
  · exact ⟨(h5 y hy).1, by have := (h5 y hy).2.1; omega, (h5 y hy).2.2⟩
  · subst hy
    exact ⟨hbase, hs, fun e => by have := (h3 _ e).2.1; omega, fun e => by have := (h4 _ e).1; omega⟩
theorem Pair.setXX {base : Nat} {X : Nat → Prop} {lo hi : Nat} {w w' : World} {g : Nat} {d : Dk} {u : Value} {r : Rk} (p : Pair base X lo hi w g d u r) (ht : Touch X w w') : Pair base X lo hi w' g d u r := by
  obtain ⟨B, C, h1, h2, h3, h4, h5⟩ := p
  have := ht.size
  exact ⟨B, C, h1.later ht.2 (fun y hy e => (h5 y e).2.2.1 hy), h2.later ht.2 (fun y hy e => (h5 y e).2.2.2 hy), fun y hy => ⟨(h3 y hy).1, by have := (h3 y hy).2.1; omega, (h3 y hy).2.2⟩, fun y hy => ⟨by have := (h4 y hy).1; omega, (h4 y hy).2⟩, fun y hy => ⟨(h5 y hy).1, by have := (h5 y hy).2.1; omega, (h5 y hy).2.2⟩⟩
/-- x[lo:hi], by an equation of one's own -/
theorem run_slice_lh' {P : Program} {w' : World} {ev : Operand → Value} {o : Oper} {t : TypeId} {u : Value} (x lo hi : Operand) (ho : o.op = .slice t x (some lo) (some hi) none)
    (hrun : (Instr.sliceAt t (ev x) (some (ev lo)) (some (ev hi)) none).run P w' = .ok u w') : (execOp ev o).run P w' = .ok (.value u) w' := by
  simp only [execOp, ho, Option.map_some, Option.map_none, Sem.run_bind, hrun, Result.andThen_ok, Sem.run_pure]
theorem run_strcut (l : List UInt8) (lo k : Nat) (h : lo + k ≤ l.length) (i j : Int) (hi : i = (lo : Int)) (hj : j = ((lo + k : Nat) : Int)) (w' : World) : (Instr.sliceAt 9 (.string ⟨l.toArray⟩) (some (.int .i64 i)) (some (.int .i64 j)) none).run Try.prog w' = .ok (.string ⟨((l.drop lo).take k).toArray⟩) w' := by
  subst hi hj
  have ht : Try.prog.underlying 9 = some .string := by kernel_rfl
  rw [run_sliceAt_string (P := Try.prog) (h := ht), run_slice_string_if w' 9 _ .i64 .i64 _ _ ht]
  have hsz : ((ByteArray.mk l.toArray).size : Int) = (l.length : Int) := by simp [ByteArray.size]
  rw [hsz, if_pos (by omega), if_pos (by omega), Int.toNat_natCast, Int.toNat_natCast, ext_chunk]
set_option maxRecDepth 100000 in
set_option maxHeartbeats 8000000 in
/-- no part there -/
theorem plays_bad (f c : Int) (hf : I64 f) (hc : I64 c) (hl : liesV f c 9 = false) (av : Value) (w : World) :
    Calls Try.prog 9 #[.agg #[.int .i64 f, .int .i64 c], av] w fun e w' => e = .returned (.bool true) ∧ Below w.heap.size w w' := by
  have hf' := hide hf
  have hc' := hide hc
  have hl' := hide hl
  clear hf hc hl
  go_enter Try.func9, Try.ntmps9
  go_wp2_with fail
  have hE0 := hide (EBox.new w 25 f c)
  have hb0 := hide (show Below w.heap.size w (w.alloc (.cells #[.int .i64 f, .int .i64 c] 25)) from (Below.refl _ _).alloc (Nat.le_refl _) _)
  have hsz : (w.alloc (.cells #[.int .i64 f, .int .i64 c] 25)).heap.size = w.heap.size + 1 := by simp
  generalize w.alloc (.cells #[.int .i64 f, .int .i64 c] 25) = w0 at *
  obtain ⟨bx, hbx⟩ : ∃ bx, bx = w.heap.size := ⟨_, rfl⟩
  rw [← hbx] at hE0 ⊢
  have hs0 : w.heap.size ≤ w0.heap.size := by omega
  have hbx' := hide hbx
  have hsz' := hide hsz
  clear hbx hsz
  refine (dnew_dsk 9 (by omega) (by omega) w0).mono ?_
  rintro e w1 ⟨g, rfl, hgd, hD, hb⟩
  have hD1 := hide hD
  have hE1 := hide (hE0.out.below hb)
  have hb1 := hide (hb0.out.trans (hb.mono hs0))
  have s1 := hb.size
  clear hD hb hE0 hb0
  go_wp2_with fail
  refine (rnew_any 9 w1 (by omega) (by omega)).mono ?_
  rintro e w2 ⟨u, rfl, hR, hb⟩
  have hP2 : Pair w.heap.size (fun y => y = bx) 0 0 w2 g (newDk 9) u (newRk 9) := ⟨_, _, hD1.out.below hb, hR.tight, fun y hy => ⟨by omega, by have := hb.size; omega, by omega⟩, fun y hy => ⟨hy.2, fun e => by have := hy.1; have := e.2; omega, by omega⟩, fun y hy => by
    have := hbx'.out
    have := hsz'.out
    have := hb.size
    have := s1
    subst hy
    exact ⟨by omega, by omega, fun e => by have := e.1; omega, fun e => by have := e.1; omega⟩⟩
  obtain ⟨A5, c5, A6, n6, c6, o6, lf6, A7, n7, c7, rfl, _, _⟩ := hP2.shape 9 (by simp [newRk])
  have hE2 := hide (hE1.out.below hb)
  have hb2 := hide (hb1.out.trans (hb.mono (by omega)))
  have hP2' := hide hP2
  have s2 := hb.size
  clear hR hb hD1 hb1 hP2 hE1
  go_upto_region 3 with (fail)
  have hX3 := RBox.new w2 71 (.slice A5 9 c5) (.slice A6 n6 c6) (.bool o6) (.int .i64 lf6) (.slice A7 n7 c7)
  have hb3 : Below w2.heap.size w2 (w2.alloc (.cells #[.slice A5 9 c5, .slice A6 n6 c6, .bool o6, .int .i64 lf6, .slice A7 n7 c7] 71)) := (Below.refl _ _).alloc (Nat.le_refl _) _
  have hs3 : (w2.alloc (.cells #[.slice A5 9 c5, .slice A6 n6 c6, .bool o6, .int .i64 lf6, .slice A7 n7 c7] 71)).heap.size = w2.heap.size + 1 := by simp
  generalize w2.alloc (.cells #[.slice A5 9 c5, .slice A6 n6 c6, .bool o6, .int .i64 lf6, .slice A7 n7 c7] 71) = w3 at *
  obtain ⟨bm, hbm⟩ : ∃ bm, bm = w2.heap.size := ⟨_, rfl⟩
  rw [← hbm] at hX3 hs3 ⊢
  have hX3' := hide hX3
  have hbm' := hide hbm
  have hE3 := hide (hE2.out.below hb3)
  have hP3 := hide (hP2'.out.newX hb3 bm (by omega) (by omega) (by omega))
  have hb3' := hide (hb2.out.trans (hb3.mono (by omega)))
  have x0 := hE3.out.c0
  have x1 := hE3.out.c1
  clear hb3 hX3 hE2 hP2' hb2 hbm
  go_wp2_with fail
  have hd0 := hP3.out
  obtain ⟨B, C, hD, _⟩ := hd0
  refine (enew_any g B (newDk 9) f c hf'.out hc'.out w3 hD).mono ?_
  rintro e w4 ⟨hb, hp⟩
  rw [show (((newDk 9).n : Nat) : Int) = 9 from rfl, if_neg (by rw [hl'.out]; simp)] at hp
  subst hp
  have hE4 := hide (hE3.out.below hb)
  have hb4 := hide (hb3'.out.trans (hb.mono hb3'.out.size))
  have x0 := hE4.out.c0
  have x1 := hE4.out.c1
  clear hb
  go_wp2_with fail
  refine (refLies_any f c 9 _ hf'.out hc'.out (by unfold I64; omega)).mono ?_
  rintro e w5 ⟨rfl, rfl⟩
  rw [hl'.out]
  go_wp2_with fail
  refine (awake06 _).mono ?_
  rintro e w6 ⟨rfl, hb⟩
  have hb6 := hide (hb4.out.trans (hb.mono (by have := hb4.out.size; omega)))
  clear hb
  go_wp2_with fail
  go_ret
  exact ⟨rfl, hb6.out⟩
end Go.Proofs.Ytamkngpkplflcaa
