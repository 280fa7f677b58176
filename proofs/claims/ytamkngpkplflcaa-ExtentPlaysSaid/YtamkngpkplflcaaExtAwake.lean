/- The chapter's examples of extents (nacellelaw06.awake): they come out true. -/
import Derived.Test.YtamkngpkplflcaaExtRef
namespace Go.Proofs.Ytamkngpkplflcaa
open Go.RowKit

theorem apart_two (a b c d : Int) (w : World) (g : Nat) (hg : g < w.heap.size) (h0 : w.cell? ⟨g, 0, none⟩ = some (.int .i64 a)) (h1 : w.cell? ⟨g, 1, none⟩ = some (.int .i64 b))
    (h2 : w.cell? ⟨g, 2, none⟩ = some (.int .i64 c)) (h3 : w.cell? ⟨g, 3, none⟩ = some (.int .i64 d)) (wa : I64 a) (wb : I64 b) (wc : I64 c) (wd : I64 d) (r : Bool) (hr : meetV c d a b = !r) :
    Calls Try.prog 11 #[.slice (some ⟨g, 0, none⟩) 2 2] w fun e w' => e = .returned (.bool r) ∧ Below w.heap.size w w' := by
  have h := apart_some g 0 2 2 (fun i => if i = 0 then a else c) (fun i => if i = 0 then b else d) w ⟨fun _ => hg, fun i hi => ?_, fun i hi => ?_, fun i hi => ?_⟩ (by omega) (by omega)
  · refine h.mono fun e w' ⟨he, hb⟩ => ⟨?_, hb⟩
    rw [he]
    cases r with
    | true =>
      refine (ret_true (fun i hi j hj => ?_)).symm
      obtain ⟨rfl, rfl⟩ : i = 1 ∧ j = 0 := by omega
      exact hr
    | false =>
      refine (ret_false (fun hh => ?_)).symm
      have := hh 1 (by omega) 0 (by omega)
      have e2 : meetV c d a b = false := this
      rw [hr] at e2
      cases e2
  · obtain rfl | rfl : i = 0 ∨ i = 1 := by omega
    · exact h0
    · exact h2
  · obtain rfl | rfl : i = 0 ∨ i = 1 := by omega
    · exact h1
    · exact h3
  · obtain rfl | rfl : i = 0 ∨ i = 1 := by omega
    · exact ⟨wa, wb⟩
    · exact ⟨wc, wd⟩

theorem awake06 (w : World) : Calls Try.prog 13 #[] w fun e w' => e = .returned (.bool true) ∧ Below w.heap.size w w' := by
  have p1 : ∀ W : World, Calls Try.prog 14 #[.agg #[.int .i64 2, .int .i64 3], .int .i64 2] W fun e w' => e = .returned (.tuple #[.int .i64 4, .int .i64 0]) ∧ Below W.heap.size W w' := fun W => by
    have h := place_any 2 3 2 W (by unfold I64; omega) (by unfold I64; omega) (by unfold I64; omega)
    have e : placeV 2 3 2 = (4, 0) := by decide
    rw [e] at h
    exact h
  have l1 : ∀ W : World, Calls Try.prog 15 #[.agg #[.int .i64 2, .int .i64 3], .int .i64 5] W fun e w' => e = .returned (.bool true) ∧ Below W.heap.size W w' := fun W => by
    have h := lies_any 2 3 5 W (by unfold I64; omega) (by unfold I64; omega) (by unfold I64; omega)
    have e : liesV 2 3 5 = true := by decide
    rw [e] at h
    exact h
  have l2 : ∀ W : World, Calls Try.prog 15 #[.agg #[.int .i64 2, .int .i64 4], .int .i64 5] W fun e w' => e = .returned (.bool false) ∧ Below W.heap.size W w' := fun W => by
    have h := lies_any 2 4 5 W (by unfold I64; omega) (by unfold I64; omega) (by unfold I64; omega)
    have e : liesV 2 4 5 = false := by decide
    rw [e] at h
    exact h
  have H1 := hide p1
  have H2 := hide l1
  have H3 := hide l2
  clear p1 l1 l2
  go_enter Try.func13, Try.ntmps13
  go_wp2_with fail
  refine (H1.out _).mono ?_
  rintro e w1 ⟨rfl, hb1⟩
  go_wp2_with fail
  refine (H2.out _).mono ?_
  rintro e w2 ⟨rfl, hb2⟩
  go_wp2_with fail
  refine (H3.out _).mono ?_
  rintro e w3 ⟨rfl, hb3⟩
  obtain ⟨hc2, hf2⟩ := bcell hb2
  obtain ⟨hc3, hf3⟩ := bcell hb3
  have hz2 := hb2.size
  have hz3 := hb3.size
  simp at hz2
  have hd : w1.heap.size < w2.heap.size := by omega
  have hd' : w1.heap.size + 1 < w2.heap.size := by omega
  go_wp2_with fail
  refine (apart_two 0 2 2 3 _ _ (by simp) (by simp [go_sem]) (by simp [go_sem]) (by simp [go_sem]) (by simp [go_sem]) (by unfold I64; omega) (by unfold I64; omega) (by unfold I64; omega) (by unfold I64; omega) true (by decide)).mono ?_
  rintro e w4 ⟨rfl, hb4⟩
  obtain ⟨hc4, hf4⟩ := bcell hb4
  have hz4 := hb4.size
  simp at hz4
  have hd4 : w1.heap.size + 1 < w3.heap.size + 1 := by omega
  have hd5 : w1.heap.size + 1 < w3.heap.size := by omega
  go_wp2_with fail
  refine (apart_two 2 3 0 3 _ _ (by simp) (by simp [go_sem]) (by simp [go_sem]) (by simp [go_sem]) (by simp [go_sem]) (by unfold I64; omega) (by unfold I64; omega) (by unfold I64; omega) (by unfold I64; omega) false (by decide)).mono ?_
  rintro e w5 ⟨rfl, hb5⟩
  go_wp2_with fail
  go_ret
  have hb1' := hb1.size
  refine ⟨rfl, ?_⟩
  refine hb1.trans ?_
  have hb2' := hb2.mono (B' := w.heap.size) (by simp; omega)
  have hb3' := hb3.mono (B' := w.heap.size) (by omega)
  have hb4' := hb4.mono (B' := w.heap.size) (by simp; omega)
  have hb5' := hb5.mono (B' := w.heap.size) (by simp; omega)
  exact (((((Below.refl _ _).alloc (by omega) _).alloc (by simp; omega) _).trans hb2').trans hb3').trans (((Below.refl _ _).alloc (by omega) _).trans (hb4'.trans (((Below.refl _ _).alloc (by omega) _).trans hb5')))
end Go.Proofs.Ytamkngpkplflcaa
