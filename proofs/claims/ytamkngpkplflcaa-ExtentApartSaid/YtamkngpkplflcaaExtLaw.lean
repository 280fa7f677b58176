/- The laws ExtentApart and ExtentPlaces, walked: they answer true and leave the memory that was there as it was. -/
import Derived.Test.YtamkngpkplflcaaExtAwake
namespace Go.Proofs.Ytamkngpkplflcaa
open Go.RowKit

theorem info_pair : (Try.prog.info? 26).map (fun i => (i.zero, i.size, i.bytes)) = some (some (.agg #[.int .i64 0, .int .i64 0]), 2, 16) := by kernel_rfl
theorem elem_pairs : Elem Try.prog 23 26 2 16 := Elem.of Try.underlying23 info_pair rfl (by omega)

/-- the cells of n pairs, one behind the other -/
def flatP (F G : Nat → Int) (k : Nat) : List Value := (List.range k).flatMap fun i => [Value.int .i64 (F i), Value.int .i64 (G i)]
theorem flatP_succ (F G : Nat → Int) (k : Nat) : flatP F G (k + 1) = flatP F G k ++ [Value.int .i64 (F k), Value.int .i64 (G k)] := by
  unfold flatP; rw [List.range_succ, List.flatMap_append]; rfl
theorem flatP_length (F G : Nat → Int) (k : Nat) : (flatP F G k).length = k * 2 := by
  induction k with
  | zero => rfl
  | succ k ih => rw [flatP_succ, List.length_append, ih]; simp; omega
theorem flatP_get0 (F G : Nat → Int) (k i : Nat) (h : i < k) : (flatP F G k)[i*2]? = some (.int .i64 (F i)) := by
  induction k with
  | zero => omega
  | succ k ih =>
    rw [flatP_succ]
    by_cases e : i = k
    · subst e
      rw [List.getElem?_append_right (by rw [flatP_length]; omega), flatP_length]; simp
    · rw [List.getElem?_append_left (by rw [flatP_length]; omega)]; exact ih (by omega)
theorem flatP_get1 (F G : Nat → Int) (k i : Nat) (h : i < k) : (flatP F G k)[i*2+1]? = some (.int .i64 (G i)) := by
  induction k with
  | zero => omega
  | succ k ih =>
    rw [flatP_succ]
    by_cases e : i = k
    · subst e
      rw [List.getElem?_append_right (by rw [flatP_length]; omega), flatP_length]; simp
    · rw [List.getElem?_append_left (by rw [flatP_length]; omega)]; exact ih (by omega)

theorem refApart_own (w : World) (base : Nat) (e : TypeId) (v : Value) (n : Nat) (F G : Nat → Int) (h : w.ownsRow base e 2 v n (flatP F G n)) (wf : ∀ i, i < n → I64 (F i) ∧ I64 (G i)) :
    Calls Try.prog 12 #[v] w fun e w' => e = .returned (.bool (decide (apartV n F G))) ∧ Q w w' := by
  rcases h.2 with ⟨rfl, rfl⟩ | ⟨g, cap, cur, rfl, hb, hh, hn, hc, _, _⟩
  · exact refApart_none w F G
  · have hlt : g < w.heap.size := (h.lt g rfl).2
    refine refApart_some g 0 n cap F G w ⟨fun _ => hlt, fun i hi => ?_, fun i hi => ?_, wf⟩ hn (by unfold maxLen at hc; exact hc)
    · have := h.cells (g := g) rfl (i*2) _ (flatP_get0 F G n i hi)
      rw [Addr.add_lit] at this
      exact this
    · have := h.cells (g := g) rfl (i*2+1) _ (flatP_get1 F G n i hi)
      rw [Addr.add_lit] at this
      exact this

set_option maxRecDepth 100000 in
set_option maxHeartbeats 1000000 in
theorem extentApart_le (b off n c : Nat) (F G : Nat → Int) (w : World) (h : Pairs w w.heap.size b off n F G) (hn : n ≤ c) (hc : c ≤ 9223372036854775807) (h40 : n ≤ 40) :
    Calls Try.prog 3 #[.slice (some ⟨b, off, none⟩) n c] w fun e w' => e = .returned (.bool true) ∧ Below w.heap.size w w' := by
  go_enter Try.func3, Try.ntmps3
  go_wp2
  go_loopw [3, 4] (fun v i wr => ∃ k : Nat, k ≤ n ∧ i = .int .i64 k ∧ Below w.heap.size w wr ∧ wr.ownsRow w.heap.size 26 2 v k (flatP F G k)) (fun _ i _ => n - (intOf i).toNat)
  case atStart => exact ⟨0, by omega, rfl, Below.refl _ _, ⟨rfl, .inl ⟨rfl, rfl⟩⟩⟩
  case round =>
    obtain ⟨k, hk, rfl, hb, hown⟩ := hrel
    have hown' := hide hown
    clear hown
    have hbs := hb.size
    by_cases hlt : k < n
    · have c0 := h.cell0 k (by omega)
      have c1 := h.cell1 k (by omega)
      have hbn := h.lt (by omega)
      rw [← hb.cell (p := ⟨b, off + k*2, none⟩) hbn] at c0
      rw [← hb.cell (p := ⟨b, off + k*2+1, none⟩) hbn] at c1
      have hkn : (k : Int) < n := by omega
      go_wp2_with fail
      have hbr : (∀ p : Addr, p.block < w.heap.size → wr.cell? p = w.cell? p) := fun p hp => hb.cell hp
      have hbr' := hide hbr
      clear hbr
      have hlt3 : b < wr.heap.size := by omega
      go_region_held3 (fun w' => w'.cell? ⟨b, off + k*2, none⟩ = some (.int .i64 (F k)) ∧ w'.cell? ⟨b, off + k*2 + 1, none⟩ = some (.int .i64 (G k)))
        (first | go_keep | (refine ⟨?_, ?_⟩ <;> (rw [hgrow.cell_far _ (by simp; omega) (fun e => by have := (hown'.out.lt _ e.symm).1; dsimp only at this; omega)]; simp [go_sem, *])))
        ((refine step_app elem_pairs (by rfl) _ _ (by rfl) w.heap.size u3 k (flatP F G k) (by rfl) ((hown'.out.alloc _).drew) ⟨wr.heap.size, 0, none⟩ 1 1 [.int .i64 (F k), .int .i64 (G k)] (by rfl) (by rfl) (World.news_of_block (cs := #[.int .i64 (F k), .int .i64 (G k)]) (t := 26) (fr := (0, 0)) (heap_alloc_new wr _)) (by simp [Value.oneCell']) (by omega) (by simp only [maxLen]; omega) (by omega) (by simp; omega) (wr.heap.size + 1) (by simp) ?_; intro g cap w1 hown1 hgrow hat hlt2))
      have hb1 : Below w.heap.size w w1 := (((hb.alloc hbs _).drew)).grown hgrow (by simp; omega) (fun g hg => (hown'.out.lt g hg).1)
      rw [← flatP_succ] at hown1
      have hown1' := hide hown1
      clear hown1 hgrow
      go_wp2
      go_roundw
      case rel => exact ⟨k + 1, by omega, by go_num, hb1, hown1'.out⟩
      case measure => simp [intOf]; omega
    · obtain rfl : k = n := by omega
      have hap : ∀ W, Below w.heap.size w W → Calls Try.prog 11 #[.slice (some ⟨b, off, none⟩) k c] W fun e w' => e = .returned (.bool (decide (apartV k F G))) ∧ Below W.heap.size W w' := fun W hW =>
        apart_some b off k c F G W (((h.below hW).more hW.size).less (by omega)) (by omega) hc
      have hra : ∀ W, Below wr.heap.size wr W → Calls Try.prog 12 #[u3] W fun e w' => e = .returned (.bool (decide (apartV k F G))) ∧ Q W w' := fun W hW =>
        refApart_own W w.heap.size 26 u3 k F G (hown'.out.kept (row := none) ⟨hW.os, hW.tape, hW.output, hW.size, fun k hk _ => hW.block k hk⟩ (by cases hv : u3.ownBlock <;> simp)) (fun i hi => h.wf i (by omega))
      have hap' := hide hap
      have hra' := hide hra
      clear hap hra
      generalize decide (apartV k F G) = r at *
      go_wp2_with fail
      refine (hap'.out wr hb).mono ?_
      rintro e w1 ⟨rfl, hb1⟩
      go_wp2_with fail
      refine (hra'.out w1 hb1).mono ?_
      rintro e w2 ⟨rfl, hq2⟩
      have hbz : Below w.heap.size w w2 := (hb.trans (hb1.mono (by omega))).trans (hq2.below _)
      clear hap' hra' hb hb1 hq2 hown'
      have hrr : (r == r) = true := by cases r <;> rfl
      have hbzs := hbz.size
      go_wp2_with fail
      refine (awake06 _).mono ?_
      rintro e w3 ⟨rfl, hb3⟩
      go_wp2_with fail
      go_ret
      exact ⟨rfl, hbz.trans (hb3.mono (by omega))⟩

set_option maxRecDepth 100000 in
set_option maxHeartbeats 1000000 in
theorem extentApart_gt (b off n c : Nat) (F G : Nat → Int) (w : World) (h : Pairs w w.heap.size b off n F G) (hn : n ≤ c) (hc : c ≤ 9223372036854775807) (h40 : 40 < n) :
    Calls Try.prog 3 #[.slice (some ⟨b, off, none⟩) n c] w fun e w' => e = .returned (.bool true) ∧ Below w.heap.size w w' := by
  have h40b : decide ((40 : Int) < (n : Int)) = true := decide_eq_true (by omega)
  go_enter Try.func3, Try.ntmps3
  go_wp2
  go_loopw [3, 4] (fun v i wr => ∃ k : Nat, k ≤ 40 ∧ i = .int .i64 k ∧ Below w.heap.size w wr ∧ wr.ownsRow w.heap.size 26 2 v k (flatP F G k)) (fun _ i _ => 40 - (intOf i).toNat)
  case atStart => exact ⟨0, by omega, rfl, Below.refl _ _, ⟨rfl, .inl ⟨rfl, rfl⟩⟩⟩
  case round =>
    obtain ⟨k, hk, rfl, hb, hown⟩ := hrel
    have hown' := hide hown
    clear hown
    have hbs := hb.size
    by_cases hlt : k < 40
    · have c0 := h.cell0 k (by omega)
      have c1 := h.cell1 k (by omega)
      have hbn := h.lt (by omega)
      rw [← hb.cell (p := ⟨b, off + k*2, none⟩) hbn] at c0
      rw [← hb.cell (p := ⟨b, off + k*2+1, none⟩) hbn] at c1
      have hkn : (k : Int) < 40 := by omega
      go_wp2_with fail
      have hbr : (∀ p : Addr, p.block < w.heap.size → wr.cell? p = w.cell? p) := fun p hp => hb.cell hp
      have hbr' := hide hbr
      clear hbr
      have hlt3 : b < wr.heap.size := by omega
      go_region_held3 (fun w' => w'.cell? ⟨b, off + k*2, none⟩ = some (.int .i64 (F k)) ∧ w'.cell? ⟨b, off + k*2 + 1, none⟩ = some (.int .i64 (G k)))
        (first | go_keep | (refine ⟨?_, ?_⟩ <;> (rw [hgrow.cell_far _ (by simp; omega) (fun e => by have := (hown'.out.lt _ e.symm).1; dsimp only at this; omega)]; simp [go_sem, *])))
        ((refine step_app elem_pairs (by rfl) _ _ (by rfl) w.heap.size u3 k (flatP F G k) (by rfl) ((hown'.out.alloc _).drew) ⟨wr.heap.size, 0, none⟩ 1 1 [.int .i64 (F k), .int .i64 (G k)] (by rfl) (by rfl) (World.news_of_block (cs := #[.int .i64 (F k), .int .i64 (G k)]) (t := 26) (fr := (0, 0)) (heap_alloc_new wr _)) (by simp [Value.oneCell']) (by omega) (by simp only [maxLen]; omega) (by omega) (by simp; omega) (wr.heap.size + 1) (by simp) ?_; intro g cap w1 hown1 hgrow hat hlt2))
      have hb1 : Below w.heap.size w w1 := (((hb.alloc hbs _).drew)).grown hgrow (by simp; omega) (fun g hg => (hown'.out.lt g hg).1)
      rw [← flatP_succ] at hown1
      have hown1' := hide hown1
      clear hown1 hgrow
      go_wp2
      go_roundw
      case rel => exact ⟨k + 1, by omega, by go_num, hb1, hown1'.out⟩
      case measure => simp [intOf]; omega
    · obtain rfl : k = 40 := by omega
      have hap : ∀ W, Below w.heap.size w W → Calls Try.prog 11 #[.slice (some ⟨b, off, none⟩) 40 c] W fun e w' => e = .returned (.bool (decide (apartV 40 F G))) ∧ Below W.heap.size W w' := fun W hW =>
        apart_some b off 40 c F G W (((h.below hW).more hW.size).less (by omega)) (by omega) hc
      have hra : ∀ W, Below wr.heap.size wr W → Calls Try.prog 12 #[u3] W fun e w' => e = .returned (.bool (decide (apartV 40 F G))) ∧ Q W w' := fun W hW =>
        refApart_own W w.heap.size 26 u3 40 F G (hown'.out.kept (row := none) ⟨hW.os, hW.tape, hW.output, hW.size, fun k hk _ => hW.block k hk⟩ (by cases hv : u3.ownBlock <;> simp)) (fun i hi => h.wf i (by omega))
      have hap' := hide hap
      have hra' := hide hra
      clear hap hra
      generalize decide (apartV 40 F G) = r at *
      go_wp2_with fail
      refine (hap'.out wr hb).mono ?_
      rintro e w1 ⟨rfl, hb1⟩
      go_wp2_with fail
      refine (hra'.out w1 hb1).mono ?_
      rintro e w2 ⟨rfl, hq2⟩
      have hbz : Below w.heap.size w w2 := (hb.trans (hb1.mono (by omega))).trans (hq2.below _)
      clear hap' hra' hb hb1 hq2 hown'
      have hrr : (r == r) = true := by cases r <;> rfl
      have hbzs := hbz.size
      go_wp2_with fail
      refine (awake06 _).mono ?_
      rintro e w3 ⟨rfl, hb3⟩
      go_wp2_with fail
      go_ret
      exact ⟨rfl, hbz.trans (hb3.mono (by omega))⟩

theorem extentApart_zero (A : Option Addr) (c : Nat) (w : World) : Calls Try.prog 3 #[.slice A 0 c] w fun e w' => e = .returned (.bool true) ∧ Below w.heap.size w w' := by
  go_enter Try.func3, Try.ntmps3
  go_wp2
  go_loopw [3, 4] (fun v i wr => i = .int .i64 0 ∧ v = .slice none 0 0 ∧ wr = w) (fun _ _ _ => 0)
  case atStart => exact ⟨rfl, rfl, rfl⟩
  case round =>
    obtain ⟨rfl, rfl, rfl⟩ := hrel
    go_wp2_with fail
    refine (apart_zero A c _ (fun _ => 0) (fun _ => 0)).mono ?_
    rintro e w1 ⟨rfl, hb1⟩
    go_wp2_with fail
    refine (refApart_none _ (fun _ => 0) (fun _ => 0)).mono ?_
    rintro e w2 ⟨rfl, hq2⟩
    have hbz : Below wr.heap.size wr w2 := hb1.trans (hq2.below _)
    clear hb1 hq2
    generalize decide (apartV 0 (fun _ => 0) fun _ => 0) = r at *
    have hrr : (r == r) = true := by cases r <;> rfl
    have hbzs := hbz.size
    go_wp2_with fail
    refine (awake06 _).mono ?_
    rintro e w3 ⟨rfl, hb3⟩
    go_wp2_with fail
    go_ret
    exact ⟨rfl, hbz.trans (hb3.mono (by omega))⟩
end Go.Proofs.Ytamkngpkplflcaa
