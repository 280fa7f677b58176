/- disk.New, Size, On walked. -/
import Derived.Test.YtamkngpkplflcaaDisk
import Derived.Deep.WholeRow
namespace Go.Proofs.Ytamkngpkplflcaa
open Go.RowKit

def newDk (n : Nat) : Dk := ⟨n, List.replicate (64 * n) 0, [], false, false, 0, []⟩
set_option maxRecDepth 100000 in
theorem dnew_ok (n : Nat) (h1 : 1 ≤ n) (h2 : n ≤ 256) (w : World) :
    Calls Try.prog 16 #[.int .i64 n] w fun e w' => ∃ g h, e = .returned (.tuple #[.pointer (some ⟨g, 0, none⟩), .int .i64 0]) ∧ w.heap.size ≤ g ∧ w.heap.size ≤ h ∧ DkAt w' g h (.slice none 0 0) (.slice none 0 0) [] (newDk n) ∧ Below w.heap.size w w' := by
  go_enter Try.func16, Try.ntmps16
  go_wp2_with ((at_make; refine list_make Try.underlying40 (z := .int .u8 0) (bytes := 1) (by kernel_rfl) rfl rfl _ _ rfl w.heap.size .i64 .i64 _ _ (64 * n) rfl rfl (by omega) (by omega) (by omega) (by simp only [maxLen]; omega) (Nat.le_refl _) ?_))
  intro w1 hown hgr hlt
  have hT : Touch (fun _ => False) w w1 := ⟨(Below.refl _ _).grown hgr (Nat.zero_le _) (by intro k hk; cases hk), later_grown hgr (by intro k hk; cases hk)⟩
  have ho' := hide hown
  have hT' := hide hT
  have hs := hT.size
  clear hown hgr hT
  go_wp2_with fail
  go_ret2
  refine ⟨w1.heap.size, w.heap.size, rfl, hs, Nat.le_refl _, ⟨by simp, by simp [go_sem, newDk], by simp [go_sem], by simp [go_sem, newDk], by simp [go_sem, newDk], by simp [go_sem, newDk], by simp [go_sem], fun j => frozen_of_row _ _ j _ _ (heap_alloc_last w1 _), ?_, World.ownsRow_nil _ _ _ _, rfl, fun i hi => absurd hi (Nat.not_lt_zero _), World.ownsRow_nil _ _ _ _, by omega, fun b hb => (by cases hb), fun b hb => (by cases hb), ⟨h1, h2, by simp [newDk], fun w hw => by simp [newDk] at hw, by simp [newDk]⟩⟩, (hT'.out.below (Nat.le_refl _) (fun k _ h => h)).alloc hs _⟩
  have := ho'.out.alloc (.cells #[.slice (some ⟨w.heap.size, 0, none⟩) (64 * n) (64 * n), .slice none 0 0, .bool false, .bool false, .int .i64 0, .slice none 0 0] 91)
  have e : bytesV (newDk n).has = List.replicate (64 * n) (Value.int .u8 0) := by simp [newDk, bytesV]
  rw [e]
  exact ⟨this.1, this.2.imp id (fun ⟨g, cap, cur, a, b, c⟩ => ⟨g, cap, cur, a, Nat.zero_le _, c⟩)⟩
set_option maxRecDepth 100000 in
theorem dnew_bad (n : Int) (h : n < 1 ∨ 256 < n) (w : World) :
    Calls Try.prog 16 #[.int .i64 n] w fun e w' => e = .returned (.tuple #[.pointer none, .int .i64 1]) ∧ w' = w := by
  have hp : n < 1 ∨ (¬ n < 1 ∧ 256 < n) := by omega
  clear h
  rcases hp with h | ⟨h, h2⟩
  all_goals
    go_enter Try.func16, Try.ntmps16
    go_wp2_with fail
    go_ret2
    exact ⟨rfl, rfl⟩
set_option maxRecDepth 100000 in
theorem dsize_any (g h : Nat) (vw vs : Value) (q : List Value) (d : Dk) (w : World) (a : DkAt w g h vw vs q d) :
    Calls Try.prog 19 #[.pointer (some ⟨g, 0, none⟩)] w fun e w' => e = .returned (.int .i64 d.n) ∧ w' = w := by
  have c0 := a.c0
  have n1 := a.ok.n1
  have n2 := a.ok.n2
  clear a
  generalize d.n = n at *
  obtain ⟨m, hm⟩ : ∃ m, m = 64 * n := ⟨_, rfl⟩
  rw [← hm] at c0
  have hmI : ((m : Int)) / 64 = (n : Int) := by omega
  have hmb : m ≤ 16384 := by omega
  have hm' := hide hm
  have hmI' := hide hmI
  clear hm hmI
  go_enter Try.func19, Try.ntmps19
  go_wp2_with fail
  go_ret
  exact ⟨by rw [← hmI'.out]; rfl, rfl⟩
set_option maxRecDepth 100000 in
theorem don_any (g h : Nat) (vw vs : Value) (q : List Value) (d : Dk) (w : World) (a : DkAt w g h vw vs q d) :
    Calls Try.prog 20 #[.pointer (some ⟨g, 0, none⟩)] w fun e w' => e = .returned (.bool (!d.off)) ∧ w' = w := by
  have c2 := a.c2
  clear a
  go_enter Try.func20, Try.ntmps20
  go_wp2_with fail
  go_ret
  exact ⟨rfl, rfl⟩
end Go.Proofs.Ytamkngpkplflcaa
