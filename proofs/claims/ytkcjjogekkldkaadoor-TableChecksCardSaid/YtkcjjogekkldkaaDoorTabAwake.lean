/- nacellelaw11: few, some, awake walked. -/
import Derived.Test.YtkcjjogekkldkaaDoorTabNext
namespace Go.Proofs.YtkcjjogekkldkaaDoor
open Go.RowKit

/-- the table with 34 windows at most -/
def Tab.few (t : Tab) : Tab := { t with n := if 34 < t.n then 34 else t.n }
theorem TabV.few {w : World} {A : Option Addr} {c : Nat} {t : Tab} (h : TabV w A c t) : TabV w A c t.few := by
  have hle : t.few.n ≤ t.n := by unfold Tab.few; simp only; split <;> omega
  refine ⟨fun hn => ?_, Nat.le_trans hle h.cap, h.capI, h.iT, fun i hi => h.iP i (by omega), fun i hi => h.iF i (by omega), fun i hi => h.iK i (by omega)⟩
  obtain ⟨b, off, e, hr⟩ := h.rows (by omega)
  exact ⟨b, off, e, hr.lt, fun i hi => hr.p i (by omega), fun i hi => hr.f i (by omega), fun i hi => hr.k i (by omega)⟩

set_option maxRecDepth 100000 in
theorem few_any (t : Tab) (A : Option Addr) (c : Nat) (w : World) (h : TabV w A c t) :
    Calls Tryd.prog 4 #[.agg #[.int .i64 t.T, .slice A t.n c]] w fun e w' => e = .returned (.agg #[.int .i64 t.few.T, .slice A t.few.n c]) ∧ Below w.heap.size w w' := by
  have hc1 := h.cap
  have hc2 := h.capI
  have hT : t.few.T = t.T := rfl
  rw [hT]
  by_cases hn : 34 < t.n
  · have e : t.few.n = 34 := by unfold Tab.few; simp only; rw [if_pos hn]
    rw [e]
    have hnI : (34 : Int) < (t.n : Int) := by omega
    have hcI : (34 : Int) ≤ (c : Int) := by omega
    clear e hT h
    go_enter Tryd.func4, Tryd.ntmps4
    go_wp2_with fail
    exact bodyPost_ret (v := .agg #[.int .i64 t.T, .slice A 34 c]) (by simp [results, Tryd.results4, go_sem]) rfl ⟨rfl, ((Below.refl _ _).alloc (Nat.le_refl _) _).alloc (by simp) _⟩
  · have e : t.few.n = t.n := by unfold Tab.few; simp only; rw [if_neg hn]
    rw [e]
    have hnI : ¬ (34 : Int) < (t.n : Int) := by omega
    clear e hT h
    go_enter Tryd.func4, Tryd.ntmps4
    go_wp2_with fail
    exact bodyPost_ret (v := .agg #[.int .i64 t.T, .slice A t.n c]) (by simp [results, Tryd.results4, go_sem]) rfl ⟨rfl, ((Below.refl _ _).alloc (Nat.le_refl _) _).alloc (by simp) _⟩

/-- the chapter's table -/
def tabSome : Tab := { T := 10, n := 3, P := fun i => if i = 1 then 1 else 0, F := fun i => if i = 0 then 0 else if i = 1 then 3 else 8, K := fun i => if i = 0 then 3 else 2 }
theorem tabSome_ok : tabSome.Ok := ⟨by decide, by decide, by decide, by decide⟩

set_option maxRecDepth 100000 in
theorem some_any (w : World) :
    Calls Tryd.prog 11 #[] w fun e w' => ∃ g, e = .returned (.agg #[.int .i64 10, .slice (some ⟨g, 0, none⟩) 3 3]) ∧ TabV w' (some ⟨g, 0, none⟩) 3 tabSome ∧ Below w.heap.size w w' := by
  go_enter Tryd.func11, Tryd.ntmps11
  go_wp2_with fail
  refine bodyPost_ret (v := .agg #[.int .i64 10, .slice (some ⟨w.heap.size + 1, 0, none⟩) 3 3]) (by simp [results, Tryd.results11, go_sem]) rfl ⟨w.heap.size + 1, rfl, ⟨fun _ => ⟨_, 0, rfl, by simp, fun i hi => ?_, fun i hi => ?_, fun i hi => ?_⟩, by decide, by decide, by unfold I64; decide, fun i _ => ?_, fun i _ => ?_, fun i _ => ?_⟩, ((Below.refl _ _).alloc (Nat.le_refl _) _).alloc (by simp) _⟩
  · have h3 : i < 3 := hi
    obtain rfl | rfl | rfl : i = 0 ∨ i = 1 ∨ i = 2 := by omega
    all_goals simp [go_sem, tabSome]
  · have h3 : i < 3 := hi
    obtain rfl | rfl | rfl : i = 0 ∨ i = 1 ∨ i = 2 := by omega
    all_goals simp [go_sem, tabSome]
  · have h3 : i < 3 := hi
    obtain rfl | rfl | rfl : i = 0 ∨ i = 1 ∨ i = 2 := by omega
    all_goals simp [go_sem, tabSome]
  all_goals (simp only [tabSome, I64]; (repeat' split) <;> omega)

theorem next_some (v : Value) (h : NextIs tabSome 1 14 v) : v = .tuple #[.int .u64 23, .bool true] := by
  have d : ∀ k : Nat, k ≤ 10 → 1 ≤ k → (tabSome.turn 1 ((14 + k) % 10 : Nat) ↔ 9 ≤ k) := by decide
  rcases h with ⟨k, h1, h2, _, h4, h5, rfl⟩ | ⟨h, _⟩
  · have hk : k ≤ 10 := h2
    have h6 := (d k hk h1).1 h4
    have h7 : ¬ 9 < k := fun h => h5 9 (by omega) h ((d 9 (by omega) (by omega)).2 (by omega))
    obtain rfl : k = 9 := by omega
    rfl
  · exact absurd ((d 9 (by omega) (by omega)).2 (by omega)) (h 9 (by omega) (by decide) (by omega))

set_option maxRecDepth 100000 in
set_option maxHeartbeats 1000000 in
theorem awake11 (w : World) : Calls Tryd.prog 7 #[] w fun e w' => e = .returned (.bool true) ∧ Below w.heap.size w w' := by
  have c1 : ∀ (W : World) A, TabV W A 3 tabSome → Calls Tryd.prog 12 #[.agg #[.int .i64 10, .slice A 3 3], .int .i64 1, .int .u64 14] W fun e w' => e = .returned (.tuple #[.int .u64 23, .bool true]) ∧ Below W.heap.size W w' := fun W A hV =>
    (next_ok tabSome tabSome_ok A 3 1 14 (by decide) W hV).mono (by rintro e w' ⟨v, rfl, hv, hb⟩; rw [next_some v hv]; exact ⟨rfl, hb⟩)
  have c2 : ∀ (W : World) A, TabV W A 3 tabSome → Calls Tryd.prog 5 #[.agg #[.int .i64 10, .slice A 3 3]] W fun e w' => e = .returned .nilIface ∧ Below W.heap.size W w' := fun W A hV => check_ok tabSome tabSome_ok A 3 W hV
  have c3 : ∀ (W : World) A, TabV W A 3 tabSome → Calls Tryd.prog 13 #[.agg #[.int .i64 10, .slice A 3 3], .int .u64 12] W fun e w' => e = .returned (.int .i64 0) ∧ Below W.heap.size W w' := fun W A hV => by
    have := who_ok tabSome tabSome_ok A 3 12 W hV
    rw [show tabSome.who (12 % tabSome.T.toNat : Nat) = 0 by decide] at this
    exact this
  have c4 : ∀ (W : World) A, TabV W A 3 tabSome → Calls Tryd.prog 13 #[.agg #[.int .i64 10, .slice A 3 3], .int .u64 13] W fun e w' => e = .returned (.int .i64 1) ∧ Below W.heap.size W w' := fun W A hV => by
    have := who_ok tabSome tabSome_ok A 3 13 W hV
    rw [show tabSome.who (13 % tabSome.T.toNat : Nat) = 1 by decide] at this
    exact this
  have c5 : ∀ (W : World) A, TabV W A 3 tabSome → Calls Tryd.prog 13 #[.agg #[.int .i64 10, .slice A 3 3], .int .u64 15] W fun e w' => e = .returned (.int .i64 (-1)) ∧ Below W.heap.size W w' := fun W A hV => by
    have := who_ok tabSome tabSome_ok A 3 15 W hV
    rw [show tabSome.who (15 % tabSome.T.toNat : Nat) = -1 by decide] at this
    exact this
  have c6 : ∀ (W : World) A, TabV W A 3 tabSome → Calls Tryd.prog 14 #[.agg #[.int .i64 10, .slice A 3 3], .int .i64 0] W fun e w' => e = .returned (.int .i64 5) ∧ Below W.heap.size W w' := fun W A hV => by
    have := share_ok tabSome tabSome_ok A 3 0 W hV
    rw [show tabSome.below 0 tabSome.T = 5 by decide] at this
    exact this
  have c7 : ∀ (W : World) A, TabV W A 3 tabSome → Calls Tryd.prog 15 #[.agg #[.int .i64 10, .slice A 3 3], .int .i64 0, .int .u64 12] W fun e w' => e = .returned (.int .u64 7) ∧ Below W.heap.size W w' := fun W A hV => by
    have := turns_ok tabSome tabSome_ok A 3 0 12 (by decide) W hV
    rw [show tabSome.turns 0 12 = 7 by decide] at this
    exact this
  have d1 := hide c1
  have d2 := hide c2
  have d3 := hide c3
  have d4 := hide c4
  have d5 := hide c5
  have d6 := hide c6
  have d7 := hide c7
  clear c1 c2 c3 c4 c5 c6 c7
  go_enter Tryd.func7, Tryd.ntmps7
  go_wp2_with fail
  refine (some_any _).mono ?_
  rintro e w1 ⟨g, rfl, hV, hb⟩
  have hV' := hide (hV.below ((Below.refl _ _).alloc (Nat.le_refl _) (.cells #[.int .i64 10, .slice (some ⟨g, 0, none⟩) 3 3] 24)))
  have hb' := hide (hb.alloc hb.size (.cells #[.int .i64 10, .slice (some ⟨g, 0, none⟩) 3 3] 24))
  clear hV hb
  go_wp2_with fail
  have e0 : (w1.alloc (.cells #[.int .i64 10, .slice (some ⟨g, 0, none⟩) 3 3] 24)).cell? ⟨w1.heap.size, 0, none⟩ = some (.int .i64 10) := by simp [go_sem]
  have e1 : (w1.alloc (.cells #[.int .i64 10, .slice (some ⟨g, 0, none⟩) 3 3] 24)).cell? ⟨w1.heap.size, 1, none⟩ = some (.slice (some ⟨g, 0, none⟩) 3 3) := by simp [go_sem]
  have hl : w1.heap.size < (w1.alloc (.cells #[.int .i64 10, .slice (some ⟨g, 0, none⟩) 3 3] 24)).heap.size := by simp
  generalize w1.alloc (.cells #[.int .i64 10, .slice (some ⟨g, 0, none⟩) 3 3] 24) = W1 at *
  generalize w1.heap.size = bx at *
  have hB := hide (Below.refl W1.heap.size W1)
  refine (d1.out _ _ (hV'.out.below hB.out)).mono ?_
  rintro e v1 ⟨rfl, hb⟩
  replace hB := hide (hB.out.trans (hb.mono hB.out.size))
  replace e0 : (v1).cell? ⟨bx, 0, none⟩ = some (.int .i64 10) := (hb.cell (p := ⟨bx, 0, none⟩) hl).trans e0
  replace e1 : (v1).cell? ⟨bx, 1, none⟩ = some (.slice (some ⟨g, 0, none⟩) 3 3) := (hb.cell (p := ⟨bx, 1, none⟩) hl).trans e1
  replace hl : bx < (v1).heap.size := Nat.lt_of_lt_of_le hl hb.size
  clear hb
  go_wp2_with fail
  refine (d2.out _ _ (hV'.out.below hB.out)).mono ?_
  rintro e v2 ⟨rfl, hb⟩
  replace hB := hide (hB.out.trans (hb.mono hB.out.size))
  replace e0 : (v2).cell? ⟨bx, 0, none⟩ = some (.int .i64 10) := (hb.cell (p := ⟨bx, 0, none⟩) hl).trans e0
  replace e1 : (v2).cell? ⟨bx, 1, none⟩ = some (.slice (some ⟨g, 0, none⟩) 3 3) := (hb.cell (p := ⟨bx, 1, none⟩) hl).trans e1
  replace hl : bx < (v2).heap.size := Nat.lt_of_lt_of_le hl hb.size
  clear hb
  go_wp2_with fail
  refine (d3.out _ _ (hV'.out.below hB.out)).mono ?_
  rintro e v3 ⟨rfl, hb⟩
  replace hB := hide (hB.out.trans (hb.mono hB.out.size))
  replace e0 : (v3).cell? ⟨bx, 0, none⟩ = some (.int .i64 10) := (hb.cell (p := ⟨bx, 0, none⟩) hl).trans e0
  replace e1 : (v3).cell? ⟨bx, 1, none⟩ = some (.slice (some ⟨g, 0, none⟩) 3 3) := (hb.cell (p := ⟨bx, 1, none⟩) hl).trans e1
  replace hl : bx < (v3).heap.size := Nat.lt_of_lt_of_le hl hb.size
  clear hb
  go_wp2_with fail
  refine (d4.out _ _ (hV'.out.below hB.out)).mono ?_
  rintro e v4 ⟨rfl, hb⟩
  replace hB := hide (hB.out.trans (hb.mono hB.out.size))
  replace e0 : (v4).cell? ⟨bx, 0, none⟩ = some (.int .i64 10) := (hb.cell (p := ⟨bx, 0, none⟩) hl).trans e0
  replace e1 : (v4).cell? ⟨bx, 1, none⟩ = some (.slice (some ⟨g, 0, none⟩) 3 3) := (hb.cell (p := ⟨bx, 1, none⟩) hl).trans e1
  replace hl : bx < (v4).heap.size := Nat.lt_of_lt_of_le hl hb.size
  clear hb
  go_wp2_with fail
  refine (d5.out _ _ (hV'.out.below hB.out)).mono ?_
  rintro e v5 ⟨rfl, hb⟩
  replace hB := hide (hB.out.trans (hb.mono hB.out.size))
  replace e0 : (v5).cell? ⟨bx, 0, none⟩ = some (.int .i64 10) := (hb.cell (p := ⟨bx, 0, none⟩) hl).trans e0
  replace e1 : (v5).cell? ⟨bx, 1, none⟩ = some (.slice (some ⟨g, 0, none⟩) 3 3) := (hb.cell (p := ⟨bx, 1, none⟩) hl).trans e1
  replace hl : bx < (v5).heap.size := Nat.lt_of_lt_of_le hl hb.size
  clear hb
  go_wp2_with fail
  refine (d6.out _ _ (hV'.out.below hB.out)).mono ?_
  rintro e v6 ⟨rfl, hb⟩
  replace hB := hide (hB.out.trans (hb.mono hB.out.size))
  replace e0 : (v6).cell? ⟨bx, 0, none⟩ = some (.int .i64 10) := (hb.cell (p := ⟨bx, 0, none⟩) hl).trans e0
  replace e1 : (v6).cell? ⟨bx, 1, none⟩ = some (.slice (some ⟨g, 0, none⟩) 3 3) := (hb.cell (p := ⟨bx, 1, none⟩) hl).trans e1
  replace hl : bx < (v6).heap.size := Nat.lt_of_lt_of_le hl hb.size
  clear hb
  go_wp2_with fail
  refine (d7.out _ _ (hV'.out.below hB.out)).mono ?_
  rintro e v7 ⟨rfl, hb⟩
  replace hB := hide (hB.out.trans (hb.mono hB.out.size))
  replace e0 : (v7).cell? ⟨bx, 0, none⟩ = some (.int .i64 10) := (hb.cell (p := ⟨bx, 0, none⟩) hl).trans e0
  replace e1 : (v7).cell? ⟨bx, 1, none⟩ = some (.slice (some ⟨g, 0, none⟩) 3 3) := (hb.cell (p := ⟨bx, 1, none⟩) hl).trans e1
  replace hl : bx < (v7).heap.size := Nat.lt_of_lt_of_le hl hb.size
  clear hb
  go_wp2_with fail
  go_ret
  exact ⟨rfl, hb'.out.trans (hB.out.mono hb'.out.size)⟩
end Go.Proofs.YtkcjjogekkldkaaDoor
