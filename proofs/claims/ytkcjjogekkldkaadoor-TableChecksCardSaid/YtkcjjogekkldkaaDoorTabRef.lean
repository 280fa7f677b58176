/- nacelleref11.Check and Places walked. -/
import Derived.Test.YtkcjjogekkldkaaDoorTabAwake
namespace Go.Proofs.YtkcjjogekkldkaaDoor
open Go.RowKit

/-- the document's answer of a table -/
def Tab.RefIs (t : Tab) (v : Value) : Prop :=
  (t.Ok ∧ v = .tuple #[.int .i64 0, .int .i64 0]) ∨ ((t.T < 1 ∨ 256 < t.T ∨ 32 < t.n) ∧ v = .tuple #[.int .i64 1, .int .i64 0]) ∨
  (1 ≤ t.T ∧ t.T ≤ 256 ∧ t.n ≤ 32 ∧ ∃ k : Nat, k < t.n ∧ (∀ j, j < k → t.bad j = 0) ∧ t.bad k ≠ 0 ∧ v = .tuple #[.int .i64 (t.bad k), .int .i64 k])
def RefPost (t : Tab) (w : World) (e : Ending) (w' : World) : Prop := ∃ v, e = .returned v ∧ t.RefIs v ∧ Below w.heap.size w w'

set_option maxRecDepth 100000 in
set_option maxHeartbeats 4000000 in
theorem refCheck_any (t : Tab) (A : Option Addr) (c : Nat) (w : World) (h : TabV w A c t) :
    Calls Tryd.prog 6 #[.agg #[.int .i64 t.T, .slice A t.n c]] w (RefPost t w) := by
  have h' := hide h
  clear h
  by_cases hbad : t.T < 1 ∨ 256 < t.T ∨ 32 < t.n
  · have hbad' := hide hbad
    have key' := hide (show ∀ e w', e = Ending.returned (.tuple #[.int .i64 1, .int .i64 0]) → Below w.heap.size w w' → RefPost t w e w' from fun e w' he hb => ⟨_, he, .inr (.inl ⟨hbad'.out, rfl⟩), hb⟩)
    have parts : t.T < 1 ∨ (¬ t.T < 1 ∧ 256 < t.T) ∨ (¬ t.T < 1 ∧ ¬ 256 < t.T ∧ (32 : Int) < (t.n : Int)) := by omega
    clear hbad
    rcases parts with p | ⟨p, q⟩ | ⟨p, q, r⟩
    all_goals
      go_enter Tryd.func6, Tryd.ntmps6
      go_wp2_with fail
      go_ret2
      exact key'.out _ _ rfl ((Below.refl _ _).alloc (Nat.le_refl _) _)
  · have hT1 : 1 ≤ t.T := by omega
    have hT2 : t.T ≤ 256 := by omega
    have hn32 : t.n ≤ 32 := by omega
    clear hbad
    go_enter Tryd.func6, Tryd.ntmps6
    go_wp2_with fail
    have hb0 : Below w.heap.size w (w.alloc (.cells #[.int .i64 t.T, .slice A t.n c] 24)) := (Below.refl _ _).alloc (Nat.le_refl _) _
    have hb0' := hide hb0
    have hl0 : w.heap.size < (w.alloc (.cells #[.int .i64 t.T, .slice A t.n c] 24)).heap.size := by simp
    have hx0' := hide (show (w.alloc (.cells #[.int .i64 t.T, .slice A t.n c] 24)).cell? ⟨w.heap.size, 0, none⟩ = some (.int .i64 t.T) by simp [go_sem])
    have hx1' := hide (show (w.alloc (.cells #[.int .i64 t.T, .slice A t.n c] 24)).cell? ⟨w.heap.size, 1, none⟩ = some (.slice A t.n c) by simp [go_sem])
    clear hb0
    generalize w.alloc (.cells #[.int .i64 t.T, .slice A t.n c] 24) = W1 at *
    go_loopw [4] (fun i wr => ∃ k : Nat, k ≤ t.n ∧ i = .int .i64 k ∧ (∀ j, j < k → t.bad j = 0) ∧ Below W1.heap.size W1 wr) (fun i _ => t.n - (intOf i).toNat)
    case atStart => exact ⟨0, Nat.zero_le _, rfl, fun j hj => absurd hj (Nat.not_lt_zero _), Below.refl _ _⟩
    case round =>
      obtain ⟨k, hk, rfl, hgood, hb⟩ := hrel
      have cT : wr.cell? ⟨w.heap.size, 0, none⟩ = some (.int .i64 t.T) := (hb.cell (p := ⟨w.heap.size, 0, none⟩) hl0).trans hx0'.out
      have cW : wr.cell? ⟨w.heap.size, 1, none⟩ = some (.slice A t.n c) := (hb.cell (p := ⟨w.heap.size, 1, none⟩) hl0).trans hx1'.out
      have hws : w.heap.size < wr.heap.size := by have := hb.size; omega
      by_cases hlt : k < t.n
      · obtain ⟨b, off, rfl, hr0⟩ := h'.out.rows (by omega)
        have hr := hr0.below (hb0'.out.trans (hb.mono (by omega)))
        have c0 := hr.p k hlt
        have c1 := hr.f k hlt
        have c2 := hr.k k hlt
        have i1 := h'.out.iF k hlt
        have i2 := h'.out.iK k hlt
        have hbl := hr.lt
        have hgood' := hide hgood
        have hbw' := hide (hb0'.out.trans (hb.mono (Nat.le_of_lt hl0)))
        have hbw := hide hb
        have hfin' := hide (show ∀ cd, t.bad k = cd → cd ≠ 0 → ∀ e w', e = Ending.returned (.tuple #[.int .i64 cd, .int .i64 k]) → Below w.heap.size w w' → RefPost t w e w' from by
          intro cd hcd hne e w' he hbb
          exact ⟨_, he, .inr (.inr ⟨hT1, hT2, hn32, k, hlt, hgood'.out, by rw [hcd]; exact hne, by rw [hcd]⟩), hbb⟩)
        have hbad' := hide (show t.bad k = if t.P k < 0 ∨ 8 ≤ t.P k ∨ t.K k < 1 then 1 else if t.F k < 0 ∨ t.T < t.K k ∨ t.T - t.K k < t.F k then 4 else if 0 < k ∧ t.F k < t.F (k - 1) + t.K (k - 1) then 3 else 0 from rfl)
        have hkI : (k : Int) < (t.n : Int) := by omega
        have hprev : 0 < k → wr.cell? ⟨b, off + (k - 1)*3 + 1, none⟩ = some (.int .i64 (t.F (k - 1))) ∧ wr.cell? ⟨b, off + (k - 1)*3 + 2, none⟩ = some (.int .i64 (t.K (k - 1))) ∧ 0 ≤ t.F (k - 1) + t.K (k - 1) ∧ t.F (k - 1) + t.K (k - 1) ≤ 256 := fun h0 => by
          have hz := Tab.bad_zero (hgood (k - 1) (by omega))
          exact ⟨hr.f (k - 1) (by omega), hr.k (k - 1) (by omega), by omega, by omega⟩
        have hprev' := hide hprev
        clear hr hr0 hgood hb hprev
        generalize t.P k = p at *
        generalize t.F k = f at *
        generalize t.K k = q at *
        generalize t.F (k - 1) = f' at *
        generalize t.K (k - 1) = q' at *
        obtain ⟨i1a, i1b⟩ := i1
        obtain ⟨i2a, i2b⟩ := i2
        have ways : (p < 0 ∨ (¬ p < 0 ∧ 7 < p) ∨ (¬ p < 0 ∧ ¬ 7 < p ∧ q < 1)) ∨ ((¬ p < 0 ∧ ¬ 7 < p ∧ ¬ q < 1) ∧ (f < 0 ∨ (¬ f < 0 ∧ 255 < f) ∨ (¬ f < 0 ∧ ¬ 255 < f ∧ 256 < q) ∨ (¬ f < 0 ∧ ¬ 255 < f ∧ ¬ 256 < q ∧ t.T ≤ f + q - 1))) ∨ ((¬ p < 0 ∧ ¬ 7 < p ∧ ¬ q < 1) ∧ (¬ f < 0 ∧ ¬ 255 < f ∧ ¬ 256 < q ∧ ¬ t.T ≤ f + q - 1)) := by omega
        rcases ways with hw | ⟨hw, hw2⟩ | ⟨hw, hw2⟩
        · have hcd := hide (show t.bad k = 1 by rw [hbad'.out, if_pos (by omega)])
          rcases hw with x | ⟨x, y⟩ | ⟨x, y, z⟩
          all_goals
            go_wp2_with fail
            go_ret2
            exact hfin'.out 1 hcd.out (by decide) _ _ rfl (hbw'.out.alloc hbw'.out.size _)
        · have hcd := hide (show t.bad k = 4 by rw [hbad'.out, if_neg (by omega), if_pos (by omega)])
          obtain ⟨x, y, z⟩ := hw
          rcases hw2 with a | ⟨a, d⟩ | ⟨a, d, e⟩ | ⟨a, d, e, g⟩
          all_goals
            go_wp2_with fail
            go_ret2
            exact hfin'.out 4 hcd.out (by decide) _ _ rfl (hbw'.out.alloc hbw'.out.size _)
        · obtain ⟨x, y, z⟩ := hw
          obtain ⟨a, d, e, g⟩ := hw2
          by_cases h0 : 0 < k
          · obtain ⟨p1, p2, p3, p4⟩ := hprev'.out h0
            have hs : IntKind.i64.wrap (f' + q') = f' + q' := IntWalk.i64_in _ (by omega)
            have hk0 : (0 : Int) < (k : Int) := by omega
            have hk1 : IntKind.i64.wrap ((k : Int) - 1) = ((k - 1 : Nat) : Int) := by rw [IntWalk.i64_in _ (by omega)]; omega
            have hk2 : ((k - 1 : Nat) : Int) < (t.n : Int) := by omega
            have hk3 : (0 : Int) ≤ ((k - 1 : Nat) : Int) := by omega
            obtain ⟨m, hm⟩ : ∃ m, m = k - 1 := ⟨_, rfl⟩
            rw [← hm] at p1 p2 hk1 hk2 hk3
            have hm' := hide hm
            have hdk : decide (0 < k) = true := decide_eq_true h0
            have hdk2 : decide ((0 : Int) < (k : Int)) = true := decide_eq_true hk0
            clear hm
            by_cases hlo : f < f' + q'
            · have hcd := hide (show t.bad k = 3 by rw [hbad'.out, if_neg (by omega), if_neg (by omega), if_pos (by have := hm'.out; omega)])
              go_wp2_with fail
              go_quiet (fail)
              go_wp2_with fail
              go_ret2
              exact hfin'.out 3 hcd.out (by decide) _ _ rfl ((hbw'.out.alloc hbw'.out.size _).trans ((Q.drewN (Q.refl _) _).below _))
            · have hcd := hide (show t.bad k = 0 by rw [hbad'.out, if_neg (by omega), if_neg (by omega), if_neg (by omega)])
              have hd : decide (f < f' + q') = false := decide_eq_false hlo
              go_wp2_with fail
              go_quiet (fail)
              go_wp2_with fail
              go_roundw
              case rel => exact ⟨k + 1, by omega, by go_num, fun j hj => by
                rcases Nat.lt_or_eq_of_le (Nat.le_of_lt_succ hj) with h | h
                · exact hgood'.out j h
                · rw [h]; exact hcd.out, (hbw.out.alloc hbw.out.size _).trans ((Q.drewN (Q.refl _) _).below _)⟩
              case measure => simp [intOf]; omega
          · obtain rfl : k = 0 := by omega
            simp only [Nat.zero_mul, Nat.add_zero] at c0 c1 c2
            have hcd := hide (show t.bad 0 = 0 by rw [hbad'.out, if_neg (by omega), if_neg (by omega), if_neg (by omega)])
            go_wp2_with fail
            go_quiet (fail)
            go_wp2_with fail
            go_roundw
            case rel => exact ⟨1, by omega, by go_num, fun j hj => by
              obtain rfl : j = 0 := by omega
              exact hcd.out, (hbw.out.alloc hbw.out.size _).trans ((Q.drewN (Q.refl _) _).below _)⟩
            case measure => simp [intOf]; omega
      · obtain rfl : k = t.n := by omega
        go_wp2_with fail
        go_ret2
        exact ⟨_, rfl, .inl ⟨⟨hT1, hT2, hn32, hgood⟩, rfl⟩, hb0'.out.trans (hb.mono (Nat.le_of_lt hl0))⟩
end Go.Proofs.YtkcjjogekkldkaaDoor
