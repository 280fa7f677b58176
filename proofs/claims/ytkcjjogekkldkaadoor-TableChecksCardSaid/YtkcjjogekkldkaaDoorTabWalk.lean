/- table.Check walked; tables in memory. -/
import Derived.Test.YtkcjjogekkldkaaDoorTabMath
import Derived.Test.YtkcjjogekkldkaaDoorTouch
namespace Go.Proofs.YtkcjjogekkldkaaDoor
open Go.RowKit

/-- the windows of a table, as cells -/
structure Rows3 (w : World) (b off : Nat) (t : Tab) : Prop where
  lt : b < w.heap.size
  p : ∀ i, i < t.n → w.cell? ⟨b, off + i*3, none⟩ = some (.int .i64 (t.P i))
  f : ∀ i, i < t.n → w.cell? ⟨b, off + i*3 + 1, none⟩ = some (.int .i64 (t.F i))
  k : ∀ i, i < t.n → w.cell? ⟨b, off + i*3 + 2, none⟩ = some (.int .i64 (t.K i))
theorem Rows3.below {w w' : World} {b off : Nat} {t : Tab} (h : Rows3 w b off t) (hb : Below w.heap.size w w') : Rows3 w' b off t := by
  have e := fun o => hb.cell (p := ⟨b, o, none⟩) h.lt
  exact ⟨Nat.lt_of_lt_of_le h.lt hb.size, fun i hi => (e _).trans (h.p i hi), fun i hi => (e _).trans (h.f i hi), fun i hi => (e _).trans (h.k i hi)⟩
/-- a table, by value: its ticks, its windows -/
structure TabV (w : World) (A : Option Addr) (c : Nat) (t : Tab) : Prop where
  rows : 0 < t.n → ∃ b off, A = some ⟨b, off, none⟩ ∧ Rows3 w b off t
  cap : t.n ≤ c
  capI : c ≤ 9223372036854775807
  iT : I64 t.T
  iP : ∀ i, i < t.n → I64 (t.P i)
  iF : ∀ i, i < t.n → I64 (t.F i)
  iK : ∀ i, i < t.n → I64 (t.K i)
theorem TabV.below {w w' : World} {A : Option Addr} {c : Nat} {t : Tab} (h : TabV w A c t) (hb : Below w.heap.size w w') : TabV w' A c t :=
  ⟨fun hn => by obtain ⟨b, off, e, hr⟩ := h.rows hn; exact ⟨b, off, e, hr.below hb⟩, h.cap, h.capI, h.iT, h.iP, h.iF, h.iK⟩

set_option maxRecDepth 100000 in
theorem newFault_any (code at_ : Int) (hc : ¬ code = 0) (w : World) :
    Calls Tryd.prog 10 #[.int .i64 code, .int .i64 at_] w fun e w' => ∃ g, e = .returned (.iface 47 (.pointer (some ⟨g, 0, none⟩))) ∧ w.heap.size ≤ g ∧ g < w'.heap.size ∧
      w'.cell? ⟨g, 0, none⟩ = some (.int .i64 code) ∧ w'.cell? ⟨g, 1, none⟩ = some (.int .i64 at_) ∧ w'.cell? ⟨g, 2, none⟩ = some .nilIface ∧ Below w.heap.size w w' := by
  have hcb : (code == 0) = false := by simpa using hc
  clear hc
  go_enter Tryd.func10, Tryd.ntmps10
  go_wp2_with fail
  go_ret
  exact ⟨_, rfl, Nat.le_refl _, by simp, by simp [go_sem], by simp [go_sem], by simp [go_sem], (Below.refl _ _).alloc (Nat.le_refl _) _⟩

/-- the fault that Check finds: its code and its place; code 0: none -/
def Tab.endOf (t : Tab) (k : Nat) : Int := if k = 0 then 0 else t.F (k - 1) + t.K (k - 1)
/-- an error with a code and a place -/
def FaultIs (w w' : World) (v : Value) (code at_ : Int) : Prop := ∃ g, v = .iface 47 (.pointer (some ⟨g, 0, none⟩)) ∧ w.heap.size ≤ g ∧ g < w'.heap.size ∧
      w'.cell? ⟨g, 0, none⟩ = some (.int .i64 code) ∧ w'.cell? ⟨g, 1, none⟩ = some (.int .i64 at_) ∧ w'.cell? ⟨g, 2, none⟩ = some .nilIface
/-- what Check answers -/
def Tab.CheckIs (t : Tab) (w w' : World) (v : Value) : Prop :=
  (t.Ok ∧ v = .nilIface) ∨ ((t.T < 1 ∨ 256 < t.T ∨ 32 < t.n) ∧ FaultIs w w' v 1 0) ∨
  (1 ≤ t.T ∧ t.T ≤ 256 ∧ t.n ≤ 32 ∧ ∃ k, k < t.n ∧ (∀ j, j < k → t.bad j = 0) ∧ t.bad k ≠ 0 ∧ FaultIs w w' v (t.bad k) k)
/-- Check's answer, told -/
def CheckPost (t : Tab) (w : World) (e : Ending) (w' : World) : Prop := ∃ v, e = .returned v ∧ t.CheckIs w w' v ∧ Below w.heap.size w w'

set_option maxRecDepth 100000 in
set_option maxHeartbeats 2000000 in
theorem check_any (t : Tab) (A : Option Addr) (c : Nat) (w : World) (h : TabV w A c t) :
    Calls Tryd.prog 5 #[.agg #[.int .i64 t.T, .slice A t.n c]] w (CheckPost t w) := by
  have h' := hide h
  clear h
  by_cases hbad : t.T < 1 ∨ 256 < t.T ∨ 32 < t.n
  · have hbad' := hide hbad
    have key : ∀ e w', (∃ g, e = .returned (.iface 47 (.pointer (some ⟨g, 0, none⟩))) ∧ w.heap.size ≤ g ∧ g < w'.heap.size ∧
      w'.cell? ⟨g, 0, none⟩ = some (.int .i64 1) ∧ w'.cell? ⟨g, 1, none⟩ = some (.int .i64 0) ∧ w'.cell? ⟨g, 2, none⟩ = some .nilIface) → Below w.heap.size w w' → CheckPost t w e w' := by
      rintro e w' ⟨g, rfl, h1⟩ hb
      exact ⟨_, rfl, .inr (.inl ⟨hbad'.out, g, rfl, h1⟩), hb⟩
    have key' := hide key
    clear key
    have hn0 : (0 : Int) ≤ (t.n : Int) := by omega
    have parts : t.T < 1 ∨ (¬ t.T < 1 ∧ 256 < t.T) ∨ (¬ t.T < 1 ∧ ¬ 256 < t.T ∧ (32 : Int) < (t.n : Int)) := by omega
    clear hbad
    rcases parts with p | ⟨p, q⟩ | ⟨p, q, r⟩
    all_goals
      go_enter Tryd.func5, Tryd.ntmps5
      go_wp2_with fail
      refine (newFault_any 1 0 (by decide) _).mono ?_
      rintro e w1 ⟨g, rfl, h1, h2, h3, h4, h5, hb⟩
      have hk := hide (key'.out _ w1 ⟨g, rfl, by simp at h1; omega, h2, h3, h4, h5⟩ (((Below.refl _ _).alloc (Nat.le_refl _) _).trans (hb.mono (by simp))))
      clear h1 h2 h3 h4 h5 hb
      go_wp2_with fail
      go_ret
      exact hk.out
  · have hT1 : 1 ≤ t.T := by omega
    have hT2 : t.T ≤ 256 := by omega
    have hn32 : t.n ≤ 32 := by omega
    clear hbad
    go_enter Tryd.func5, Tryd.ntmps5
    go_wp2_with fail
    have hb0 : Below w.heap.size w (w.alloc (.cells #[.int .i64 t.T, .slice A t.n c] 24)) := (Below.refl _ _).alloc (Nat.le_refl _) _
    have hb0' := hide hb0
    have hl0 : w.heap.size < (w.alloc (.cells #[.int .i64 t.T, .slice A t.n c] 24)).heap.size := by simp
    have hx0 : (w.alloc (.cells #[.int .i64 t.T, .slice A t.n c] 24)).cell? ⟨w.heap.size, 0, none⟩ = some (.int .i64 t.T) := by simp [go_sem]
    have hx0' := hide hx0
    clear hb0 hx0
    generalize w.alloc (.cells #[.int .i64 t.T, .slice A t.n c] 24) = W1 at *
    go_loopw [3, 24] (fun d i wr => ∃ k : Nat, k ≤ t.n ∧ i = .int .i64 k ∧ d = .int .i64 (t.endOf k) ∧ (∀ j, j < k → t.bad j = 0) ∧ Below W1.heap.size W1 wr) (fun _ i _ => t.n - (intOf i).toNat)
    case atStart => exact ⟨0, Nat.zero_le _, rfl, rfl, fun j hj => absurd hj (Nat.not_lt_zero _), Below.refl _ _⟩
    case round =>
      obtain ⟨k, hk, rfl, rfl, hgood, hb⟩ := hrel
      by_cases hlt : k < t.n
      · obtain ⟨b, off, rfl, hr0⟩ := h'.out.rows (by omega)
        have hr := hr0.below (hb0'.out.trans (hb.mono (by omega)))
        have c0 := hr.p k hlt
        have c1 := hr.f k hlt
        have c2 := hr.k k hlt
        have i0 := h'.out.iP k hlt
        have i1 := h'.out.iF k hlt
        have i2 := h'.out.iK k hlt
        have cT : wr.cell? ⟨w.heap.size, 0, none⟩ = some (.int .i64 t.T) := (hb.cell (p := ⟨w.heap.size, 0, none⟩) hl0).trans hx0'.out
        have hbl := hr.lt
        have hws : w.heap.size < wr.heap.size := by have := hb.size; omega
        have hend : 0 ≤ t.endOf k ∧ t.endOf k ≤ t.T := by
          unfold Tab.endOf
          split
          · omega
          · have := Tab.bad_zero (hgood (k - 1) (by omega)); omega
        have hbad : t.bad k = if t.P k < 0 ∨ 8 ≤ t.P k ∨ t.K k < 1 then 1 else if t.F k < 0 ∨ t.T < t.K k ∨ t.T - t.K k < t.F k then 4 else if t.F k < t.endOf k then 3 else 0 := by
          unfold Tab.bad Tab.endOf
          split
          · rfl
          · split
            · rfl
            · by_cases h0 : k = 0
              · subst h0; rw [if_neg (by omega), if_pos rfl, if_neg (by omega)]
              · rw [if_neg h0]; simp only [show (0 < k) = True from eq_true (by omega), true_and]
        have hnext : t.endOf (k + 1) = t.F k + t.K k := by unfold Tab.endOf; rw [if_neg (by omega)]; rfl
        obtain ⟨hend1, hend2⟩ := hend
        have hgood' := hide hgood
        have hbad' := hide hbad
        have hnext' := hide hnext
        have hb' := hide (hb0'.out.trans (hb.mono (Nat.le_of_lt hl0)))
        have hbw := hide hb
        have hfin : ∀ cd, t.bad k = cd → cd ≠ 0 → ∀ e w' g, e = .returned (.iface 47 (.pointer (some ⟨g, 0, none⟩))) → wr.heap.size ≤ g → g < w'.heap.size →
            w'.cell? ⟨g, 0, none⟩ = some (.int .i64 cd) → w'.cell? ⟨g, 1, none⟩ = some (.int .i64 k) → w'.cell? ⟨g, 2, none⟩ = some .nilIface → Below wr.heap.size wr w' → CheckPost t w e w' := by
          intro cd hcd hne e w' g he h1 h2 h3 h4 h5 hbb
          refine ⟨_, he, .inr (.inr ⟨hT1, hT2, hn32, k, hlt, hgood'.out, by rw [hcd]; exact hne, g, rfl, by have := hb'.out.size; omega, h2, by rw [hcd]; exact h3, h4, h5⟩), hb'.out.trans (hbb.mono hb'.out.size)⟩
        have hfin' := hide hfin
        clear hr hr0 hgood hbad hnext hb hfin
        generalize hep : t.endOf k = ep at *
        have hep' := hide hep
        clear hep
        generalize t.P k = p at *
        generalize t.F k = f at *
        generalize t.K k = q at *
        have hkI : (k : Int) < (t.n : Int) := by omega
        obtain ⟨i1a, i1b⟩ := i1
        obtain ⟨i2a, i2b⟩ := i2
        clear i0
        have ways : (p < 0 ∨ (¬ p < 0 ∧ 8 ≤ p) ∨ (¬ p < 0 ∧ ¬ 8 ≤ p ∧ q < 1)) ∨ ((¬ p < 0 ∧ ¬ 8 ≤ p ∧ ¬ q < 1) ∧ (f < 0 ∨ (¬ f < 0 ∧ t.T < q) ∨ (¬ f < 0 ∧ ¬ t.T < q ∧ t.T - q < f))) ∨ ((¬ p < 0 ∧ ¬ 8 ≤ p ∧ ¬ q < 1) ∧ (¬ f < 0 ∧ ¬ t.T < q ∧ ¬ t.T - q < f) ∧ f < ep) ∨ ((¬ p < 0 ∧ ¬ 8 ≤ p ∧ ¬ q < 1) ∧ (¬ f < 0 ∧ ¬ t.T < q ∧ ¬ t.T - q < f) ∧ ¬ f < ep) := by omega
        rcases ways with hw | ⟨hw, hw2⟩ | ⟨hw, hw2, hw3⟩ | ⟨hw, hw2, hw3⟩
        · have hcd := hide (show t.bad k = 1 by rw [hbad'.out, if_pos (by omega)])
          rcases hw with x | ⟨x, y⟩ | ⟨x, y, z⟩
          all_goals
            go_wp2_with fail
            refine (newFault_any 1 k (by decide) _).mono ?_
            rintro e w1 ⟨g, rfl, h1, h2, h3, h4, h5, hb⟩
            have hk := hide (hfin'.out 1 hcd.out (by decide) _ w1 g rfl (by simp at h1; omega) h2 h3 h4 h5 (((Below.refl _ _).alloc (Nat.le_refl _) _).trans (hb.mono (by simp))))
            clear h1 h2 h3 h4 h5 hb
            go_wp2_with fail
            go_ret
            exact hk.out
        · have hcd := hide (show t.bad k = 4 by rw [hbad'.out, if_neg (by omega), if_pos (by omega)])
          obtain ⟨x, y, z⟩ := hw
          rcases hw2 with a | ⟨a, b⟩ | ⟨a, b, e⟩
          all_goals
            go_wp2_with fail
            refine (newFault_any 4 k (by decide) _).mono ?_
            rintro e w1 ⟨g, rfl, h1, h2, h3, h4, h5, hb⟩
            have hk := hide (hfin'.out 4 hcd.out (by decide) _ w1 g rfl (by simp at h1; omega) h2 h3 h4 h5 (((Below.refl _ _).alloc (Nat.le_refl _) _).trans (hb.mono (by simp))))
            clear h1 h2 h3 h4 h5 hb
            go_wp2_with fail
            go_ret
            exact hk.out
        · have hcd := hide (show t.bad k = 3 by rw [hbad'.out, if_neg (by omega), if_neg (by omega), if_pos hw3])
          obtain ⟨x, y, z⟩ := hw
          obtain ⟨a, b, e⟩ := hw2
          go_wp2_with fail
          refine (newFault_any 3 k (by decide) _).mono ?_
          rintro e w1 ⟨g, rfl, h1, h2, h3, h4, h5, hb⟩
          have hk := hide (hfin'.out 3 hcd.out (by decide) _ w1 g rfl (by simp at h1; omega) h2 h3 h4 h5 (((Below.refl _ _).alloc (Nat.le_refl _) _).trans (hb.mono (by simp))))
          clear h1 h2 h3 h4 h5 hb
          go_wp2_with fail
          go_ret
          exact hk.out
        · have hcd := hide (show t.bad k = 0 by rw [hbad'.out, if_neg (by omega), if_neg (by omega), if_neg hw3])
          obtain ⟨x, y, z⟩ := hw
          obtain ⟨a, b, e⟩ := hw2
          go_wp2_with fail
          go_roundw
          case rel => exact ⟨k + 1, by omega, by go_num, by rw [hnext'.out], fun j hj => by
            rcases Nat.lt_or_eq_of_le (Nat.le_of_lt_succ hj) with h | h
            · exact hgood'.out j h
            · rw [h]; exact hcd.out, hbw.out.alloc hbw.out.size _⟩
          case measure => simp [intOf]; omega
      · obtain rfl : k = t.n := by omega
        go_wp2_with fail
        go_ret
        exact ⟨_, rfl, .inl ⟨⟨hT1, hT2, hn32, hgood⟩, rfl⟩, hb0'.out.trans (hb.mono (Nat.le_of_lt hl0))⟩
end Go.Proofs.YtkcjjogekkldkaaDoor
