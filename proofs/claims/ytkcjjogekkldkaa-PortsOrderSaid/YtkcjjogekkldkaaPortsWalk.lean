/- ports: a channel in memory, and what its functions do with it. -/
import Derived.Test.YtkcjjogekkldkaaTouch
import Derived.Deep.WholeRow
namespace Go.Proofs.Ytkcjjogekkldkaa
open Go.RowKit

/-- the zero cells of a type that is a struct or an array -/
def zeroCells (P : Program) (t : TypeId) : Array Value := match P.info? t with
  | some i => (match i.zero with | some (.agg c) => c | _ => #[])
  | none => #[]
theorem zero_run {P : Program} {t : TypeId} {n : Nat} (h : (match P.info? t with | some i => (match i.zero with | some (.agg c) => decide (c.size = n) | _ => false) | none => false) = true) :
    (∀ w, (zeroValue t).run P w = .ok (.agg (zeroCells P t)) w) ∧ (zeroCells P t).size = n := by
  unfold zeroCells
  cases hq : P.info? t with
  | none => simp [hq] at h
  | some i =>
    cases hz : i.zero with
    | none => simp [hq, hz] at h
    | some v =>
      cases v <;> simp [hq, hz] at h
      rename_i c
      refine ⟨fun w => ?_, by simpa [hz] using h⟩
      have := (zero_of_info (P := P) (t := t) (v := .agg c) (n := i.size) (by simp [hq, hz])).1
      simpa [hz] using this w
theorem zChan : (∀ w, (zeroValue 83).run Try.prog w = .ok (.agg (zeroCells Try.prog 83)) w) ∧ (zeroCells Try.prog 83).size = 1062 := zero_run (by kernel_rfl)
theorem zMsg : (∀ w, (zeroValue 80).run Try.prog w = .ok (.agg (zeroCells Try.prog 80)) w) ∧ (zeroCells Try.prog 80).size = 66 := zero_run (by kernel_rfl)

theorem zChanOne : (zeroCells Try.prog 83).toList.all (·.oneCell') = true := by kernel_rfl
theorem zMsgOne : (zeroCells Try.prog 80).toList = List.replicate 64 (.int .u8 0) ++ [.int .i64 0, .int .u64 0] := by kernel_rfl

structure Msg where
  b : List UInt8
  at_ : Nat
structure Chan where
  kind : Int
  most : Int
  size : Int
  first : Nat
  L : List Msg
  lost : Nat
def msgV (m : Msg) : List Value := bytesV m.b ++ List.replicate (64 - m.b.length) (.int .u8 0) ++ [.int .i64 m.b.length, .int .u64 m.at_]
theorem msgV_length (m : Msg) (h : m.b.length ≤ 64) : (msgV m).length = 66 := by simp [msgV, bytesV_length]; omega
def ChanOk (k m s : Int) : Prop := 0 ≤ s ∧ s ≤ 64 ∧ (k = 0 ∧ m = 1 ∨ (k = 1 ∨ k = 2) ∧ 1 ≤ m ∧ m ≤ 16)
structure Chan.Ok (c : Chan) : Prop where
  shape : ChanOk c.kind c.most c.size
  first : c.first < 16
  lost : c.lost < 18446744073709551616
  len : (c.L.length : Int) ≤ c.most
  msg : ∀ m ∈ c.L, (m.b.length : Int) ≤ c.size ∧ m.at_ < 18446744073709551616
structure ChanAt (w : World) (g : Nat) (c : Chan) : Prop where
  lt : g < w.heap.size
  cells : ∀ j, j < 1062 → ∃ v, w.cell? ⟨g, j, none⟩ = some v ∧ v.oneCell' = true
  thaw : ∀ j, w.frozen? ⟨g, j, none⟩ = false
  kind : w.cell? ⟨g, 0, none⟩ = some (.int .i64 c.kind)
  most : w.cell? ⟨g, 1, none⟩ = some (.int .i64 c.most)
  size : w.cell? ⟨g, 2, none⟩ = some (.int .i64 c.size)
  first : w.cell? ⟨g, 1059, none⟩ = some (.int .i64 c.first)
  n : w.cell? ⟨g, 1060, none⟩ = some (.int .i64 c.L.length)
  lost : w.cell? ⟨g, 1061, none⟩ = some (.int .u64 c.lost)
  msgs : ∀ q (h : q < c.L.length), w.rangeAt g (3 + 66 * ((c.first + q) % 16)) (msgV c.L[q])
  ok : c.Ok

theorem ChanAt.later {F : Nat → Prop} {w w' : World} {g : Nat} {c : Chan} (h : ChanAt w g c) (hl : Later F w w') (hF : ¬ F g) : ChanAt w' g c := by
  have e := fun o => Later.cell hl (o := o) h.lt hF
  refine ⟨Nat.lt_of_lt_of_le h.lt hl.1, fun j hj => ?_, fun j => ?_, ?_, ?_, ?_, ?_, ?_, ?_, fun q hq j v hv => ?_, h.ok⟩
  · rw [(e j).1]; exact h.cells j hj
  · rw [(e j).2]; exact h.thaw j
  · rw [(e _).1]; exact h.kind
  · rw [(e _).1]; exact h.most
  · rw [(e _).1]; exact h.size
  · rw [(e _).1]; exact h.first
  · rw [(e _).1]; exact h.n
  · rw [(e _).1]; exact h.lost
  · rw [(e _).1]; exact h.msgs q hq j v hv

def newC (k m s : Int) : Chan := ⟨k, m, s, 0, [], 0⟩

theorem chan_new (k m s : Int) (hok : ChanOk k m s) (w : World) (Z : Array Value) (hzs : Z.size = 1062) (hone : Z.toList.all (·.oneCell') = true) (h1 : Z.toList[1059]? = some (.int .i64 0)) (h2 : Z.toList[1060]? = some (.int .i64 0)) (h3 : Z.toList[1061]? = some (.int .u64 0)) (T : TypeId) :
    ChanAt (w.alloc (.cells (((Z.setIfInBounds 0 (.int .i64 k)).setIfInBounds 1 (.int .i64 m)).setIfInBounds 2 (.int .i64 s)) T)) w.heap.size (newC k m s) := by
  have hc : ∀ j, (w.alloc (.cells (((Z.setIfInBounds 0 (.int .i64 k)).setIfInBounds 1 (.int .i64 m)).setIfInBounds 2 (.int .i64 s)) T)).cell? ⟨w.heap.size, j, none⟩ = (((Z.setIfInBounds 0 (.int .i64 k)).setIfInBounds 1 (.int .i64 m)).setIfInBounds 2 (.int .i64 s))[j]? := fun j => cell_of_row _ _ j _ T (0, 0) (heap_alloc_last w _)
  refine ⟨by simp, fun j hj => ?_, fun j => ?_, ?_, ?_, ?_, ?_, ?_, ?_, fun q hq => absurd hq (Nat.not_lt_zero _), ⟨hok, by simp [newC], by simp [newC], ?_, fun m hm => by simp [newC] at hm⟩⟩
  · rw [hc]
    by_cases e2 : j = 2
    · subst e2; exact ⟨_, by simp [hzs]; rfl, rfl⟩
    by_cases e1 : j = 1
    · subst e1; exact ⟨_, by simp [hzs]; rfl, rfl⟩
    by_cases e0 : j = 0
    · subst e0; exact ⟨_, by simp [hzs]; rfl, rfl⟩
    rw [Array.getElem?_setIfInBounds_ne (by omega), Array.getElem?_setIfInBounds_ne (by omega), Array.getElem?_setIfInBounds_ne (by omega), Array.getElem?_eq_getElem (by omega)]
    exact ⟨_, rfl, (List.all_eq_true.1 hone) _ (Array.getElem_mem_toList (by omega))⟩
  · exact frozen_of_row _ _ j _ T (heap_alloc_last w _)
  all_goals try rw [hc]
  · simp [hzs, newC]
  · simp [hzs, newC]
  · simp [hzs, newC]
  · rw [← Array.getElem?_toList]; simp [newC, h1]
  · rw [← Array.getElem?_toList]; simp [newC, h2]
  · rw [← Array.getElem?_toList]; simp [newC, h3]
  · obtain ⟨_, _, h⟩ := hok
    show (0 : Int) ≤ m
    omega

set_option maxRecDepth 100000 in
theorem new_ok (k m s : Int) (w : World) (h : ChanOk k m s) :
    Calls Try.prog 12 #[.int .i64 k, .int .i64 m, .int .i64 s] w fun e w' => ∃ g, e = .returned (.tuple #[.pointer (some ⟨g, 0, none⟩), .int .i64 0]) ∧ w.heap.size ≤ g ∧ ChanAt w' g (newC k m s) ∧ Below w.heap.size w w' := by
  have hok := hide h
  obtain ⟨h1, h2, h3⟩ := h
  obtain ⟨hz, hzs⟩ := zChan
  have hone := hide zChanOne
  have hc1 := hide (show (zeroCells Try.prog 83).toList[1059]? = some (.int .i64 0) by kernel_rfl)
  have hc2 := hide (show (zeroCells Try.prog 83).toList[1060]? = some (.int .i64 0) by kernel_rfl)
  have hc3 := hide (show (zeroCells Try.prog 83).toList[1061]? = some (.int .u64 0) by kernel_rfl)
  generalize zeroCells Try.prog 83 = Z at *
  have hz0 : ¬ Z = #[] := by intro e; rw [e] at hzs; simp at hzs
  rcases h3 with ⟨rfl, rfl⟩ | ⟨rfl | rfl, h3, h4⟩
  all_goals
    go_enter Try.func12, Try.ntmps12
    go_wp2_with fail
    go_ret2
    exact ⟨_, rfl, Nat.le_refl _, chan_new _ _ _ hok.out w Z hzs hone.out hc1.out hc2.out hc3.out _, (Below.refl _ _).alloc (Nat.le_refl _) _⟩
end Go.Proofs.Ytkcjjogekkldkaa
