/- The law DiskArmed: two disks that go alike. Plain. -/
import Derived.Test.YtamkngpkplflcaaDiskActs
namespace Go.Proofs.Ytamkngpkplflcaa
open Go.RowKit

structure AInv (keep : List Bool) (d x : Dk) (left : Int) : Prop where
  n : d.n = 4
  xn : x.n = 4
  has : d.has = x.has
  wt : d.waits = x.waits
  off : d.off = x.off
  xa : x.armed = false
  lo : 0 ≤ left ∧ left ≤ 30
  on : d.off = false → d.armed = true ∧ d.left = left ∧ d.surv = keep
theorem goes_n (d : Dk) : d.goes.1.n = d.n := by unfold Dk.goes Dk.crash; (repeat' split) <;> rfl
theorem goes_w (d : Dk) : d.goes.1.waits.length ≤ d.waits.length := by unfold Dk.goes Dk.crash; (repeat' split) <;> simp
theorem write_w (d : Dk) (at_ : Int) (b : List UInt8) : (d.write at_ b).1.waits.length ≤ d.waits.length + 1 := by
  have := goes_w d
  unfold Dk.write
  (repeat' split) <;> simp <;> omega
theorem flush_w (d : Dk) : d.flush.1.waits.length ≤ d.waits.length := by
  have := goes_w d
  unfold Dk.flush
  (repeat' split) <;> simp <;> omega
theorem crash_w (d : Dk) (l : List Bool) : (d.crash l).waits.length ≤ d.waits.length := by unfold Dk.crash; split <;> simp
/-- what goes of both, the other one crashed ahead where nothing is left -/
theorem AInv.goes {keep : List Bool} {d x : Dk} {left : Int} (h : AInv keep d x left) : AInv keep d.goes.1 (if left = 0 then x.crash keep else x).goes.1 (if d.goes.2 then left - 1 else left) ∧ d.goes.2 = (if left = 0 then x.crash keep else x).goes.2 := by
  obtain ⟨h1, h2, h3, h4, h5, h6, h7, h8⟩ := h
  by_cases ho : d.off = true
  · have hx : x.off = true := by rw [← h5]; exact ho
    have e1 : d.goes = (d, false) := by unfold Dk.goes; rw [if_pos ho]
    have e2 : x.crash keep = x := by unfold Dk.crash; rw [if_pos hx]
    have e3 : x.goes = (x, false) := by unfold Dk.goes; rw [if_pos hx]
    rw [e2]
    simp only [ite_self, e1, e3]
    exact ⟨⟨h1, h2, h3, h4, h5, h6, h7, h8⟩, trivial⟩
  · have hof : d.off = false := by simpa using ho
    have hxo : x.off = false := by rw [← h5]; exact hof
    obtain ⟨k1, k2, k3⟩ := h8 hof
    by_cases hl : left = 0
    · have e1 : d.goes = (d.crash d.surv, false) := by unfold Dk.goes; rw [if_neg ho, if_neg (by simp [k1]), if_neg (by omega)]
      have e2 : (x.crash keep).goes = (x.crash keep, false) := by unfold Dk.goes; rw [if_pos (by simp [Dk.crash, hxo])]
      rw [if_pos hl, e1, e2]
      refine ⟨⟨?_, ?_, ?_, ?_, ?_, ?_, h7, ?_⟩, rfl⟩
      all_goals simp [Dk.crash, hof, hxo, h1, h2, h3, h4, k3]
    · have e1 : d.goes = ({ d with left := d.left - 1 }, true) := by unfold Dk.goes; rw [if_neg ho, if_neg (by simp [k1]), if_pos (by omega)]
      have e2 : x.goes = (x, true) := by unfold Dk.goes; rw [if_neg (by simp [hxo]), if_pos h6]
      rw [if_neg hl, e1, e2]
      exact ⟨⟨h1, h2, h3, h4, h5, h6, by simp; omega, fun _ => ⟨k1, by simp [k2], k3⟩⟩, rfl⟩
theorem AInv.flush {keep : List Bool} {d x : Dk} {left : Int} (h : AInv keep d x left) : AInv keep d.flush.1 (if left = 0 then x.crash keep else x).flush.1 (if d.flush.2 = 0 then left - 1 else left) ∧ d.flush.2 = (if left = 0 then x.crash keep else x).flush.2 := by
  obtain ⟨hi, he⟩ := h.goes
  unfold Dk.flush
  rw [← he]
  cases hg : d.goes.2
  · rw [hg] at hi
    simpa using hi
  · rw [hg] at hi
    obtain ⟨h1, h2, h3, h4, h5, h6, h7, h8⟩ := hi
    simp only [if_true]
    refine ⟨⟨h1, h2, ?_, rfl, h5, h6, h7, h8⟩, trivial⟩
    simp only [h3, h4]
theorem AInv.write {keep : List Bool} {d x : Dk} {left : Int} (h : AInv keep d x left) (at_ : Int) (b : List UInt8) (hb : b.length = 64) :
    AInv keep (d.write at_ b).1 ((if left = 0 ∧ 0 ≤ at_ ∧ at_ < 4 then x.crash keep else x).write at_ b).1 (if (d.write at_ b).2 = 0 then left - 1 else left) ∧ (d.write at_ b).2 = ((if left = 0 ∧ 0 ≤ at_ ∧ at_ < 4 then x.crash keep else x).write at_ b).2 := by
  by_cases hat : 0 ≤ at_ ∧ at_ < 4
  · have e : (if left = 0 ∧ 0 ≤ at_ ∧ at_ < 4 then x.crash keep else x) = if left = 0 then x.crash keep else x := by simp [hat]
    rw [e]
    obtain ⟨hi, he⟩ := h.goes
    have hn : (if left = 0 then x.crash keep else x).n = 4 := by split; (unfold Dk.crash; split <;> exact h.xn); exact h.xn
    have w1 : ¬ ¬ (0 ≤ at_ ∧ at_ < (d.n : Int)) := by rw [h.n]; simpa using hat
    have w2 : ¬ ¬ (0 ≤ at_ ∧ at_ < ((if left = 0 then x.crash keep else x).n : Int)) := by rw [hn]; simpa using hat
    have w3 : ¬ b.length ≠ 64 := by simp [hb]
    unfold Dk.write
    rw [if_neg w1, if_neg w2, if_neg w3, if_neg w3, ← he]
    cases hg : d.goes.2
    · rw [hg] at hi
      simpa using hi
    · rw [hg] at hi
      obtain ⟨h1, h2, h3, h4, h5, h6, h7, h8⟩ := hi
      simp only [if_true]
      exact ⟨⟨h1, h2, h3, by simp only [h4], h5, h6, h7, h8⟩, trivial⟩
  · have e : (if left = 0 ∧ 0 ≤ at_ ∧ at_ < 4 then x.crash keep else x) = x := if_neg (by intro k; exact hat k.2)
    rw [e]
    have w1 : ¬ (0 ≤ at_ ∧ at_ < (d.n : Int)) := by rw [h.n]; exact hat
    have w2 : ¬ (0 ≤ at_ ∧ at_ < (x.n : Int)) := by rw [h.xn]; exact hat
    unfold Dk.write
    rw [if_pos w1, if_pos w2]
    exact ⟨by simpa using h, rfl⟩

theorem ainv0 (left : Int) (keep : List Bool) (h : 0 ≤ left ∧ left ≤ 30) : AInv keep ((newDk 4).arm left keep) (newDk 4) left :=
  ⟨rfl, rfl, rfl, rfl, rfl, rfl, h, fun _ => ⟨decide_eq_true h.1, rfl, rfl⟩⟩
theorem later_false' {F : Nat → Prop} {w w' : World} (h : Later (fun _ => False) w w') : Later F w w' := ⟨h.1, fun k hk _ => h.2 k hk (fun h => h)⟩
theorem later_mono {F G : Nat → Prop} {w w' : World} (h : Later F w w') (hG : ∀ k, F k → G k) : Later G w w' := ⟨h.1, fun k hk hg => h.2 k hk (fun e => hg (hG k e))⟩
def ARel (w : World) (gd gx : Nat) (keep : List Bool) (k : Nat) (lv : Value) (wr : World) : Prop :=
  ∃ d x left, lv = .int .i64 left ∧ AInv keep d x left ∧ Two w.heap.size wr gd gx d x ∧ d.waits.length ≤ k ∧ Below w.heap.size w wr
end Go.Proofs.Ytamkngpkplflcaa
