/- The disk and the document's disk: alike, whatever is done. -/
import Derived.Test.YtamkngpkplflcaaDiskFlushes
import Derived.Test.YtamkngpkplflcaaExtConf
namespace Go.Proofs.Ytamkngpkplflcaa
open Go.RowKit

/-- a disk that is not armed is the document's -/
structure Sim (d : Dk) (r : Rk) : Prop where
  ok : d.Ok
  n : r.has.length = d.n
  l : ∀ b ∈ r.has, b.length = 64
  has : r.has.flatten = d.has
  w : r.waits = d.waits
  off : r.off = d.off
  arm : d.armed = false
  left : r.left = -1
theorem Sim.rok {d : Dk} {r : Rk} (h : Sim d r) (hw : d.waits.length ≤ 1000000) : r.Ok := ⟨by rw [h.n]; exact h.ok.n2, fun w hw => by rw [h.w] at hw; rw [h.n]; exact (h.ok.wt w hw).1, by rw [h.w]; exact hw⟩
theorem Sim.rl {d : Dk} {r : Rk} (h : Sim d r) : I64 r.left := by rw [h.left]; unfold I64; omega
theorem flat_all (l : List (List UInt8)) (hl : ∀ b ∈ l, b.length = 64) : l.flatten.length = 64 * l.length := by
  have := flat_length l hl l.length (Nat.le_refl _)
  rwa [List.take_length] at this
theorem flat_set (l : List (List UInt8)) (hl : ∀ b ∈ l, b.length = 64) (s : Nat) (hs : s < l.length) (b : List UInt8) (hb : b.length = 64) : (l.set s b).flatten = lay l.flatten ⟨s, b⟩ := by
  have h1 := flat_length l hl s (by omega)
  have e : l.flatten = (l.take s).flatten ++ (l[s] ++ (l.drop (s + 1)).flatten) := by
    conv => lhs; rw [← List.take_append_drop s l, List.drop_eq_getElem_cons hs]
    rw [List.flatten_append, List.flatten_cons]
  have h2 : (l[s]).length = 64 := hl _ (List.getElem_mem hs)
  have eL : (l.set s b).flatten = (l.take s).flatten ++ (b ++ (l.drop (s + 1)).flatten) := by
    rw [List.set_eq_take_append_cons_drop, if_pos hs, List.flatten_append, List.flatten_cons]
  show _ = l.flatten.take (64 * s) ++ b ++ l.flatten.drop (64 * s + b.length)
  rw [eL, e]
  generalize (l.take s).flatten = P at *
  generalize (l.drop (s + 1)).flatten = T at *
  generalize l[s] = c at *
  rw [hb, List.take_append_of_le_length (by omega), List.take_of_length_le (by omega), List.append_assoc]
  congr 2
  rw [List.drop_append, List.drop_of_length_le (by omega), List.nil_append, List.drop_append, List.drop_of_length_le (by omega), List.nil_append, h1, h2, show 64 * s + 64 - 64 * s - 64 = 0 by omega, List.drop_zero]
theorem flat_sec (l : List (List UInt8)) (hl : ∀ b ∈ l, b.length = 64) (s : Nat) (hs : s < l.length) : secAt l.flatten s = l[s] := by
  have h1 := flat_length l hl s (by omega)
  have e : l.flatten = (l.take s).flatten ++ (l[s] ++ (l.drop (s + 1)).flatten) := by
    conv => lhs; rw [← List.take_append_drop s l, List.drop_eq_getElem_cons hs]
    rw [List.flatten_append, List.flatten_cons]
  have h2 : (l[s]).length = 64 := hl _ (List.getElem_mem hs)
  unfold secAt
  rw [e, List.drop_append, List.drop_of_length_le (by omega), List.nil_append, h1, Nat.sub_self, List.drop_zero, List.take_append_of_le_length (by omega), List.take_of_length_le (by omega)]
theorem rlayN_l (has : List (List UInt8)) (keep : Nat → Bool) (ws : List Wt) (hl : ∀ b ∈ has, b.length = 64) (hw : ∀ w ∈ ws, w.b.length = 64) : ∀ k, k ≤ ws.length → ∀ b ∈ rlayN has keep ws k, b.length = 64
  | 0, _ => hl
  | k + 1, hk => by
    have hg : ws.getD k ⟨0, []⟩ = ws[k]'(by omega) := by simp [List.getD, List.getElem?_eq_getElem (show k < ws.length by omega)]
    intro b hb
    unfold rlayN at hb
    split at hb
    · rcases List.mem_or_eq_of_mem_set hb with h | h
      · exact rlayN_l has keep ws hl hw k (by omega) b h
      · rw [h, hg]; exact hw _ (List.getElem_mem _)
    · exact rlayN_l has keep ws hl hw k (by omega) b hb
theorem sim_laid (has : List (List UInt8)) (keep : Nat → Bool) (ws : List Wt) (hl : ∀ b ∈ has, b.length = 64) (hw : ∀ w ∈ ws, w.s < has.length ∧ w.b.length = 64) : ∀ k, k ≤ ws.length → (rlayN has keep ws k).flatten = layN has.flatten keep ws k
  | 0, _ => rfl
  | k + 1, hk => by
    have hg : ws.getD k ⟨0, []⟩ = ws[k]'(by omega) := by simp [List.getD, List.getElem?_eq_getElem (show k < ws.length by omega)]
    have hw' := hw _ (List.getElem_mem (show k < ws.length by omega))
    have ih := sim_laid has keep ws hl hw k (by omega)
    unfold rlayN layN
    split
    · rw [hg, flat_set _ (rlayN_l has keep ws hl (fun w h => (hw w h).2) k (by omega)) _ (by rw [rlayN_length]; exact hw'.1) _ hw'.2, ih]
    · exact ih
theorem rread_sim (has : List (List UInt8)) (ws : List Wt) (s : Nat) (hl : ∀ b ∈ has, b.length = 64) (hs : s < has.length) : ∀ k, rread has ws s k = readN s (secAt has.flatten s) ws k
  | 0 => by
    show has.getD s [] = secAt has.flatten s
    rw [flat_sec has hl s hs]
    simp [List.getD, List.getElem?_eq_getElem hs]
  | k + 1 => by
    unfold rread readN
    rw [rread_sim has ws s hl hs k]
theorem Sim.read {d : Dk} {r : Rk} (h : Sim d r) (a : Int) : r.read a = d.reads a := by
  unfold Rk.read Dk.reads
  rw [h.n, h.off]
  by_cases ha : a < 0 ∨ (d.n : Int) ≤ a
  · rw [if_pos ha, if_pos (show ¬ (0 ≤ a ∧ a < (d.n : Int)) by omega)]
  · rw [if_neg ha, if_neg (show ¬ ¬ (0 ≤ a ∧ a < (d.n : Int)) by omega)]
    cases d.off
    · simp only [Bool.false_eq_true, if_false]
      obtain ⟨s, rfl⟩ : ∃ s : Nat, a = (s : Int) := ⟨a.toNat, by omega⟩
      rw [Int.toNat_natCast, rread_sim r.has r.waits s h.l (by rw [h.n]; omega), h.has, h.w]
      rfl
    · rfl
theorem Sim.keep {d : Dk} {r : Rk} (h : Sim d r) (keep keep' : Nat → Bool) (hk : ∀ i, keep i = keep' i) : (rlayN r.has keep r.waits r.waits.length).flatten = layN d.has keep' d.waits d.waits.length := by
  obtain rfl : keep = keep' := funext hk
  rw [sim_laid r.has keep r.waits h.l (fun w hw => by rw [h.w] at hw; rw [h.n]; exact h.ok.wt w hw) _ (Nat.le_refl _), h.has, h.w]
theorem Sim.laidL {d : Dk} {r : Rk} (h : Sim d r) (keep : Nat → Bool) : ∀ b ∈ rlayN r.has keep r.waits r.waits.length, b.length = 64 :=
  rlayN_l r.has keep r.waits h.l (fun w hw => by rw [h.w] at hw; exact (h.ok.wt w hw).2) _ (Nat.le_refl _)
theorem crash_ok' {d : Dk} (h : d.Ok) (l : List Bool) : (d.crash l).Ok := by
  unfold Dk.crash
  split
  · exact h
  · exact ⟨h.n1, h.n2, layN_length d.has _ d.waits d.n h.len h.wt _ (Nat.le_refl _), fun w hw => absurd hw (by simp), h.left⟩
theorem Sim.crash {d : Dk} {r : Rk} (h : Sim d r) (l : List Bool) : Sim (d.crash l) (r.crash l) := by
  have ok := crash_ok' h.ok l
  unfold Dk.crash Rk.crash Rk.laid at *
  rw [h.off]
  cases ho : d.off
  · rw [ho] at ok
    simp only [Bool.false_eq_true, if_false] at ok ⊢
    exact ⟨ok, (rlayN_length _ _ _ _).trans h.n, h.laidL _, h.keep _ _ (fun i => by unfold rkeep; rfl), rfl, rfl, rfl, rfl⟩
  · simp only [if_true]
    exact ⟨h.ok, h.n, h.l, h.has, h.w, h.off.trans rfl, h.arm, h.left⟩
theorem Sim.power {d : Dk} {r : Rk} (h : Sim d r) : Sim d.power r.power :=
  ⟨⟨h.ok.n1, h.ok.n2, h.ok.len, fun w hw => absurd hw (by simp [Dk.power]), h.ok.left⟩, h.n, h.l, h.has, rfl, rfl, rfl, rfl⟩
theorem Sim.goes {d : Dk} {r : Rk} (h : Sim d r) : d.goes = (d, !d.off) ∧ r.step = (r, !d.off) := by
  unfold Dk.goes Rk.step
  rw [h.off, h.arm, h.left]
  cases d.off <;> simp
theorem Sim.flush {d : Dk} {r : Rk} (h : Sim d r) : r.flush.2 = d.flush.2 ∧ Sim d.flush.1 r.flush.1 := by
  obtain ⟨g1, g2⟩ := h.goes
  unfold Dk.flush Rk.flush
  rw [g1, g2]
  cases ho : d.off
  · refine ⟨rfl, ⟨⟨h.ok.n1, h.ok.n2, layN_length d.has _ d.waits d.n h.ok.len h.ok.wt _ (Nat.le_refl _), fun w hw => absurd hw (by simp), h.ok.left⟩, (rlayN_length _ _ _ _).trans h.n, h.laidL _, h.keep _ _ (fun i => rfl), rfl, h.off, h.arm, h.left⟩⟩
  · exact ⟨rfl, h⟩
theorem Sim.write {d : Dk} {r : Rk} (h : Sim d r) (a : Int) (b : List UInt8) : (r.write a b).2 = (d.write a b).2 ∧ Sim (d.write a b).1 (r.write a b).1 := by
  obtain ⟨g1, g2⟩ := h.goes
  unfold Dk.write Rk.write
  rw [g1, g2, h.n]
  by_cases ha : a < 0 ∨ (d.n : Int) ≤ a
  · rw [if_pos ha, if_pos (show ¬ (0 ≤ a ∧ a < (d.n : Int)) by omega)]; exact ⟨rfl, h⟩
  · rw [if_neg ha, if_neg (show ¬ ¬ (0 ≤ a ∧ a < (d.n : Int)) by omega)]
    by_cases hb : b.length = 64
    · rw [if_neg (show ¬ b.length ≠ 64 by simpa using hb), if_neg (show ¬ b.length ≠ 64 by simpa using hb)]
      cases ho : d.off
      · refine ⟨rfl, ⟨⟨h.ok.n1, h.ok.n2, h.ok.len, fun w hw => ?_, h.ok.left⟩, h.n, h.l, h.has, ?_, h.off, h.arm, h.left⟩⟩
        · rcases List.mem_append.1 hw with hw | hw
          · exact h.ok.wt w hw
          · simp only [List.mem_cons, List.not_mem_nil, or_false] at hw
            subst hw
            exact ⟨by show a.toNat < d.n; omega, hb⟩
        · show r.waits ++ _ = d.waits ++ _
          rw [h.w]
      · exact ⟨rfl, h⟩
    · rw [if_pos (show b.length ≠ 64 from hb), if_pos (show b.length ≠ 64 from hb)]; exact ⟨rfl, h⟩
theorem Sim.new (n : Nat) (h1 : 1 ≤ n) (h2 : n ≤ 256) : Sim (newDk n) (newRk n) :=
  ⟨⟨h1, h2, by simp [newDk], fun w hw => absurd hw (by simp [newDk]), by constructor <;> simp [newDk]⟩, by simp [newDk, newRk], fun b hb => by rw [(List.mem_replicate.1 hb).2]; simp, by show (List.replicate n (List.replicate 64 (0 : UInt8))).flatten = List.replicate (64 * n) 0; rw [List.flatten_replicate_replicate, Nat.mul_comm], rfl, rfl, rfl, rfl⟩
theorem flush_waits (d : Dk) : d.flush.1.waits.length ≤ d.waits.length := by unfold Dk.flush Dk.goes Dk.crash; (repeat' split) <;> simp
theorem write_waits (d : Dk) (a : Int) (b : List UInt8) : (d.write a b).1.waits.length ≤ d.waits.length + 1 := by unfold Dk.write Dk.goes Dk.crash; (repeat' split) <;> simp
theorem crash_waits (d : Dk) (l : List Bool) : (d.crash l).waits.length ≤ d.waits.length := by unfold Dk.crash; split <;> simp
end Go.Proofs.Ytamkngpkplflcaa
