/- The document's disk: Image walked. -/
import Derived.Test.YtamkngpkplflcaaRefDisk8
namespace Go.Proofs.Ytamkngpkplflcaa
open Go.RowKit

theorem flat_succ (l : List (List UInt8)) (k : Nat) (h : k < l.length) : (l.take (k + 1)).flatten = (l.take k).flatten ++ l[k] := by
  rw [List.take_succ_eq_append_getElem h, List.flatten_append]; simp
theorem flat_length (l : List (List UInt8)) (hl : ∀ b ∈ l, b.length = 64) : ∀ k, k ≤ l.length → (l.take k).flatten.length = 64 * k := by
  intro k
  induction k with
  | zero => intro _; rfl
  | succ k ih =>
    intro hk
    rw [flat_succ l k hk, List.length_append, ih (by omega), hl _ (List.getElem_mem _)]
    omega
set_option maxRecDepth 100000 in
set_option maxHeartbeats 1000000 in
theorem rimage_any (B : Nat → Prop) (v : Value) (r : Rk) (w : World) (h : RkAt w B v r) (ok : r.Ok) (hl : ∀ b ∈ r.has, b.length = 64) :
    Calls Try.prog 42 #[v] w fun e w' => e = .returned (.string ⟨r.has.flatten.toArray⟩) ∧ Below w.heap.size w w' := by
  obtain ⟨A1, c1, A2, c2, A3, c3, rfl, h1, _⟩ := h
  obtain ⟨A, c, e, hcap, _, _, hc1⟩ := h1
  injection e with e1 _ e3
  subst e1 e3
  have hc1' := hide hc1
  have hn := ok.n
  have hl' := hide hl
  clear hc1 ok hl
  go_enter Try.func42, Try.ntmps42
  go_upto_region 1 with (fail)
  generalize ho : r.off = o at *
  clear ho
  have hX1 := RBox.new w 71 (.slice A1 r.has.length c1) (.slice A2 r.waits.length c2) (.bool o) (.int .i64 r.left) (.slice A3 r.surv.length c3)
  have hbA : Below w.heap.size w (w.alloc (.cells #[.slice A1 r.has.length c1, .slice A2 r.waits.length c2, .bool o, .int .i64 r.left, .slice A3 r.surv.length c3] 71)) := (Below.refl _ _).alloc (Nat.le_refl _) _
  generalize w.alloc (.cells #[.slice A1 r.has.length c1, .slice A2 r.waits.length c2, .bool o, .int .i64 r.left, .slice A3 r.surv.length c3] 71) = wa at *
  obtain ⟨bx, hbx⟩ : ∃ bx, bx = w.heap.size := ⟨_, rfl⟩
  rw [← hbx] at hX1 ⊢
  have hbx' := hide hbx
  have hbA' := hide hbA
  have y0 := hX1.c0
  clear hbx hbA hX1
  go_wp2_with fail
  go_loopw [3, 4] (fun s i wr => ∃ k : Nat, k ≤ r.has.length ∧ i = .int .i64 k ∧ s = .string ⟨((r.has.take k).flatten).toArray⟩ ∧ wr = wa) (fun _ i _ => r.has.length - (intOf i).toNat)
  case atStart => exact ⟨0, by omega, rfl, rfl, rfl⟩
  case round =>
    obtain ⟨k, hk, rfl, rfl, rfl⟩ := hrel
    have hfl := flat_length r.has hl'.out k hk
    by_cases hlt : k < r.has.length
    · obtain ⟨b1, o1, rfl, hb1, hcell1⟩ := hc1'.out (by omega)
      have g0 := hcell1 k _ (strsV_get r.has k hlt)
      have g1 : wr.cell? ⟨b1, o1 + k, none⟩ = some (.string ⟨(r.has[k]).toArray⟩) := (hbA'.out.cell (p := ⟨b1, o1 + k, none⟩) hb1).trans g0
      have hst := str_append' ((r.has.take k).flatten) (r.has[k])
      rw [← flat_succ r.has k hlt] at hst
      have hst' := hide hst
      have h64 : (r.has[k]).length = 64 := hl'.out _ (List.getElem_mem hlt)
      have hltI : (k : Int) < (r.has.length : Int) := by omega
      clear hst g0 hcell1
      go_wp2_with fail
      go_roundw
      case rel => exact ⟨k + 1, by omega, by go_num, by rw [hst'.out], trivial⟩
      case measure => simp [intOf]; omega
    · obtain rfl : r.has.length = k := by omega
      rw [List.take_length]
      go_wp2_with fail
      go_ret
      exact ⟨rfl, hbA'.out⟩
end Go.Proofs.Ytamkngpkplflcaa
