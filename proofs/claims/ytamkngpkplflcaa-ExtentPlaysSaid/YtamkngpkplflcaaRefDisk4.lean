/- The document's disk: Read, Write walked. -/
import Derived.Test.YtamkngpkplflcaaRefDisk3
namespace Go.Proofs.Ytamkngpkplflcaa
open Go.RowKit

/-- what is read of sector s: the last that waits for it, else what it has -/
def rread (has : List (List UInt8)) (ws : List Wt) (s : Nat) : Nat → List UInt8
  | 0 => has.getD s []
  | i + 1 => if (ws.getD i ⟨0, []⟩).s = s then (ws.getD i ⟨0, []⟩).b else rread has ws s i
def Rk.read (r : Rk) (at_ : Int) : List UInt8 × Int :=
  if at_ < 0 ∨ (r.has.length : Int) ≤ at_ then ([], 4) else if r.off then ([], 9) else (rread r.has r.waits at_.toNat r.waits.length, 0)
set_option maxRecDepth 100000 in
set_option maxHeartbeats 1000000 in
theorem rread_off (B : Nat → Prop) (v : Value) (r : Rk) (s : Nat) (w : World) (h : RkAt w B v r) (hs : s < r.has.length) (ho : r.off = true) (ok : r.Ok) :
    Calls Try.prog 39 #[v, .int .i64 (s : Nat)] w fun e w' => e = .returned (.tuple #[.string ⟨#[]⟩, .int .i64 9]) ∧ Below w.heap.size w w' := by
  obtain ⟨A1, c1, A2, c2, A3, c3, rfl, h1, _⟩ := h
  rw [ho]
  have hcap : r.has.length ≤ c1 := by
    obtain ⟨A, c, e, hc, _⟩ := h1
    cases e
    exact hc
  clear ho h1
  have hsI : (s : Int) < (r.has.length : Int) := by omega
  have hn := ok.n
  go_enter Try.func39, Try.ntmps39
  go_wp2_with fail
  exact bodyPost_ret (v := .tuple #[.string ⟨#[]⟩, .int .i64 9]) (by simp [results, Try.results39, go_sem]) rfl ⟨rfl, (Below.refl _ _).alloc (Nat.le_refl _) _⟩
set_option maxRecDepth 100000 in
set_option maxHeartbeats 1000000 in
theorem rread_bad (B : Nat → Prop) (v : Value) (r : Rk) (a : Int) (w : World) (h : RkAt w B v r) (hs : a < 0 ∨ (r.has.length : Int) ≤ a) (ok : r.Ok) :
    Calls Try.prog 39 #[v, .int .i64 a] w fun e w' => e = .returned (.tuple #[.string ⟨#[]⟩, .int .i64 4]) ∧ Below w.heap.size w w' := by
  obtain ⟨A1, c1, A2, c2, A3, c3, rfl, h1, _⟩ := h
  have hcap : r.has.length ≤ c1 := by
    obtain ⟨A, c, e, hc, _⟩ := h1
    cases e
    exact hc
  clear h1
  have hn := ok.n
  by_cases hneg : a < 0
  · have hd : decide (a < 0) = true := decide_eq_true hneg
    clear hs
    go_enter Try.func39, Try.ntmps39
    go_wp2_with fail
    exact bodyPost_ret (v := .tuple #[.string ⟨#[]⟩, .int .i64 4]) (by simp [results, Try.results39, go_sem]) rfl ⟨rfl, (Below.refl _ _).alloc (Nat.le_refl _) _⟩
  · have hge : (r.has.length : Int) ≤ a := by omega
    have hd : decide (a < 0) = false := decide_eq_false hneg
    have hd2 : decide ((r.has.length : Int) ≤ a) = true := decide_eq_true hge
    clear hs
    go_enter Try.func39, Try.ntmps39
    go_wp2_with fail
    exact bodyPost_ret (v := .tuple #[.string ⟨#[]⟩, .int .i64 4]) (by simp [results, Try.results39, go_sem]) rfl ⟨rfl, (Below.refl _ _).alloc (Nat.le_refl _) _⟩
set_option maxRecDepth 100000 in
set_option maxHeartbeats 1000000 in
theorem rread_on (B : Nat → Prop) (v : Value) (r : Rk) (s : Nat) (w : World) (h : RkAt w B v r) (hs : s < r.has.length) (ho : r.off = false) (ok : r.Ok) :
    Calls Try.prog 39 #[v, .int .i64 (s : Nat)] w fun e w' => e = .returned (.tuple #[.string ⟨(rread r.has r.waits s r.waits.length).toArray⟩, .int .i64 0]) ∧ Below w.heap.size w w' := by
  obtain ⟨A1, c1, A2, c2, A3, c3, rfl, h1, h2, _⟩ := h
  rw [ho]
  obtain ⟨A, c, e, hcap, _, _, hc1⟩ := h1
  injection e with e1 _ e3
  subst e1 e3
  obtain ⟨A, c, e, hcap2, _, _, hc2⟩ := h2
  injection e with e1 _ e3
  subst e1 e3
  obtain ⟨b1, o1, rfl, hb1, hcell1⟩ := hc1 (by omega)
  have g0 := hcell1 s _ (strsV_get r.has s hs)
  have hc2' := hide hc2
  have hn := ok.n
  have hwl := ok.wl
  clear ho hc1 hc2 hcell1 ok
  have hsI : (s : Int) < (r.has.length : Int) := by omega
  go_enter Try.func39, Try.ntmps39
  go_upto_region 1 with (fail)
  have hX1 := RBox.new w 71 (.slice (some ⟨b1, o1, none⟩) r.has.length c1) (.slice A2 r.waits.length c2) (.bool false) (.int .i64 r.left) (.slice A3 r.surv.length c3)
  have hbA : Below w.heap.size w (w.alloc (.cells #[.slice (some ⟨b1, o1, none⟩) r.has.length c1, .slice A2 r.waits.length c2, .bool false, .int .i64 r.left, .slice A3 r.surv.length c3] 71)) := (Below.refl _ _).alloc (Nat.le_refl _) _
  generalize w.alloc (.cells #[.slice (some ⟨b1, o1, none⟩) r.has.length c1, .slice A2 r.waits.length c2, .bool false, .int .i64 r.left, .slice A3 r.surv.length c3] 71) = wa at *
  have g0' : wa.cell? ⟨b1, o1 + s, none⟩ = some (.string ⟨(r.has[s]).toArray⟩) := (hbA.cell (p := ⟨b1, o1 + s, none⟩) hb1).trans g0
  have hbA' := hide hbA
  obtain ⟨bx, hbx⟩ : ∃ bx, bx = w.heap.size := ⟨_, rfl⟩
  rw [← hbx] at hX1 ⊢
  have hbx' := hide hbx
  have y0 := hX1.c0
  have y1 := hX1.c1
  have y2 := hX1.c2
  clear hbx hbA g0 hX1
  go_wp2_with fail
  go_loopw [6] (fun i wr => ∃ k, k ≤ r.waits.length ∧ i = .int .i64 ((k : Nat) - 1) ∧ wr = wa ∧ rread r.has r.waits s r.waits.length = rread r.has r.waits s k) (fun i _ => (intOf i + 1).toNat)
  case atStart => exact ⟨r.waits.length, Nat.le_refl _, by go_num, rfl, rfl⟩
  case round =>
    obtain ⟨k, hk, rfl, rfl, hread⟩ := hrel
    have hread' := hide hread
    clear hread
    cases k with
    | zero =>
      have hg : rread r.has r.waits s 0 = r.has[s] := by simp [rread, List.getD, List.getElem?_eq_getElem hs]
      go_wp2_with fail
      exact bodyPost_ret (v := .tuple #[.string ⟨(r.has[s]).toArray⟩, .int .i64 0]) (by simp [results, Try.results39, go_sem]) rfl ⟨by rw [hread'.out, hg], hbA'.out⟩
    | succ k =>
      have hlt : k < r.waits.length := by omega
      obtain ⟨bw, ow, rfl, hbw, hcell⟩ := hc2'.out (by omega)
      obtain ⟨e1, e2⟩ := wtsV_get r.waits k hlt
      have g1 : wr.cell? ⟨bw, ow + k * 2, none⟩ = some (.int .i64 ((r.waits[k]).s : Nat)) := by
        have := hcell _ _ e1
        rw [show ow + 2 * k = ow + k * 2 by omega] at this
        exact (hbA'.out.cell (p := ⟨bw, ow + k * 2, none⟩) hbw).trans this
      have g2 : wr.cell? ⟨bw, ow + k * 2 + 1, none⟩ = some (.string ⟨(r.waits[k]).b.toArray⟩) := by
        have := hcell _ _ e2
        rw [show ow + (2 * k + 1) = ow + k * 2 + 1 by omega] at this
        exact (hbA'.out.cell (p := ⟨bw, ow + k * 2 + 1, none⟩) hbw).trans this
      have hst := hide (show rread r.has r.waits s (k + 1) = if (r.waits[k]).s = s then (r.waits[k]).b else rread r.has r.waits s k by
        rw [rread, show r.waits.getD k ⟨0, []⟩ = r.waits[k] by simp [List.getD, List.getElem?_eq_getElem hlt]])
      have hki : (((k + 1 : Nat) : Int) - 1) = (k : Nat) := by omega
      rw [hki]
      have hltI : (k : Int) < (r.waits.length : Int) := by omega
      clear e1 e2 hcell hki
      by_cases hse : (r.waits[k]).s = s
      · have hst2 := hide (hst.out.trans (if_pos hse))
        have hd1 : (((r.waits[k]).s : Int) == (s : Int)) = true := by rw [hse]; simp
        have hd2 : decide (((r.waits[k]).s : Int) = (s : Int)) = true := decide_eq_true (by rw [hse])
        have hd3 : ((r.waits[k]).s == s) = true := by rw [hse]; simp
        have hd4 : decide ((r.waits[k]).s = s) = true := decide_eq_true hse
        clear hse
        go_wp2_with fail
        exact bodyPost_ret (v := .tuple #[.string ⟨((r.waits[k]).b).toArray⟩, .int .i64 0]) (by simp [results, Try.results39, go_sem]) rfl ⟨by rw [hread'.out, hst2.out], hbA'.out⟩
      · have hst2 := hide (hst.out.trans (if_neg hse))
        have hd1 : (((r.waits[k]).s : Int) == (s : Int)) = false := by simp; omega
        have hd2 : decide (((r.waits[k]).s : Int) = (s : Int)) = false := decide_eq_false (by omega)
        have hd3 : ((r.waits[k]).s == s) = false := by simp [hse]
        have hd4 : decide ((r.waits[k]).s = s) = false := decide_eq_false hse
        go_wp2_with fail
        go_roundw
        case rel => exact ⟨k, by omega, by go_num, trivial, by rw [hread'.out, hst2.out]⟩
        case measure => simp [intOf]
theorem rread_any (B : Nat → Prop) (v : Value) (r : Rk) (a : Int) (w : World) (h : RkAt w B v r) (ok : r.Ok) :
    Calls Try.prog 39 #[v, .int .i64 a] w fun e w' => e = .returned (.tuple #[.string ⟨(r.read a).1.toArray⟩, .int .i64 (r.read a).2]) ∧ Below w.heap.size w w' := by
  unfold Rk.read
  by_cases ha : a < 0 ∨ (r.has.length : Int) ≤ a
  · rw [if_pos ha]
    exact rread_bad B v r a w h ha ok
  · rw [if_neg ha]
    obtain ⟨s, rfl⟩ : ∃ s : Nat, a = (s : Int) := ⟨a.toNat, by omega⟩
    by_cases ho : r.off = true
    · rw [if_pos ho]
      exact rread_off B v r s w h (by omega) ho ok
    · rw [if_neg ho, Int.toNat_natCast]
      exact rread_on B v r s w h (by omega) (by simpa using ho) ok
end Go.Proofs.Ytamkngpkplflcaa
