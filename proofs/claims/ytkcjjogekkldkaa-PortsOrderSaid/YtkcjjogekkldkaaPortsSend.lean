/- ports: what is asked of a channel, and Send. -/
import Derived.Test.YtkcjjogekkldkaaPortsWalk
namespace Go.Proofs.Ytkcjjogekkldkaa
open Go.RowKit

set_option maxRecDepth 100000 in
theorem new_bad (k m s : Int) (w : World) (h : ¬ ChanOk k m s) :
    Calls Try.prog 12 #[.int .i64 k, .int .i64 m, .int .i64 s] w fun e w' => e = .returned (.tuple #[.pointer none, .int .i64 1]) ∧ w' = w := by
  have h' := hide h
  clear h
  by_cases hs : s < 0
  · go_enter Try.func12, Try.ntmps12
    go_wp2_with fail
    go_ret2
    exact ⟨rfl, rfl⟩
  by_cases hs2 : 64 < s
  · go_enter Try.func12, Try.ntmps12
    go_wp2_with fail
    go_ret2
    exact ⟨rfl, rfl⟩
  have hA : ¬ (k = 0 ∧ m = 1) := fun e => h'.out ⟨by omega, by omega, .inl e⟩
  have hB : ¬ ((k = 1 ∨ k = 2) ∧ 1 ≤ m ∧ m ≤ 16) := fun e => h'.out ⟨by omega, by omega, .inr e⟩
  by_cases k0 : k = 0
  · subst k0
    have hm : (m == 1) = false := by simpa using fun e => hA ⟨rfl, e⟩
    clear hA hB
    go_enter Try.func12, Try.ntmps12
    go_wp2_with fail
    go_ret2
    exact ⟨rfl, rfl⟩
  have e0 : (k == 0) = false := by simpa using k0
  by_cases k12 : k = 1 ∨ k = 2
  · have hm : m < 1 ∨ 16 < m := by omega
    clear hA hB e0
    rcases k12 with rfl | rfl <;> rcases hm with hm | hm
    all_goals
      go_enter Try.func12, Try.ntmps12
      go_wp2_with fail
      go_ret2
      exact ⟨rfl, rfl⟩
  · have e1 : (k == 1) = false := by simpa using fun e => k12 (.inl e)
    have e2 : (k == 2) = false := by simpa using fun e => k12 (.inr e)
    clear hA hB k12 k0
    go_enter Try.func12, Try.ntmps12
    go_wp2_with fail
    go_ret2
    exact ⟨rfl, rfl⟩

set_option maxRecDepth 100000 in
theorem kind_any (g : Nat) (c : Chan) (w : World) (h : ChanAt w g c) :
    Calls Try.prog 16 #[.pointer (some ⟨g, 0, none⟩)] w fun e w' => e = .returned (.int .i64 c.kind) ∧ w' = w := by
  have h1 := h.kind
  go_enter Try.func16, Try.ntmps16
  go_wp2_with fail
  go_ret
  exact ⟨rfl, rfl⟩
set_option maxRecDepth 100000 in
theorem waiting_any (g : Nat) (c : Chan) (w : World) (h : ChanAt w g c) :
    Calls Try.prog 17 #[.pointer (some ⟨g, 0, none⟩)] w fun e w' => e = .returned (.int .i64 c.L.length) ∧ w' = w := by
  have h1 := h.n
  go_enter Try.func17, Try.ntmps17
  go_wp2_with fail
  go_ret
  exact ⟨rfl, rfl⟩
set_option maxRecDepth 100000 in
theorem lost_any (g : Nat) (c : Chan) (w : World) (h : ChanAt w g c) :
    Calls Try.prog 36 #[.pointer (some ⟨g, 0, none⟩)] w fun e w' => e = .returned (.int .u64 c.lost) ∧ w' = w := by
  have h1 := h.lost
  go_enter Try.func36, Try.ntmps36
  go_wp2_with fail
  go_ret
  exact ⟨rfl, rfl⟩

def sendC (c : Chan) (l : List UInt8) (now : Nat) : Chan × Int :=
  if c.size < l.length then (c, 1)
  else if c.kind = 0 then ({ c with L := [⟨l, now⟩] }, 0)
  else if (c.L.length : Int) = c.most then (if c.kind = 1 then (c, 5) else ({ c with lost := if c.lost < 18446744073709551615 then c.lost + 1 else c.lost }, 0))
  else ({ c with L := c.L ++ [⟨l, now⟩] }, 0)

theorem heap_setCell_size (w : World) (p : Addr) (v : Value) : (w.setCell p v).heap.size = w.heap.size := by simp [World.setCell]
theorem heap_setCells_size (g : Nat) : ∀ (vs : List Value) (o : Nat) (w : World), (w.setCells g o vs).heap.size = w.heap.size
  | [], _, _ => rfl
  | v :: r, o, w => by rw [World.setCells, heap_setCells_size g r, heap_setCell_size]

/-- a store of one cell beyond the messages or before them -/
theorem ChanAt.put {w : World} {g : Nat} {c : Chan} (h : ChanAt w g c) (k : Nat) (hk : 1059 ≤ k ∧ k < 1062) (v : Value) (hv : v.oneCell' = true) (c' : Chan)
    (e0 : c'.kind = c.kind) (e1 : c'.most = c.most) (e2 : c'.size = c.size)
    (e3 : (if k = 1059 then some v else some (.int .i64 c.first)) = some (.int .i64 c'.first))
    (e4 : (if k = 1060 then some v else some (.int .i64 c.L.length)) = some (.int .i64 c'.L.length))
    (e5 : (if k = 1061 then some v else some (.int .u64 c.lost)) = some (.int .u64 c'.lost))
    (hm : ∀ q (hq : q < c'.L.length), w.rangeAt g (3 + 66 * ((c'.first + q) % 16)) (msgV c'.L[q])) (hok : c'.Ok) :
    ChanAt (w.setCell ⟨g, k, none⟩ v) g c' := by
  have hc : ∀ j, j < 1062 → (w.setCell ⟨g, k, none⟩ v).cell? ⟨g, j, none⟩ = if j = k then some v else w.cell? ⟨g, j, none⟩ := by
    intro j hj
    by_cases e : j = k
    · subst e
      obtain ⟨u, hu, _⟩ := h.cells j hj
      rw [if_pos rfl]
      exact World.cell?_setCell_same _ _ _ hu
    · rw [if_neg e]
      exact World.cell?_setCell_other _ _ _ _ (fun e' => by injection e' with _ e' _; omega)
  refine ⟨by rw [heap_setCell_size]; exact h.lt, fun j hj => ?_, fun j => by rw [World.frozen?_setCell]; exact h.thaw j, ?_, ?_, ?_, ?_, ?_, ?_, fun q hq j u hu => ?_, hok⟩
  · rw [hc j hj]
    split
    · exact ⟨v, rfl, hv⟩
    · exact h.cells j hj
  · rw [hc _ (by omega), if_neg (by omega), h.kind, e0]
  · rw [hc _ (by omega), if_neg (by omega), h.most, e1]
  · rw [hc _ (by omega), if_neg (by omega), h.size, e2]
  · rw [hc _ (by omega), ← e3, h.first]
    by_cases e : k = 1059
    · rw [if_pos e, if_pos e.symm]
    · rw [if_neg e, if_neg (fun h => e h.symm)]
  · rw [hc _ (by omega), ← e4, h.n]
    by_cases e : k = 1060
    · rw [if_pos e, if_pos e.symm]
    · rw [if_neg e, if_neg (fun h => e h.symm)]
  · rw [hc _ (by omega), ← e5, h.lost]
    by_cases e : k = 1061
    · rw [if_pos e, if_pos e.symm]
    · rw [if_neg e, if_neg (fun h => e h.symm)]
  · have hl : (msgV c'.L[q]).length = 66 := msgV_length _ (by
      have h1 := (hok.msg c'.L[q] (List.getElem_mem hq)).1
      have h2 := hok.shape.2.1
      omega)
    have hj : j < 66 := by rw [← hl]; exact (List.getElem?_eq_some_iff.1 hu).1
    have := hm q hq j u hu
    rw [World.cell?_setCell_other _ _ _ _ (fun e' => by injection e' with _ e' _; omega)]
    exact this
/-- the cells of one message's place -/
theorem ChanAt.lay {w : World} {g : Nat} {c : Chan} (h : ChanAt w g c) (i : Nat) (hi : i < 16) (vs : List Value) (hl : vs.length = 66) (hv : ∀ v ∈ vs, v.oneCell' = true)
    (hap : ∀ q, q < c.L.length → (c.first + q) % 16 ≠ i) : ChanAt (w.setCells g (3 + 66 * i) vs) g c ∧ (w.setCells g (3 + 66 * i) vs).rangeAt g (3 + 66 * i) vs := by
  have hth : w.there g (3 + 66 * i) vs.length := fun j hj => by
    obtain ⟨u, hu, _⟩ := h.cells (3 + 66 * i + j) (by omega)
    exact ⟨by rw [hu]; rfl, h.thaw _⟩
  have hout : ∀ k, (k < 3 + 66 * i ∨ 3 + 66 * i + 66 ≤ k) → (w.setCells g (3 + 66 * i) vs).cell? ⟨g, k, none⟩ = w.cell? ⟨g, k, none⟩ := fun k hk =>
    World.cell?_setCells_out g vs _ w ⟨g, k, none⟩ (fun _ _ => by rw [hl]; exact hk)
  have hin := fun j hj => World.cell?_setCells_in g vs (3 + 66 * i) w (fun j hj => (hth j hj).1) j hj
  refine ⟨⟨by rw [heap_setCells_size]; exact h.lt, fun j hj => ?_, fun j => by rw [World.frozen?_setCells]; exact h.thaw j, ?_, ?_, ?_, ?_, ?_, ?_, fun q hq => ?_, h.ok⟩, World.rangeAt_setCells_same w g _ vs hth⟩
  · by_cases hj' : j < 3 + 66 * i ∨ 3 + 66 * i + 66 ≤ j
    · rw [hout j hj']; exact h.cells j hj
    · obtain ⟨d, rfl⟩ : ∃ d, j = 3 + 66 * i + d := ⟨j - (3 + 66 * i), by omega⟩
      exact ⟨_, hin d (by omega), hv _ (List.getElem_mem _)⟩
  · rw [hout _ (by omega)]; exact h.kind
  · rw [hout _ (by omega)]; exact h.most
  · rw [hout _ (by omega)]; exact h.size
  · rw [hout _ (by omega)]; exact h.first
  · rw [hout _ (by omega)]; exact h.n
  · rw [hout _ (by omega)]; exact h.lost
  · have hne := hap q hq
    have hml : (msgV c.L[q]).length = 66 := msgV_length _ (by
      have h1 := (h.ok.msg c.L[q] (List.getElem_mem hq)).1
      have h2 := h.ok.shape.2.1
      omega)
    exact World.rangeAt_setCells_apart (h.msgs q hq) g _ vs (by rw [hml, hl]; omega)

theorem msgV_one (m : Msg) : ∀ v ∈ msgV m, v.oneCell' = true := by
  intro v hv
  simp only [msgV, List.mem_append, List.mem_replicate, List.mem_cons, List.not_mem_nil, or_false] at hv
  rcases hv with (hv | ⟨_, rfl⟩) | rfl | rfl
  · exact bytesV_one _ v hv
  · rfl
  · rfl
  · rfl

theorem ChanAt.idx {w : World} {g : Nat} {c : Chan} (h : ChanAt w g c) : c.first < 16 ∧ c.L.length ≤ 16 := by
  have h1 := h.ok.first
  have h2 := h.ok.len
  obtain ⟨_, _, h3⟩ := h.ok.shape
  exact ⟨h1, by omega⟩
/-- one more message -/
theorem ChanAt.push {w : World} {g : Nat} {c : Chan} (h : ChanAt w g c) (m : Msg) (hm : (m.b.length : Int) ≤ c.size) (ha : m.at_ < 18446744073709551616) (hl : (c.L.length : Int) < c.most) :
    ChanAt ((w.setCells g (3 + 66 * ((c.first + c.L.length) % 16)) (msgV m)).setCell ⟨g, 1060, none⟩ (.int .i64 (c.L.length + 1))) g { c with L := c.L ++ [m] } := by
  have hi := h.idx
  have hs := h.ok.shape
  have hlen16 : (c.L.length : Int) < 16 := by obtain ⟨_, _, h3⟩ := hs; omega
  have hlm := msgV_length m (by have := hs.2.1; omega)
  obtain ⟨h1, h2⟩ := h.lay ((c.first + c.L.length) % 16) (Nat.mod_lt _ (by omega)) (msgV m) hlm (msgV_one m) (fun q hq => by omega)
  refine h1.put 1060 (by omega) _ rfl _ rfl rfl rfl rfl (by simp) rfl (fun q hq => ?_) ⟨hs, h.ok.first, h.ok.lost, by simp; omega, fun x hx => ?_⟩
  · by_cases e : q < c.L.length
    · have : (c.L ++ [m])[q] = c.L[q] := List.getElem_append_left e
      show World.rangeAt _ g (3 + 66 * ((c.first + q) % 16)) (msgV (c.L ++ [m])[q])
      rw [this]
      exact h1.msgs q e
    · have e' : q = c.L.length := by simp at hq; omega
      subst e'
      show World.rangeAt _ g (3 + 66 * ((c.first + c.L.length) % 16)) (msgV (c.L ++ [m])[c.L.length])
      rw [List.getElem_append_right (Nat.le_refl _)]
      simpa using h2
  · rcases List.mem_append.1 hx with hx | hx
    · exact h.ok.msg x hx
    · rw [List.mem_singleton.1 hx]; exact ⟨hm, ha⟩
/-- no messages -/
theorem ChanAt.clear {w : World} {g : Nat} {c : Chan} (h : ChanAt w g c) : ChanAt (w.setCell ⟨g, 1060, none⟩ (.int .i64 0)) g { c with L := [] } :=
  h.put 1060 (by omega) _ rfl _ rfl rfl rfl rfl (by simp) rfl (fun q hq => absurd hq (Nat.not_lt_zero _))
    ⟨h.ok.shape, h.ok.first, h.ok.lost, by have := h.ok.len; simp; omega, fun x hx => by simp at hx⟩
theorem ChanAt.lose {w : World} {g : Nat} {c : Chan} (h : ChanAt w g c) (x : Nat) (hx : x < 18446744073709551616) : ChanAt (w.setCell ⟨g, 1061, none⟩ (.int .u64 x)) g { c with lost := x } :=
  h.put 1061 (by omega) _ rfl _ rfl rfl rfl rfl rfl rfl (fun q hq => h.msgs q hq) ⟨h.ok.shape, h.ok.first, hx, h.ok.len, h.ok.msg⟩
/-- the first message goes -/
theorem ChanAt.pop {w : World} {g : Nat} {c : Chan} (h : ChanAt w g c) (m : Msg) (r : List Msg) (hL : c.L = m :: r) (vs : List Value) (hl : vs.length = 66) (hv : ∀ v ∈ vs, v.oneCell' = true) :
    ChanAt (((w.setCells g (3 + 66 * c.first) vs).setCell ⟨g, 1059, none⟩ (.int .i64 ((c.first + 1) % 16 : Nat))).setCell ⟨g, 1060, none⟩ (.int .i64 (r.length : Nat))) g { c with first := (c.first + 1) % 16, L := r } := by
  have hi := h.idx
  have hr : c.L.length = r.length + 1 := by rw [hL]; rfl
  have hok := h.ok
  have hmsgs : ∀ q (hq : q < r.length), w.rangeAt g (3 + 66 * (((c.first + 1) % 16 + q) % 16)) (msgV r[q]) := fun q hq => by
    have := h.msgs (q + 1) (by omega)
    have e : (c.first + (q + 1)) % 16 = ((c.first + 1) % 16 + q) % 16 := by omega
    have e2 : c.L[q + 1]'(by omega) = r[q] := by simp [hL]
    rwa [e, e2] at this
  have hth : w.there g (3 + 66 * c.first) vs.length := fun j hj => by
    obtain ⟨u, hu, _⟩ := h.cells (3 + 66 * c.first + j) (by omega)
    exact ⟨by rw [hu]; rfl, h.thaw _⟩
  have hin := fun j hj => World.cell?_setCells_in g vs (3 + 66 * c.first) w (fun j hj => (hth j hj).1) j hj
  have h59 := h.first
  have h60 := h.n
  have a59 : (w.setCells g (3 + 66 * c.first) vs).cell? ⟨g, 1059, none⟩ = some (.int .i64 c.first) := by
    rw [World.cell?_setCells_out g vs _ w ⟨g, 1059, none⟩ (fun _ _ => by rw [hl]; right; show 3 + 66 * c.first + 66 ≤ 1059; omega)]; exact h59
  have a60 : ((w.setCells g (3 + 66 * c.first) vs).setCell ⟨g, 1059, none⟩ (.int .i64 ((c.first + 1) % 16 : Nat))).cell? ⟨g, 1060, none⟩ = some (.int .i64 c.L.length) := by
    rw [World.cell?_setCell_other _ _ _ _ (fun e' => by injection e' with _ e' _; omega), World.cell?_setCells_out g vs _ w ⟨g, 1060, none⟩ (fun _ _ => by rw [hl]; right; show 3 + 66 * c.first + 66 ≤ 1060; omega)]; exact h60
  have b60 := World.cell?_setCell_same _ _ (.int .i64 (r.length : Nat)) a60
  have b59 : (((w.setCells g (3 + 66 * c.first) vs).setCell ⟨g, 1059, none⟩ (.int .i64 ((c.first + 1) % 16 : Nat))).setCell ⟨g, 1060, none⟩ (.int .i64 (r.length : Nat))).cell? ⟨g, 1059, none⟩ = some (.int .i64 ((c.first + 1) % 16 : Nat)) := by
    rw [World.cell?_setCell_other _ _ _ _ (fun e' => by injection e' with _ e' _; omega)]; exact World.cell?_setCell_same _ _ _ a59
  have hoth : ∀ k, k ≠ 1059 → k ≠ 1060 → (((w.setCells g (3 + 66 * c.first) vs).setCell ⟨g, 1059, none⟩ (.int .i64 ((c.first + 1) % 16 : Nat))).setCell ⟨g, 1060, none⟩ (.int .i64 (r.length : Nat))).cell? ⟨g, k, none⟩ = (w.setCells g (3 + 66 * c.first) vs).cell? ⟨g, k, none⟩ := fun k h1 h2 => by
    rw [World.cell?_setCell_other _ _ _ _ (fun e' => by injection e' with _ e' _; omega), World.cell?_setCell_other _ _ _ _ (fun e' => by injection e' with _ e' _; omega)]
  have hout : ∀ k, k ≠ 1059 → k ≠ 1060 → (k < 3 + 66 * c.first ∨ 3 + 66 * c.first + 66 ≤ k) → (((w.setCells g (3 + 66 * c.first) vs).setCell ⟨g, 1059, none⟩ (.int .i64 ((c.first + 1) % 16 : Nat))).setCell ⟨g, 1060, none⟩ (.int .i64 (r.length : Nat))).cell? ⟨g, k, none⟩ = w.cell? ⟨g, k, none⟩ := fun k h1 h2 h3 => by
    rw [hoth k h1 h2]
    exact World.cell?_setCells_out g vs _ w ⟨g, k, none⟩ (fun _ _ => by rw [hl]; exact h3)
  refine ⟨by rw [heap_setCell_size, heap_setCell_size, heap_setCells_size]; exact h.lt, fun j hj => ?_, fun j => by rw [World.frozen?_setCell, World.frozen?_setCell, World.frozen?_setCells]; exact h.thaw j, ?_, ?_, ?_, b59, b60, ?_, fun q hq j u hu => ?_,
    ⟨hok.shape, Nat.mod_lt _ (by omega), hok.lost, by have := hok.len; show (r.length : Int) ≤ c.most; omega, fun x hx => hok.msg x (by rw [hL]; exact List.mem_cons_of_mem _ hx)⟩⟩
  · by_cases e1 : j = 1059
    · subst e1; exact ⟨_, b59, rfl⟩
    by_cases e2 : j = 1060
    · subst e2; exact ⟨_, b60, rfl⟩
    by_cases e3 : j < 3 + 66 * c.first ∨ 3 + 66 * c.first + 66 ≤ j
    · rw [hout j e1 e2 e3]; exact h.cells j hj
    · obtain ⟨d, rfl⟩ : ∃ d, j = 3 + 66 * c.first + d := ⟨j - (3 + 66 * c.first), by omega⟩
      rw [hoth _ e1 e2]
      exact ⟨_, hin d (by omega), hv _ (List.getElem_mem _)⟩
  · rw [hout _ (by omega) (by omega) (by omega)]; exact h.kind
  · rw [hout _ (by omega) (by omega) (by omega)]; exact h.most
  · rw [hout _ (by omega) (by omega) (by omega)]; exact h.size
  · rw [hout _ (by omega) (by omega) (by omega)]; exact h.lost
  · have hq' : q < r.length := hq
    have hml : (msgV r[q]).length = 66 := msgV_length _ (by
      have h1 := (hok.msg r[q] (by rw [hL]; exact List.mem_cons_of_mem _ (List.getElem_mem hq'))).1
      have h2 := hok.shape.2.1
      omega)
    have hj : j < 66 := by rw [← hml]; exact (List.getElem?_eq_some_iff.1 hu).1
    have := hmsgs q hq' j u hu
    show World.cell? _ ⟨g, 3 + 66 * (((c.first + 1) % 16 + q) % 16) + j, none⟩ = _
    have hle := hi.2
    rw [hout _ (by omega) (by omega) (by omega)]
    exact this
end Go.Proofs.Ytkcjjogekkldkaa
