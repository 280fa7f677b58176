/- The document's disk (nacelleref05) as a value: with, laid. -/
import Derived.Test.YtamkngpkplflcaaDiskActs
namespace Go.Proofs.Ytamkngpkplflcaa
open Go.RowKit

theorem elem_strs : Elem Try.prog 68 9 1 16 := Elem.of (z := .string ⟨#[]⟩) Try.underlying68 (by kernel_rfl) rfl (by omega)
theorem Sl.kept0 {w w' : World} {size n : Nat} {v : Value} {xs : List Value} (h : Sl w size v n xs) (hs : w.heap.size ≤ w'.heap.size) (hk : 0 < n → ∀ b, v.ownBlock = some b → b < w.heap.size → w'.heap[b]? = w.heap[b]?) : Sl w' size v n xs := by
  rcases Nat.eq_zero_or_pos n with h0 | h0
  · obtain ⟨A, c, e, h1, h2, h3, _⟩ := h
    exact ⟨A, c, e, h1, h2, h3, fun h => by omega⟩
  · exact h.kept hs (hk h0)
/-- strings as cells -/
def strsV (l : List (List UInt8)) : List Value := l.map fun b => .string ⟨b.toArray⟩
theorem strsV_length (l : List (List UInt8)) : (strsV l).length = l.length := by simp [strsV]
theorem strsV_one (l : List (List UInt8)) : ∀ u ∈ strsV l, u.oneCell' = true := by
  intro u hu
  obtain ⟨c, _, rfl⟩ := List.mem_map.1 hu
  rfl
theorem strsV_get (l : List (List UInt8)) (i : Nat) (h : i < l.length) : (strsV l)[i]? = some (.string ⟨l[i].toArray⟩) := by simp [strsV, h]
theorem strsV_set (l : List (List UInt8)) (i : Nat) (b : List UInt8) : (strsV l).set i (.string ⟨b.toArray⟩) = strsV (l.set i b) := by simp [strsV, List.map_set]
/-- a slice of strings that reads l -/
def Strs (w : World) (v : Value) (l : List (List UInt8)) : Prop := Sl w 1 v l.length (strsV l)
/-- writes that wait, as cells -/
def wtsV (ws : List Wt) : List Value := ws.flatMap fun x => [.int .i64 (x.s : Nat), .string ⟨x.b.toArray⟩]
def Wts (w : World) (v : Value) (ws : List Wt) : Prop := Sl w 2 v ws.length (wtsV ws)
/-- the document's disk -/
structure Rk where
  has : List (List UInt8)
  waits : List Wt
  off : Bool
  left : Int
  surv : List Bool
def OwnIn (B : Nat → Prop) (n : Nat) (v : Value) : Prop := 0 < n → ∀ y, v.ownBlock = some y → B y
/-- the document's disk r, read off the value v, whose blocks are in B -/
def RkAt (w : World) (B : Nat → Prop) (v : Value) (r : Rk) : Prop :=
  ∃ A1 c1 A2 c2 A3 c3, v = .agg #[.slice A1 r.has.length c1, .slice A2 r.waits.length c2, .bool r.off, .int .i64 r.left, .slice A3 r.surv.length c3] ∧ Strs w (.slice A1 r.has.length c1) r.has ∧ Wts w (.slice A2 r.waits.length c2) r.waits ∧ Bools w (.slice A3 r.surv.length c3) r.surv ∧
    OwnIn B r.has.length (.slice A1 r.has.length c1) ∧ OwnIn B r.waits.length (.slice A2 r.waits.length c2) ∧ OwnIn B r.surv.length (.slice A3 r.surv.length c3)
theorem RkAt.below {w w' : World} {B : Nat → Prop} {v : Value} {r : Rk} (h : RkAt w B v r) (hb : Below w.heap.size w w') : RkAt w' B v r := by
  obtain ⟨A1, c1, A2, c2, A3, c3, e, h1, h2, h3, h4⟩ := h
  exact ⟨A1, c1, A2, c2, A3, c3, e, Sl.below h1 hb, Sl.below h2 hb, Sl.below h3 hb, h4⟩
theorem RkAt.mono {w : World} {B C : Nat → Prop} {v : Value} {r : Rk} (h : RkAt w B v r) (hC : ∀ y, B y → C y) : RkAt w C v r := by
  obtain ⟨A1, c1, A2, c2, A3, c3, e, h1, h2, h3, h4, h5, h6⟩ := h
  exact ⟨A1, c1, A2, c2, A3, c3, e, h1, h2, h3, fun hp y hy => hC y (h4 hp y hy), fun hp y hy => hC y (h5 hp y hy), fun hp y hy => hC y (h6 hp y hy)⟩
theorem Sl.lt0 {w : World} {size n : Nat} {v : Value} {xs : List Value} (h : Sl w size v n xs) : OwnIn (fun y => y < w.heap.size) n v := by
  obtain ⟨A, c, rfl, h1, h2, h3, h4⟩ := h
  intro hp y hy
  obtain ⟨b, off, rfl, hb, _⟩ := h4 hp
  cases hy
  exact hb
theorem RkAt.tight {w : World} {B : Nat → Prop} {v : Value} {r : Rk} (h : RkAt w B v r) : RkAt w (fun y => B y ∧ y < w.heap.size) v r := by
  obtain ⟨A1, c1, A2, c2, A3, c3, e, h1, h2, h3, h4, h5, h6⟩ := h
  exact ⟨A1, c1, A2, c2, A3, c3, e, h1, h2, h3, fun hp y hy => ⟨h4 hp y hy, Sl.lt0 h1 hp y hy⟩, fun hp y hy => ⟨h5 hp y hy, Sl.lt0 h2 hp y hy⟩, fun hp y hy => ⟨h6 hp y hy, Sl.lt0 h3 hp y hy⟩⟩
theorem RkAt.later {w w' : World} {F B : Nat → Prop} {v : Value} {r : Rk} (h : RkAt w B v r) (t : Later F w w') (hF : ∀ y, B y → ¬ F y) : RkAt w' B v r := by
  obtain ⟨A1, c1, A2, c2, A3, c3, e, h1, h2, h3, h4, h5, h6⟩ := h
  exact ⟨A1, c1, A2, c2, A3, c3, e, Sl.kept0 h1 t.1 (fun hp b hb hlt => t.2 b hlt (hF b (h4 hp b hb))), Sl.kept0 h2 t.1 (fun hp b hb hlt => t.2 b hlt (hF b (h5 hp b hb))), Sl.kept0 h3 t.1 (fun hp b hb hlt => t.2 b hlt (hF b (h6 hp b hb))), h4, h5, h6⟩

set_option maxRecDepth 100000 in
theorem with_any (lv : Value) (l : List (List UInt8)) (at_ : Nat) (b : List UInt8) (w : World) (h : Strs w lv l) (hat : at_ < l.length) (hl : l.length ≤ 1000000) :
    Calls Try.prog 59 #[lv, .int .i64 at_, .string ⟨b.toArray⟩] w fun e w' => ∃ A c, e = .returned (.slice A l.length c) ∧ Strs w' (.slice A l.length c) (l.set at_ b) ∧ (∀ x, (Value.slice A l.length c).ownBlock = some x → w.heap.size ≤ x) ∧ Below w.heap.size w w' := by
  have h' := hide h
  clear h
  go_enter Try.func59, Try.ntmps59
  go_wp2_with ((at_builtin; refine list_app_any elem_strs rfl (.tmp 8) (.tmp 9) rfl w.heap.size (.slice (some ⟨w.heap.size, 0, none⟩) 0 0) 0 [] rfl (World.ownsRow_made _ #[] 0 (Nat.le_refl _) (by simp [maxLen]) rfl) lv l.length (strsV l) rfl (Sl.below h'.out ((Below.refl _ _).alloc (Nat.le_refl _) _)) (strsV_one l) (by simp only [maxLen]; omega) (by omega) (by simp) ?_))
  intro v w1 hv hg hat1
  have ho : w1.ownsRow w.heap.size 9 1 v l.length (strsV l) := by simpa using hv
  have hb : Below w.heap.size w w1 := ((Below.refl _ _).alloc (Nat.le_refl _) _).grown hg (by simp) (by simp [Value.ownBlock])
  obtain ⟨g, cap, rfl⟩ : ∃ g cap, v = .slice (some ⟨g, 0, none⟩) l.length cap := by
    rcases ho.2 with ⟨_, h0⟩ | ⟨g, cap, _, h0, _⟩
    · omega
    · exact ⟨g, cap, h0⟩
  have hgb := (ho.lt g rfl).1
  obtain ⟨u, hc⟩ : ∃ u, w1.cell? ⟨g, at_, none⟩ = some u := ⟨_, (ho.cellAt at_ (by omega)).trans (strsV_get l at_ hat)⟩
  have hf := ho.frozenAt at_
  have hst := (ho.stored at_ (.string ⟨b.toArray⟩)).1
  rw [strsV_set] at hst
  have hst' := hide hst
  have hb' := hide hb
  have hatI : (at_ : Int) < (l.length : Int) := by omega
  clear hv hg hat1 ho hst hb
  go_wp2_with fail
  go_ret
  have h2 := Sl.own hst'.out
  refine ⟨some ⟨g, 0, none⟩, cap, rfl, ?_, (fun x hx => by cases hx; exact hgb), hb'.out.setCell hgb _⟩
  unfold Strs
  rw [List.length_set]
  exact h2

/-- of the first i that wait those that count are laid -/
def rlayN (has : List (List UInt8)) (keep : Nat → Bool) (ws : List Wt) : Nat → List (List UInt8)
  | 0 => has
  | i + 1 => if keep i then (rlayN has keep ws i).set (ws.getD i ⟨0, []⟩).s (ws.getD i ⟨0, []⟩).b else rlayN has keep ws i
theorem rlayN_length (has : List (List UInt8)) (keep : Nat → Bool) (ws : List Wt) (i : Nat) : (rlayN has keep ws i).length = has.length := by
  induction i with
  | zero => rfl
  | succ i ih => unfold rlayN; split <;> simp [ih]
theorem wtsV_get : ∀ (ws : List Wt) (i : Nat) (h : i < ws.length), (wtsV ws)[2 * i]? = some (.int .i64 (ws[i].s : Nat)) ∧ (wtsV ws)[2 * i + 1]? = some (.string ⟨ws[i].b.toArray⟩)
  | [], i, h => absurd h (Nat.not_lt_zero _)
  | w :: ws, 0, _ => by simp [wtsV]
  | w :: ws, i + 1, h => by
    have ih := wtsV_get ws i (by simpa using h)
    have e : wtsV (w :: ws) = .int .i64 (w.s : Nat) :: .string ⟨w.b.toArray⟩ :: wtsV ws := by simp [wtsV]
    rw [e, show 2 * (i + 1) = 2 * i + 1 + 1 by omega, show 2 * i + 1 + 1 + 1 = (2 * i + 1) + 1 + 1 by omega]
    simp only [List.getElem?_cons_succ, List.getElem_cons_succ]
    exact ih

/-- a variable of five cells at b -/
structure RBox (w : World) (b : Nat) (v0 v1 v2 v3 v4 : Value) : Prop where
  lt : b < w.heap.size
  c0 : w.cell? ⟨b, 0, none⟩ = some v0
  c1 : w.cell? ⟨b, 1, none⟩ = some v1
  c2 : w.cell? ⟨b, 2, none⟩ = some v2
  c3 : w.cell? ⟨b, 3, none⟩ = some v3
  c4 : w.cell? ⟨b, 4, none⟩ = some v4
  z : ∀ j, w.frozen? ⟨b, j, none⟩ = false
section
variable {w w' : World} {b : Nat} {v0 v1 v2 v3 v4 : Value}
theorem RBox.later {F : Nat → Prop} (h : RBox w b v0 v1 v2 v3 v4) (t : Later F w w') (hF : ¬ F b) : RBox w' b v0 v1 v2 v3 v4 := by
  have e := fun o => Later.cell t (o := o) h.lt hF
  exact ⟨Nat.lt_of_lt_of_le h.lt t.1, (e 0).1.trans h.c0, (e 1).1.trans h.c1, (e 2).1.trans h.c2, (e 3).1.trans h.c3, (e 4).1.trans h.c4, fun j => (e j).2.trans (h.z j)⟩
theorem RBox.below (h : RBox w b v0 v1 v2 v3 v4) (t : Below w.heap.size w w') : RBox w' b v0 v1 v2 v3 v4 := h.later (F := fun _ => False) (below_later t (Nat.le_refl _)) (fun h => h)
theorem RBox.new (w : World) (T : TypeId) (v0 v1 v2 v3 v4 : Value) : RBox (w.alloc (.cells #[v0, v1, v2, v3, v4] T)) w.heap.size v0 v1 v2 v3 v4 := by
  have h := heap_alloc_new w (.cells #[v0, v1, v2, v3, v4] T)
  exact ⟨by simp, cell_of_row _ _ 0 _ _ _ h, cell_of_row _ _ 1 _ _ _ h, cell_of_row _ _ 2 _ _ _ h, cell_of_row _ _ 3 _ _ _ h, cell_of_row _ _ 4 _ _ _ h, fun j => frozen_of_row _ _ j _ _ (heap_alloc_last w _)⟩
theorem RBox.set0 (h : RBox w b v0 v1 v2 v3 v4) (u : Value) : RBox (w.setCell ⟨b, 0, none⟩ u) b u v1 v2 v3 v4 :=
  ⟨Nat.lt_of_lt_of_le h.lt (later_setCell (F := fun _ => True) w (p := ⟨b, 0, none⟩) u trivial).1, World.cell?_setCell_same _ _ _ h.c0, (World.cell?_setCell_other _ _ _ _ (by simp)).trans h.c1, (World.cell?_setCell_other _ _ _ _ (by simp)).trans h.c2, (World.cell?_setCell_other _ _ _ _ (by simp)).trans h.c3, (World.cell?_setCell_other _ _ _ _ (by simp)).trans h.c4, fun j => by rw [World.frozen?_setCell]; exact h.z j⟩
end
/-- what counts: all, or those that survive -/
def rkeep (all : Bool) (l : List Bool) (i : Nat) : Bool := all || keeps l i
def Rk.laid (r : Rk) (all : Bool) (l : List Bool) : Rk := { r with has := rlayN r.has (rkeep all l) r.waits r.waits.length, waits := [] }
structure Rk.Ok (r : Rk) : Prop where
  n : r.has.length ≤ 256
  wt : ∀ w ∈ r.waits, w.s < r.has.length
  wl : r.waits.length ≤ 1000000

set_option maxRecDepth 100000 in
set_option maxHeartbeats 1000000 in
theorem rlaid_any (B : Nat → Prop) (v : Value) (r : Rk) (all : Bool) (sv : Value) (l : List Bool) (w : World) (h : RkAt w B v r) (hs : Bools w sv l) (ok : r.Ok) :
    Calls Try.prog 55 #[v, .bool all, sv] w fun e w' => ∃ u, e = .returned u ∧ RkAt w' (fun y => B y ∨ w.heap.size ≤ y) u (r.laid all l) ∧ Below w.heap.size w w' := by
  obtain ⟨A1, c1, A2, c2, A3, c3, rfl, h1, h2, h3, h4, h5, h6⟩ := h
  have h4' := hide h4
  have h6' := hide h6
  clear h4 h5 h6
  obtain ⟨As, cs, rfl, hs1, hs2, hs3, hs4⟩ := hs
  have h1' := hide h1
  have h2' := hide h2
  have h3' := hide h3
  have hs4' := hide hs4
  have hs1' := hide hs1
  have ok' := hide ok
  obtain ⟨A2', c2', e2, hc2a, hc2b, _, hc2⟩ := h2
  injection e2 with e2a _ e2b
  subst e2a e2b
  have hc2' := hide hc2
  have hwl := ok.wl
  have hcap2 : r.waits.length ≤ c2 := hc2a
  clear h1 h3 hs4 hs1 hs3 ok hc2 hc2a hc2b
  go_enter Try.func55, Try.ntmps55
  go_wp2_with fail
  have hX1 := RBox.new w 71 (.slice A1 r.has.length c1) (.slice A2 r.waits.length c2) (.bool r.off) (.int .i64 r.left) (.slice A3 r.surv.length c3)
  have hbA : Below w.heap.size w (w.alloc (.cells #[.slice A1 r.has.length c1, .slice A2 r.waits.length c2, .bool r.off, .int .i64 r.left, .slice A3 r.surv.length c3] 71)) := (Below.refl _ _).alloc (Nat.le_refl _) _
  have hsA : (w.alloc (.cells #[.slice A1 r.has.length c1, .slice A2 r.waits.length c2, .bool r.off, .int .i64 r.left, .slice A3 r.surv.length c3] 71)).heap.size = w.heap.size + 1 := by simp
  generalize w.alloc (.cells #[.slice A1 r.has.length c1, .slice A2 r.waits.length c2, .bool r.off, .int .i64 r.left, .slice A3 r.surv.length c3] 71) = wa at *
  have hZ1 := RBox.new wa 71 (.slice none 0 0) (.slice none 0 0) (.bool false) (.int .i64 0) (.slice none 0 0)
  have hbB : Below wa.heap.size wa (wa.alloc (.cells #[.slice none 0 0, .slice none 0 0, .bool false, .int .i64 0, .slice none 0 0] 71)) := (Below.refl _ _).alloc (Nat.le_refl _) _
  have hX2 := hX1.below hbB
  have hb2 := hbA.trans (hbB.mono hbA.size)
  rw [hsA] at hZ1
  generalize wa.alloc (.cells #[.slice none 0 0, .slice none 0 0, .bool false, .int .i64 0, .slice none 0 0] 71) = wb at *
  have hX' := hide hX2
  have hZ' := hide hZ1
  have hb' := hide hb2
  clear hX1 hbA hsA hZ1 hbB hX2 hb2
  obtain ⟨bx, hbx⟩ : ∃ bx, bx = w.heap.size := ⟨_, rfl⟩
  rw [← hbx] at hX' hZ' ⊢
  have hbx' := hide hbx
  clear hbx
  go_loopw [7] (fun i wr => ∃ k A c, k ≤ r.waits.length ∧ i = .int .i64 (k : Nat) ∧ RBox wr bx (.slice A r.has.length c) (.slice A2 r.waits.length c2) (.bool r.off) (.int .i64 r.left) (.slice A3 r.surv.length c3) ∧ RBox wr (bx + 1) (.slice none 0 0) (.slice none 0 0) (.bool false) (.int .i64 0) (.slice none 0 0) ∧ Strs wr (.slice A r.has.length c) (rlayN r.has (rkeep all l) r.waits k) ∧ (0 < r.has.length → ∀ y, (Value.slice A r.has.length c).ownBlock = some y → (B y ∨ w.heap.size ≤ y) ∧ y ≠ bx ∧ y ≠ bx + 1) ∧ Below w.heap.size w wr) (fun i _ => r.waits.length - (intOf i).toNat)
  case atStart => exact ⟨0, A1, c1, by omega, rfl, hX'.out, hZ'.out, Sl.below h1'.out hb'.out, (fun hp y hy => by
    have h1 := Sl.lt0 h1'.out hp y hy
    have := hbx'.out
    exact ⟨.inl (h4'.out hp y hy), by omega, by omega⟩), hb'.out⟩
  case round =>
    obtain ⟨k, A, c, hk, rfl, hX, hZ, hS, hne, hb⟩ := hrel
    have hne' := hide hne
    clear hne
    have hXn := hide hX
    have hZn := hide hZ
    have hSn := hide hS
    have hbn := hide hb
    have hbs := hb.size
    have x0 := hX.c0
    have x1 := hX.c1
    clear hS hb hX' hZ' hb'
    by_cases hlt : k < r.waits.length
    · obtain ⟨bw, ow, rfl, hbw, hcell⟩ := hc2'.out (by omega)
      obtain ⟨e1, e2⟩ := wtsV_get r.waits k hlt
      have g1 : wr.cell? ⟨bw, ow + k * 2, none⟩ = some (.int .i64 ((r.waits[k]).s : Nat)) := by
        have := hcell _ _ e1
        rw [show ow + 2 * k = ow + k * 2 by omega] at this
        exact (hbn.out.cell (p := ⟨bw, ow + k * 2, none⟩) hbw).trans this
      have g2 : wr.cell? ⟨bw, ow + k * 2 + 1, none⟩ = some (.string ⟨(r.waits[k]).b.toArray⟩) := by
        have := hcell _ _ e2
        rw [show ow + (2 * k + 1) = ow + k * 2 + 1 by omega] at this
        exact (hbn.out.cell (p := ⟨bw, ow + k * 2 + 1, none⟩) hbw).trans this
      have hltI : (k : Int) < (r.waits.length : Int) := by omega
      have hbwr : bw < wr.heap.size := by omega
      have hst := hide (show rlayN r.has (rkeep all l) r.waits (k + 1) = if rkeep all l k then (rlayN r.has (rkeep all l) r.waits k).set (r.waits[k]).s (r.waits[k]).b else rlayN r.has (rkeep all l) r.waits k by
        rw [rlayN, show r.waits.getD k ⟨0, []⟩ = r.waits[k] by simp [List.getD, List.getElem?_eq_getElem hlt]])
      clear e1 e2 hX hZ
      have hwn : (r.waits[k]).s < (rlayN r.has (rkeep all l) r.waits k).length := by rw [rlayN_length]; exact ok'.out.wt _ (List.getElem_mem hlt)
      have hwn' := hide hwn
      clear hwn
      cases all
      · by_cases hkl : k < l.length
        · obtain ⟨bb, ob, rfl, hbb, hbc⟩ := hs4'.out (by omega)
          have hcb := hbc k (.bool l[k]) (by simp [boolsV, hkl])
          have hcb' : wr.cell? ⟨bb, ob + k, none⟩ = some (.bool l[k]) := (hbn.out.cell (p := ⟨bb, ob + k, none⟩) hbb).trans hcb
          have hcap := hs1'.out
          have hbb2 : bb < wr.heap.size := by omega
          have hkn : keeps l k = l[k] := by simp [keeps, List.getD, hkl]
          clear hbc hcb
          by_cases hlk : l[k] = true
          · rw [hlk] at hcb' hkn
            have hkp := hide (show rkeep false l k = true by unfold rkeep; rw [hkn]; rfl)
            clear hlk hkn
            go_wp2_with fail
            have hLd := later_drew (F := fun _ => False) wr
            have hLd' := hide hLd
            have f0 : ∀ w', Later (fun _ => False) wr.drew w' → w'.cell? ⟨bx, 0, none⟩ = some (.slice A r.has.length c) := fun w' hl => (hXn.out.later (later_trans _ _ _ _ hLd'.out hl) (fun h => h)).c0
            have f1 : ∀ w', Later (fun _ => False) wr.drew w' → w'.cell? ⟨bx, 1, none⟩ = some (.slice (some ⟨bw, ow, none⟩) r.waits.length c2) := fun w' hl => (hXn.out.later (later_trans _ _ _ _ hLd'.out hl) (fun h => h)).c1
            have f2 : ∀ w', Later (fun _ => False) wr.drew w' → w'.cell? ⟨bw, ow + k * 2, none⟩ = some (.int .i64 ((r.waits[k]).s : Nat)) := fun w' hl => (Later.cell (later_trans _ _ _ _ hLd'.out hl) hbwr (fun h => h)).1.trans g1
            have f3 : ∀ w', Later (fun _ => False) wr.drew w' → w'.cell? ⟨bw, ow + k * 2 + 1, none⟩ = some (.string ⟨(r.waits[k]).b.toArray⟩) := fun w' hl => (Later.cell (later_trans _ _ _ _ hLd'.out hl) hbwr (fun h => h)).1.trans g2
            clear hLd
            refine region_plan [(true, 0), (true, 1), (true, 2), (true, 3), (true, 4), (true, 5), (true, 6), (true, 7), (true, 8), (true, 9), (true, 10), (true, 11), (true, 12), (true, 13), (false, 14), (true, 15), (false, 16)] (Later fun _ => False) (later_refl _) (later_trans _) (by kernel_rfl) (by kernel_rfl) (fun _ _ d _ _ h => by cases d <;> exact h) ?_
            repeat
              (first
                | (show wpPlan _ _ _ _ ((true, _) :: _) _ _
                   refine plan_skip rfl (by rfl) ?_
                   simp only [Act.put, List.setIfInBounds_toArray, List.set_cons_zero, List.set_cons_succ])
                | (show wpPlan _ _ _ _ ((false, _) :: _) _ _
                   refine plan_skip_eff (later_refl _) rfl (by rfl) ?_
                   simp only [Act.put, List.setIfInBounds_toArray, List.set_cons_zero, List.set_cons_succ])
                | (show wpPlan _ _ _ _ ((true, _) :: _) _ _
                   refine plan_take (v := ?_) rfl (by rfl) (fun w' hw' => ?_) ?_
                   rotate_left
                   focus
                     go_simp
                     try with_reducible rfl
                     done
                   simp only [Act.put, List.setIfInBounds_toArray, List.set_cons_zero, List.set_cons_succ]))
            clear f0 f1 f2 f3
            refine plan_eff rfl (by rfl) (fun K hK => ?_)
            go_wp2_with fail
            have hq : Below wr.heap.size wr wr.drew := (Below.refl _ _).drew
            have hrl := rlayN_length r.has (rkeep false l) r.waits k
            have hn256 := ok'.out.n
            refine (with_any (.slice A r.has.length c) (rlayN r.has (rkeep false l) r.waits k) (r.waits[k]).s (r.waits[k]).b wr.drew (Sl.below hSn.out hq) hwn'.out (by rw [hrl]; omega)).mono ?_
            rintro e w2 ⟨A5, c5, rfl, hS5, hB5, hb5⟩
            rw [hrl] at hS5 hB5 ⊢
            have hB5' := hide hB5
            have hbxl := hXn.out.lt
            refine hK _ _ (below_later hb5 (Nat.le_refl _)) ?_
            clear hK K
            have hX5 := hide ((hXn.out.below hq).below hb5)
            have hZ5 := hide ((hZn.out.below hq).below hb5)
            have hb6 := hide ((hbn.out.trans (hq.mono hbs)).trans (hb5.mono (show w.heap.size ≤ wr.drew.heap.size from hbs)))
            have hS6 := hide hS5
            have y0 := hX5.out.c0
            have z0 := hX5.out.z 0
            clear hS5 hB5 hb5 hq hrl
            try simp only [Act.put, List.setIfInBounds_toArray, List.set_cons_zero, List.set_cons_succ]
            repeat
              (first
                | (show wpPlan _ _ _ _ ((true, _) :: _) _ _
                   refine plan_skip rfl (by rfl) ?_
                   simp only [Act.put, List.setIfInBounds_toArray, List.set_cons_zero, List.set_cons_succ])
                | (show wpPlan _ _ _ _ ((false, _) :: _) _ _
                   refine plan_skip_eff (later_refl _) rfl (by rfl) ?_
                   simp only [Act.put, List.setIfInBounds_toArray, List.set_cons_zero, List.set_cons_succ])
                | (show wpPlan _ _ _ _ ((true, _) :: _) _ _
                   refine plan_take (v := ?_) rfl (by rfl) (fun w' hw' => ?_) ?_
                   rotate_left
                   focus
                     go_simp
                     try with_reducible rfl
                     done
                   simp only [Act.put, List.setIfInBounds_toArray, List.set_cons_zero, List.set_cons_succ]))
            refine plan_eff_last (by kernel_rfl) rfl (by rfl) (fun K hK => ?_)
            go_wp2_with fail
            have hLs : Later (fun x => x = bx) w2 (w2.setCell ⟨bx, 0, none⟩ (.slice A5 r.has.length c5)) := later_setCell (F := fun x => x = bx) w2 (p := ⟨bx, 0, none⟩) _ rfl
            have hXs := hX5.out.set0 (.slice A5 r.has.length c5)
            have hZs := hZ5.out.later hLs (by omega)
            have hbS := hb6.out.setCell (p := ⟨bx, 0, none⟩) (show w.heap.size ≤ bx by have := hbx'.out; omega) (.slice A5 r.has.length c5)
            have hSs := hide (show Strs (w2.setCell ⟨bx, 0, none⟩ (.slice A5 r.has.length c5)) (.slice A5 r.has.length c5) ((rlayN r.has (rkeep false l) r.waits k).set (r.waits[k]).s (r.waits[k]).b) from Sl.kept hS6.out hLs.1 (fun b hb hlt => hLs.2 b hlt (fun e => by have h1 : wr.heap.size ≤ b := hB5'.out b hb; omega)))
            go_roundw
            case rel => exact ⟨k + 1, A5, c5, by omega, by go_num, hXs, hZs, by rw [hst.out, if_pos hkp.out]; exact hSs.out, (fun _ y hy => by have h1 : wr.heap.size ≤ y := hB5'.out y hy; have := hZn.out.lt; exact ⟨.inr (by omega), by omega, by omega⟩), hbS⟩
            case measure => simp [intOf]; omega
          · rw [show l[k] = false by simpa using hlk] at hcb' hkn
            have hkp := hide (show ¬ rkeep false l k = true by unfold rkeep; rw [hkn]; simp)
            clear hlk hkn
            go_wp2_with fail
            go_roundw
            case rel => exact ⟨k + 1, A, c, by omega, by go_num, hXn.out, hZn.out, by rw [hst.out, if_neg hkp.out]; exact hSn.out, hne'.out, hbn.out⟩
            case measure => simp [intOf]; omega
        · have hkp := hide (show ¬ rkeep false l k = true by unfold rkeep keeps; simp [List.getD, List.getElem?_eq_none (show l.length ≤ k by omega)])
          have hd1 : decide ((k : Int) < (l.length : Int)) = false := decide_eq_false (by omega)
          have hd2 : decide (k < l.length) = false := decide_eq_false hkl
          go_wp2_with fail
          go_roundw
          case rel => exact ⟨k + 1, A, c, by omega, by go_num, hXn.out, hZn.out, by rw [hst.out, if_neg hkp.out]; exact hSn.out, hne'.out, hbn.out⟩
          case measure => simp [intOf]; omega
      · have hkp := hide (show rkeep true l k = true from rfl)
        go_wp2_with fail
        have hLd := later_drew (F := fun _ => False) wr
        have hLd' := hide hLd
        have f0 : ∀ w', Later (fun _ => False) wr.drew w' → w'.cell? ⟨bx, 0, none⟩ = some (.slice A r.has.length c) := fun w' hl => (hXn.out.later (later_trans _ _ _ _ hLd'.out hl) (fun h => h)).c0
        have f1 : ∀ w', Later (fun _ => False) wr.drew w' → w'.cell? ⟨bx, 1, none⟩ = some (.slice (some ⟨bw, ow, none⟩) r.waits.length c2) := fun w' hl => (hXn.out.later (later_trans _ _ _ _ hLd'.out hl) (fun h => h)).c1
        have f2 : ∀ w', Later (fun _ => False) wr.drew w' → w'.cell? ⟨bw, ow + k * 2, none⟩ = some (.int .i64 ((r.waits[k]).s : Nat)) := fun w' hl => (Later.cell (later_trans _ _ _ _ hLd'.out hl) hbwr (fun h => h)).1.trans g1
        have f3 : ∀ w', Later (fun _ => False) wr.drew w' → w'.cell? ⟨bw, ow + k * 2 + 1, none⟩ = some (.string ⟨(r.waits[k]).b.toArray⟩) := fun w' hl => (Later.cell (later_trans _ _ _ _ hLd'.out hl) hbwr (fun h => h)).1.trans g2
        clear hLd
        refine region_plan [(true, 0), (true, 1), (true, 2), (true, 3), (true, 4), (true, 5), (true, 6), (true, 7), (true, 8), (true, 9), (true, 10), (true, 11), (true, 12), (true, 13), (false, 14), (true, 15), (false, 16)] (Later fun _ => False) (later_refl _) (later_trans _) (by kernel_rfl) (by kernel_rfl) (fun _ _ d _ _ h => by cases d <;> exact h) ?_
        repeat
          (first
            | (show wpPlan _ _ _ _ ((true, _) :: _) _ _
               refine plan_skip rfl (by rfl) ?_
               simp only [Act.put, List.setIfInBounds_toArray, List.set_cons_zero, List.set_cons_succ])
            | (show wpPlan _ _ _ _ ((false, _) :: _) _ _
               refine plan_skip_eff (later_refl _) rfl (by rfl) ?_
               simp only [Act.put, List.setIfInBounds_toArray, List.set_cons_zero, List.set_cons_succ])
            | (show wpPlan _ _ _ _ ((true, _) :: _) _ _
               refine plan_take (v := ?_) rfl (by rfl) (fun w' hw' => ?_) ?_
               rotate_left
               focus
                 go_simp
                 try with_reducible rfl
                 done
               simp only [Act.put, List.setIfInBounds_toArray, List.set_cons_zero, List.set_cons_succ]))
        clear f0 f1 f2 f3
        refine plan_eff rfl (by rfl) (fun K hK => ?_)
        go_wp2_with fail
        have hq : Below wr.heap.size wr wr.drew := (Below.refl _ _).drew
        have hrl := rlayN_length r.has (rkeep true l) r.waits k
        have hn256 := ok'.out.n
        refine (with_any (.slice A r.has.length c) (rlayN r.has (rkeep true l) r.waits k) (r.waits[k]).s (r.waits[k]).b wr.drew (Sl.below hSn.out hq) hwn'.out (by rw [hrl]; omega)).mono ?_
        rintro e w2 ⟨A5, c5, rfl, hS5, hB5, hb5⟩
        rw [hrl] at hS5 hB5 ⊢
        have hB5' := hide hB5
        have hbxl := hXn.out.lt
        refine hK _ _ (below_later hb5 (Nat.le_refl _)) ?_
        clear hK K
        have hX5 := hide ((hXn.out.below hq).below hb5)
        have hZ5 := hide ((hZn.out.below hq).below hb5)
        have hb6 := hide ((hbn.out.trans (hq.mono hbs)).trans (hb5.mono (show w.heap.size ≤ wr.drew.heap.size from hbs)))
        have hS6 := hide hS5
        have y0 := hX5.out.c0
        have z0 := hX5.out.z 0
        clear hS5 hB5 hb5 hq hrl
        try simp only [Act.put, List.setIfInBounds_toArray, List.set_cons_zero, List.set_cons_succ]
        repeat
          (first
            | (show wpPlan _ _ _ _ ((true, _) :: _) _ _
               refine plan_skip rfl (by rfl) ?_
               simp only [Act.put, List.setIfInBounds_toArray, List.set_cons_zero, List.set_cons_succ])
            | (show wpPlan _ _ _ _ ((false, _) :: _) _ _
               refine plan_skip_eff (later_refl _) rfl (by rfl) ?_
               simp only [Act.put, List.setIfInBounds_toArray, List.set_cons_zero, List.set_cons_succ])
            | (show wpPlan _ _ _ _ ((true, _) :: _) _ _
               refine plan_take (v := ?_) rfl (by rfl) (fun w' hw' => ?_) ?_
               rotate_left
               focus
                 go_simp
                 try with_reducible rfl
                 done
               simp only [Act.put, List.setIfInBounds_toArray, List.set_cons_zero, List.set_cons_succ]))
        refine plan_eff_last (by kernel_rfl) rfl (by rfl) (fun K hK => ?_)
        go_wp2_with fail
        have hLs : Later (fun x => x = bx) w2 (w2.setCell ⟨bx, 0, none⟩ (.slice A5 r.has.length c5)) := later_setCell (F := fun x => x = bx) w2 (p := ⟨bx, 0, none⟩) _ rfl
        have hXs := hX5.out.set0 (.slice A5 r.has.length c5)
        have hZs := hZ5.out.later hLs (by omega)
        have hbS := hb6.out.setCell (p := ⟨bx, 0, none⟩) (show w.heap.size ≤ bx by have := hbx'.out; omega) (.slice A5 r.has.length c5)
        have hSs := hide (show Strs (w2.setCell ⟨bx, 0, none⟩ (.slice A5 r.has.length c5)) (.slice A5 r.has.length c5) ((rlayN r.has (rkeep true l) r.waits k).set (r.waits[k]).s (r.waits[k]).b) from Sl.kept hS6.out hLs.1 (fun b hb hlt => hLs.2 b hlt (fun e => by have h1 : wr.heap.size ≤ b := hB5'.out b hb; omega)))
        go_roundw
        case rel => exact ⟨k + 1, A5, c5, by omega, by go_num, hXs, hZs, by rw [hst.out, if_pos hkp.out]; exact hSs.out, (fun _ y hy => by have h1 : wr.heap.size ≤ y := hB5'.out y hy; have := hZn.out.lt; exact ⟨.inr (by omega), by omega, by omega⟩), hbS⟩
        case measure => simp [intOf]; omega
    · obtain rfl : r.waits.length = k := by omega
      have y0 := hX.c0
      have y1 := hX.c1
      have y2 := hX.c2
      have y3 := hX.c3
      have y4 := hX.c4
      have t1 := hX.z 1
      have z0 := hZ.c0
      have z1 := hZ.c1
      have z2 := hZ.c2
      have z3 := hZ.c3
      have z4 := hZ.c4
      have tz0 := hZ.z 0
      have tz1 := hZ.z 1
      have tz2 := hZ.z 2
      have tz3 := hZ.z 3
      have tz4 := hZ.z 4
      have hbxn : ¬ bx + 1 = bx := by omega
      clear hX hZ x0 x1
      go_wp2_with fail
      have hT : Touch (fun y => y = bx ∨ y = bx + 1) wr ((((((wr.setCell ⟨bx, 1, none⟩ (.slice none 0 0)).setCell ⟨bx + 1, 0, none⟩ (.slice A r.has.length c)).setCell ⟨bx + 1, 1, none⟩ (.slice none 0 0)).setCell ⟨bx + 1, 2, none⟩ (.bool r.off)).setCell ⟨bx + 1, 3, none⟩ (.int .i64 r.left)).setCell ⟨bx + 1, 4, none⟩ (.slice A3 r.surv.length c3)) :=
        ((((((Touch.refl (fun y => y = bx ∨ y = bx + 1) wr).setCell (p := ⟨bx, 1, none⟩) (.inl rfl) _).setCell (p := ⟨bx + 1, 0, none⟩) (.inr rfl) _).setCell (p := ⟨bx + 1, 1, none⟩) (.inr rfl) _).setCell (p := ⟨bx + 1, 2, none⟩) (.inr rfl) _).setCell (p := ⟨bx + 1, 3, none⟩) (.inr rfl) _).setCell (p := ⟨bx + 1, 4, none⟩) (.inr rfl) _
      have hB := hbn.out.trans (hT.below hbs (fun y hy e => by have := hbx'.out; omega))
      have hl := rlayN_length r.has (rkeep all l) r.waits r.waits.length
      refine bodyPost_ret (v := .agg #[.slice A r.has.length c, .slice none 0 0, .bool r.off, .int .i64 r.left, .slice A3 r.surv.length c3]) (by simp [results, Try.results55, go_sem, z0, z1, z2, z3, z4]) rfl ⟨_, rfl, ⟨A, c, none, 0, A3, c3, ?_, ?_, Sl.nil _ _, Sl.below h3'.out hB, ?_, (fun h => absurd h (Nat.lt_irrefl _)), (fun hp y hy => .inl (h6'.out hp y hy))⟩, hB⟩
      · show _ = Value.agg #[.slice A (rlayN r.has (rkeep all l) r.waits r.waits.length).length c, _, _, _, _]
        rw [hl]
        rfl
      · show Strs _ (.slice A (rlayN r.has (rkeep all l) r.waits r.waits.length).length c) (rlayN r.has (rkeep all l) r.waits r.waits.length)
        rw [hl]
        have := hSn.out
        unfold Strs at this ⊢
        rw [hl] at this ⊢
        exact Sl.kept0 this hT.2.1 (fun hp b hb hlt => hT.2.2 b hlt (fun e => by have := (hne'.out hp b hb).2; omega))
      · intro hp y hy
        have hl2 : (r.laid all l).has.length = r.has.length := hl
        rw [hl2] at hp hy
        exact (hne'.out hp y hy).1
end Go.Proofs.Ytamkngpkplflcaa
