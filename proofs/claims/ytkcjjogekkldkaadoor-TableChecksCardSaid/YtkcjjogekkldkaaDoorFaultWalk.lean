/- fault.Code and fault.Path at a fault without a cause. -/
import Derived.Test.YtkcjjogekkldkaaDoorErrAs
import Derived.Test.YtkcjjogekkldkaaDoorTouch
namespace Go.Proofs.YtkcjjogekkldkaaDoor
open Go.RowKit

/-- errors.errorType holds the handle of the type 'error' -/
def ErrT (w : World) : Prop := w.cell? ⟨0, 0, none⟩ = some (.iface 70 (.agg #[.pointer (some ⟨1, 27, none⟩)]))
theorem ErrT.lt {w : World} (h : ErrT w) : 0 < w.heap.size := World.block_lt_of_cell? w ⟨0, 0, none⟩ h
theorem ErrT.below {w w' : World} (h : ErrT w) (hb : Below w.heap.size w w') : ErrT w' := (hb.cell (p := ⟨0, 0, none⟩) h.lt).trans h
theorem ErrT.later {w w' : World} {F : Nat → Prop} (h : ErrT w) (hl : Later F w w') (hF : ¬ F 0) : ErrT w' := (Later.cell hl h.lt hF).1.trans h

theorem as_fault (e : Addr) (tb : Nat) (old : Value) (w : World) (hg : ErrT w) (ht : w.cell? ⟨tb, 0, none⟩ = some old) (hf : w.frozen? ⟨tb, 0, none⟩ = false) :
    Calls Tryd.prog 16 #[.iface 47 (.pointer (some e)), .iface 49 (.pointer (some ⟨tb, 0, none⟩))] w fun ev w' => ev = .returned (.bool true) ∧ Touch (fun k => k = tb) w w' ∧ w'.cell? ⟨tb, 0, none⟩ = some (.pointer (some e)) ∧ w'.frozen? ⟨tb, 0, none⟩ = false := by
  have htl : tb < w.heap.size := World.block_lt_of_cell? w ⟨tb, 0, none⟩ ht
  refine (as_hit e ⟨tb, 0, none⟩ old w hg ht hf).mono ?_
  rintro ev w' ⟨rfl, rfl⟩
  refine ⟨rfl, (((((Touch.refl (fun k => k = tb) w).alloc _).alloc _).alloc _).alloc _).setCell (p := ⟨tb, 0, none⟩) rfl _, ?_, ?_⟩
  · refine World.cell?_setCell_same _ _ (u := old) _ ?_
    rw [World.cell?_alloc_lt _ _ ⟨tb, 0, none⟩ (by simp; omega), World.cell?_alloc_lt _ _ ⟨tb, 0, none⟩ (by simp; omega), World.cell?_alloc_lt _ _ ⟨tb, 0, none⟩ (by simp; omega), World.cell?_alloc_lt _ _ ⟨tb, 0, none⟩ htl]
    exact ht
  · rw [World.frozen?_setCell, World.frozen?_alloc_old _ _ ⟨tb, 0, none⟩ (by simp; omega), World.frozen?_alloc_old _ _ ⟨tb, 0, none⟩ (by simp; omega), World.frozen?_alloc_old _ _ ⟨tb, 0, none⟩ (by simp; omega), World.frozen?_alloc_old _ _ ⟨tb, 0, none⟩ (Nat.ne_of_lt htl)]
    exact hf

/-- a fault without a cause -/
structure Fault1 (w : World) (g : Nat) (code at_ : Int) : Prop where
  lt : g < w.heap.size
  c : w.cell? ⟨g, 0, none⟩ = some (.int .i64 code)
  a : w.cell? ⟨g, 1, none⟩ = some (.int .i64 at_)
  n : w.cell? ⟨g, 2, none⟩ = some .nilIface
theorem Fault1.later {F : Nat → Prop} {w w' : World} {g : Nat} {code at_ : Int} (h : Fault1 w g code at_) (hl : Later F w w') (hF : ¬ F g) : Fault1 w' g code at_ :=
  ⟨Nat.lt_of_lt_of_le h.lt hl.1, (Later.cell hl h.lt hF).1.trans h.c, (Later.cell hl h.lt hF).1.trans h.a, (Later.cell hl h.lt hF).1.trans h.n⟩
theorem Fault1.below {w w' : World} {g : Nat} {code at_ : Int} (h : Fault1 w g code at_) (hb : Below w.heap.size w w') : Fault1 w' g code at_ := h.later (F := fun _ => False) (below_later hb (Nat.le_refl _)) (fun h => h)

set_option maxRecDepth 100000 in
theorem code_one (g : Nat) (code at_ : Int) (w : World) (h : Fault1 w g code at_) (hg : ErrT w) :
    Calls Tryd.prog 8 #[.iface 47 (.pointer (some ⟨g, 0, none⟩))] w fun e w' => e = .returned (.int .i64 code) ∧ Below w.heap.size w w' := by
  have hgl := h.lt
  have h' := hide h
  have hgg := hide hg
  have hgt := hide hg.lt
  clear h hg
  go_enter Tryd.func8, Tryd.ntmps8
  go_wp2_with fail
  have hA := hide (hgg.out.later (F := fun _ => False) (later_alloc w (.cells #[.pointer none] 47)) (fun h => h))
  have hF := hide (h'.out.later (F := fun _ => False) (later_alloc w (.cells #[.pointer none] 47)) (fun h => h))
  refine (as_fault ⟨g, 0, none⟩ w.heap.size (.pointer none) _ hA.out (by simp [go_sem]) (by simp [go_sem])).mono ?_
  rintro e w2 ⟨rfl, hT, hc, hz⟩
  have hF2 := hF.out.later hT.2 (by omega)
  have c0 := hF2.c
  have hb := hide (((Below.refl _ _).alloc (Nat.le_refl _) _).trans (hT.below (B := w.heap.size) (by simp) (fun k hk e => by omega)))
  clear hT hF2
  go_wp2_with fail
  go_ret
  exact ⟨rfl, hb.out⟩

theorem elem_faults : Elem Tryd.prog 52 47 1 8 := Elem.of (z := .pointer none) Tryd.underlying52 (by kernel_rfl) rfl (by omega)
def RowPost (g : Nat) (w : World) (e : Ending) (w' : World) : Prop := ∃ r cap, e = .returned (.slice (some ⟨r, 0, none⟩) 1 cap) ∧ r < w'.heap.size ∧ w'.cell? ⟨r, 0, none⟩ = some (.pointer (some ⟨g, 0, none⟩)) ∧ Below w.heap.size w w'
/-- the two states at the loop's head -/
def RowInv (w W1 : World) (g : Nat) (code at_ : Int) (er v : Value) (wr : World) : Prop :=
  ErrT wr ∧ Fault1 wr g code at_ ∧ Below w.heap.size w wr ∧ (∃ old, wr.cell? ⟨w.heap.size, 0, none⟩ = some old) ∧ wr.frozen? ⟨w.heap.size, 0, none⟩ = false ∧ W1.heap.size ≤ wr.heap.size ∧
  ((er = .iface 47 (.pointer (some ⟨g, 0, none⟩)) ∧ v = .slice none 0 0) ∨ (er = .nilIface ∧ wr.ownsRow W1.heap.size 47 1 v 1 [.pointer (some ⟨g, 0, none⟩)]))

set_option maxRecDepth 100000 in
set_option maxHeartbeats 1000000 in
theorem row_one (g : Nat) (code at_ : Int) (w : World) (h : Fault1 w g code at_) (hg : ErrT w) :
    Calls Tryd.prog 17 #[.iface 47 (.pointer (some ⟨g, 0, none⟩))] w (RowPost g w) := by
  have hgl := h.lt
  have h' := hide h
  have hgg := hide hg
  have hgt := hg.lt
  clear h hg
  go_enter Tryd.func17, Tryd.ntmps17
  go_wp2_with fail
  have hinv : RowInv w (w.alloc (.cells #[.pointer none] 47)) g code at_ (.iface 47 (.pointer (some ⟨g, 0, none⟩))) (.slice none 0 0) (w.alloc (.cells #[.pointer none] 47)) :=
    ⟨hgg.out.later (F := fun _ => False) (later_alloc _ _) (fun h => h), h'.out.later (F := fun _ => False) (later_alloc _ _) (fun h => h), (Below.refl _ _).alloc (Nat.le_refl _) _, ⟨.pointer none, by simp [go_sem]⟩, by simp [go_sem], Nat.le_refl _, .inl ⟨rfl, rfl⟩⟩
  have hl : w.heap.size < (w.alloc (.cells #[.pointer none] 47)).heap.size := by simp
  have hinv' := hide hinv
  clear hinv
  generalize w.alloc (.cells #[.pointer none] 47) = W1 at *
  go_loopw [0, 3] (fun er v wr => RowInv w W1 g code at_ er v wr) (fun er _ _ => match er with | .nilIface => 0 | _ => 1)
  case atStart => exact hinv'.out
  case round =>
    obtain ⟨hE, hF, hb, ⟨old, ho⟩, hz, hs, hst⟩ := hrel
    rcases hst with ⟨rfl, rfl⟩ | ⟨rfl, hown⟩
    · have hE' := hide hE
      have hF' := hide hF
      have hb' := hide hb
      have ho' := hide ho
      have hz' := hide hz
      clear hE hF hb ho hz hinv'
      go_wp2_with fail
      refine (as_fault ⟨g, 0, none⟩ w.heap.size old _ hE'.out ho'.out hz'.out).mono ?_
      rintro e w2 ⟨rfl, hT, hc, hz2⟩
      have hF2 := hF'.out.later hT.2 (by omega)
      have hE2 := hE'.out.later hT.2 (by omega)
      have c2 := hF2.n
      have hF2' := hide hF2
      have hE2' := hide hE2
      have hb2 := hb'.out.trans (hT.below hb'.out.size (fun k hk e => by omega))
      have hb2' := hide hb2
      have hs2 : W1.heap.size ≤ w2.heap.size := Nat.le_trans hs hT.size
      have hl2 : w.heap.size < w2.heap.size := by omega
      have hgl2 : g < w2.heap.size := by omega
      clear hT hF2 hE2 hb2
      go_wp2_with ((at_builtin; refine list_app elem_faults rfl (.tmp 8) (.tmp 10) rfl W1.heap.size (.slice none 0 0) 0 [] rfl (World.ownsRow_nil _ _ _ _) ⟨w2.heap.size, 0, none⟩ 1 1 [.pointer (some ⟨g, 0, none⟩)] rfl rfl (World.news_of_block (cs := #[.pointer (some ⟨g, 0, none⟩)]) (t := 47) (fr := (0, 0)) (heap_alloc_new w2 _)) (by simp [Value.oneCell']) (by omega) (by simp only [maxLen]; omega) (by omega) (by simp; omega) (w2.heap.size + 1) (by simp) ?_))
      intro r cap w3 hown hgr hat hlt3
      have hT3 : Touch (fun _ => False) w2 w3 := ((Touch.refl _ w2).alloc _).trans ⟨(Below.refl _ _).grown hgr (Nat.zero_le _) (by intro k hk; cases hk), later_grown hgr (by intro k hk; cases hk)⟩
      have hown' := hide hown
      have hF3 := hF2'.out.later hT3.2 (fun h => h)
      have c3 := hF3.n
      have cv : w3.cell? ⟨w.heap.size, 0, none⟩ = some (.pointer (some ⟨g, 0, none⟩)) := (Later.cell hT3.2 hl2 (fun h => h)).1.trans hc
      have hz3 : w3.frozen? ⟨w.heap.size, 0, none⟩ = false := (Later.cell hT3.2 hl2 (fun h => h)).2.trans hz2
      have hfin := hide (show RowInv w W1 g code at_ .nilIface (.slice (some ⟨r, 0, none⟩) 1 cap) w3 from ⟨hE2'.out.later hT3.2 (fun h => h), hF3, hb2'.out.trans (hT3.below hb2'.out.size (fun k hk e => e)), ⟨_, cv⟩, hz3, Nat.le_trans hs2 hT3.size, .inr ⟨rfl, by simpa using hown⟩⟩)
      clear hown hgr hat hT3 hF3
      go_wp2_with fail
      go_roundw
      case rel => exact hfin.out
      case measure => simp
    · have hown' := hide hown
      have hb' := hide hb
      clear hE hF hb ho hz hinv' hown
      go_wp2_with fail
      refine (as_nil _ _).mono ?_
      rintro e w2 ⟨rfl, rfl⟩
      go_wp2_with fail
      go_ret
      obtain ⟨r, cap, rfl, _, hr, hc⟩ : ∃ r cap, u3 = .slice (some ⟨r, 0, none⟩) 1 cap ∧ True ∧ r < w2.heap.size ∧ w2.cell? ⟨r, 0, none⟩ = some (.pointer (some ⟨g, 0, none⟩)) := by
        rcases hown'.out.2 with ⟨_, h0⟩ | ⟨r, cap, cur, rfl, _⟩
        · cases h0
        · refine ⟨r, cap, rfl, trivial, (hown'.out.lt r rfl).2, ?_⟩
          have := hown'.out.cells (g := r) rfl 0 _ rfl
          rwa [Addr.add_lit] at this
      exact ⟨r, cap, rfl, hr, hc, hb'.out⟩
end Go.Proofs.YtkcjjogekkldkaaDoor
