/- fault.Code and fault.Path at a fault without a cause. -/
import Derived.Test.YtihimcgppifcbaaDoorErrAs
import Derived.Test.YtihimcgppifcbaaDoorTouch
namespace Go.Proofs.YtihimcgppifcbaaDoor
open Go.RowKit

/-- errors.errorType holds the handle of the type 'error' -/
def ErrT (w : World) : Prop := w.cell? ⟨1, 0, none⟩ = some (.iface 88 (.agg #[.pointer (some ⟨2, 44, none⟩)]))
theorem ErrT.lt {w : World} (h : ErrT w) : 1 < w.heap.size := World.block_lt_of_cell? w ⟨1, 0, none⟩ h
theorem ErrT.below {w w' : World} (h : ErrT w) (hb : Below w.heap.size w w') : ErrT w' := (hb.cell (p := ⟨1, 0, none⟩) h.lt).trans h
theorem ErrT.later {w w' : World} {F : Nat → Prop} (h : ErrT w) (hl : Later F w w') (hF : ¬ F 1) : ErrT w' := (Later.cell hl h.lt hF).1.trans h

theorem as_fault (e : Addr) (tb : Nat) (old : Value) (w : World) (hg : ErrT w) (ht : w.cell? ⟨tb, 0, none⟩ = some old) (hf : w.frozen? ⟨tb, 0, none⟩ = false) :
    Calls Tryd.prog 42 #[.iface 67 (.pointer (some e)), .iface 69 (.pointer (some ⟨tb, 0, none⟩))] w fun ev w' => ev = .returned (.bool true) ∧ Touch (fun k => k = tb) w w' ∧ w'.cell? ⟨tb, 0, none⟩ = some (.pointer (some e)) ∧ w'.frozen? ⟨tb, 0, none⟩ = false := by
  have htl : tb < w.heap.size := World.block_lt_of_cell? w ⟨tb, 0, none⟩ ht
  refine (as_hit e ⟨tb, 0, none⟩ old w hg ht hf).mono ?_
  rintro ev w' ⟨rfl, rfl⟩
  refine ⟨rfl, (((((Touch.refl (fun k => k = tb) w).alloc _).alloc _).alloc _).alloc _).setCell (p := ⟨tb, 0, none⟩) rfl _, ?_, ?_⟩
  · refine World.cell?_setCell_same _ _ (u := old) _ ?_
    rw [World.cell?_alloc_lt _ _ ⟨tb, 0, none⟩ (by simp; omega), World.cell?_alloc_lt _ _ ⟨tb, 0, none⟩ (by simp; omega), World.cell?_alloc_lt _ _ ⟨tb, 0, none⟩ (by simp; omega), World.cell?_alloc_lt _ _ ⟨tb, 0, none⟩ htl]
    exact ht
  · rw [World.frozen?_setCell, World.frozen?_alloc_old _ _ ⟨tb, 0, none⟩ (by simp; omega), World.frozen?_alloc_old _ _ ⟨tb, 0, none⟩ (by simp; omega), World.frozen?_alloc_old _ _ ⟨tb, 0, none⟩ (by simp; omega), World.frozen?_alloc_old _ _ ⟨tb, 0, none⟩ (Nat.ne_of_lt htl)]
    exact hf

/-- a fault without a cause -/
structure Fault1 (w : World) (g : Nat) (code at_ : Int) : Prop where
  lt : g < w.heap.size
  c : w.cell? ⟨g, 0, none⟩ = some (.int .i64 code)
  a : w.cell? ⟨g, 1, none⟩ = some (.int .i64 at_)
  n : w.cell? ⟨g, 2, none⟩ = some .nilIface
theorem Fault1.later {F : Nat → Prop} {w w' : World} {g : Nat} {code at_ : Int} (h : Fault1 w g code at_) (hl : Later F w w') (hF : ¬ F g) : Fault1 w' g code at_ :=
  ⟨Nat.lt_of_lt_of_le h.lt hl.1, (Later.cell hl h.lt hF).1.trans h.c, (Later.cell hl h.lt hF).1.trans h.a, (Later.cell hl h.lt hF).1.trans h.n⟩
theorem Fault1.below {w w' : World} {g : Nat} {code at_ : Int} (h : Fault1 w g code at_) (hb : Below w.heap.size w w') : Fault1 w' g code at_ := h.later (F := fun _ => False) (below_later hb (Nat.le_refl _)) (fun h => h)

set_option maxRecDepth 100000 in
theorem code_one (g : Nat) (code at_ : Int) (w : World) (h : Fault1 w g code at_) (hg : ErrT w) :
    Calls Tryd.prog 25 #[.iface 67 (.pointer (some ⟨g, 0, none⟩))] w fun e w' => e = .returned (.int .i64 code) ∧ Below w.heap.size w w' := by
  have hgl := h.lt
  have h' := hide h
  have hgg := hide hg
  have hgt := hide hg.lt
  clear h hg
  go_enter Tryd.func25, Tryd.ntmps25
  go_wp2_with fail
  have hA := hide (hgg.out.later (F := fun _ => False) (later_alloc w (.cells #[.pointer none] 67)) (fun h => h))
  have hF := hide (h'.out.later (F := fun _ => False) (later_alloc w (.cells #[.pointer none] 67)) (fun h => h))
  refine (as_fault ⟨g, 0, none⟩ w.heap.size (.pointer none) _ hA.out (by simp [go_sem]) (by simp [go_sem])).mono ?_
  rintro e w2 ⟨rfl, hT, hc, hz⟩
  have hF2 := hF.out.later hT.2 (by omega)
  have c0 := hF2.c
  have hb := hide (((Below.refl _ _).alloc (Nat.le_refl _) _).trans (hT.below (B := w.heap.size) (by simp) (fun k hk e => by omega)))
  clear hT hF2
  go_wp2_with fail
  go_ret
  exact ⟨rfl, hb.out⟩
end Go.Proofs.YtihimcgppifcbaaDoor
