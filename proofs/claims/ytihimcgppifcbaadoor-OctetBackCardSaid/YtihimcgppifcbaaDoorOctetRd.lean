/- octet.Reader: in memory, Read, At, Left, fail, Bytes. -/
import Derived.Test.YtihimcgppifcbaaDoorOctetNum
import Derived.Test.YtihimcgppifcbaaDoorFaultNew
import Derived.Test.YtihimcgppifcbaaDoorFaultWalk
import Derived.Deep.WholeRow
namespace Go.Proofs.YtihimcgppifcbaaDoor
open Go.RowKit

/-- a reader's error: none, or a fault with a code at the place where it stands -/
def RdErr (w : World) (g : Nat) (at_ : Nat) (ev : Value) (code : Int) : Prop :=
  (code = 0 ∧ ev = .nilIface) ∨ (code ≠ 0 ∧ ∃ gf, ev = .iface 67 (.pointer (some ⟨gf, 0, none⟩)) ∧ gf ≠ g ∧ Fault1 w gf code at_)
/-- a reader at g: v its own bytes l, ev its error -/
structure RdAt (w : World) (g : Nat) (v ev : Value) (l : List UInt8) (at_ : Nat) (code : Int) : Prop where
  lt : g < w.heap.size
  c0 : w.cell? ⟨g, 0, none⟩ = some v
  c1 : w.cell? ⟨g, 1, none⟩ = some (.int .i64 at_)
  c2 : w.cell? ⟨g, 2, none⟩ = some ev
  thaw : ∀ j, w.frozen? ⟨g, j, none⟩ = false
  b : w.ownsRow 0 5 1 v l.length (bytesV l)
  vg : v.ownBlock ≠ some g
  le : at_ ≤ l.length
  er : RdErr w g at_ ev code
theorem own_laterO {w w' : World} {F : Nat → Prop} {base : Nat} {e : TypeId} {size : Nat} {v : Value} {n : Nat} {xs : List Value} (h : w.ownsRow base e size v n xs) (t : Later F w w') (hv : ∀ b, v.ownBlock = some b → ¬ F b) : w'.ownsRow base e size v n xs := by
  rcases h with ⟨h0, h | ⟨g, cap, cur, rfl, h1, h2, h3⟩⟩
  · exact ⟨h0, .inl h⟩
  · have hlt : g < w.heap.size := (Array.getElem?_eq_some_iff.1 h2).1
    exact ⟨h0, .inr ⟨g, cap, cur, rfl, h1, (t.2 g hlt (hv g rfl)).trans h2, h3⟩⟩
theorem RdAt.later {w w' : World} {F : Nat → Prop} {g : Nat} {v ev : Value} {l : List UInt8} {at_ : Nat} {code : Int} (h : RdAt w g v ev l at_ code) (t : Later F w w') (hg : ¬ F g) (hv : ∀ b, v.ownBlock = some b → ¬ F b) (he : ∀ t' gf, ev = .iface t' (.pointer (some ⟨gf, 0, none⟩)) → ¬ F gf) : RdAt w' g v ev l at_ code := by
  have e := fun o => Later.cell t (o := o) h.lt hg
  refine ⟨Nat.lt_of_lt_of_le h.lt t.1, (e 0).1.trans h.c0, (e 1).1.trans h.c1, (e 2).1.trans h.c2, fun j => (e j).2.trans (h.thaw j), own_laterO h.b t hv, h.vg, h.le, ?_⟩
  rcases h.er with ⟨h1, h2⟩ | ⟨h1, gf, h2, h3, h4⟩
  · exact .inl ⟨h1, h2⟩
  · exact .inr ⟨h1, gf, h2, h3, h4.later t (he _ gf h2)⟩

set_option maxRecDepth 100000 in
theorem read_any (v : Value) (l : List UInt8) (w : World) (h : Bs w v l) (hl : l.length ≤ 140737488355328) :
    Calls Tryd.prog 35 #[v] w fun e w' => ∃ g u, e = .returned (.pointer (some ⟨g, 0, none⟩)) ∧ w.heap.size ≤ g ∧ (∀ b, u.ownBlock = some b → w.heap.size ≤ b) ∧ RdAt w' g u .nilIface l 0 0 ∧ Below w.heap.size w w' := by
  have h' := hide h
  clear h
  go_enter Tryd.func35, Tryd.ntmps35
  go_wp2_with ((at_builtin; refine list_app_any elem_bytes rfl (.const (.slice none 0 0)) (.tmp 3) rfl w.heap.size (.slice none 0 0) 0 [] rfl (World.ownsRow_nil _ _ _ _) v l.length (bytesV l) rfl h'.out (bytesV_one l) (by simp only [maxLen]; omega) (by omega) (Nat.le_refl _) ?_))
  intro u w1 hown hgr hub
  have ho : w1.ownsRow w.heap.size 5 1 u l.length (bytesV l) := by simpa using hown
  have hT : Touch (fun _ => False) w w1 := ⟨(Below.refl _ _).grown hgr (Nat.zero_le _) (by intro k hk; cases hk), later_grown hgr (by intro k hk; cases hk)⟩
  have hT' := hide hT
  have hs := hT.size
  obtain ⟨A, cp, rfl, _⟩ := Sl.own ho
  have ho' := hide ho
  clear hown hgr hub hT ho
  go_wp2_with fail
  go_ret
  refine ⟨w1.heap.size, _, rfl, hs, fun b hb => (ho'.out.lt b hb).1, ⟨by simp, by simp [go_sem], by simp [go_sem], by simp [go_sem], fun j => frozen_of_row _ _ j _ _ (heap_alloc_last w1 _), ?_, fun e => ?_, Nat.zero_le _, .inl ⟨rfl, rfl⟩⟩, (hT'.out.below (Nat.le_refl _) (fun k _ h => h)).alloc hs _⟩
  · have := ho'.out.alloc (.cells #[.slice A l.length cp, .int .i64 0, .nilIface] 73)
    exact ⟨this.1, this.2.imp id (fun ⟨g, cap, cur, a, b, c⟩ => ⟨g, cap, cur, a, Nat.zero_le _, c⟩)⟩
  · have := (ho'.out.lt _ e).2
    omega
set_option maxRecDepth 100000 in
theorem rdAt_any (g : Nat) (v ev : Value) (l : List UInt8) (at_ : Nat) (code : Int) (w : World) (h : RdAt w g v ev l at_ code) :
    Calls Tryd.prog 41 #[.pointer (some ⟨g, 0, none⟩)] w fun e w' => e = .returned (.int .i64 at_) ∧ w' = w := by
  have h1 := h.c1
  clear h
  go_enter Tryd.func41, Tryd.ntmps41
  go_wp2_with fail
  go_ret
  exact ⟨rfl, rfl⟩
set_option maxRecDepth 100000 in
theorem rdLeft_any (g : Nat) (v ev : Value) (l : List UInt8) (at_ : Nat) (code : Int) (w : World) (h : RdAt w g v ev l at_ code) (hl : l.length ≤ 140737488355328) :
    Calls Tryd.prog 37 #[.pointer (some ⟨g, 0, none⟩)] w fun e w' => e = .returned (.int .i64 ((l.length - at_ : Nat) : Int)) ∧ Q w w' := by
  obtain ⟨A, c, rfl, _⟩ := (Sl.own h.b)
  have h0 := h.c0
  have h1 := h.c1
  have hle := h.le
  have hs : IntKind.i64.wrap ((l.length : Int) - (at_ : Int)) = ((l.length - at_ : Nat) : Int) := by rw [IntWalk.i64_in _ (by omega)]; omega
  clear h
  go_enter Tryd.func37, Tryd.ntmps37
  go_wp2_with fail
  go_quiet (fail)
  go_wp2_with fail
  go_ret
  exact ⟨rfl, _, rfl⟩

set_option maxRecDepth 100000 in
theorem rdFail_new (g : Nat) (v : Value) (l : List UInt8) (at_ : Nat) (c : Int) (hc : ¬ c = 0) (w : World) (h : RdAt w g v .nilIface l at_ 0) :
    Calls Tryd.prog 43 #[.pointer (some ⟨g, 0, none⟩), .int .i64 c] w fun e w' => ∃ gf, e = .returned (.tuple #[]) ∧ w.heap.size ≤ gf ∧ RdAt w' g v (.iface 67 (.pointer (some ⟨gf, 0, none⟩))) l at_ c ∧ Touch (fun k => k = g) w w' := by
  have h1 := h.c1
  have h2 := h.c2
  have hc' := hide hc
  have hgl := h.lt
  have h' := hide h
  clear h hc
  go_enter Tryd.func43, Tryd.ntmps43
  go_wp2_with fail
  refine (newFault_any c at_ hc'.out _).mono ?_
  rintro e w1 ⟨gf, rfl, a1, a2, a3, a4, a5, hb⟩
  have hF := hide (show Fault1 w1 gf c at_ from ⟨a2, a3, a4, a5⟩)
  have hb' := hide hb
  have c2 : w1.cell? ⟨g, 2, none⟩ = some .nilIface := (hb.cell (p := ⟨g, 2, none⟩) hgl).trans h2
  have z2 : w1.frozen? ⟨g, 2, none⟩ = false := (hb.frozen (p := ⟨g, 2, none⟩) hgl).trans (h'.out.thaw 2)
  have hne : gf ≠ g := by omega
  clear a2 a3 a4 a5 hb
  go_wp2_with fail
  go_end0
  have hR := h'.out.later (F := fun _ => False) (below_later hb'.out (Nat.le_refl _)) (fun h => h) (fun _ _ h => h) (fun _ _ _ h => h)
  have hl : Later (fun k => k = g) w1 (w1.setCell ⟨g, 2, none⟩ (.iface 67 (.pointer (some ⟨gf, 0, none⟩)))) := later_setCell (F := fun k => k = g) w1 _ rfl
  exact ⟨gf, rfl, a1, ⟨Nat.lt_of_lt_of_le hR.lt hl.1, (World.cell?_setCell_other _ _ _ _ (by simp)).trans hR.c0, (World.cell?_setCell_other _ _ _ _ (by simp)).trans hR.c1, World.cell?_setCell_same _ _ _ c2, fun j => by rw [World.frozen?_setCell]; exact hR.thaw j,
    own_laterO hR.b hl (fun b hb e => hR.vg (by rw [hb, e])), hR.vg, hR.le, .inr ⟨hc'.out, gf, rfl, hne, hF.out.later hl hne⟩⟩, (Touch.ofBelow (F := fun k => k = g) hb'.out).setCell (p := ⟨g, 2, none⟩) rfl _⟩
end Go.Proofs.YtihimcgppifcbaaDoor
