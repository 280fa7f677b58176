/- fault.Path at a fault without a cause. -/
import Derived.Test.YtkcjjogekkldkaaDoorFaultWalk
namespace Go.Proofs.YtkcjjogekkldkaaDoor
open Go.RowKit

theorem elem_intsF : Elem Tryd.prog 34 3 1 8 := Elem.of (z := .int .i64 0) Tryd.underlying34 (by kernel_rfl) rfl (by omega)
def PathPost (at_ : Int) (w : World) (e : Ending) (w' : World) : Prop := ∃ r cap, e = .returned (.slice (some ⟨r, 0, none⟩) 1 cap) ∧ r < w'.heap.size ∧ w'.cell? ⟨r, 0, none⟩ = some (.int .i64 at_) ∧ Below w.heap.size w w'
def PathInv (w : World) (g r : Nat) (code at_ : Int) (v i : Value) (wr : World) : Prop :=
  Fault1 wr g code at_ ∧ r < wr.heap.size ∧ wr.cell? ⟨r, 0, none⟩ = some (.pointer (some ⟨g, 0, none⟩)) ∧ Below w.heap.size w wr ∧
  ((i = .int .i64 0 ∧ v = .slice none 0 0) ∨ (i = .int .i64 1 ∧ wr.ownsRow w.heap.size 3 1 v 1 [.int .i64 at_]))

set_option maxRecDepth 100000 in
set_option maxHeartbeats 1000000 in
theorem path_one (g : Nat) (code at_ : Int) (w : World) (h : Fault1 w g code at_) (hg : ErrT w) :
    Calls Tryd.prog 9 #[.iface 47 (.pointer (some ⟨g, 0, none⟩))] w (PathPost at_ w) := by
  have h' := hide h
  have hgg := hide hg
  clear h hg
  go_enter Tryd.func9, Tryd.ntmps9
  go_wp2_with fail
  refine (row_one g code at_ _ h'.out hgg.out).mono ?_
  rintro e w1 ⟨r, cap, rfl, hr, hc, hb⟩
  have hinv' := hide (show PathInv w g r code at_ (.slice none 0 0) (.int .i64 0) w1 from ⟨h'.out.below hb, hr, hc, hb, .inl ⟨rfl, rfl⟩⟩)
  clear hr hc hb
  go_wp2_with fail
  go_loopw [3, 9] (fun v i wr => PathInv w g r code at_ v i wr) (fun _ i _ => 1 - (intOf i).toNat)
  case atStart => exact hinv'.out
  case round =>
    obtain ⟨hF, hr, hc, hb, hst⟩ := hrel
    rcases hst with ⟨rfl, rfl⟩ | ⟨rfl, hown⟩
    · have hF' := hide hF
      have hb' := hide hb
      have hs := hb.size
      have c1 := hF.a
      clear hF hb hinv'
      go_wp2_with ((at_builtin; refine list_app elem_intsF rfl (.tmp 13) (.tmp 18) rfl w.heap.size (.slice none 0 0) 0 [] rfl (World.ownsRow_nil _ _ _ _) ⟨wr.heap.size, 0, none⟩ 1 1 [.int .i64 at_] rfl rfl (World.news_of_block (cs := #[.int .i64 at_]) (t := 3) (fr := (0, 0)) (heap_alloc_new wr _)) (by simp [Value.oneCell']) (by omega) (by simp only [maxLen]; omega) (by omega) (by simp; omega) (wr.heap.size + 1) (by simp) ?_))
      intro q cap3 w3 hown hgr hat hlt3
      have hT3 : Touch (fun _ => False) wr w3 := ((Touch.refl _ wr).alloc _).trans ⟨(Below.refl _ _).grown hgr (Nat.zero_le _) (by intro k hk; cases hk), later_grown hgr (by intro k hk; cases hk)⟩
      have hfin := hide (show PathInv w g r code at_ (.slice (some ⟨q, 0, none⟩) 1 cap3) (.int .i64 1) w3 from ⟨hF'.out.later hT3.2 (fun h => h), Nat.lt_of_lt_of_le hr hT3.size, (Later.cell hT3.2 hr (fun h => h)).1.trans hc, hb'.out.trans (hT3.below hb'.out.size (fun k hk e => e)), .inr ⟨rfl, by simpa using hown⟩⟩)
      clear hown hgr hat hT3
      go_wp2_with fail
      go_roundw
      case rel => exact hfin.out
      case measure => simp [intOf]
    · have hown' := hide hown
      have hb' := hide hb
      clear hF hb hinv' hown
      go_wp2_with fail
      go_ret
      obtain ⟨q, cap3, rfl, _, hq, hcq⟩ : ∃ q cap3, u3 = .slice (some ⟨q, 0, none⟩) 1 cap3 ∧ True ∧ q < wr.heap.size ∧ wr.cell? ⟨q, 0, none⟩ = some (.int .i64 at_) := by
        rcases hown'.out.2 with ⟨_, h0⟩ | ⟨q, cap3, cur, rfl, _⟩
        · cases h0
        · refine ⟨q, cap3, rfl, trivial, (hown'.out.lt q rfl).2, ?_⟩
          have := hown'.out.cells (g := q) rfl 0 _ rfl
          rwa [Addr.add_lit] at this
      exact ⟨q, cap3, rfl, hq, hcq, hb'.out⟩
end Go.Proofs.YtkcjjogekkldkaaDoor
