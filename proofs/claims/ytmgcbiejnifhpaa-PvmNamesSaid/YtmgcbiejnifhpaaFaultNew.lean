/- fault.New walked. -/
import Derived.Test.YtmgcbiejnifhpaaTouch
namespace Go.Proofs.Ytmgcbiejnifhpaa
open Go.RowKit

set_option maxRecDepth 100000 in
theorem newFault_any (code at_ : Int) (hc : ¬ code = 0) (w : World) :
    Calls Try.prog 23 #[.int .i64 code, .int .i64 at_] w fun e w' => ∃ g, e = .returned (.iface 72 (.pointer (some ⟨g, 0, none⟩))) ∧ w.heap.size ≤ g ∧ g < w'.heap.size ∧
      w'.cell? ⟨g, 0, none⟩ = some (.int .i64 code) ∧ w'.cell? ⟨g, 1, none⟩ = some (.int .i64 at_) ∧ w'.cell? ⟨g, 2, none⟩ = some .nilIface ∧ Below w.heap.size w w' := by
  have hcb : (code == 0) = false := by simpa using hc
  clear hc
  go_enter Try.func23, Try.ntmps23
  go_wp2_with fail
  go_ret
  exact ⟨_, rfl, Nat.le_refl _, by simp, by simp [go_sem], by simp [go_sem], by simp [go_sem], (Below.refl _ _).alloc (Nat.le_refl _) _⟩
end Go.Proofs.Ytmgcbiejnifhpaa
