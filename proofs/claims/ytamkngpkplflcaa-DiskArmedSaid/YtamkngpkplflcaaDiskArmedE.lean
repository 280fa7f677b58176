/- The law DiskArmed walked: all cases. -/
import Derived.Test.YtamkngpkplflcaaDiskArmedA
import Derived.Test.YtamkngpkplflcaaDiskArmedB
import Derived.Test.YtamkngpkplflcaaDiskArmedC
import Derived.Test.YtamkngpkplflcaaDiskArmedD
namespace Go.Proofs.Ytamkngpkplflcaa
open Go.RowKit
theorem diskArmed_any (A : Option Addr) (b off n c : Nat) (G : Nat → DAct) (kv : Value) (keep : List Bool) (w : World) (hA : 0 < n → A = some ⟨b, off, none⟩) (hn : n ≤ 9223372036854775807) (h : DActs w w.heap.size b off n G) (hk : BoolsB w w.heap.size kv keep) (hkl : keep.length ≤ 140737488355328) (m : Int) (hI : I64 m) :
    Calls Try.prog 6 #[.slice A n c, .int .i64 m, kv] w fun e w' => e = .returned (.bool true) ∧ Below w.heap.size w w' := by
  by_cases h40 : n ≤ 40 <;> by_cases hm : 0 < m
  · exact armed_le_pos A b off n c G kv keep w hA hn h40 h hk hkl m hm hI
  · exact armed_le_neg A b off n c G kv keep w hA hn h40 h hk hkl m hm hI
  · exact armed_gt_pos A b off n c G kv keep w hA hn (by omega) h hk hkl m hm hI
  · exact armed_gt_neg A b off n c G kv keep w hA hn (by omega) h hk hkl m hm hI
end Go.Proofs.Ytamkngpkplflcaa
