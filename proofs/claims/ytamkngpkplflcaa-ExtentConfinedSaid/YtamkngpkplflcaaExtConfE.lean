/- The law ExtentConfined walked: all cases. -/
import Derived.Test.YtamkngpkplflcaaExtConfA
import Derived.Test.YtamkngpkplflcaaExtConfB
import Derived.Test.YtamkngpkplflcaaExtConfC
import Derived.Test.YtamkngpkplflcaaExtConfD
namespace Go.Proofs.Ytamkngpkplflcaa
open Go.RowKit
theorem extentConfined_any (A : Option Addr) (b off m c : Nat) (G : Nat → DAct) (w : World) (hA : 0 < m → A = some ⟨b, off, none⟩) (hm : m ≤ 9223372036854775807) (h : DActs w w.heap.size b off m G) (cut : Int) (hI : I64 cut) :
    Calls Try.prog 8 #[.int .i64 cut, .slice A m c] w fun e w' => e = .returned (.bool true) ∧ Below w.heap.size w w' := by
  by_cases h40 : m ≤ 40 <;> by_cases hc : 0 < cut
  · exact extConf_le_pos A b off m c G w hA hm h40 h cut hc hI (1 + cut % 3).toNat (by omega) (by omega) (by omega)
  · exact extConf_le_neg A b off m c G w hA hm h40 h cut hc hI
  · exact extConf_gt_pos A b off m c G w hA hm (by omega) h cut hc hI (1 + cut % 3).toNat (by omega) (by omega) (by omega)
  · exact extConf_gt_neg A b off m c G w hA hm (by omega) h cut hc hI
end Go.Proofs.Ytamkngpkplflcaa
