/- The law ExtentPlays walked, whatever is given. -/
import Derived.Test.YtamkngpkplflcaaExtPlays
import Derived.Test.YtamkngpkplflcaaExtPlaysB
namespace Go.Proofs.Ytamkngpkplflcaa
open Go.RowKit

theorem extentPlays_any (f c : Int) (hf : I64 f) (hc : I64 c) (A : Option Addr) (b off n ca : Nat) (G : Nat → DAct) (w : World) (hA : 0 < n → A = some ⟨b, off, none⟩) (hn : n ≤ 9223372036854775807) (h : DActs w w.heap.size b off n G) :
    Calls Try.prog 9 #[.agg #[.int .i64 f, .int .i64 c], .slice A n ca] w fun e w' => e = .returned (.bool true) ∧ Below w.heap.size w w' := by
  by_cases hl : liesV f c 9 = true
  · obtain ⟨a, k, rfl, rfl, h1, h2⟩ := lies_nat f c 9 hl
    by_cases h50 : n ≤ 50
    · exact plays_le a k h1 (by omega) A b off n ca G w hA hn h50 h
    · exact plays_gt a k h1 (by omega) A b off n ca G w hA hn (by omega) h
  · exact plays_bad f c hf hc (by simpa using hl) _ w
end Go.Proofs.Ytamkngpkplflcaa
