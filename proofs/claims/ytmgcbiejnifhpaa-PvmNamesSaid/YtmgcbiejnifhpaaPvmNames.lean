/- Law 08's PvmNames. -/
import Derived.Test.YtmgcbiejnifhpaaPvmIs
import Derived.Test.YtmgcbiejnifhpaaPvmAwake2
namespace Go.Proofs.Ytmgcbiejnifhpaa
open Go.RowKit
theorem pvmNames_of (x : Int) (m : Nat) (hm : max 0 (min x 64) = (m : Int)) (w : World) (hnew : ∀ w0, Calls Try.prog 8 #[.int .i64 x] w0 fun e w' => ∃ A, e = .returned (.agg #[.int .i64 0, .int .i64 0, .int .i64 0, .int .i64 0, .int .i64 0, .int .i64 0, .int .i64 0, .int .i64 0, .int .i64 0, .slice A m m, .int .i64 0, .int .i64 0]) ∧ Sl w' 1 (.slice A m m) m (i64V (List.replicate m 0)) ∧ Below w0.heap.size w0 w') :
    Calls Try.prog 3 #[.int .i64 x] w fun e w' => e = .returned (.bool true) ∧ Below w.heap.size w w' := by
  have hm' := hide hm
  have hm64 : m ≤ 64 := by omega
  clear hm
  have hm64' := hide hm64
  clear hm64
  go_enter Try.func3, Try.ntmps3
  go_wp2_with fail
  refine (hnew w).mono ?_
  rintro e w1 ⟨A, rfl, hs1, hb⟩
  have hb1 := hide hb
  have hs1' := hide hs1
  clear hb hs1
  go_wp2_with fail
  refine (r8new_any x m hm'.out w1).mono ?_
  rintro e w2 ⟨B, cp, rfl, hs2, hb⟩
  have hs3 := hide (hs1'.out.below hb)
  have hb2 := hide (hb1.out.trans (hb.mono hb1.out.size))
  have hs2' := hide hs2
  clear hb hs2 hs1'
  go_wp2_with fail
  refine (is_new A B m cp hm64'.out w2 hs3.out hs2'.out).mono ?_
  rintro e w3 ⟨rfl, hb⟩
  have hb3 := hide (hb2.out.trans (hb.mono hb2.out.size))
  clear hb hs3 hs2'
  go_wp2_with fail
  refine (awake08 w3).mono ?_
  rintro e w4 ⟨rfl, hb⟩
  have hb4 := hide (hb3.out.trans (hb.mono hb3.out.size))
  clear hb
  go_wp2_with fail
  go_ret
  exact ⟨rfl, hb4.out⟩

theorem pvmNames_any (x : Int) (w : World) :
    Calls Try.prog 3 #[.int .i64 x] w fun e w' => e = .returned (.bool true) ∧ Below w.heap.size w w' := by
  by_cases h : x ≤ 0
  · exact pvmNames_of x 0 (by omega) w (fun w0 => pnew_none x h w0)
  · by_cases h2 : 64 < x
    · exact pvmNames_of x 64 (by omega) w (fun w0 => pnew_big x h2 w0)
    · obtain ⟨k, rfl⟩ : ∃ k : Nat, x = k := ⟨x.toNat, by omega⟩
      exact pvmNames_of k k (by omega) w (fun w0 => pnew_mid k (by omega) (by omega) w0)
end Go.Proofs.Ytmgcbiejnifhpaa
