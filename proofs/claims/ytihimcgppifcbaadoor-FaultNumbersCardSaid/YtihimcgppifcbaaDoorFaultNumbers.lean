/- The law FaultNumbers walked. -/
import Derived.Test.YtihimcgppifcbaaDoorFaultNew
import Derived.Test.YtihimcgppifcbaaDoorFaultWalk
namespace Go.Proofs.YtihimcgppifcbaaDoor
open Go.RowKit

set_option maxRecDepth 100000 in
theorem faultNumbers_any (w : World) (hE : ErrT w) :
    Calls Tryd.prog 9 #[] w fun e w' => e = .returned (.bool true) ∧ Below w.heap.size w w' := by
  have hE' := hide hE
  clear hE
  go_enter Tryd.func9, Tryd.ntmps9
  go_wp2_with fail
  refine (newFault_any 9 0 (by decide) _).mono ?_
  rintro e w1 ⟨g, rfl, h1, h2, h3, h4, h5, hb⟩
  have hF := hide (show Fault1 w1 g 9 0 from ⟨h2, h3, h4, h5⟩)
  have hb' := hide hb
  clear h1 h2 h3 h4 h5 hb
  go_wp2_with fail
  refine (code_one g 9 0 _ hF.out (hE'.out.below hb'.out)).mono ?_
  rintro e w2 ⟨rfl, hb2⟩
  have hb2' := hide (hb'.out.trans (hb2.mono hb'.out.size))
  clear hb2
  go_wp2_with fail
  go_ret
  exact ⟨rfl, hb2'.out⟩
end Go.Proofs.YtihimcgppifcbaaDoor
