/- What every tied card asks of a function's parameters. -/
import Derived.Test.YtihimcgppifcbaaDoorCards
import Derived.Test.YtihimcgppifcbaaDoorTie
namespace Go.Proofs.YtihimcgppifcbaaDoor
open Go

/-- No parameter wants a stand-in: what a card asks. -/
theorem plain_of {P : Program} {name : String} {n : FuncId} {fn0 : Func} (hname : P.funcNamed name = some n) (hfn : P.funcs[n]? = some fn0) {b : Bool} (hlook : b = P.looks []) (hall : (fn0.params.all fun u => !P.wantsStandIn u) = true)
    (f : FuncId) (fn : Func) (hf : P.funcNamed name = some f) (hg : P.funcs[f]? = some fn) : b = P.looks [] ∧ ∀ (j : Nat) t, fn.params[j]? = some t → P.wantsStandIn t = false := by
  obtain rfl : n = f := Option.some.inj (hname.symm.trans hf)
  obtain rfl : fn0 = fn := Option.some.inj (hfn.symm.trans hg)
  refine ⟨hlook, fun j t ht => ?_⟩
  have := Array.all_eq_true_iff_forall_mem.1 hall t (Array.mem_of_getElem? ht)
  simpa using this
end Go.Proofs.YtihimcgppifcbaaDoor
