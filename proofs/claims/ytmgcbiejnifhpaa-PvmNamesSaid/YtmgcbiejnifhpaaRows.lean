/-
  No cell of these rows narrows 'for every input' (looked for: loops, veiled, ifaces, maps, wideKeys, modest, calm, conditions, laid).
  DERIVED. THE GIVEN ROWS OF THIS SEAT. 4 by the template 'for every input the law returns true; each argument reads behind the call as it read before'; 0 by the template 'total and deterministic' (their statements: YtmgcbiejnifhpaaTotals.lean).
  GIVEN WITH THE SEED: the statements are not yours to turn. If you find one false, say at which input.
  Laid BY PROGRAM, IN A SANDBOX (cutbox-rows.mjs): the forced cells as the released guide's own fill.sh prints them over the translation 707352ed97467366… (all of the seat's roots in one cut). By AI agents, Wed Nov 11 2026. No macro, syntax, notation, axiom, sorry.
-/
import Derived.Test.YtmgcbiejnifhpaaChecked
import GoSem.Claim
import GoSem.ClaimJoined
import GoSem.ClaimMapViews
import Derived.JoinedTies
import Derived.KernelRfl
namespace Go.Proofs.Ytmgcbiejnifhpaa
/- THE CELL 'sum', in the pinned program and in every row, IS THE sha256 OF THE DUMP (.gsa) THAT YtmgcbiejnifhpaaProg.lean LOADS. Nothing in Lean hashes anything: it is a label: what it is worth is what the hold of that sum in a sandbox is worth. -/
noncomputable def Try.pinned : Pinned := { name := "ytmgcbiejnifhpaa", sum := "707352ed9746736608fab12e31a9e2de86caf6101d32f7bcc620c2394cded935", checked := Try.checked }
namespace Rows
def none {H : Type} : Left H := { results := [], args := [] }

/-- 'nacellelaw08.PvmNames': WHATEVER THE INPUT: true; the input reads as it did. -/
def pvmNamesSpec : ChangeSpec := { name := "pvmNames", fn := fun _ => fun
  | [d] => { results := [.lit (.bool true)], args := [d] }
  | _ => none }
def pvmNamesRow : OpenClaim := { program := "ytmgcbiejnifhpaa", sum := "707352ed9746736608fab12e31a9e2de86caf6101d32f7bcc620c2394cded935", func := "nacelle/nacellelaw08.PvmNames", spec := "pvmNames", apart := false }
def PvmNamesSaid : Prop := pvmNamesRow.holds Try.pinned (OpenSpec.ofChange pvmNamesSpec)

/-- ITS FALSE NEIGHBOUR: 'it returns false'. Refute it at one input. -/
def pvmNamesWrong : ChangeSpec := { name := "pvmNames", fn := fun _ => fun
  | [d] => { results := [.lit (.bool false)], args := [d] }
  | _ => none }
def PvmNamesWrongFalsely : Prop := pvmNamesRow.holds Try.pinned (OpenSpec.ofChange pvmNamesWrong)

/-- 'nacellelaw08.PvmConfined': WHATEVER THE INPUT: true; the input reads as it did. -/
def pvmConfinedSpec : ChangeSpec := { name := "pvmConfined", fn := fun _ => fun
  | [d1, d2] => { results := [.lit (.bool true)], args := [d1, d2] }
  | _ => none }
def pvmConfinedRow : OpenClaim := { program := "ytmgcbiejnifhpaa", sum := "707352ed9746736608fab12e31a9e2de86caf6101d32f7bcc620c2394cded935", func := "nacelle/nacellelaw08.PvmConfined", spec := "pvmConfined", apart := false }
def PvmConfinedSaid : Prop := pvmConfinedRow.holds Try.pinned (OpenSpec.ofChange pvmConfinedSpec)

/-- ITS FALSE NEIGHBOUR: 'it returns false'. Refute it at one input. -/
def pvmConfinedWrong : ChangeSpec := { name := "pvmConfined", fn := fun _ => fun
  | [d1, d2] => { results := [.lit (.bool false)], args := [d1, d2] }
  | _ => none }
def PvmConfinedWrongFalsely : Prop := pvmConfinedRow.holds Try.pinned (OpenSpec.ofChange pvmConfinedWrong)

/-- 'nacellelaw08.PvmChecked': WHATEVER THE INPUT: true; the input reads as it did. -/
def pvmCheckedSpec : ChangeSpec := { name := "pvmChecked", fn := fun _ => fun
  | [d1, d2, d3] => { results := [.lit (.bool true)], args := [d1, d2, d3] }
  | _ => none }
def pvmCheckedRow : OpenClaim := { program := "ytmgcbiejnifhpaa", sum := "707352ed9746736608fab12e31a9e2de86caf6101d32f7bcc620c2394cded935", func := "nacelle/nacellelaw08.PvmChecked", spec := "pvmChecked", apart := false }
def PvmCheckedSaid : Prop := pvmCheckedRow.holds Try.pinned (OpenSpec.ofChange pvmCheckedSpec)

/-- ITS FALSE NEIGHBOUR: 'it returns false'. Refute it at one input. -/
def pvmCheckedWrong : ChangeSpec := { name := "pvmChecked", fn := fun _ => fun
  | [d1, d2, d3] => { results := [.lit (.bool false)], args := [d1, d2, d3] }
  | _ => none }
def PvmCheckedWrongFalsely : Prop := pvmCheckedRow.holds Try.pinned (OpenSpec.ofChange pvmCheckedWrong)

/-- 'nacellelaw08.PvmBack': WHATEVER THE INPUT: true; the input reads as it did. -/
def pvmBackSpec : ChangeSpec := { name := "pvmBack", fn := fun _ => fun
  | [d1, d2, d3] => { results := [.lit (.bool true)], args := [d1, d2, d3] }
  | _ => none }
def pvmBackRow : OpenClaim := { program := "ytmgcbiejnifhpaa", sum := "707352ed9746736608fab12e31a9e2de86caf6101d32f7bcc620c2394cded935", func := "nacelle/nacellelaw08.PvmBack", spec := "pvmBack", apart := false }
def PvmBackSaid : Prop := pvmBackRow.holds Try.pinned (OpenSpec.ofChange pvmBackSpec)

/-- ITS FALSE NEIGHBOUR: 'it returns false'. Refute it at one input. -/
def pvmBackWrong : ChangeSpec := { name := "pvmBack", fn := fun _ => fun
  | [d1, d2, d3] => { results := [.lit (.bool false)], args := [d1, d2, d3] }
  | _ => none }
def PvmBackWrongFalsely : Prop := pvmBackRow.holds Try.pinned (OpenSpec.ofChange pvmBackWrong)

/- THE SECOND FORM. 'bulk': how many values and letters a reading holds, each counted each time it is reached (what is shared counts as often as it is met; a slice's spare places count too). A statement '..UptoSaid' is the law's where the arguments, and the package variables that the reading takes, are together of bulk at most 1048576: NARROWER than '..Said'. Prove '..Said' where nothing that the law and all that it calls make is longer than what came in: it says more and counts as full. Else prove '..UptoSaid'. A law counts once. -/
mutual
def uptoBulk {H : Type} : DataW H → Nat
  | .lit (.string bytes) => bytes.length + 1
  | .lit _ => 1
  | .nil => 1
  | .ptr d => uptoBulk d + 1
  | .slice elems spare => uptoBulkAll elems + uptoBulkAll spare + 1
  | .agg parts => uptoBulkAll parts + 1
  | .iface _ d => uptoBulk d + 1
  | .map entries => uptoBulkEntries entries + 1
  | .held _ => 1
def uptoBulkAll {H : Type} : List (DataW H) → Nat
  | [] => 0
  | d :: r => uptoBulk d + uptoBulkAll r
def uptoBulkEntries {H : Type} : List (Lit × DataW H) → Nat
  | [] => 0
  | x :: r => uptoBulkEntry x + uptoBulkEntries r
def uptoBulkEntry {H : Type} : Lit × DataW H → Nat
  | (.string bytes, d) => bytes.length + uptoBulk d + 1
  | (_, d) => uptoBulk d + 1
 end
def uptoSmall : (H : Type) → List (DataW H) → Bool := fun _ ds => decide (uptoBulkAll ds ≤ 1048576)
def OpenSpec.upto (s : _root_.Go.ChangeSpec) : _root_.Go.OpenSpec := { _root_.Go.OpenSpec.ofChange s with cond := some uptoSmall }

/-- 'nacellelaw08.PvmNames', WHERE WHAT IT READS IS OF BULK AT MOST 1048576: true; the input reads as it did. -/
def pvmNamesUptoRow : OpenClaim := { program := "ytmgcbiejnifhpaa", sum := "707352ed9746736608fab12e31a9e2de86caf6101d32f7bcc620c2394cded935", func := "nacelle/nacellelaw08.PvmNames", spec := "pvmNames", apart := false, narrowed := true }
def PvmNamesUptoSaid : Prop := pvmNamesUptoRow.holds Try.pinned (OpenSpec.upto pvmNamesSpec)

/-- 'nacellelaw08.PvmConfined', WHERE WHAT IT READS IS OF BULK AT MOST 1048576: true; the input reads as it did. -/
def pvmConfinedUptoRow : OpenClaim := { program := "ytmgcbiejnifhpaa", sum := "707352ed9746736608fab12e31a9e2de86caf6101d32f7bcc620c2394cded935", func := "nacelle/nacellelaw08.PvmConfined", spec := "pvmConfined", apart := false, narrowed := true }
def PvmConfinedUptoSaid : Prop := pvmConfinedUptoRow.holds Try.pinned (OpenSpec.upto pvmConfinedSpec)

/-- 'nacellelaw08.PvmChecked', WHERE WHAT IT READS IS OF BULK AT MOST 1048576: true; the input reads as it did. -/
def pvmCheckedUptoRow : OpenClaim := { program := "ytmgcbiejnifhpaa", sum := "707352ed9746736608fab12e31a9e2de86caf6101d32f7bcc620c2394cded935", func := "nacelle/nacellelaw08.PvmChecked", spec := "pvmChecked", apart := false, narrowed := true }
def PvmCheckedUptoSaid : Prop := pvmCheckedUptoRow.holds Try.pinned (OpenSpec.upto pvmCheckedSpec)

/-- 'nacellelaw08.PvmBack', WHERE WHAT IT READS IS OF BULK AT MOST 1048576: true; the input reads as it did. -/
def pvmBackUptoRow : OpenClaim := { program := "ytmgcbiejnifhpaa", sum := "707352ed9746736608fab12e31a9e2de86caf6101d32f7bcc620c2394cded935", func := "nacelle/nacellelaw08.PvmBack", spec := "pvmBack", apart := false, narrowed := true }
def PvmBackUptoSaid : Prop := pvmBackUptoRow.holds Try.pinned (OpenSpec.upto pvmBackSpec)

end Rows
end Go.Proofs.Ytmgcbiejnifhpaa
