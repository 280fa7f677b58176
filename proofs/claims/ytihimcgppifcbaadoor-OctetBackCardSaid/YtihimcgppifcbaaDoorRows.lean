/-
  NARROWER THAN 'FOR EVERY INPUT', by the rows' own cells (each row's printed sentence says how): CrcTells: laid · CrcOpens: laid · CrcPieces: laid · CrcLies: laid · CrcFinds: laid · CrcOwn: laid · FaultNumbers: laid · OctetPuts: laid · OctetGets: laid · OctetUnlike: laid · OctetOwn: laid · OctetBack: laid.
  DERIVED. THE GIVEN ROWS OF THIS SEAT. 12 by the template 'for every input the law returns true; each argument reads behind the call as it read before'; 0 by the template 'total and deterministic' (their statements: YtihimcgppifcbaaDoorTotals.lean).
  GIVEN WITH THE SEED: the statements are not yours to turn. If you find one false, say at which input.
  Laid BY PROGRAM, IN A SANDBOX (cutbox-rows.mjs): the forced cells as the released guide's own fill.sh prints them over the translation 5bfa70f980594dae… (all of the seat's roots in one cut). By AI agents, Wed Nov 11 2026. No macro, syntax, notation, axiom, sorry.
-/
import Derived.Test.YtihimcgppifcbaaDoorChecked
import GoSem.Claim
import GoSem.ClaimJoined
import GoSem.ClaimMapViews
import Derived.JoinedTies
import Derived.KernelRfl
namespace Go.Proofs.YtihimcgppifcbaaDoor
/- THE CELL 'sum', in the pinned program and in every row, IS THE sha256 OF THE DUMP (.gsa) THAT YtihimcgppifcbaaDoorProg.lean LOADS. Nothing in Lean hashes anything: it is a label: what it is worth is what the hold of that sum in a sandbox is worth. -/
noncomputable def Tryd.pinned : Pinned := { name := "ytihimcgppifcbaadoor", sum := "5bfa70f980594daed1eec0ae38aa43064bd405d4a60d5f99c8abc9bd619a6139", checked := Tryd.checked }
namespace Rows
def none {H : Type} : Left H := { results := [], args := [] }

/- WHAT THE LISTED PACKAGE-LEVEL VARIABLES READ AS WHEN THE CALL BEGINS. Each datum BY PROGRAM (the guide's laid-datum.mjs) off the statement by which the dump's own 'gosem.cut.vars' lays the variable. In a bare row this is a premise. The card (YtihimcgppifcbaaDoorCards.lean) ties it to the program's text. -/
def laid_nacelle_crc_half {H : Type} : DataW H := .agg [.lit (.int .u32 0), .lit (.int .u32 274646895), .lit (.int .u32 549293790), .lit (.int .u32 820201905), .lit (.int .u32 1098587580), .lit (.int .u32 1361435347), .lit (.int .u32 1640403810), .lit (.int .u32 1905808397), .lit (.int .u32 2197175160), .lit (.int .u32 2460548119), .lit (.int .u32 2722870694), .lit (.int .u32 2987750089), .lit (.int .u32 3280807620), .lit (.int .u32 3553878443), .lit (.int .u32 3811616794), .lit (.int .u32 4084100981)]
def laid_errors_errorType {H : Type} : DataW H := .iface "internal/reflectlite.rtype" (.agg [.ptr (.lit (.string [101, 114, 114, 111, 114]))])

/-- 'nacellelaw03.CrcTells': WHATEVER THE INPUT: true; the input reads as it did. -/
def crcTellsSpec : ChangeSpec := { name := "crcTells", fn := fun _ => fun
  | [d1, d2] => { results := [.lit (.bool true)], args := [d1, d2] }
  | _ => none }
def crcTellsRow : OpenClaim := { program := "ytihimcgppifcbaadoor", sum := "5bfa70f980594daed1eec0ae38aa43064bd405d4a60d5f99c8abc9bd619a6139", func := "nacelle/nacellelaw03.CrcTells", spec := "crcTells", named := ["nacelle/crc.half"], apart := false, laid := [("nacelle/crc.half", laid_nacelle_crc_half)] }
def CrcTellsSaid : Prop := crcTellsRow.holds Tryd.pinned (OpenSpec.ofChange crcTellsSpec)

/-- ITS FALSE NEIGHBOUR: 'it returns false'. Refute it at one input. -/
def crcTellsWrong : ChangeSpec := { name := "crcTells", fn := fun _ => fun
  | [d1, d2] => { results := [.lit (.bool false)], args := [d1, d2] }
  | _ => none }
def CrcTellsWrongFalsely : Prop := crcTellsRow.holds Tryd.pinned (OpenSpec.ofChange crcTellsWrong)

/-- 'nacellelaw03.CrcOpens': WHATEVER THE INPUT: true; the input reads as it did. -/
def crcOpensSpec : ChangeSpec := { name := "crcOpens", fn := fun _ => fun
  | [d] => { results := [.lit (.bool true)], args := [d] }
  | _ => none }
def crcOpensRow : OpenClaim := { program := "ytihimcgppifcbaadoor", sum := "5bfa70f980594daed1eec0ae38aa43064bd405d4a60d5f99c8abc9bd619a6139", func := "nacelle/nacellelaw03.CrcOpens", spec := "crcOpens", named := ["nacelle/crc.half"], apart := false, laid := [("nacelle/crc.half", laid_nacelle_crc_half)] }
def CrcOpensSaid : Prop := crcOpensRow.holds Tryd.pinned (OpenSpec.ofChange crcOpensSpec)

/-- ITS FALSE NEIGHBOUR: 'it returns false'. Refute it at one input. -/
def crcOpensWrong : ChangeSpec := { name := "crcOpens", fn := fun _ => fun
  | [d] => { results := [.lit (.bool false)], args := [d] }
  | _ => none }
def CrcOpensWrongFalsely : Prop := crcOpensRow.holds Tryd.pinned (OpenSpec.ofChange crcOpensWrong)

/-- 'nacellelaw03.CrcPieces': WHATEVER THE INPUT: true; the input reads as it did. -/
def crcPiecesSpec : ChangeSpec := { name := "crcPieces", fn := fun _ => fun
  | [d1, d2] => { results := [.lit (.bool true)], args := [d1, d2] }
  | _ => none }
def crcPiecesRow : OpenClaim := { program := "ytihimcgppifcbaadoor", sum := "5bfa70f980594daed1eec0ae38aa43064bd405d4a60d5f99c8abc9bd619a6139", func := "nacelle/nacellelaw03.CrcPieces", spec := "crcPieces", named := ["nacelle/crc.half"], apart := false, laid := [("nacelle/crc.half", laid_nacelle_crc_half)] }
def CrcPiecesSaid : Prop := crcPiecesRow.holds Tryd.pinned (OpenSpec.ofChange crcPiecesSpec)

/-- ITS FALSE NEIGHBOUR: 'it returns false'. Refute it at one input. -/
def crcPiecesWrong : ChangeSpec := { name := "crcPieces", fn := fun _ => fun
  | [d1, d2] => { results := [.lit (.bool false)], args := [d1, d2] }
  | _ => none }
def CrcPiecesWrongFalsely : Prop := crcPiecesRow.holds Tryd.pinned (OpenSpec.ofChange crcPiecesWrong)

/-- 'nacellelaw03.CrcLies': WHATEVER THE INPUT: true; the input reads as it did. -/
def crcLiesSpec : ChangeSpec := { name := "crcLies", fn := fun _ => fun
  | [d1, d2, d3] => { results := [.lit (.bool true)], args := [d1, d2, d3] }
  | _ => none }
def crcLiesRow : OpenClaim := { program := "ytihimcgppifcbaadoor", sum := "5bfa70f980594daed1eec0ae38aa43064bd405d4a60d5f99c8abc9bd619a6139", func := "nacelle/nacellelaw03.CrcLies", spec := "crcLies", named := ["nacelle/crc.half"], apart := false, laid := [("nacelle/crc.half", laid_nacelle_crc_half)] }
def CrcLiesSaid : Prop := crcLiesRow.holds Tryd.pinned (OpenSpec.ofChange crcLiesSpec)

/-- ITS FALSE NEIGHBOUR: 'it returns false'. Refute it at one input. -/
def crcLiesWrong : ChangeSpec := { name := "crcLies", fn := fun _ => fun
  | [d1, d2, d3] => { results := [.lit (.bool false)], args := [d1, d2, d3] }
  | _ => none }
def CrcLiesWrongFalsely : Prop := crcLiesRow.holds Tryd.pinned (OpenSpec.ofChange crcLiesWrong)

/-- 'nacellelaw03.CrcFinds': WHATEVER THE INPUT: true; the input reads as it did. -/
def crcFindsSpec : ChangeSpec := { name := "crcFinds", fn := fun _ => fun
  | [d1, d2, d3] => { results := [.lit (.bool true)], args := [d1, d2, d3] }
  | _ => none }
def crcFindsRow : OpenClaim := { program := "ytihimcgppifcbaadoor", sum := "5bfa70f980594daed1eec0ae38aa43064bd405d4a60d5f99c8abc9bd619a6139", func := "nacelle/nacellelaw03.CrcFinds", spec := "crcFinds", named := ["nacelle/crc.half"], apart := false, laid := [("nacelle/crc.half", laid_nacelle_crc_half)] }
def CrcFindsSaid : Prop := crcFindsRow.holds Tryd.pinned (OpenSpec.ofChange crcFindsSpec)

/-- ITS FALSE NEIGHBOUR: 'it returns false'. Refute it at one input. -/
def crcFindsWrong : ChangeSpec := { name := "crcFinds", fn := fun _ => fun
  | [d1, d2, d3] => { results := [.lit (.bool false)], args := [d1, d2, d3] }
  | _ => none }
def CrcFindsWrongFalsely : Prop := crcFindsRow.holds Tryd.pinned (OpenSpec.ofChange crcFindsWrong)

/-- 'nacellelaw03.CrcOwn': WHATEVER THE INPUT: true; the input reads as it did. -/
def crcOwnSpec : ChangeSpec := { name := "crcOwn", fn := fun _ => fun
  | [d] => { results := [.lit (.bool true)], args := [d] }
  | _ => none }
def crcOwnRow : OpenClaim := { program := "ytihimcgppifcbaadoor", sum := "5bfa70f980594daed1eec0ae38aa43064bd405d4a60d5f99c8abc9bd619a6139", func := "nacelle/nacellelaw03.CrcOwn", spec := "crcOwn", named := ["nacelle/crc.half"], apart := false, laid := [("nacelle/crc.half", laid_nacelle_crc_half)] }
def CrcOwnSaid : Prop := crcOwnRow.holds Tryd.pinned (OpenSpec.ofChange crcOwnSpec)

/-- ITS FALSE NEIGHBOUR: 'it returns false'. Refute it at one input. -/
def crcOwnWrong : ChangeSpec := { name := "crcOwn", fn := fun _ => fun
  | [d] => { results := [.lit (.bool false)], args := [d] }
  | _ => none }
def CrcOwnWrongFalsely : Prop := crcOwnRow.holds Tryd.pinned (OpenSpec.ofChange crcOwnWrong)

/-- 'nacellelaw01.FaultNumbers': WHATEVER THE INPUT: true; the input reads as it did. -/
def faultNumbersSpec : ChangeSpec := { name := "faultNumbers", fn := fun _ => fun
  | [] => { results := [.lit (.bool true)], args := [] }
  | _ => none }
def faultNumbersRow : OpenClaim := { program := "ytihimcgppifcbaadoor", sum := "5bfa70f980594daed1eec0ae38aa43064bd405d4a60d5f99c8abc9bd619a6139", func := "nacelle/nacellelaw01.FaultNumbers", spec := "faultNumbers", inPlace := ["internal/reflectlite.ValueOf", "(internal/reflectlite.Value).Type", "(internal/reflectlite.Value).IsNil", "internal/reflectlite.TypeOf", "(internal/reflectlite.Value).Elem", "(internal/reflectlite.Value).Set"], unfollowed := true, recurses := true, named := ["errors.errorType"], apart := false, laid := [("errors.errorType", laid_errors_errorType)] }
def FaultNumbersSaid : Prop := faultNumbersRow.holds Tryd.pinned (OpenSpec.ofChange faultNumbersSpec)

/-- ITS FALSE NEIGHBOUR: 'it returns false'. Refute it at one input. -/
def faultNumbersWrong : ChangeSpec := { name := "faultNumbers", fn := fun _ => fun
  | [] => { results := [.lit (.bool false)], args := [] }
  | _ => none }
def FaultNumbersWrongFalsely : Prop := faultNumbersRow.holds Tryd.pinned (OpenSpec.ofChange faultNumbersWrong)

/-- 'nacellelaw02.OctetPuts': WHATEVER THE INPUT: true; the input reads as it did. -/
def octetPutsSpec : ChangeSpec := { name := "octetPuts", fn := fun _ => fun
  | [d1, d2, d3] => { results := [.lit (.bool true)], args := [d1, d2, d3] }
  | _ => none }
def octetPutsRow : OpenClaim := { program := "ytihimcgppifcbaadoor", sum := "5bfa70f980594daed1eec0ae38aa43064bd405d4a60d5f99c8abc9bd619a6139", func := "nacelle/nacellelaw02.OctetPuts", spec := "octetPuts", inPlace := ["internal/reflectlite.ValueOf", "(internal/reflectlite.Value).Type", "(internal/reflectlite.Value).IsNil", "internal/reflectlite.TypeOf", "(internal/reflectlite.Value).Elem", "(internal/reflectlite.Value).Set"], unfollowed := true, recurses := true, named := ["errors.errorType"], apart := false, laid := [("errors.errorType", laid_errors_errorType)] }
def OctetPutsSaid : Prop := octetPutsRow.holds Tryd.pinned (OpenSpec.ofChange octetPutsSpec)

/-- ITS FALSE NEIGHBOUR: 'it returns false'. Refute it at one input. -/
def octetPutsWrong : ChangeSpec := { name := "octetPuts", fn := fun _ => fun
  | [d1, d2, d3] => { results := [.lit (.bool false)], args := [d1, d2, d3] }
  | _ => none }
def OctetPutsWrongFalsely : Prop := octetPutsRow.holds Tryd.pinned (OpenSpec.ofChange octetPutsWrong)

/-- 'nacellelaw02.OctetGets': WHATEVER THE INPUT: true; the input reads as it did. -/
def octetGetsSpec : ChangeSpec := { name := "octetGets", fn := fun _ => fun
  | [d] => { results := [.lit (.bool true)], args := [d] }
  | _ => none }
def octetGetsRow : OpenClaim := { program := "ytihimcgppifcbaadoor", sum := "5bfa70f980594daed1eec0ae38aa43064bd405d4a60d5f99c8abc9bd619a6139", func := "nacelle/nacellelaw02.OctetGets", spec := "octetGets", inPlace := ["internal/reflectlite.ValueOf", "(internal/reflectlite.Value).Type", "(internal/reflectlite.Value).IsNil", "internal/reflectlite.TypeOf", "(internal/reflectlite.Value).Elem", "(internal/reflectlite.Value).Set"], unfollowed := true, recurses := true, named := ["errors.errorType"], apart := false, laid := [("errors.errorType", laid_errors_errorType)] }
def OctetGetsSaid : Prop := octetGetsRow.holds Tryd.pinned (OpenSpec.ofChange octetGetsSpec)

/-- ITS FALSE NEIGHBOUR: 'it returns false'. Refute it at one input. -/
def octetGetsWrong : ChangeSpec := { name := "octetGets", fn := fun _ => fun
  | [d] => { results := [.lit (.bool false)], args := [d] }
  | _ => none }
def OctetGetsWrongFalsely : Prop := octetGetsRow.holds Tryd.pinned (OpenSpec.ofChange octetGetsWrong)

/-- 'nacellelaw02.OctetUnlike': WHATEVER THE INPUT: true; the input reads as it did. -/
def octetUnlikeSpec : ChangeSpec := { name := "octetUnlike", fn := fun _ => fun
  | [d1, d2, d3] => { results := [.lit (.bool true)], args := [d1, d2, d3] }
  | _ => none }
def octetUnlikeRow : OpenClaim := { program := "ytihimcgppifcbaadoor", sum := "5bfa70f980594daed1eec0ae38aa43064bd405d4a60d5f99c8abc9bd619a6139", func := "nacelle/nacellelaw02.OctetUnlike", spec := "octetUnlike", inPlace := ["internal/reflectlite.ValueOf", "(internal/reflectlite.Value).Type", "(internal/reflectlite.Value).IsNil", "internal/reflectlite.TypeOf", "(internal/reflectlite.Value).Elem", "(internal/reflectlite.Value).Set"], unfollowed := true, recurses := true, named := ["errors.errorType"], apart := false, laid := [("errors.errorType", laid_errors_errorType)] }
def OctetUnlikeSaid : Prop := octetUnlikeRow.holds Tryd.pinned (OpenSpec.ofChange octetUnlikeSpec)

/-- ITS FALSE NEIGHBOUR: 'it returns false'. Refute it at one input. -/
def octetUnlikeWrong : ChangeSpec := { name := "octetUnlike", fn := fun _ => fun
  | [d1, d2, d3] => { results := [.lit (.bool false)], args := [d1, d2, d3] }
  | _ => none }
def OctetUnlikeWrongFalsely : Prop := octetUnlikeRow.holds Tryd.pinned (OpenSpec.ofChange octetUnlikeWrong)

/-- 'nacellelaw02.OctetOwn': WHATEVER THE INPUT: true; the input reads as it did. -/
def octetOwnSpec : ChangeSpec := { name := "octetOwn", fn := fun _ => fun
  | [d1, d2] => { results := [.lit (.bool true)], args := [d1, d2] }
  | _ => none }
def octetOwnRow : OpenClaim := { program := "ytihimcgppifcbaadoor", sum := "5bfa70f980594daed1eec0ae38aa43064bd405d4a60d5f99c8abc9bd619a6139", func := "nacelle/nacellelaw02.OctetOwn", spec := "octetOwn", inPlace := ["internal/reflectlite.ValueOf", "(internal/reflectlite.Value).Type", "(internal/reflectlite.Value).IsNil", "internal/reflectlite.TypeOf", "(internal/reflectlite.Value).Elem", "(internal/reflectlite.Value).Set"], unfollowed := true, recurses := true, named := ["errors.errorType"], apart := false, laid := [("errors.errorType", laid_errors_errorType)] }
def OctetOwnSaid : Prop := octetOwnRow.holds Tryd.pinned (OpenSpec.ofChange octetOwnSpec)

/-- ITS FALSE NEIGHBOUR: 'it returns false'. Refute it at one input. -/
def octetOwnWrong : ChangeSpec := { name := "octetOwn", fn := fun _ => fun
  | [d1, d2] => { results := [.lit (.bool false)], args := [d1, d2] }
  | _ => none }
def OctetOwnWrongFalsely : Prop := octetOwnRow.holds Tryd.pinned (OpenSpec.ofChange octetOwnWrong)

/-- 'nacellelaw02.OctetBack': WHATEVER THE INPUT: true; the input reads as it did. -/
def octetBackSpec : ChangeSpec := { name := "octetBack", fn := fun _ => fun
  | [d] => { results := [.lit (.bool true)], args := [d] }
  | _ => none }
def octetBackRow : OpenClaim := { program := "ytihimcgppifcbaadoor", sum := "5bfa70f980594daed1eec0ae38aa43064bd405d4a60d5f99c8abc9bd619a6139", func := "nacelle/nacellelaw02.OctetBack", spec := "octetBack", inPlace := ["internal/reflectlite.ValueOf", "(internal/reflectlite.Value).Type", "(internal/reflectlite.Value).IsNil", "internal/reflectlite.TypeOf", "(internal/reflectlite.Value).Elem", "(internal/reflectlite.Value).Set"], unfollowed := true, recurses := true, named := ["errors.errorType"], apart := false, laid := [("errors.errorType", laid_errors_errorType)] }
def OctetBackSaid : Prop := octetBackRow.holds Tryd.pinned (OpenSpec.ofChange octetBackSpec)

/-- ITS FALSE NEIGHBOUR: 'it returns false'. Refute it at one input. -/
def octetBackWrong : ChangeSpec := { name := "octetBack", fn := fun _ => fun
  | [d] => { results := [.lit (.bool false)], args := [d] }
  | _ => none }
def OctetBackWrongFalsely : Prop := octetBackRow.holds Tryd.pinned (OpenSpec.ofChange octetBackWrong)

/- THE SECOND FORM. 'bulk': how many values and letters a reading holds, each counted each time it is reached (what is shared counts as often as it is met; a slice's spare places count too). A statement '..UptoSaid' is the law's where the arguments, and the package variables that the reading takes, are together of bulk at most 1048576: NARROWER than '..Said'. Prove '..Said' where nothing that the law and all that it calls make is longer than what came in: it says more and counts as full. Else prove '..UptoSaid'. A law counts once. -/
mutual
def uptoBulk {H : Type} : DataW H → Nat
  | .lit (.string bytes) => bytes.length + 1
  | .lit _ => 1
  | .nil => 1
  | .ptr d => uptoBulk d + 1
  | .slice elems spare => uptoBulkAll elems + uptoBulkAll spare + 1
  | .agg parts => uptoBulkAll parts + 1
  | .iface _ d => uptoBulk d + 1
  | .map entries => uptoBulkEntries entries + 1
  | .held _ => 1
def uptoBulkAll {H : Type} : List (DataW H) → Nat
  | [] => 0
  | d :: r => uptoBulk d + uptoBulkAll r
def uptoBulkEntries {H : Type} : List (Lit × DataW H) → Nat
  | [] => 0
  | x :: r => uptoBulkEntry x + uptoBulkEntries r
def uptoBulkEntry {H : Type} : Lit × DataW H → Nat
  | (.string bytes, d) => bytes.length + uptoBulk d + 1
  | (_, d) => uptoBulk d + 1
 end
def uptoSmall : (H : Type) → List (DataW H) → Bool := fun _ ds => decide (uptoBulkAll ds ≤ 1048576)
def OpenSpec.upto (s : _root_.Go.ChangeSpec) : _root_.Go.OpenSpec := { _root_.Go.OpenSpec.ofChange s with cond := some uptoSmall }

/-- 'nacellelaw03.CrcTells', WHERE WHAT IT READS IS OF BULK AT MOST 1048576: true; the input reads as it did. -/
def crcTellsUptoRow : OpenClaim := { program := "ytihimcgppifcbaadoor", sum := "5bfa70f980594daed1eec0ae38aa43064bd405d4a60d5f99c8abc9bd619a6139", func := "nacelle/nacellelaw03.CrcTells", spec := "crcTells", named := ["nacelle/crc.half"], apart := false, laid := [("nacelle/crc.half", laid_nacelle_crc_half)], narrowed := true }
def CrcTellsUptoSaid : Prop := crcTellsUptoRow.holds Tryd.pinned (OpenSpec.upto crcTellsSpec)

/-- 'nacellelaw03.CrcOpens', WHERE WHAT IT READS IS OF BULK AT MOST 1048576: true; the input reads as it did. -/
def crcOpensUptoRow : OpenClaim := { program := "ytihimcgppifcbaadoor", sum := "5bfa70f980594daed1eec0ae38aa43064bd405d4a60d5f99c8abc9bd619a6139", func := "nacelle/nacellelaw03.CrcOpens", spec := "crcOpens", named := ["nacelle/crc.half"], apart := false, laid := [("nacelle/crc.half", laid_nacelle_crc_half)], narrowed := true }
def CrcOpensUptoSaid : Prop := crcOpensUptoRow.holds Tryd.pinned (OpenSpec.upto crcOpensSpec)

/-- 'nacellelaw03.CrcPieces', WHERE WHAT IT READS IS OF BULK AT MOST 1048576: true; the input reads as it did. -/
def crcPiecesUptoRow : OpenClaim := { program := "ytihimcgppifcbaadoor", sum := "5bfa70f980594daed1eec0ae38aa43064bd405d4a60d5f99c8abc9bd619a6139", func := "nacelle/nacellelaw03.CrcPieces", spec := "crcPieces", named := ["nacelle/crc.half"], apart := false, laid := [("nacelle/crc.half", laid_nacelle_crc_half)], narrowed := true }
def CrcPiecesUptoSaid : Prop := crcPiecesUptoRow.holds Tryd.pinned (OpenSpec.upto crcPiecesSpec)

/-- 'nacellelaw03.CrcLies', WHERE WHAT IT READS IS OF BULK AT MOST 1048576: true; the input reads as it did. -/
def crcLiesUptoRow : OpenClaim := { program := "ytihimcgppifcbaadoor", sum := "5bfa70f980594daed1eec0ae38aa43064bd405d4a60d5f99c8abc9bd619a6139", func := "nacelle/nacellelaw03.CrcLies", spec := "crcLies", named := ["nacelle/crc.half"], apart := false, laid := [("nacelle/crc.half", laid_nacelle_crc_half)], narrowed := true }
def CrcLiesUptoSaid : Prop := crcLiesUptoRow.holds Tryd.pinned (OpenSpec.upto crcLiesSpec)

/-- 'nacellelaw03.CrcFinds', WHERE WHAT IT READS IS OF BULK AT MOST 1048576: true; the input reads as it did. -/
def crcFindsUptoRow : OpenClaim := { program := "ytihimcgppifcbaadoor", sum := "5bfa70f980594daed1eec0ae38aa43064bd405d4a60d5f99c8abc9bd619a6139", func := "nacelle/nacellelaw03.CrcFinds", spec := "crcFinds", named := ["nacelle/crc.half"], apart := false, laid := [("nacelle/crc.half", laid_nacelle_crc_half)], narrowed := true }
def CrcFindsUptoSaid : Prop := crcFindsUptoRow.holds Tryd.pinned (OpenSpec.upto crcFindsSpec)

/-- 'nacellelaw03.CrcOwn', WHERE WHAT IT READS IS OF BULK AT MOST 1048576: true; the input reads as it did. -/
def crcOwnUptoRow : OpenClaim := { program := "ytihimcgppifcbaadoor", sum := "5bfa70f980594daed1eec0ae38aa43064bd405d4a60d5f99c8abc9bd619a6139", func := "nacelle/nacellelaw03.CrcOwn", spec := "crcOwn", named := ["nacelle/crc.half"], apart := false, laid := [("nacelle/crc.half", laid_nacelle_crc_half)], narrowed := true }
def CrcOwnUptoSaid : Prop := crcOwnUptoRow.holds Tryd.pinned (OpenSpec.upto crcOwnSpec)

/-- 'nacellelaw01.FaultNumbers', WHERE WHAT IT READS IS OF BULK AT MOST 1048576: true; the input reads as it did. -/
def faultNumbersUptoRow : OpenClaim := { program := "ytihimcgppifcbaadoor", sum := "5bfa70f980594daed1eec0ae38aa43064bd405d4a60d5f99c8abc9bd619a6139", func := "nacelle/nacellelaw01.FaultNumbers", spec := "faultNumbers", inPlace := ["internal/reflectlite.ValueOf", "(internal/reflectlite.Value).Type", "(internal/reflectlite.Value).IsNil", "internal/reflectlite.TypeOf", "(internal/reflectlite.Value).Elem", "(internal/reflectlite.Value).Set"], unfollowed := true, recurses := true, named := ["errors.errorType"], apart := false, laid := [("errors.errorType", laid_errors_errorType)], narrowed := true }
def FaultNumbersUptoSaid : Prop := faultNumbersUptoRow.holds Tryd.pinned (OpenSpec.upto faultNumbersSpec)

/-- 'nacellelaw02.OctetPuts', WHERE WHAT IT READS IS OF BULK AT MOST 1048576: true; the input reads as it did. -/
def octetPutsUptoRow : OpenClaim := { program := "ytihimcgppifcbaadoor", sum := "5bfa70f980594daed1eec0ae38aa43064bd405d4a60d5f99c8abc9bd619a6139", func := "nacelle/nacellelaw02.OctetPuts", spec := "octetPuts", inPlace := ["internal/reflectlite.ValueOf", "(internal/reflectlite.Value).Type", "(internal/reflectlite.Value).IsNil", "internal/reflectlite.TypeOf", "(internal/reflectlite.Value).Elem", "(internal/reflectlite.Value).Set"], unfollowed := true, recurses := true, named := ["errors.errorType"], apart := false, laid := [("errors.errorType", laid_errors_errorType)], narrowed := true }
def OctetPutsUptoSaid : Prop := octetPutsUptoRow.holds Tryd.pinned (OpenSpec.upto octetPutsSpec)

/-- 'nacellelaw02.OctetGets', WHERE WHAT IT READS IS OF BULK AT MOST 1048576: true; the input reads as it did. -/
def octetGetsUptoRow : OpenClaim := { program := "ytihimcgppifcbaadoor", sum := "5bfa70f980594daed1eec0ae38aa43064bd405d4a60d5f99c8abc9bd619a6139", func := "nacelle/nacellelaw02.OctetGets", spec := "octetGets", inPlace := ["internal/reflectlite.ValueOf", "(internal/reflectlite.Value).Type", "(internal/reflectlite.Value).IsNil", "internal/reflectlite.TypeOf", "(internal/reflectlite.Value).Elem", "(internal/reflectlite.Value).Set"], unfollowed := true, recurses := true, named := ["errors.errorType"], apart := false, laid := [("errors.errorType", laid_errors_errorType)], narrowed := true }
def OctetGetsUptoSaid : Prop := octetGetsUptoRow.holds Tryd.pinned (OpenSpec.upto octetGetsSpec)

/-- 'nacellelaw02.OctetUnlike', WHERE WHAT IT READS IS OF BULK AT MOST 1048576: true; the input reads as it did. -/
def octetUnlikeUptoRow : OpenClaim := { program := "ytihimcgppifcbaadoor", sum := "5bfa70f980594daed1eec0ae38aa43064bd405d4a60d5f99c8abc9bd619a6139", func := "nacelle/nacellelaw02.OctetUnlike", spec := "octetUnlike", inPlace := ["internal/reflectlite.ValueOf", "(internal/reflectlite.Value).Type", "(internal/reflectlite.Value).IsNil", "internal/reflectlite.TypeOf", "(internal/reflectlite.Value).Elem", "(internal/reflectlite.Value).Set"], unfollowed := true, recurses := true, named := ["errors.errorType"], apart := false, laid := [("errors.errorType", laid_errors_errorType)], narrowed := true }
def OctetUnlikeUptoSaid : Prop := octetUnlikeUptoRow.holds Tryd.pinned (OpenSpec.upto octetUnlikeSpec)

/-- 'nacellelaw02.OctetOwn', WHERE WHAT IT READS IS OF BULK AT MOST 1048576: true; the input reads as it did. -/
def octetOwnUptoRow : OpenClaim := { program := "ytihimcgppifcbaadoor", sum := "5bfa70f980594daed1eec0ae38aa43064bd405d4a60d5f99c8abc9bd619a6139", func := "nacelle/nacellelaw02.OctetOwn", spec := "octetOwn", inPlace := ["internal/reflectlite.ValueOf", "(internal/reflectlite.Value).Type", "(internal/reflectlite.Value).IsNil", "internal/reflectlite.TypeOf", "(internal/reflectlite.Value).Elem", "(internal/reflectlite.Value).Set"], unfollowed := true, recurses := true, named := ["errors.errorType"], apart := false, laid := [("errors.errorType", laid_errors_errorType)], narrowed := true }
def OctetOwnUptoSaid : Prop := octetOwnUptoRow.holds Tryd.pinned (OpenSpec.upto octetOwnSpec)

/-- 'nacellelaw02.OctetBack', WHERE WHAT IT READS IS OF BULK AT MOST 1048576: true; the input reads as it did. -/
def octetBackUptoRow : OpenClaim := { program := "ytihimcgppifcbaadoor", sum := "5bfa70f980594daed1eec0ae38aa43064bd405d4a60d5f99c8abc9bd619a6139", func := "nacelle/nacellelaw02.OctetBack", spec := "octetBack", inPlace := ["internal/reflectlite.ValueOf", "(internal/reflectlite.Value).Type", "(internal/reflectlite.Value).IsNil", "internal/reflectlite.TypeOf", "(internal/reflectlite.Value).Elem", "(internal/reflectlite.Value).Set"], unfollowed := true, recurses := true, named := ["errors.errorType"], apart := false, laid := [("errors.errorType", laid_errors_errorType)], narrowed := true }
def OctetBackUptoSaid : Prop := octetBackUptoRow.holds Tryd.pinned (OpenSpec.upto octetBackSpec)

end Rows
end Go.Proofs.YtihimcgppifcbaaDoor
