/-
  DERIVED. GIVEN WITH THE SEED: THE CARDS: each row of YtihimcgppifcbaaDoorRows.lean that lists a variable, with what it lists TIED to the program's text (the seventh form; the later family's looks); each row that meets fmt, with fmt's text TOLD by the authors' own Lean function (tested against real Go, not proved from fmt's source: count such statements apart). THE CARD IS WHAT COUNTS. Prove the row's statement (the work); the ties are given (YtihimcgppifcbaaDoorTie.lean); close each card by the builder's one call (the guide's Derived/Test/ToyasCard.lean, 'card_holds'). Laid BY PROGRAM, IN A SANDBOX (cutbox-door.mjs). By AI agents, Wed Nov 11 2026. No macro, syntax, notation, axiom, sorry.
-/
import Derived.Test.YtihimcgppifcbaaDoorRows
import GoSem.ClaimSeven
namespace Go.Proofs.YtihimcgppifcbaaDoor
namespace Rows

/-- THE TIED CARD OF 'nacellelaw03.CrcTells'. -/
def crcTellsCard : Claim7 := { stood := { row := crcTellsRow, standIns := [], harness := (true, "6372ea36ae3d7551729eca45fd92768d3408d4010e5d8d54753f1434583ba0a9"), looks := true }, kinds := [], alts := [], laidByText := true, laidKinds := [.data], laidTests := true, laidLooks := .later }
def CrcTellsCardSaid : Prop := Claim7.holds Tryd.pinned (.plain (OpenSpec.ofChange crcTellsSpec)) crcTellsCard

/-- THE TIED CARD OF 'nacellelaw03.CrcOpens'. -/
def crcOpensCard : Claim7 := { stood := { row := crcOpensRow, standIns := [], harness := (true, "6372ea36ae3d7551729eca45fd92768d3408d4010e5d8d54753f1434583ba0a9"), looks := true }, kinds := [], alts := [], laidByText := true, laidKinds := [.data], laidTests := true, laidLooks := .later }
def CrcOpensCardSaid : Prop := Claim7.holds Tryd.pinned (.plain (OpenSpec.ofChange crcOpensSpec)) crcOpensCard

/-- THE TIED CARD OF 'nacellelaw03.CrcPieces'. -/
def crcPiecesCard : Claim7 := { stood := { row := crcPiecesRow, standIns := [], harness := (true, "6372ea36ae3d7551729eca45fd92768d3408d4010e5d8d54753f1434583ba0a9"), looks := true }, kinds := [], alts := [], laidByText := true, laidKinds := [.data], laidTests := true, laidLooks := .later }
def CrcPiecesCardSaid : Prop := Claim7.holds Tryd.pinned (.plain (OpenSpec.ofChange crcPiecesSpec)) crcPiecesCard

/-- THE TIED CARD OF 'nacellelaw03.CrcLies'. -/
def crcLiesCard : Claim7 := { stood := { row := crcLiesRow, standIns := [], harness := (true, "6372ea36ae3d7551729eca45fd92768d3408d4010e5d8d54753f1434583ba0a9"), looks := true }, kinds := [], alts := [], laidByText := true, laidKinds := [.data], laidTests := true, laidLooks := .later }
def CrcLiesCardSaid : Prop := Claim7.holds Tryd.pinned (.plain (OpenSpec.ofChange crcLiesSpec)) crcLiesCard

/-- THE TIED CARD OF 'nacellelaw03.CrcFinds'. -/
def crcFindsCard : Claim7 := { stood := { row := crcFindsRow, standIns := [], harness := (true, "6372ea36ae3d7551729eca45fd92768d3408d4010e5d8d54753f1434583ba0a9"), looks := true }, kinds := [], alts := [], laidByText := true, laidKinds := [.data], laidTests := true, laidLooks := .later }
def CrcFindsCardSaid : Prop := Claim7.holds Tryd.pinned (.plain (OpenSpec.ofChange crcFindsSpec)) crcFindsCard

/-- THE TIED CARD OF 'nacellelaw03.CrcOwn'. -/
def crcOwnCard : Claim7 := { stood := { row := crcOwnRow, standIns := [], harness := (true, "6372ea36ae3d7551729eca45fd92768d3408d4010e5d8d54753f1434583ba0a9"), looks := true }, kinds := [], alts := [], laidByText := true, laidKinds := [.data], laidTests := true, laidLooks := .later }
def CrcOwnCardSaid : Prop := Claim7.holds Tryd.pinned (.plain (OpenSpec.ofChange crcOwnSpec)) crcOwnCard

/-- THE TIED CARD OF 'nacellelaw01.FaultNumbers'. -/
def faultNumbersCard : Claim7 := { stood := { row := faultNumbersRow, standIns := [], harness := (true, "6372ea36ae3d7551729eca45fd92768d3408d4010e5d8d54753f1434583ba0a9"), looks := true }, kinds := [], alts := [], laidByText := true, laidKinds := [.handle], laidTests := true, laidLooks := .later }
def FaultNumbersCardSaid : Prop := Claim7.holds Tryd.pinned (.plain (OpenSpec.ofChange faultNumbersSpec)) faultNumbersCard

/-- THE TIED CARD OF 'nacellelaw02.OctetPuts'. -/
def octetPutsCard : Claim7 := { stood := { row := octetPutsRow, standIns := [], harness := (true, "6372ea36ae3d7551729eca45fd92768d3408d4010e5d8d54753f1434583ba0a9"), looks := true }, kinds := [], alts := [], laidByText := true, laidKinds := [.handle], laidTests := true, laidLooks := .later }
def OctetPutsCardSaid : Prop := Claim7.holds Tryd.pinned (.plain (OpenSpec.ofChange octetPutsSpec)) octetPutsCard

/-- THE TIED CARD OF 'nacellelaw02.OctetGets'. -/
def octetGetsCard : Claim7 := { stood := { row := octetGetsRow, standIns := [], harness := (true, "6372ea36ae3d7551729eca45fd92768d3408d4010e5d8d54753f1434583ba0a9"), looks := true }, kinds := [], alts := [], laidByText := true, laidKinds := [.handle], laidTests := true, laidLooks := .later }
def OctetGetsCardSaid : Prop := Claim7.holds Tryd.pinned (.plain (OpenSpec.ofChange octetGetsSpec)) octetGetsCard

/-- THE TIED CARD OF 'nacellelaw02.OctetUnlike'. -/
def octetUnlikeCard : Claim7 := { stood := { row := octetUnlikeRow, standIns := [], harness := (true, "6372ea36ae3d7551729eca45fd92768d3408d4010e5d8d54753f1434583ba0a9"), looks := true }, kinds := [], alts := [], laidByText := true, laidKinds := [.handle], laidTests := true, laidLooks := .later }
def OctetUnlikeCardSaid : Prop := Claim7.holds Tryd.pinned (.plain (OpenSpec.ofChange octetUnlikeSpec)) octetUnlikeCard

/-- THE TIED CARD OF 'nacellelaw02.OctetOwn'. -/
def octetOwnCard : Claim7 := { stood := { row := octetOwnRow, standIns := [], harness := (true, "6372ea36ae3d7551729eca45fd92768d3408d4010e5d8d54753f1434583ba0a9"), looks := true }, kinds := [], alts := [], laidByText := true, laidKinds := [.handle], laidTests := true, laidLooks := .later }
def OctetOwnCardSaid : Prop := Claim7.holds Tryd.pinned (.plain (OpenSpec.ofChange octetOwnSpec)) octetOwnCard

/-- THE TIED CARD OF 'nacellelaw02.OctetBack'. -/
def octetBackCard : Claim7 := { stood := { row := octetBackRow, standIns := [], harness := (true, "6372ea36ae3d7551729eca45fd92768d3408d4010e5d8d54753f1434583ba0a9"), looks := true }, kinds := [], alts := [], laidByText := true, laidKinds := [.handle], laidTests := true, laidLooks := .later }
def OctetBackCardSaid : Prop := Claim7.holds Tryd.pinned (.plain (OpenSpec.ofChange octetBackSpec)) octetBackCard

/-- THE SECOND FORM's CARD OF 'nacellelaw03.CrcTells'. -/
def crcTellsUptoCard : Claim7 := { stood := { row := crcTellsUptoRow, standIns := [], harness := (true, "6372ea36ae3d7551729eca45fd92768d3408d4010e5d8d54753f1434583ba0a9"), looks := true }, kinds := [], alts := [], laidByText := true, laidKinds := [.data], laidTests := true, laidLooks := .later }
def CrcTellsUptoCardSaid : Prop := Claim7.holds Tryd.pinned (.plain (OpenSpec.upto crcTellsSpec)) crcTellsUptoCard

/-- THE SECOND FORM's CARD OF 'nacellelaw03.CrcOpens'. -/
def crcOpensUptoCard : Claim7 := { stood := { row := crcOpensUptoRow, standIns := [], harness := (true, "6372ea36ae3d7551729eca45fd92768d3408d4010e5d8d54753f1434583ba0a9"), looks := true }, kinds := [], alts := [], laidByText := true, laidKinds := [.data], laidTests := true, laidLooks := .later }
def CrcOpensUptoCardSaid : Prop := Claim7.holds Tryd.pinned (.plain (OpenSpec.upto crcOpensSpec)) crcOpensUptoCard

/-- THE SECOND FORM's CARD OF 'nacellelaw03.CrcPieces'. -/
def crcPiecesUptoCard : Claim7 := { stood := { row := crcPiecesUptoRow, standIns := [], harness := (true, "6372ea36ae3d7551729eca45fd92768d3408d4010e5d8d54753f1434583ba0a9"), looks := true }, kinds := [], alts := [], laidByText := true, laidKinds := [.data], laidTests := true, laidLooks := .later }
def CrcPiecesUptoCardSaid : Prop := Claim7.holds Tryd.pinned (.plain (OpenSpec.upto crcPiecesSpec)) crcPiecesUptoCard

/-- THE SECOND FORM's CARD OF 'nacellelaw03.CrcLies'. -/
def crcLiesUptoCard : Claim7 := { stood := { row := crcLiesUptoRow, standIns := [], harness := (true, "6372ea36ae3d7551729eca45fd92768d3408d4010e5d8d54753f1434583ba0a9"), looks := true }, kinds := [], alts := [], laidByText := true, laidKinds := [.data], laidTests := true, laidLooks := .later }
def CrcLiesUptoCardSaid : Prop := Claim7.holds Tryd.pinned (.plain (OpenSpec.upto crcLiesSpec)) crcLiesUptoCard

/-- THE SECOND FORM's CARD OF 'nacellelaw03.CrcFinds'. -/
def crcFindsUptoCard : Claim7 := { stood := { row := crcFindsUptoRow, standIns := [], harness := (true, "6372ea36ae3d7551729eca45fd92768d3408d4010e5d8d54753f1434583ba0a9"), looks := true }, kinds := [], alts := [], laidByText := true, laidKinds := [.data], laidTests := true, laidLooks := .later }
def CrcFindsUptoCardSaid : Prop := Claim7.holds Tryd.pinned (.plain (OpenSpec.upto crcFindsSpec)) crcFindsUptoCard

/-- THE SECOND FORM's CARD OF 'nacellelaw03.CrcOwn'. -/
def crcOwnUptoCard : Claim7 := { stood := { row := crcOwnUptoRow, standIns := [], harness := (true, "6372ea36ae3d7551729eca45fd92768d3408d4010e5d8d54753f1434583ba0a9"), looks := true }, kinds := [], alts := [], laidByText := true, laidKinds := [.data], laidTests := true, laidLooks := .later }
def CrcOwnUptoCardSaid : Prop := Claim7.holds Tryd.pinned (.plain (OpenSpec.upto crcOwnSpec)) crcOwnUptoCard

/-- THE SECOND FORM's CARD OF 'nacellelaw01.FaultNumbers'. -/
def faultNumbersUptoCard : Claim7 := { stood := { row := faultNumbersUptoRow, standIns := [], harness := (true, "6372ea36ae3d7551729eca45fd92768d3408d4010e5d8d54753f1434583ba0a9"), looks := true }, kinds := [], alts := [], laidByText := true, laidKinds := [.handle], laidTests := true, laidLooks := .later }
def FaultNumbersUptoCardSaid : Prop := Claim7.holds Tryd.pinned (.plain (OpenSpec.upto faultNumbersSpec)) faultNumbersUptoCard

/-- THE SECOND FORM's CARD OF 'nacellelaw02.OctetPuts'. -/
def octetPutsUptoCard : Claim7 := { stood := { row := octetPutsUptoRow, standIns := [], harness := (true, "6372ea36ae3d7551729eca45fd92768d3408d4010e5d8d54753f1434583ba0a9"), looks := true }, kinds := [], alts := [], laidByText := true, laidKinds := [.handle], laidTests := true, laidLooks := .later }
def OctetPutsUptoCardSaid : Prop := Claim7.holds Tryd.pinned (.plain (OpenSpec.upto octetPutsSpec)) octetPutsUptoCard

/-- THE SECOND FORM's CARD OF 'nacellelaw02.OctetGets'. -/
def octetGetsUptoCard : Claim7 := { stood := { row := octetGetsUptoRow, standIns := [], harness := (true, "6372ea36ae3d7551729eca45fd92768d3408d4010e5d8d54753f1434583ba0a9"), looks := true }, kinds := [], alts := [], laidByText := true, laidKinds := [.handle], laidTests := true, laidLooks := .later }
def OctetGetsUptoCardSaid : Prop := Claim7.holds Tryd.pinned (.plain (OpenSpec.upto octetGetsSpec)) octetGetsUptoCard

/-- THE SECOND FORM's CARD OF 'nacellelaw02.OctetUnlike'. -/
def octetUnlikeUptoCard : Claim7 := { stood := { row := octetUnlikeUptoRow, standIns := [], harness := (true, "6372ea36ae3d7551729eca45fd92768d3408d4010e5d8d54753f1434583ba0a9"), looks := true }, kinds := [], alts := [], laidByText := true, laidKinds := [.handle], laidTests := true, laidLooks := .later }
def OctetUnlikeUptoCardSaid : Prop := Claim7.holds Tryd.pinned (.plain (OpenSpec.upto octetUnlikeSpec)) octetUnlikeUptoCard

/-- THE SECOND FORM's CARD OF 'nacellelaw02.OctetOwn'. -/
def octetOwnUptoCard : Claim7 := { stood := { row := octetOwnUptoRow, standIns := [], harness := (true, "6372ea36ae3d7551729eca45fd92768d3408d4010e5d8d54753f1434583ba0a9"), looks := true }, kinds := [], alts := [], laidByText := true, laidKinds := [.handle], laidTests := true, laidLooks := .later }
def OctetOwnUptoCardSaid : Prop := Claim7.holds Tryd.pinned (.plain (OpenSpec.upto octetOwnSpec)) octetOwnUptoCard

/-- THE SECOND FORM's CARD OF 'nacellelaw02.OctetBack'. -/
def octetBackUptoCard : Claim7 := { stood := { row := octetBackUptoRow, standIns := [], harness := (true, "6372ea36ae3d7551729eca45fd92768d3408d4010e5d8d54753f1434583ba0a9"), looks := true }, kinds := [], alts := [], laidByText := true, laidKinds := [.handle], laidTests := true, laidLooks := .later }
def OctetBackUptoCardSaid : Prop := Claim7.holds Tryd.pinned (.plain (OpenSpec.upto octetBackSpec)) octetBackUptoCard
end Rows
end Go.Proofs.YtihimcgppifcbaaDoor
