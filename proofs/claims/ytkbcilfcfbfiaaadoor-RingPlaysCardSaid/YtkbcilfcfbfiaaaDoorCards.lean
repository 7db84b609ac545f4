/-
  DERIVED. GIVEN WITH THE SEED: THE CARDS: each row of YtkbcilfcfbfiaaaDoorRows.lean that lists a variable, with what it lists TIED to the program's text (the seventh form; the later family's looks); each row that meets fmt, with fmt's text TOLD by the authors' own Lean function (tested against real Go, not proved from fmt's source: count such statements apart). THE CARD IS WHAT COUNTS. Prove the row's statement (the work); the ties are given (YtkbcilfcfbfiaaaDoorTie.lean); close each card by the builder's one call (the guide's Derived/Test/ToyasCard.lean, 'card_holds'). Laid BY PROGRAM, IN A SANDBOX (cutbox-door.mjs). By AI agents, Wed Nov 11 2026. No macro, syntax, notation, axiom, sorry.
-/
import Derived.Test.YtkbcilfcfbfiaaaDoorRows
import GoSem.ClaimSeven
namespace Go.Proofs.YtkbcilfcfbfiaaaDoor
namespace Rows

/-- THE TIED CARD OF 'affidavitlaw02.SumSums'. -/
def sumSumsCard : Claim7 := { stood := { row := sumSumsRow, standIns := [], harness := (true, "d9fe85e70a7df0d4258f35305737afc2beb11fcebc2be5a6fd8553ee38c454fa"), looks := false }, kinds := [], alts := [], laidByText := true, laidKinds := [.data], laidTests := true, laidLooks := .later }
def SumSumsCardSaid : Prop := Claim7.holds Tryd.pinned (.plain (OpenSpec.ofChange sumSumsSpec)) sumSumsCard

/-- THE TIED CARD OF 'affidavitlaw02.SumEnds'. -/
def sumEndsCard : Claim7 := { stood := { row := sumEndsRow, standIns := [], harness := (true, "d9fe85e70a7df0d4258f35305737afc2beb11fcebc2be5a6fd8553ee38c454fa"), looks := false }, kinds := [], alts := [], laidByText := true, laidKinds := [.data], laidTests := true, laidLooks := .later }
def SumEndsCardSaid : Prop := Claim7.holds Tryd.pinned (.plain (OpenSpec.ofChange sumEndsSpec)) sumEndsCard

/-- THE TIED CARD OF 'affidavitlaw02.SumPieces'. -/
def sumPiecesCard : Claim7 := { stood := { row := sumPiecesRow, standIns := [], harness := (true, "d9fe85e70a7df0d4258f35305737afc2beb11fcebc2be5a6fd8553ee38c454fa"), looks := false }, kinds := [], alts := [], laidByText := true, laidKinds := [.data], laidTests := true, laidLooks := .later }
def SumPiecesCardSaid : Prop := Claim7.holds Tryd.pinned (.plain (OpenSpec.ofChange sumPiecesSpec)) sumPiecesCard

/-- THE TIED CARD OF 'affidavitlaw02.SumApart'. -/
def sumApartCard : Claim7 := { stood := { row := sumApartRow, standIns := [], harness := (true, "d9fe85e70a7df0d4258f35305737afc2beb11fcebc2be5a6fd8553ee38c454fa"), looks := false }, kinds := [], alts := [], laidByText := true, laidKinds := [.data], laidTests := true, laidLooks := .later }
def SumApartCardSaid : Prop := Claim7.holds Tryd.pinned (.plain (OpenSpec.ofChange sumApartSpec)) sumApartCard

/-- THE TIED CARD OF 'affidavitlaw02.SumNone'. -/
def sumNoneCard : Claim7 := { stood := { row := sumNoneRow, standIns := [], harness := (true, "d9fe85e70a7df0d4258f35305737afc2beb11fcebc2be5a6fd8553ee38c454fa"), looks := false }, kinds := [], alts := [], laidByText := true, laidKinds := [.data], laidTests := true, laidLooks := .later }
def SumNoneCardSaid : Prop := Claim7.holds Tryd.pinned (.plain (OpenSpec.ofChange sumNoneSpec)) sumNoneCard

/-- THE TIED CARD OF 'affidavitlaw03.MacTags'. -/
def macTagsCard : Claim7 := { stood := { row := macTagsRow, standIns := [], harness := (true, "d9fe85e70a7df0d4258f35305737afc2beb11fcebc2be5a6fd8553ee38c454fa"), looks := false }, kinds := [], alts := [], laidByText := true, laidKinds := [.data], laidTests := true, laidLooks := .later }
def MacTagsCardSaid : Prop := Claim7.holds Tryd.pinned (.plain (OpenSpec.ofChange macTagsSpec)) macTagsCard

/-- THE TIED CARD OF 'affidavitlaw03.MacJoins'. -/
def macJoinsCard : Claim7 := { stood := { row := macJoinsRow, standIns := [], harness := (true, "d9fe85e70a7df0d4258f35305737afc2beb11fcebc2be5a6fd8553ee38c454fa"), looks := false }, kinds := [], alts := [], laidByText := true, laidKinds := [.data], laidTests := true, laidLooks := .later }
def MacJoinsCardSaid : Prop := Claim7.holds Tryd.pinned (.plain (OpenSpec.ofChange macJoinsSpec)) macJoinsCard

/-- THE TIED CARD OF 'affidavitlaw03.MacLong'. -/
def macLongCard : Claim7 := { stood := { row := macLongRow, standIns := [], harness := (true, "d9fe85e70a7df0d4258f35305737afc2beb11fcebc2be5a6fd8553ee38c454fa"), looks := false }, kinds := [], alts := [], laidByText := true, laidKinds := [.data], laidTests := true, laidLooks := .later }
def MacLongCardSaid : Prop := Claim7.holds Tryd.pinned (.plain (OpenSpec.ofChange macLongSpec)) macLongCard

/-- THE TIED CARD OF 'affidavitlaw03.MacLabels'. -/
def macLabelsCard : Claim7 := { stood := { row := macLabelsRow, standIns := [], harness := (true, "d9fe85e70a7df0d4258f35305737afc2beb11fcebc2be5a6fd8553ee38c454fa"), looks := false }, kinds := [], alts := [], laidByText := true, laidKinds := [.data], laidTests := true, laidLooks := .later }
def MacLabelsCardSaid : Prop := Claim7.holds Tryd.pinned (.plain (OpenSpec.ofChange macLabelsSpec)) macLabelsCard

/-- THE TIED CARD OF 'affidavitlaw03.MacBytes'. -/
def macBytesCard : Claim7 := { stood := { row := macBytesRow, standIns := [], harness := (true, "d9fe85e70a7df0d4258f35305737afc2beb11fcebc2be5a6fd8553ee38c454fa"), looks := false }, kinds := [], alts := [], laidByText := true, laidKinds := [.data], laidTests := true, laidLooks := .later }
def MacBytesCardSaid : Prop := Claim7.holds Tryd.pinned (.plain (OpenSpec.ofChange macBytesSpec)) macBytesCard

/-- THE TIED CARD OF 'affidavitlaw05.VeilVeils'. -/
def veilVeilsCard : Claim7 := { stood := { row := veilVeilsRow, standIns := [], harness := (true, "d9fe85e70a7df0d4258f35305737afc2beb11fcebc2be5a6fd8553ee38c454fa"), looks := false }, kinds := [], alts := [], laidByText := true, laidKinds := [.data], laidTests := true, laidLooks := .later }
def VeilVeilsCardSaid : Prop := Claim7.holds Tryd.pinned (.plain (OpenSpec.ofChange veilVeilsSpec)) veilVeilsCard

/-- THE TIED CARD OF 'affidavitlaw05.VeilRows'. -/
def veilRowsCard : Claim7 := { stood := { row := veilRowsRow, standIns := [], harness := (true, "d9fe85e70a7df0d4258f35305737afc2beb11fcebc2be5a6fd8553ee38c454fa"), looks := false }, kinds := [], alts := [], laidByText := true, laidKinds := [.data], laidTests := true, laidLooks := .later }
def VeilRowsCardSaid : Prop := Claim7.holds Tryd.pinned (.plain (OpenSpec.ofChange veilRowsSpec)) veilRowsCard

/-- THE TIED CARD OF 'affidavitlaw05.VeilTwice'. -/
def veilTwiceCard : Claim7 := { stood := { row := veilTwiceRow, standIns := [], harness := (true, "d9fe85e70a7df0d4258f35305737afc2beb11fcebc2be5a6fd8553ee38c454fa"), looks := false }, kinds := [], alts := [], laidByText := true, laidKinds := [.data], laidTests := true, laidLooks := .later }
def VeilTwiceCardSaid : Prop := Claim7.holds Tryd.pinned (.plain (OpenSpec.ofChange veilTwiceSpec)) veilTwiceCard

/-- THE TIED CARD OF 'affidavitlaw05.VeilShape'. -/
def veilShapeCard : Claim7 := { stood := { row := veilShapeRow, standIns := [], harness := (true, "d9fe85e70a7df0d4258f35305737afc2beb11fcebc2be5a6fd8553ee38c454fa"), looks := false }, kinds := [], alts := [], laidByText := true, laidKinds := [.data], laidTests := true, laidLooks := .later }
def VeilShapeCardSaid : Prop := Claim7.holds Tryd.pinned (.plain (OpenSpec.ofChange veilShapeSpec)) veilShapeCard

/-- THE TIED CARD OF 'affidavitlaw05.VeilNothing'. -/
def veilNothingCard : Claim7 := { stood := { row := veilNothingRow, standIns := [], harness := (true, "d9fe85e70a7df0d4258f35305737afc2beb11fcebc2be5a6fd8553ee38c454fa"), looks := false }, kinds := [], alts := [], laidByText := true, laidKinds := [.data], laidTests := true, laidLooks := .later }
def VeilNothingCardSaid : Prop := Claim7.holds Tryd.pinned (.plain (OpenSpec.ofChange veilNothingSpec)) veilNothingCard

/-- THE TIED CARD OF 'affidavitlaw04.RingPlays'. -/
def ringPlaysCard : Claim7 := { stood := { row := ringPlaysRow, standIns := [], harness := (true, "d9fe85e70a7df0d4258f35305737afc2beb11fcebc2be5a6fd8553ee38c454fa"), looks := false }, kinds := [], alts := [], laidByText := true, laidKinds := [.data], laidTests := true, laidLooks := .later }
def RingPlaysCardSaid : Prop := Claim7.holds Tryd.pinned (.plain (OpenSpec.ofChange ringPlaysSpec)) ringPlaysCard

/-- THE TIED CARD OF 'affidavitlaw04.RingBook'. -/
def ringBookCard : Claim7 := { stood := { row := ringBookRow, standIns := [], harness := (true, "d9fe85e70a7df0d4258f35305737afc2beb11fcebc2be5a6fd8553ee38c454fa"), looks := false }, kinds := [], alts := [], laidByText := true, laidKinds := [.data], laidTests := true, laidLooks := .later }
def RingBookCardSaid : Prop := Claim7.holds Tryd.pinned (.plain (OpenSpec.ofChange ringBookSpec)) ringBookCard

/-- THE TIED CARD OF 'affidavitlaw04.RingTurned'. -/
def ringTurnedCard : Claim7 := { stood := { row := ringTurnedRow, standIns := [], harness := (true, "d9fe85e70a7df0d4258f35305737afc2beb11fcebc2be5a6fd8553ee38c454fa"), looks := false }, kinds := [], alts := [], laidByText := true, laidKinds := [.data], laidTests := true, laidLooks := .later }
def RingTurnedCardSaid : Prop := Claim7.holds Tryd.pinned (.plain (OpenSpec.ofChange ringTurnedSpec)) ringTurnedCard

/-- THE TIED CARD OF 'affidavitlaw04.RingSame'. -/
def ringSameCard : Claim7 := { stood := { row := ringSameRow, standIns := [], harness := (true, "d9fe85e70a7df0d4258f35305737afc2beb11fcebc2be5a6fd8553ee38c454fa"), looks := false }, kinds := [], alts := [], laidByText := true, laidKinds := [.data], laidTests := true, laidLooks := .later }
def RingSameCardSaid : Prop := Claim7.holds Tryd.pinned (.plain (OpenSpec.ofChange ringSameSpec)) ringSameCard

/-- THE TIED CARD OF 'affidavitlaw04.RingNone'. -/
def ringNoneCard : Claim7 := { stood := { row := ringNoneRow, standIns := [], harness := (true, "d9fe85e70a7df0d4258f35305737afc2beb11fcebc2be5a6fd8553ee38c454fa"), looks := false }, kinds := [], alts := [], laidByText := true, laidKinds := [.data], laidTests := true, laidLooks := .later }
def RingNoneCardSaid : Prop := Claim7.holds Tryd.pinned (.plain (OpenSpec.ofChange ringNoneSpec)) ringNoneCard

/-- THE SECOND FORM's CARD OF 'affidavitlaw02.SumSums'. -/
def sumSumsUptoCard : Claim7 := { stood := { row := sumSumsUptoRow, standIns := [], harness := (true, "d9fe85e70a7df0d4258f35305737afc2beb11fcebc2be5a6fd8553ee38c454fa"), looks := false }, kinds := [], alts := [], laidByText := true, laidKinds := [.data], laidTests := true, laidLooks := .later }
def SumSumsUptoCardSaid : Prop := Claim7.holds Tryd.pinned (.plain (OpenSpec.upto sumSumsSpec)) sumSumsUptoCard

/-- THE SECOND FORM's CARD OF 'affidavitlaw02.SumEnds'. -/
def sumEndsUptoCard : Claim7 := { stood := { row := sumEndsUptoRow, standIns := [], harness := (true, "d9fe85e70a7df0d4258f35305737afc2beb11fcebc2be5a6fd8553ee38c454fa"), looks := false }, kinds := [], alts := [], laidByText := true, laidKinds := [.data], laidTests := true, laidLooks := .later }
def SumEndsUptoCardSaid : Prop := Claim7.holds Tryd.pinned (.plain (OpenSpec.upto sumEndsSpec)) sumEndsUptoCard

/-- THE SECOND FORM's CARD OF 'affidavitlaw02.SumPieces'. -/
def sumPiecesUptoCard : Claim7 := { stood := { row := sumPiecesUptoRow, standIns := [], harness := (true, "d9fe85e70a7df0d4258f35305737afc2beb11fcebc2be5a6fd8553ee38c454fa"), looks := false }, kinds := [], alts := [], laidByText := true, laidKinds := [.data], laidTests := true, laidLooks := .later }
def SumPiecesUptoCardSaid : Prop := Claim7.holds Tryd.pinned (.plain (OpenSpec.upto sumPiecesSpec)) sumPiecesUptoCard

/-- THE SECOND FORM's CARD OF 'affidavitlaw02.SumApart'. -/
def sumApartUptoCard : Claim7 := { stood := { row := sumApartUptoRow, standIns := [], harness := (true, "d9fe85e70a7df0d4258f35305737afc2beb11fcebc2be5a6fd8553ee38c454fa"), looks := false }, kinds := [], alts := [], laidByText := true, laidKinds := [.data], laidTests := true, laidLooks := .later }
def SumApartUptoCardSaid : Prop := Claim7.holds Tryd.pinned (.plain (OpenSpec.upto sumApartSpec)) sumApartUptoCard

/-- THE SECOND FORM's CARD OF 'affidavitlaw02.SumNone'. -/
def sumNoneUptoCard : Claim7 := { stood := { row := sumNoneUptoRow, standIns := [], harness := (true, "d9fe85e70a7df0d4258f35305737afc2beb11fcebc2be5a6fd8553ee38c454fa"), looks := false }, kinds := [], alts := [], laidByText := true, laidKinds := [.data], laidTests := true, laidLooks := .later }
def SumNoneUptoCardSaid : Prop := Claim7.holds Tryd.pinned (.plain (OpenSpec.upto sumNoneSpec)) sumNoneUptoCard

/-- THE SECOND FORM's CARD OF 'affidavitlaw03.MacTags'. -/
def macTagsUptoCard : Claim7 := { stood := { row := macTagsUptoRow, standIns := [], harness := (true, "d9fe85e70a7df0d4258f35305737afc2beb11fcebc2be5a6fd8553ee38c454fa"), looks := false }, kinds := [], alts := [], laidByText := true, laidKinds := [.data], laidTests := true, laidLooks := .later }
def MacTagsUptoCardSaid : Prop := Claim7.holds Tryd.pinned (.plain (OpenSpec.upto macTagsSpec)) macTagsUptoCard

/-- THE SECOND FORM's CARD OF 'affidavitlaw03.MacJoins'. -/
def macJoinsUptoCard : Claim7 := { stood := { row := macJoinsUptoRow, standIns := [], harness := (true, "d9fe85e70a7df0d4258f35305737afc2beb11fcebc2be5a6fd8553ee38c454fa"), looks := false }, kinds := [], alts := [], laidByText := true, laidKinds := [.data], laidTests := true, laidLooks := .later }
def MacJoinsUptoCardSaid : Prop := Claim7.holds Tryd.pinned (.plain (OpenSpec.upto macJoinsSpec)) macJoinsUptoCard

/-- THE SECOND FORM's CARD OF 'affidavitlaw03.MacLong'. -/
def macLongUptoCard : Claim7 := { stood := { row := macLongUptoRow, standIns := [], harness := (true, "d9fe85e70a7df0d4258f35305737afc2beb11fcebc2be5a6fd8553ee38c454fa"), looks := false }, kinds := [], alts := [], laidByText := true, laidKinds := [.data], laidTests := true, laidLooks := .later }
def MacLongUptoCardSaid : Prop := Claim7.holds Tryd.pinned (.plain (OpenSpec.upto macLongSpec)) macLongUptoCard

/-- THE SECOND FORM's CARD OF 'affidavitlaw03.MacLabels'. -/
def macLabelsUptoCard : Claim7 := { stood := { row := macLabelsUptoRow, standIns := [], harness := (true, "d9fe85e70a7df0d4258f35305737afc2beb11fcebc2be5a6fd8553ee38c454fa"), looks := false }, kinds := [], alts := [], laidByText := true, laidKinds := [.data], laidTests := true, laidLooks := .later }
def MacLabelsUptoCardSaid : Prop := Claim7.holds Tryd.pinned (.plain (OpenSpec.upto macLabelsSpec)) macLabelsUptoCard

/-- THE SECOND FORM's CARD OF 'affidavitlaw03.MacBytes'. -/
def macBytesUptoCard : Claim7 := { stood := { row := macBytesUptoRow, standIns := [], harness := (true, "d9fe85e70a7df0d4258f35305737afc2beb11fcebc2be5a6fd8553ee38c454fa"), looks := false }, kinds := [], alts := [], laidByText := true, laidKinds := [.data], laidTests := true, laidLooks := .later }
def MacBytesUptoCardSaid : Prop := Claim7.holds Tryd.pinned (.plain (OpenSpec.upto macBytesSpec)) macBytesUptoCard

/-- THE SECOND FORM's CARD OF 'affidavitlaw05.VeilVeils'. -/
def veilVeilsUptoCard : Claim7 := { stood := { row := veilVeilsUptoRow, standIns := [], harness := (true, "d9fe85e70a7df0d4258f35305737afc2beb11fcebc2be5a6fd8553ee38c454fa"), looks := false }, kinds := [], alts := [], laidByText := true, laidKinds := [.data], laidTests := true, laidLooks := .later }
def VeilVeilsUptoCardSaid : Prop := Claim7.holds Tryd.pinned (.plain (OpenSpec.upto veilVeilsSpec)) veilVeilsUptoCard

/-- THE SECOND FORM's CARD OF 'affidavitlaw05.VeilRows'. -/
def veilRowsUptoCard : Claim7 := { stood := { row := veilRowsUptoRow, standIns := [], harness := (true, "d9fe85e70a7df0d4258f35305737afc2beb11fcebc2be5a6fd8553ee38c454fa"), looks := false }, kinds := [], alts := [], laidByText := true, laidKinds := [.data], laidTests := true, laidLooks := .later }
def VeilRowsUptoCardSaid : Prop := Claim7.holds Tryd.pinned (.plain (OpenSpec.upto veilRowsSpec)) veilRowsUptoCard

/-- THE SECOND FORM's CARD OF 'affidavitlaw05.VeilTwice'. -/
def veilTwiceUptoCard : Claim7 := { stood := { row := veilTwiceUptoRow, standIns := [], harness := (true, "d9fe85e70a7df0d4258f35305737afc2beb11fcebc2be5a6fd8553ee38c454fa"), looks := false }, kinds := [], alts := [], laidByText := true, laidKinds := [.data], laidTests := true, laidLooks := .later }
def VeilTwiceUptoCardSaid : Prop := Claim7.holds Tryd.pinned (.plain (OpenSpec.upto veilTwiceSpec)) veilTwiceUptoCard

/-- THE SECOND FORM's CARD OF 'affidavitlaw05.VeilShape'. -/
def veilShapeUptoCard : Claim7 := { stood := { row := veilShapeUptoRow, standIns := [], harness := (true, "d9fe85e70a7df0d4258f35305737afc2beb11fcebc2be5a6fd8553ee38c454fa"), looks := false }, kinds := [], alts := [], laidByText := true, laidKinds := [.data], laidTests := true, laidLooks := .later }
def VeilShapeUptoCardSaid : Prop := Claim7.holds Tryd.pinned (.plain (OpenSpec.upto veilShapeSpec)) veilShapeUptoCard

/-- THE SECOND FORM's CARD OF 'affidavitlaw05.VeilNothing'. -/
def veilNothingUptoCard : Claim7 := { stood := { row := veilNothingUptoRow, standIns := [], harness := (true, "d9fe85e70a7df0d4258f35305737afc2beb11fcebc2be5a6fd8553ee38c454fa"), looks := false }, kinds := [], alts := [], laidByText := true, laidKinds := [.data], laidTests := true, laidLooks := .later }
def VeilNothingUptoCardSaid : Prop := Claim7.holds Tryd.pinned (.plain (OpenSpec.upto veilNothingSpec)) veilNothingUptoCard

/-- THE SECOND FORM's CARD OF 'affidavitlaw04.RingPlays'. -/
def ringPlaysUptoCard : Claim7 := { stood := { row := ringPlaysUptoRow, standIns := [], harness := (true, "d9fe85e70a7df0d4258f35305737afc2beb11fcebc2be5a6fd8553ee38c454fa"), looks := false }, kinds := [], alts := [], laidByText := true, laidKinds := [.data], laidTests := true, laidLooks := .later }
def RingPlaysUptoCardSaid : Prop := Claim7.holds Tryd.pinned (.plain (OpenSpec.upto ringPlaysSpec)) ringPlaysUptoCard

/-- THE SECOND FORM's CARD OF 'affidavitlaw04.RingBook'. -/
def ringBookUptoCard : Claim7 := { stood := { row := ringBookUptoRow, standIns := [], harness := (true, "d9fe85e70a7df0d4258f35305737afc2beb11fcebc2be5a6fd8553ee38c454fa"), looks := false }, kinds := [], alts := [], laidByText := true, laidKinds := [.data], laidTests := true, laidLooks := .later }
def RingBookUptoCardSaid : Prop := Claim7.holds Tryd.pinned (.plain (OpenSpec.upto ringBookSpec)) ringBookUptoCard

/-- THE SECOND FORM's CARD OF 'affidavitlaw04.RingTurned'. -/
def ringTurnedUptoCard : Claim7 := { stood := { row := ringTurnedUptoRow, standIns := [], harness := (true, "d9fe85e70a7df0d4258f35305737afc2beb11fcebc2be5a6fd8553ee38c454fa"), looks := false }, kinds := [], alts := [], laidByText := true, laidKinds := [.data], laidTests := true, laidLooks := .later }
def RingTurnedUptoCardSaid : Prop := Claim7.holds Tryd.pinned (.plain (OpenSpec.upto ringTurnedSpec)) ringTurnedUptoCard

/-- THE SECOND FORM's CARD OF 'affidavitlaw04.RingSame'. -/
def ringSameUptoCard : Claim7 := { stood := { row := ringSameUptoRow, standIns := [], harness := (true, "d9fe85e70a7df0d4258f35305737afc2beb11fcebc2be5a6fd8553ee38c454fa"), looks := false }, kinds := [], alts := [], laidByText := true, laidKinds := [.data], laidTests := true, laidLooks := .later }
def RingSameUptoCardSaid : Prop := Claim7.holds Tryd.pinned (.plain (OpenSpec.upto ringSameSpec)) ringSameUptoCard

/-- THE SECOND FORM's CARD OF 'affidavitlaw04.RingNone'. -/
def ringNoneUptoCard : Claim7 := { stood := { row := ringNoneUptoRow, standIns := [], harness := (true, "d9fe85e70a7df0d4258f35305737afc2beb11fcebc2be5a6fd8553ee38c454fa"), looks := false }, kinds := [], alts := [], laidByText := true, laidKinds := [.data], laidTests := true, laidLooks := .later }
def RingNoneUptoCardSaid : Prop := Claim7.holds Tryd.pinned (.plain (OpenSpec.upto ringNoneSpec)) ringNoneUptoCard
end Rows
end Go.Proofs.YtkbcilfcfbfiaaaDoor
