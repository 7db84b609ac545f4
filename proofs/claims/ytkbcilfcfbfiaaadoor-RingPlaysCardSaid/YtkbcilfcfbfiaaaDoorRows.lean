/-
  NARROWER THAN 'FOR EVERY INPUT', by the rows' own cells (each row's printed sentence says how): SumSums: laid · SumEnds: laid · SumPieces: laid · SumApart: laid · SumNone: laid · MacTags: laid · MacJoins: laid · MacLong: laid · MacLabels: laid · MacBytes: laid · VeilVeils: laid · VeilRows: laid · VeilTwice: laid · VeilShape: laid · VeilNothing: laid · RingPlays: laid · RingBook: laid · RingTurned: laid · RingSame: laid · RingNone: laid.
  DERIVED. THE GIVEN ROWS OF THIS SEAT. 20 by the template 'for every input the law returns true; each argument reads behind the call as it read before'; 0 by the template 'total and deterministic' (their statements: YtkbcilfcfbfiaaaDoorTotals.lean).
  GIVEN WITH THE SEED: the statements are not yours to turn. If you find one false, say at which input.
  Laid BY PROGRAM, IN A SANDBOX (cutbox-rows.mjs): the forced cells as the released guide's own fill.sh prints them over the translation 166a4f962af2e3fb… (all of the seat's roots in one cut). By AI agents, Wed Nov 11 2026. No macro, syntax, notation, axiom, sorry.
-/
import Derived.Test.YtkbcilfcfbfiaaaDoorChecked
import GoSem.Claim
import GoSem.ClaimJoined
import GoSem.ClaimMapViews
import Derived.JoinedTies
import Derived.KernelRfl
namespace Go.Proofs.YtkbcilfcfbfiaaaDoor
/- THE CELL 'sum', in the pinned program and in every row, IS THE sha256 OF THE DUMP (.gsa) THAT YtkbcilfcfbfiaaaDoorProg.lean LOADS. Nothing in Lean hashes anything: it is a label: what it is worth is what the hold of that sum in a sandbox is worth. -/
noncomputable def Tryd.pinned : Pinned := { name := "ytkbcilfcfbfiaaadoor", sum := "166a4f962af2e3fbdafbca53c433a8ceb15a9208dbc9d4d6ed2b12113c6e091c", checked := Tryd.checked }
namespace Rows
def none {H : Type} : Left H := { results := [], args := [] }

/- WHAT THE LISTED PACKAGE-LEVEL VARIABLES READ AS WHEN THE CALL BEGINS. Each datum BY PROGRAM (the guide's laid-datum.mjs) off the statement by which the dump's own 'gosem.cut.vars' lays the variable. In a bare row this is a premise. The card (YtkbcilfcfbfiaaaDoorCards.lean) ties it to the program's text. -/
def laid_affidavit_sum_consts {H : Type} : DataW H := .agg [.lit (.int .u32 1116352408), .lit (.int .u32 1899447441), .lit (.int .u32 3049323471), .lit (.int .u32 3921009573), .lit (.int .u32 961987163), .lit (.int .u32 1508970993), .lit (.int .u32 2453635748), .lit (.int .u32 2870763221), .lit (.int .u32 3624381080), .lit (.int .u32 310598401), .lit (.int .u32 607225278), .lit (.int .u32 1426881987), .lit (.int .u32 1925078388), .lit (.int .u32 2162078206), .lit (.int .u32 2614888103), .lit (.int .u32 3248222580), .lit (.int .u32 3835390401), .lit (.int .u32 4022224774), .lit (.int .u32 264347078), .lit (.int .u32 604807628), .lit (.int .u32 770255983), .lit (.int .u32 1249150122), .lit (.int .u32 1555081692), .lit (.int .u32 1996064986), .lit (.int .u32 2554220882), .lit (.int .u32 2821834349), .lit (.int .u32 2952996808), .lit (.int .u32 3210313671), .lit (.int .u32 3336571891), .lit (.int .u32 3584528711), .lit (.int .u32 113926993), .lit (.int .u32 338241895), .lit (.int .u32 666307205), .lit (.int .u32 773529912), .lit (.int .u32 1294757372), .lit (.int .u32 1396182291), .lit (.int .u32 1695183700), .lit (.int .u32 1986661051), .lit (.int .u32 2177026350), .lit (.int .u32 2456956037), .lit (.int .u32 2730485921), .lit (.int .u32 2820302411), .lit (.int .u32 3259730800), .lit (.int .u32 3345764771), .lit (.int .u32 3516065817), .lit (.int .u32 3600352804), .lit (.int .u32 4094571909), .lit (.int .u32 275423344), .lit (.int .u32 430227734), .lit (.int .u32 506948616), .lit (.int .u32 659060556), .lit (.int .u32 883997877), .lit (.int .u32 958139571), .lit (.int .u32 1322822218), .lit (.int .u32 1537002063), .lit (.int .u32 1747873779), .lit (.int .u32 1955562222), .lit (.int .u32 2024104815), .lit (.int .u32 2227730452), .lit (.int .u32 2361852424), .lit (.int .u32 2428436474), .lit (.int .u32 2756734187), .lit (.int .u32 3204031479), .lit (.int .u32 3329325298)]

/-- 'affidavitlaw02.SumSums': WHATEVER THE INPUT: true; the input reads as it did. -/
def sumSumsSpec : ChangeSpec := { name := "sumSums", fn := fun _ => fun
  | [d] => { results := [.lit (.bool true)], args := [d] }
  | _ => none }
def sumSumsRow : OpenClaim := { program := "ytkbcilfcfbfiaaadoor", sum := "166a4f962af2e3fbdafbca53c433a8ceb15a9208dbc9d4d6ed2b12113c6e091c", func := "affidavit/affidavitlaw02.SumSums", spec := "sumSums", named := ["affidavit/sum.consts"], plainKeys := false, apart := false, laid := [("affidavit/sum.consts", laid_affidavit_sum_consts)] }
def SumSumsSaid : Prop := sumSumsRow.holds Tryd.pinned (OpenSpec.ofChange sumSumsSpec)

/-- ITS FALSE NEIGHBOUR: 'it returns false'. Refute it at one input. -/
def sumSumsWrong : ChangeSpec := { name := "sumSums", fn := fun _ => fun
  | [d] => { results := [.lit (.bool false)], args := [d] }
  | _ => none }
def SumSumsWrongFalsely : Prop := sumSumsRow.holds Tryd.pinned (OpenSpec.ofChange sumSumsWrong)

/-- 'affidavitlaw02.SumEnds': WHATEVER THE INPUT: true; the input reads as it did. -/
def sumEndsSpec : ChangeSpec := { name := "sumEnds", fn := fun _ => fun
  | [d1, d2] => { results := [.lit (.bool true)], args := [d1, d2] }
  | _ => none }
def sumEndsRow : OpenClaim := { program := "ytkbcilfcfbfiaaadoor", sum := "166a4f962af2e3fbdafbca53c433a8ceb15a9208dbc9d4d6ed2b12113c6e091c", func := "affidavit/affidavitlaw02.SumEnds", spec := "sumEnds", named := ["affidavit/sum.consts"], plainKeys := false, apart := false, laid := [("affidavit/sum.consts", laid_affidavit_sum_consts)] }
def SumEndsSaid : Prop := sumEndsRow.holds Tryd.pinned (OpenSpec.ofChange sumEndsSpec)

/-- ITS FALSE NEIGHBOUR: 'it returns false'. Refute it at one input. -/
def sumEndsWrong : ChangeSpec := { name := "sumEnds", fn := fun _ => fun
  | [d1, d2] => { results := [.lit (.bool false)], args := [d1, d2] }
  | _ => none }
def SumEndsWrongFalsely : Prop := sumEndsRow.holds Tryd.pinned (OpenSpec.ofChange sumEndsWrong)

/-- 'affidavitlaw02.SumPieces': WHATEVER THE INPUT: true; the input reads as it did. -/
def sumPiecesSpec : ChangeSpec := { name := "sumPieces", fn := fun _ => fun
  | [d] => { results := [.lit (.bool true)], args := [d] }
  | _ => none }
def sumPiecesRow : OpenClaim := { program := "ytkbcilfcfbfiaaadoor", sum := "166a4f962af2e3fbdafbca53c433a8ceb15a9208dbc9d4d6ed2b12113c6e091c", func := "affidavit/affidavitlaw02.SumPieces", spec := "sumPieces", named := ["affidavit/sum.consts"], plainKeys := false, apart := false, laid := [("affidavit/sum.consts", laid_affidavit_sum_consts)] }
def SumPiecesSaid : Prop := sumPiecesRow.holds Tryd.pinned (OpenSpec.ofChange sumPiecesSpec)

/-- ITS FALSE NEIGHBOUR: 'it returns false'. Refute it at one input. -/
def sumPiecesWrong : ChangeSpec := { name := "sumPieces", fn := fun _ => fun
  | [d] => { results := [.lit (.bool false)], args := [d] }
  | _ => none }
def SumPiecesWrongFalsely : Prop := sumPiecesRow.holds Tryd.pinned (OpenSpec.ofChange sumPiecesWrong)

/-- 'affidavitlaw02.SumApart': WHATEVER THE INPUT: true; the input reads as it did. -/
def sumApartSpec : ChangeSpec := { name := "sumApart", fn := fun _ => fun
  | [d1, d2, d3] => { results := [.lit (.bool true)], args := [d1, d2, d3] }
  | _ => none }
def sumApartRow : OpenClaim := { program := "ytkbcilfcfbfiaaadoor", sum := "166a4f962af2e3fbdafbca53c433a8ceb15a9208dbc9d4d6ed2b12113c6e091c", func := "affidavit/affidavitlaw02.SumApart", spec := "sumApart", named := ["affidavit/sum.consts"], plainKeys := false, apart := false, laid := [("affidavit/sum.consts", laid_affidavit_sum_consts)] }
def SumApartSaid : Prop := sumApartRow.holds Tryd.pinned (OpenSpec.ofChange sumApartSpec)

/-- ITS FALSE NEIGHBOUR: 'it returns false'. Refute it at one input. -/
def sumApartWrong : ChangeSpec := { name := "sumApart", fn := fun _ => fun
  | [d1, d2, d3] => { results := [.lit (.bool false)], args := [d1, d2, d3] }
  | _ => none }
def SumApartWrongFalsely : Prop := sumApartRow.holds Tryd.pinned (OpenSpec.ofChange sumApartWrong)

/-- 'affidavitlaw02.SumNone': WHATEVER THE INPUT: true; the input reads as it did. -/
def sumNoneSpec : ChangeSpec := { name := "sumNone", fn := fun _ => fun
  | [d] => { results := [.lit (.bool true)], args := [d] }
  | _ => none }
def sumNoneRow : OpenClaim := { program := "ytkbcilfcfbfiaaadoor", sum := "166a4f962af2e3fbdafbca53c433a8ceb15a9208dbc9d4d6ed2b12113c6e091c", func := "affidavit/affidavitlaw02.SumNone", spec := "sumNone", named := ["affidavit/sum.consts"], plainKeys := false, apart := false, laid := [("affidavit/sum.consts", laid_affidavit_sum_consts)] }
def SumNoneSaid : Prop := sumNoneRow.holds Tryd.pinned (OpenSpec.ofChange sumNoneSpec)

/-- ITS FALSE NEIGHBOUR: 'it returns false'. Refute it at one input. -/
def sumNoneWrong : ChangeSpec := { name := "sumNone", fn := fun _ => fun
  | [d] => { results := [.lit (.bool false)], args := [d] }
  | _ => none }
def SumNoneWrongFalsely : Prop := sumNoneRow.holds Tryd.pinned (OpenSpec.ofChange sumNoneWrong)

/-- 'affidavitlaw03.MacTags': WHATEVER THE INPUT: true; the input reads as it did. -/
def macTagsSpec : ChangeSpec := { name := "macTags", fn := fun _ => fun
  | [d1, d2, d3] => { results := [.lit (.bool true)], args := [d1, d2, d3] }
  | _ => none }
def macTagsRow : OpenClaim := { program := "ytkbcilfcfbfiaaadoor", sum := "166a4f962af2e3fbdafbca53c433a8ceb15a9208dbc9d4d6ed2b12113c6e091c", func := "affidavit/affidavitlaw03.MacTags", spec := "macTags", unfollowed := true, recurses := true, named := ["affidavit/sum.consts"], plainKeys := false, apart := false, laid := [("affidavit/sum.consts", laid_affidavit_sum_consts)] }
def MacTagsSaid : Prop := macTagsRow.holds Tryd.pinned (OpenSpec.ofChange macTagsSpec)

/-- ITS FALSE NEIGHBOUR: 'it returns false'. Refute it at one input. -/
def macTagsWrong : ChangeSpec := { name := "macTags", fn := fun _ => fun
  | [d1, d2, d3] => { results := [.lit (.bool false)], args := [d1, d2, d3] }
  | _ => none }
def MacTagsWrongFalsely : Prop := macTagsRow.holds Tryd.pinned (OpenSpec.ofChange macTagsWrong)

/-- 'affidavitlaw03.MacJoins': WHATEVER THE INPUT: true; the input reads as it did. -/
def macJoinsSpec : ChangeSpec := { name := "macJoins", fn := fun _ => fun
  | [d1, d2] => { results := [.lit (.bool true)], args := [d1, d2] }
  | _ => none }
def macJoinsRow : OpenClaim := { program := "ytkbcilfcfbfiaaadoor", sum := "166a4f962af2e3fbdafbca53c433a8ceb15a9208dbc9d4d6ed2b12113c6e091c", func := "affidavit/affidavitlaw03.MacJoins", spec := "macJoins", unfollowed := true, recurses := true, named := ["affidavit/sum.consts"], plainKeys := false, apart := false, laid := [("affidavit/sum.consts", laid_affidavit_sum_consts)] }
def MacJoinsSaid : Prop := macJoinsRow.holds Tryd.pinned (OpenSpec.ofChange macJoinsSpec)

/-- ITS FALSE NEIGHBOUR: 'it returns false'. Refute it at one input. -/
def macJoinsWrong : ChangeSpec := { name := "macJoins", fn := fun _ => fun
  | [d1, d2] => { results := [.lit (.bool false)], args := [d1, d2] }
  | _ => none }
def MacJoinsWrongFalsely : Prop := macJoinsRow.holds Tryd.pinned (OpenSpec.ofChange macJoinsWrong)

/-- 'affidavitlaw03.MacLong': WHATEVER THE INPUT: true; the input reads as it did. -/
def macLongSpec : ChangeSpec := { name := "macLong", fn := fun _ => fun
  | [d1, d2, d3] => { results := [.lit (.bool true)], args := [d1, d2, d3] }
  | _ => none }
def macLongRow : OpenClaim := { program := "ytkbcilfcfbfiaaadoor", sum := "166a4f962af2e3fbdafbca53c433a8ceb15a9208dbc9d4d6ed2b12113c6e091c", func := "affidavit/affidavitlaw03.MacLong", spec := "macLong", unfollowed := true, recurses := true, named := ["affidavit/sum.consts"], plainKeys := false, apart := false, laid := [("affidavit/sum.consts", laid_affidavit_sum_consts)] }
def MacLongSaid : Prop := macLongRow.holds Tryd.pinned (OpenSpec.ofChange macLongSpec)

/-- ITS FALSE NEIGHBOUR: 'it returns false'. Refute it at one input. -/
def macLongWrong : ChangeSpec := { name := "macLong", fn := fun _ => fun
  | [d1, d2, d3] => { results := [.lit (.bool false)], args := [d1, d2, d3] }
  | _ => none }
def MacLongWrongFalsely : Prop := macLongRow.holds Tryd.pinned (OpenSpec.ofChange macLongWrong)

/-- 'affidavitlaw03.MacLabels': WHATEVER THE INPUT: true; the input reads as it did. -/
def macLabelsSpec : ChangeSpec := { name := "macLabels", fn := fun _ => fun
  | [d1, d2, d3] => { results := [.lit (.bool true)], args := [d1, d2, d3] }
  | _ => none }
def macLabelsRow : OpenClaim := { program := "ytkbcilfcfbfiaaadoor", sum := "166a4f962af2e3fbdafbca53c433a8ceb15a9208dbc9d4d6ed2b12113c6e091c", func := "affidavit/affidavitlaw03.MacLabels", spec := "macLabels", unfollowed := true, recurses := true, named := ["affidavit/sum.consts"], plainKeys := false, apart := false, laid := [("affidavit/sum.consts", laid_affidavit_sum_consts)] }
def MacLabelsSaid : Prop := macLabelsRow.holds Tryd.pinned (OpenSpec.ofChange macLabelsSpec)

/-- ITS FALSE NEIGHBOUR: 'it returns false'. Refute it at one input. -/
def macLabelsWrong : ChangeSpec := { name := "macLabels", fn := fun _ => fun
  | [d1, d2, d3] => { results := [.lit (.bool false)], args := [d1, d2, d3] }
  | _ => none }
def MacLabelsWrongFalsely : Prop := macLabelsRow.holds Tryd.pinned (OpenSpec.ofChange macLabelsWrong)

/-- 'affidavitlaw03.MacBytes': WHATEVER THE INPUT: true; the input reads as it did. -/
def macBytesSpec : ChangeSpec := { name := "macBytes", fn := fun _ => fun
  | [d1, d2] => { results := [.lit (.bool true)], args := [d1, d2] }
  | _ => none }
def macBytesRow : OpenClaim := { program := "ytkbcilfcfbfiaaadoor", sum := "166a4f962af2e3fbdafbca53c433a8ceb15a9208dbc9d4d6ed2b12113c6e091c", func := "affidavit/affidavitlaw03.MacBytes", spec := "macBytes", unfollowed := true, recurses := true, named := ["affidavit/sum.consts"], plainKeys := false, apart := false, laid := [("affidavit/sum.consts", laid_affidavit_sum_consts)] }
def MacBytesSaid : Prop := macBytesRow.holds Tryd.pinned (OpenSpec.ofChange macBytesSpec)

/-- ITS FALSE NEIGHBOUR: 'it returns false'. Refute it at one input. -/
def macBytesWrong : ChangeSpec := { name := "macBytes", fn := fun _ => fun
  | [d1, d2] => { results := [.lit (.bool false)], args := [d1, d2] }
  | _ => none }
def MacBytesWrongFalsely : Prop := macBytesRow.holds Tryd.pinned (OpenSpec.ofChange macBytesWrong)

/-- 'affidavitlaw05.VeilVeils': WHATEVER THE INPUT: true; the input reads as it did. -/
def veilVeilsSpec : ChangeSpec := { name := "veilVeils", fn := fun _ => fun
  | [d1, d2, d3] => { results := [.lit (.bool true)], args := [d1, d2, d3] }
  | _ => none }
def veilVeilsRow : OpenClaim := { program := "ytkbcilfcfbfiaaadoor", sum := "166a4f962af2e3fbdafbca53c433a8ceb15a9208dbc9d4d6ed2b12113c6e091c", func := "affidavit/affidavitlaw05.VeilVeils", spec := "veilVeils", unfollowed := true, recurses := true, named := ["affidavit/sum.consts"], plainKeys := false, apart := false, laid := [("affidavit/sum.consts", laid_affidavit_sum_consts)] }
def VeilVeilsSaid : Prop := veilVeilsRow.holds Tryd.pinned (OpenSpec.ofChange veilVeilsSpec)

/-- ITS FALSE NEIGHBOUR: 'it returns false'. Refute it at one input. -/
def veilVeilsWrong : ChangeSpec := { name := "veilVeils", fn := fun _ => fun
  | [d1, d2, d3] => { results := [.lit (.bool false)], args := [d1, d2, d3] }
  | _ => none }
def VeilVeilsWrongFalsely : Prop := veilVeilsRow.holds Tryd.pinned (OpenSpec.ofChange veilVeilsWrong)

/-- 'affidavitlaw05.VeilRows': WHATEVER THE INPUT: true; the input reads as it did. -/
def veilRowsSpec : ChangeSpec := { name := "veilRows", fn := fun _ => fun
  | [d1, d2, d3] => { results := [.lit (.bool true)], args := [d1, d2, d3] }
  | _ => none }
def veilRowsRow : OpenClaim := { program := "ytkbcilfcfbfiaaadoor", sum := "166a4f962af2e3fbdafbca53c433a8ceb15a9208dbc9d4d6ed2b12113c6e091c", func := "affidavit/affidavitlaw05.VeilRows", spec := "veilRows", unfollowed := true, recurses := true, named := ["affidavit/sum.consts"], plainKeys := false, apart := false, laid := [("affidavit/sum.consts", laid_affidavit_sum_consts)] }
def VeilRowsSaid : Prop := veilRowsRow.holds Tryd.pinned (OpenSpec.ofChange veilRowsSpec)

/-- ITS FALSE NEIGHBOUR: 'it returns false'. Refute it at one input. -/
def veilRowsWrong : ChangeSpec := { name := "veilRows", fn := fun _ => fun
  | [d1, d2, d3] => { results := [.lit (.bool false)], args := [d1, d2, d3] }
  | _ => none }
def VeilRowsWrongFalsely : Prop := veilRowsRow.holds Tryd.pinned (OpenSpec.ofChange veilRowsWrong)

/-- 'affidavitlaw05.VeilTwice': WHATEVER THE INPUT: true; the input reads as it did. -/
def veilTwiceSpec : ChangeSpec := { name := "veilTwice", fn := fun _ => fun
  | [d1, d2, d3] => { results := [.lit (.bool true)], args := [d1, d2, d3] }
  | _ => none }
def veilTwiceRow : OpenClaim := { program := "ytkbcilfcfbfiaaadoor", sum := "166a4f962af2e3fbdafbca53c433a8ceb15a9208dbc9d4d6ed2b12113c6e091c", func := "affidavit/affidavitlaw05.VeilTwice", spec := "veilTwice", unfollowed := true, recurses := true, named := ["affidavit/sum.consts"], plainKeys := false, apart := false, laid := [("affidavit/sum.consts", laid_affidavit_sum_consts)] }
def VeilTwiceSaid : Prop := veilTwiceRow.holds Tryd.pinned (OpenSpec.ofChange veilTwiceSpec)

/-- ITS FALSE NEIGHBOUR: 'it returns false'. Refute it at one input. -/
def veilTwiceWrong : ChangeSpec := { name := "veilTwice", fn := fun _ => fun
  | [d1, d2, d3] => { results := [.lit (.bool false)], args := [d1, d2, d3] }
  | _ => none }
def VeilTwiceWrongFalsely : Prop := veilTwiceRow.holds Tryd.pinned (OpenSpec.ofChange veilTwiceWrong)

/-- 'affidavitlaw05.VeilShape': WHATEVER THE INPUT: true; the input reads as it did. -/
def veilShapeSpec : ChangeSpec := { name := "veilShape", fn := fun _ => fun
  | [d] => { results := [.lit (.bool true)], args := [d] }
  | _ => none }
def veilShapeRow : OpenClaim := { program := "ytkbcilfcfbfiaaadoor", sum := "166a4f962af2e3fbdafbca53c433a8ceb15a9208dbc9d4d6ed2b12113c6e091c", func := "affidavit/affidavitlaw05.VeilShape", spec := "veilShape", unfollowed := true, recurses := true, named := ["affidavit/sum.consts"], plainKeys := false, apart := false, laid := [("affidavit/sum.consts", laid_affidavit_sum_consts)] }
def VeilShapeSaid : Prop := veilShapeRow.holds Tryd.pinned (OpenSpec.ofChange veilShapeSpec)

/-- ITS FALSE NEIGHBOUR: 'it returns false'. Refute it at one input. -/
def veilShapeWrong : ChangeSpec := { name := "veilShape", fn := fun _ => fun
  | [d] => { results := [.lit (.bool false)], args := [d] }
  | _ => none }
def VeilShapeWrongFalsely : Prop := veilShapeRow.holds Tryd.pinned (OpenSpec.ofChange veilShapeWrong)

/-- 'affidavitlaw05.VeilNothing': WHATEVER THE INPUT: true; the input reads as it did. -/
def veilNothingSpec : ChangeSpec := { name := "veilNothing", fn := fun _ => fun
  | [d] => { results := [.lit (.bool true)], args := [d] }
  | _ => none }
def veilNothingRow : OpenClaim := { program := "ytkbcilfcfbfiaaadoor", sum := "166a4f962af2e3fbdafbca53c433a8ceb15a9208dbc9d4d6ed2b12113c6e091c", func := "affidavit/affidavitlaw05.VeilNothing", spec := "veilNothing", unfollowed := true, recurses := true, named := ["affidavit/sum.consts"], plainKeys := false, apart := false, laid := [("affidavit/sum.consts", laid_affidavit_sum_consts)] }
def VeilNothingSaid : Prop := veilNothingRow.holds Tryd.pinned (OpenSpec.ofChange veilNothingSpec)

/-- ITS FALSE NEIGHBOUR: 'it returns false'. Refute it at one input. -/
def veilNothingWrong : ChangeSpec := { name := "veilNothing", fn := fun _ => fun
  | [d] => { results := [.lit (.bool false)], args := [d] }
  | _ => none }
def VeilNothingWrongFalsely : Prop := veilNothingRow.holds Tryd.pinned (OpenSpec.ofChange veilNothingWrong)

/-- 'affidavitlaw04.RingPlays': WHATEVER THE INPUT: true; the input reads as it did. -/
def ringPlaysSpec : ChangeSpec := { name := "ringPlays", fn := fun _ => fun
  | [d1, d2, d3] => { results := [.lit (.bool true)], args := [d1, d2, d3] }
  | _ => none }
def ringPlaysRow : OpenClaim := { program := "ytkbcilfcfbfiaaadoor", sum := "166a4f962af2e3fbdafbca53c433a8ceb15a9208dbc9d4d6ed2b12113c6e091c", func := "affidavit/affidavitlaw04.RingPlays", spec := "ringPlays", unfollowed := true, recurses := true, named := ["affidavit/sum.consts"], plainKeys := false, apart := false, laid := [("affidavit/sum.consts", laid_affidavit_sum_consts)] }
def RingPlaysSaid : Prop := ringPlaysRow.holds Tryd.pinned (OpenSpec.ofChange ringPlaysSpec)

/-- ITS FALSE NEIGHBOUR: 'it returns false'. Refute it at one input. -/
def ringPlaysWrong : ChangeSpec := { name := "ringPlays", fn := fun _ => fun
  | [d1, d2, d3] => { results := [.lit (.bool false)], args := [d1, d2, d3] }
  | _ => none }
def RingPlaysWrongFalsely : Prop := ringPlaysRow.holds Tryd.pinned (OpenSpec.ofChange ringPlaysWrong)

/-- 'affidavitlaw04.RingBook': WHATEVER THE INPUT: true; the input reads as it did. -/
def ringBookSpec : ChangeSpec := { name := "ringBook", fn := fun _ => fun
  | [d1, d2] => { results := [.lit (.bool true)], args := [d1, d2] }
  | _ => none }
def ringBookRow : OpenClaim := { program := "ytkbcilfcfbfiaaadoor", sum := "166a4f962af2e3fbdafbca53c433a8ceb15a9208dbc9d4d6ed2b12113c6e091c", func := "affidavit/affidavitlaw04.RingBook", spec := "ringBook", unfollowed := true, recurses := true, named := ["affidavit/sum.consts"], plainKeys := false, apart := false, laid := [("affidavit/sum.consts", laid_affidavit_sum_consts)] }
def RingBookSaid : Prop := ringBookRow.holds Tryd.pinned (OpenSpec.ofChange ringBookSpec)

/-- ITS FALSE NEIGHBOUR: 'it returns false'. Refute it at one input. -/
def ringBookWrong : ChangeSpec := { name := "ringBook", fn := fun _ => fun
  | [d1, d2] => { results := [.lit (.bool false)], args := [d1, d2] }
  | _ => none }
def RingBookWrongFalsely : Prop := ringBookRow.holds Tryd.pinned (OpenSpec.ofChange ringBookWrong)

/-- 'affidavitlaw04.RingTurned': WHATEVER THE INPUT: true; the input reads as it did. -/
def ringTurnedSpec : ChangeSpec := { name := "ringTurned", fn := fun _ => fun
  | [d1, d2] => { results := [.lit (.bool true)], args := [d1, d2] }
  | _ => none }
def ringTurnedRow : OpenClaim := { program := "ytkbcilfcfbfiaaadoor", sum := "166a4f962af2e3fbdafbca53c433a8ceb15a9208dbc9d4d6ed2b12113c6e091c", func := "affidavit/affidavitlaw04.RingTurned", spec := "ringTurned", unfollowed := true, recurses := true, named := ["affidavit/sum.consts"], plainKeys := false, apart := false, laid := [("affidavit/sum.consts", laid_affidavit_sum_consts)] }
def RingTurnedSaid : Prop := ringTurnedRow.holds Tryd.pinned (OpenSpec.ofChange ringTurnedSpec)

/-- ITS FALSE NEIGHBOUR: 'it returns false'. Refute it at one input. -/
def ringTurnedWrong : ChangeSpec := { name := "ringTurned", fn := fun _ => fun
  | [d1, d2] => { results := [.lit (.bool false)], args := [d1, d2] }
  | _ => none }
def RingTurnedWrongFalsely : Prop := ringTurnedRow.holds Tryd.pinned (OpenSpec.ofChange ringTurnedWrong)

/-- 'affidavitlaw04.RingSame': WHATEVER THE INPUT: true; the input reads as it did. -/
def ringSameSpec : ChangeSpec := { name := "ringSame", fn := fun _ => fun
  | [d1, d2] => { results := [.lit (.bool true)], args := [d1, d2] }
  | _ => none }
def ringSameRow : OpenClaim := { program := "ytkbcilfcfbfiaaadoor", sum := "166a4f962af2e3fbdafbca53c433a8ceb15a9208dbc9d4d6ed2b12113c6e091c", func := "affidavit/affidavitlaw04.RingSame", spec := "ringSame", unfollowed := true, recurses := true, named := ["affidavit/sum.consts"], plainKeys := false, apart := false, laid := [("affidavit/sum.consts", laid_affidavit_sum_consts)] }
def RingSameSaid : Prop := ringSameRow.holds Tryd.pinned (OpenSpec.ofChange ringSameSpec)

/-- ITS FALSE NEIGHBOUR: 'it returns false'. Refute it at one input. -/
def ringSameWrong : ChangeSpec := { name := "ringSame", fn := fun _ => fun
  | [d1, d2] => { results := [.lit (.bool false)], args := [d1, d2] }
  | _ => none }
def RingSameWrongFalsely : Prop := ringSameRow.holds Tryd.pinned (OpenSpec.ofChange ringSameWrong)

/-- 'affidavitlaw04.RingNone': WHATEVER THE INPUT: true; the input reads as it did. -/
def ringNoneSpec : ChangeSpec := { name := "ringNone", fn := fun _ => fun
  | [d] => { results := [.lit (.bool true)], args := [d] }
  | _ => none }
def ringNoneRow : OpenClaim := { program := "ytkbcilfcfbfiaaadoor", sum := "166a4f962af2e3fbdafbca53c433a8ceb15a9208dbc9d4d6ed2b12113c6e091c", func := "affidavit/affidavitlaw04.RingNone", spec := "ringNone", unfollowed := true, recurses := true, named := ["affidavit/sum.consts"], plainKeys := false, apart := false, laid := [("affidavit/sum.consts", laid_affidavit_sum_consts)] }
def RingNoneSaid : Prop := ringNoneRow.holds Tryd.pinned (OpenSpec.ofChange ringNoneSpec)

/-- ITS FALSE NEIGHBOUR: 'it returns false'. Refute it at one input. -/
def ringNoneWrong : ChangeSpec := { name := "ringNone", fn := fun _ => fun
  | [d] => { results := [.lit (.bool false)], args := [d] }
  | _ => none }
def RingNoneWrongFalsely : Prop := ringNoneRow.holds Tryd.pinned (OpenSpec.ofChange ringNoneWrong)

/- THE SECOND FORM. 'bulk': how many values and letters a reading holds, each counted each time it is reached (what is shared counts as often as it is met; a slice's spare places count too). A statement '..UptoSaid' is the law's where the arguments, and the package variables that the reading takes, are together of bulk at most 1048576: NARROWER than '..Said'. Prove '..Said' where nothing that the law and all that it calls make is longer than what came in: it says more and counts as full. Else prove '..UptoSaid'. A law counts once. -/
mutual
def uptoBulk {H : Type} : DataW H → Nat
  | .lit (.string bytes) => bytes.length + 1
  | .lit _ => 1
  | .nil => 1
  | .ptr d => uptoBulk d + 1
  | .slice elems spare => uptoBulkAll elems + uptoBulkAll spare + 1
  | .agg parts => uptoBulkAll parts + 1
  | .iface _ d => uptoBulk d + 1
  | .map entries => uptoBulkEntries entries + 1
  | .held _ => 1
def uptoBulkAll {H : Type} : List (DataW H) → Nat
  | [] => 0
  | d :: r => uptoBulk d + uptoBulkAll r
def uptoBulkEntries {H : Type} : List (Lit × DataW H) → Nat
  | [] => 0
  | x :: r => uptoBulkEntry x + uptoBulkEntries r
def uptoBulkEntry {H : Type} : Lit × DataW H → Nat
  | (.string bytes, d) => bytes.length + uptoBulk d + 1
  | (_, d) => uptoBulk d + 1
 end
def uptoSmall : (H : Type) → List (DataW H) → Bool := fun _ ds => decide (uptoBulkAll ds ≤ 1048576)
def OpenSpec.upto (s : _root_.Go.ChangeSpec) : _root_.Go.OpenSpec := { _root_.Go.OpenSpec.ofChange s with cond := some uptoSmall }

/-- 'affidavitlaw02.SumSums', WHERE WHAT IT READS IS OF BULK AT MOST 1048576: true; the input reads as it did. -/
def sumSumsUptoRow : OpenClaim := { program := "ytkbcilfcfbfiaaadoor", sum := "166a4f962af2e3fbdafbca53c433a8ceb15a9208dbc9d4d6ed2b12113c6e091c", func := "affidavit/affidavitlaw02.SumSums", spec := "sumSums", named := ["affidavit/sum.consts"], plainKeys := false, apart := false, laid := [("affidavit/sum.consts", laid_affidavit_sum_consts)], narrowed := true }
def SumSumsUptoSaid : Prop := sumSumsUptoRow.holds Tryd.pinned (OpenSpec.upto sumSumsSpec)

/-- 'affidavitlaw02.SumEnds', WHERE WHAT IT READS IS OF BULK AT MOST 1048576: true; the input reads as it did. -/
def sumEndsUptoRow : OpenClaim := { program := "ytkbcilfcfbfiaaadoor", sum := "166a4f962af2e3fbdafbca53c433a8ceb15a9208dbc9d4d6ed2b12113c6e091c", func := "affidavit/affidavitlaw02.SumEnds", spec := "sumEnds", named := ["affidavit/sum.consts"], plainKeys := false, apart := false, laid := [("affidavit/sum.consts", laid_affidavit_sum_consts)], narrowed := true }
def SumEndsUptoSaid : Prop := sumEndsUptoRow.holds Tryd.pinned (OpenSpec.upto sumEndsSpec)

/-- 'affidavitlaw02.SumPieces', WHERE WHAT IT READS IS OF BULK AT MOST 1048576: true; the input reads as it did. -/
def sumPiecesUptoRow : OpenClaim := { program := "ytkbcilfcfbfiaaadoor", sum := "166a4f962af2e3fbdafbca53c433a8ceb15a9208dbc9d4d6ed2b12113c6e091c", func := "affidavit/affidavitlaw02.SumPieces", spec := "sumPieces", named := ["affidavit/sum.consts"], plainKeys := false, apart := false, laid := [("affidavit/sum.consts", laid_affidavit_sum_consts)], narrowed := true }
def SumPiecesUptoSaid : Prop := sumPiecesUptoRow.holds Tryd.pinned (OpenSpec.upto sumPiecesSpec)

/-- 'affidavitlaw02.SumApart', WHERE WHAT IT READS IS OF BULK AT MOST 1048576: true; the input reads as it did. -/
def sumApartUptoRow : OpenClaim := { program := "ytkbcilfcfbfiaaadoor", sum := "166a4f962af2e3fbdafbca53c433a8ceb15a9208dbc9d4d6ed2b12113c6e091c", func := "affidavit/affidavitlaw02.SumApart", spec := "sumApart", named := ["affidavit/sum.consts"], plainKeys := false, apart := false, laid := [("affidavit/sum.consts", laid_affidavit_sum_consts)], narrowed := true }
def SumApartUptoSaid : Prop := sumApartUptoRow.holds Tryd.pinned (OpenSpec.upto sumApartSpec)

/-- 'affidavitlaw02.SumNone', WHERE WHAT IT READS IS OF BULK AT MOST 1048576: true; the input reads as it did. -/
def sumNoneUptoRow : OpenClaim := { program := "ytkbcilfcfbfiaaadoor", sum := "166a4f962af2e3fbdafbca53c433a8ceb15a9208dbc9d4d6ed2b12113c6e091c", func := "affidavit/affidavitlaw02.SumNone", spec := "sumNone", named := ["affidavit/sum.consts"], plainKeys := false, apart := false, laid := [("affidavit/sum.consts", laid_affidavit_sum_consts)], narrowed := true }
def SumNoneUptoSaid : Prop := sumNoneUptoRow.holds Tryd.pinned (OpenSpec.upto sumNoneSpec)

/-- 'affidavitlaw03.MacTags', WHERE WHAT IT READS IS OF BULK AT MOST 1048576: true; the input reads as it did. -/
def macTagsUptoRow : OpenClaim := { program := "ytkbcilfcfbfiaaadoor", sum := "166a4f962af2e3fbdafbca53c433a8ceb15a9208dbc9d4d6ed2b12113c6e091c", func := "affidavit/affidavitlaw03.MacTags", spec := "macTags", unfollowed := true, recurses := true, named := ["affidavit/sum.consts"], plainKeys := false, apart := false, laid := [("affidavit/sum.consts", laid_affidavit_sum_consts)], narrowed := true }
def MacTagsUptoSaid : Prop := macTagsUptoRow.holds Tryd.pinned (OpenSpec.upto macTagsSpec)

/-- 'affidavitlaw03.MacJoins', WHERE WHAT IT READS IS OF BULK AT MOST 1048576: true; the input reads as it did. -/
def macJoinsUptoRow : OpenClaim := { program := "ytkbcilfcfbfiaaadoor", sum := "166a4f962af2e3fbdafbca53c433a8ceb15a9208dbc9d4d6ed2b12113c6e091c", func := "affidavit/affidavitlaw03.MacJoins", spec := "macJoins", unfollowed := true, recurses := true, named := ["affidavit/sum.consts"], plainKeys := false, apart := false, laid := [("affidavit/sum.consts", laid_affidavit_sum_consts)], narrowed := true }
def MacJoinsUptoSaid : Prop := macJoinsUptoRow.holds Tryd.pinned (OpenSpec.upto macJoinsSpec)

/-- 'affidavitlaw03.MacLong', WHERE WHAT IT READS IS OF BULK AT MOST 1048576: true; the input reads as it did. -/
def macLongUptoRow : OpenClaim := { program := "ytkbcilfcfbfiaaadoor", sum := "166a4f962af2e3fbdafbca53c433a8ceb15a9208dbc9d4d6ed2b12113c6e091c", func := "affidavit/affidavitlaw03.MacLong", spec := "macLong", unfollowed := true, recurses := true, named := ["affidavit/sum.consts"], plainKeys := false, apart := false, laid := [("affidavit/sum.consts", laid_affidavit_sum_consts)], narrowed := true }
def MacLongUptoSaid : Prop := macLongUptoRow.holds Tryd.pinned (OpenSpec.upto macLongSpec)

/-- 'affidavitlaw03.MacLabels', WHERE WHAT IT READS IS OF BULK AT MOST 1048576: true; the input reads as it did. -/
def macLabelsUptoRow : OpenClaim := { program := "ytkbcilfcfbfiaaadoor", sum := "166a4f962af2e3fbdafbca53c433a8ceb15a9208dbc9d4d6ed2b12113c6e091c", func := "affidavit/affidavitlaw03.MacLabels", spec := "macLabels", unfollowed := true, recurses := true, named := ["affidavit/sum.consts"], plainKeys := false, apart := false, laid := [("affidavit/sum.consts", laid_affidavit_sum_consts)], narrowed := true }
def MacLabelsUptoSaid : Prop := macLabelsUptoRow.holds Tryd.pinned (OpenSpec.upto macLabelsSpec)

/-- 'affidavitlaw03.MacBytes', WHERE WHAT IT READS IS OF BULK AT MOST 1048576: true; the input reads as it did. -/
def macBytesUptoRow : OpenClaim := { program := "ytkbcilfcfbfiaaadoor", sum := "166a4f962af2e3fbdafbca53c433a8ceb15a9208dbc9d4d6ed2b12113c6e091c", func := "affidavit/affidavitlaw03.MacBytes", spec := "macBytes", unfollowed := true, recurses := true, named := ["affidavit/sum.consts"], plainKeys := false, apart := false, laid := [("affidavit/sum.consts", laid_affidavit_sum_consts)], narrowed := true }
def MacBytesUptoSaid : Prop := macBytesUptoRow.holds Tryd.pinned (OpenSpec.upto macBytesSpec)

/-- 'affidavitlaw05.VeilVeils', WHERE WHAT IT READS IS OF BULK AT MOST 1048576: true; the input reads as it did. -/
def veilVeilsUptoRow : OpenClaim := { program := "ytkbcilfcfbfiaaadoor", sum := "166a4f962af2e3fbdafbca53c433a8ceb15a9208dbc9d4d6ed2b12113c6e091c", func := "affidavit/affidavitlaw05.VeilVeils", spec := "veilVeils", unfollowed := true, recurses := true, named := ["affidavit/sum.consts"], plainKeys := false, apart := false, laid := [("affidavit/sum.consts", laid_affidavit_sum_consts)], narrowed := true }
def VeilVeilsUptoSaid : Prop := veilVeilsUptoRow.holds Tryd.pinned (OpenSpec.upto veilVeilsSpec)

/-- 'affidavitlaw05.VeilRows', WHERE WHAT IT READS IS OF BULK AT MOST 1048576: true; the input reads as it did. -/
def veilRowsUptoRow : OpenClaim := { program := "ytkbcilfcfbfiaaadoor", sum := "166a4f962af2e3fbdafbca53c433a8ceb15a9208dbc9d4d6ed2b12113c6e091c", func := "affidavit/affidavitlaw05.VeilRows", spec := "veilRows", unfollowed := true, recurses := true, named := ["affidavit/sum.consts"], plainKeys := false, apart := false, laid := [("affidavit/sum.consts", laid_affidavit_sum_consts)], narrowed := true }
def VeilRowsUptoSaid : Prop := veilRowsUptoRow.holds Tryd.pinned (OpenSpec.upto veilRowsSpec)

/-- 'affidavitlaw05.VeilTwice', WHERE WHAT IT READS IS OF BULK AT MOST 1048576: true; the input reads as it did. -/
def veilTwiceUptoRow : OpenClaim := { program := "ytkbcilfcfbfiaaadoor", sum := "166a4f962af2e3fbdafbca53c433a8ceb15a9208dbc9d4d6ed2b12113c6e091c", func := "affidavit/affidavitlaw05.VeilTwice", spec := "veilTwice", unfollowed := true, recurses := true, named := ["affidavit/sum.consts"], plainKeys := false, apart := false, laid := [("affidavit/sum.consts", laid_affidavit_sum_consts)], narrowed := true }
def VeilTwiceUptoSaid : Prop := veilTwiceUptoRow.holds Tryd.pinned (OpenSpec.upto veilTwiceSpec)

/-- 'affidavitlaw05.VeilShape', WHERE WHAT IT READS IS OF BULK AT MOST 1048576: true; the input reads as it did. -/
def veilShapeUptoRow : OpenClaim := { program := "ytkbcilfcfbfiaaadoor", sum := "166a4f962af2e3fbdafbca53c433a8ceb15a9208dbc9d4d6ed2b12113c6e091c", func := "affidavit/affidavitlaw05.VeilShape", spec := "veilShape", unfollowed := true, recurses := true, named := ["affidavit/sum.consts"], plainKeys := false, apart := false, laid := [("affidavit/sum.consts", laid_affidavit_sum_consts)], narrowed := true }
def VeilShapeUptoSaid : Prop := veilShapeUptoRow.holds Tryd.pinned (OpenSpec.upto veilShapeSpec)

/-- 'affidavitlaw05.VeilNothing', WHERE WHAT IT READS IS OF BULK AT MOST 1048576: true; the input reads as it did. -/
def veilNothingUptoRow : OpenClaim := { program := "ytkbcilfcfbfiaaadoor", sum := "166a4f962af2e3fbdafbca53c433a8ceb15a9208dbc9d4d6ed2b12113c6e091c", func := "affidavit/affidavitlaw05.VeilNothing", spec := "veilNothing", unfollowed := true, recurses := true, named := ["affidavit/sum.consts"], plainKeys := false, apart := false, laid := [("affidavit/sum.consts", laid_affidavit_sum_consts)], narrowed := true }
def VeilNothingUptoSaid : Prop := veilNothingUptoRow.holds Tryd.pinned (OpenSpec.upto veilNothingSpec)

/-- 'affidavitlaw04.RingPlays', WHERE WHAT IT READS IS OF BULK AT MOST 1048576: true; the input reads as it did. -/
def ringPlaysUptoRow : OpenClaim := { program := "ytkbcilfcfbfiaaadoor", sum := "166a4f962af2e3fbdafbca53c433a8ceb15a9208dbc9d4d6ed2b12113c6e091c", func := "affidavit/affidavitlaw04.RingPlays", spec := "ringPlays", unfollowed := true, recurses := true, named := ["affidavit/sum.consts"], plainKeys := false, apart := false, laid := [("affidavit/sum.consts", laid_affidavit_sum_consts)], narrowed := true }
def RingPlaysUptoSaid : Prop := ringPlaysUptoRow.holds Tryd.pinned (OpenSpec.upto ringPlaysSpec)

/-- 'affidavitlaw04.RingBook', WHERE WHAT IT READS IS OF BULK AT MOST 1048576: true; the input reads as it did. -/
def ringBookUptoRow : OpenClaim := { program := "ytkbcilfcfbfiaaadoor", sum := "166a4f962af2e3fbdafbca53c433a8ceb15a9208dbc9d4d6ed2b12113c6e091c", func := "affidavit/affidavitlaw04.RingBook", spec := "ringBook", unfollowed := true, recurses := true, named := ["affidavit/sum.consts"], plainKeys := false, apart := false, laid := [("affidavit/sum.consts", laid_affidavit_sum_consts)], narrowed := true }
def RingBookUptoSaid : Prop := ringBookUptoRow.holds Tryd.pinned (OpenSpec.upto ringBookSpec)

/-- 'affidavitlaw04.RingTurned', WHERE WHAT IT READS IS OF BULK AT MOST 1048576: true; the input reads as it did. -/
def ringTurnedUptoRow : OpenClaim := { program := "ytkbcilfcfbfiaaadoor", sum := "166a4f962af2e3fbdafbca53c433a8ceb15a9208dbc9d4d6ed2b12113c6e091c", func := "affidavit/affidavitlaw04.RingTurned", spec := "ringTurned", unfollowed := true, recurses := true, named := ["affidavit/sum.consts"], plainKeys := false, apart := false, laid := [("affidavit/sum.consts", laid_affidavit_sum_consts)], narrowed := true }
def RingTurnedUptoSaid : Prop := ringTurnedUptoRow.holds Tryd.pinned (OpenSpec.upto ringTurnedSpec)

/-- 'affidavitlaw04.RingSame', WHERE WHAT IT READS IS OF BULK AT MOST 1048576: true; the input reads as it did. -/
def ringSameUptoRow : OpenClaim := { program := "ytkbcilfcfbfiaaadoor", sum := "166a4f962af2e3fbdafbca53c433a8ceb15a9208dbc9d4d6ed2b12113c6e091c", func := "affidavit/affidavitlaw04.RingSame", spec := "ringSame", unfollowed := true, recurses := true, named := ["affidavit/sum.consts"], plainKeys := false, apart := false, laid := [("affidavit/sum.consts", laid_affidavit_sum_consts)], narrowed := true }
def RingSameUptoSaid : Prop := ringSameUptoRow.holds Tryd.pinned (OpenSpec.upto ringSameSpec)

/-- 'affidavitlaw04.RingNone', WHERE WHAT IT READS IS OF BULK AT MOST 1048576: true; the input reads as it did. -/
def ringNoneUptoRow : OpenClaim := { program := "ytkbcilfcfbfiaaadoor", sum := "166a4f962af2e3fbdafbca53c433a8ceb15a9208dbc9d4d6ed2b12113c6e091c", func := "affidavit/affidavitlaw04.RingNone", spec := "ringNone", unfollowed := true, recurses := true, named := ["affidavit/sum.consts"], plainKeys := false, apart := false, laid := [("affidavit/sum.consts", laid_affidavit_sum_consts)], narrowed := true }
def RingNoneUptoSaid : Prop := ringNoneUptoRow.holds Tryd.pinned (OpenSpec.upto ringNoneSpec)

end Rows
end Go.Proofs.YtkbcilfcfbfiaaaDoor
