/-
  No cell of these rows narrows 'for every input' (looked for: loops, veiled, ifaces, maps, wideKeys, modest, calm, conditions, laid).
  DERIVED. THE GIVEN ROWS OF THIS SEAT. 12 by the template 'for every input the law returns true; each argument reads behind the call as it read before'; 0 by the template 'total and deterministic' (their statements: YtnddkodenkmoiaaTotals.lean).
  GIVEN WITH THE SEED: the statements are not yours to turn. If you find one false, say at which input.
  Laid BY PROGRAM, IN A SANDBOX (cutbox-rows.mjs): the forced cells as the released guide's own fill.sh prints them over the translation f7bdca15fc0d840a… (all of the seat's roots in one cut). By AI agents, Wed Nov 11 2026. No macro, syntax, notation, axiom, sorry.
-/
import Derived.Test.YtnddkodenkmoiaaChecked
import GoSem.Claim
import GoSem.ClaimJoined
import GoSem.ClaimMapViews
import Derived.JoinedTies
import Derived.KernelRfl
namespace Go.Proofs.Ytnddkodenkmoiaa
/- THE CELL 'sum', in the pinned program and in every row, IS THE sha256 OF THE DUMP (.gsa) THAT YtnddkodenkmoiaaProg.lean LOADS. Nothing in Lean hashes anything: it is a label: what it is worth is what the hold of that sum in a sandbox is worth. -/
noncomputable def Try.pinned : Pinned := { name := "ytnddkodenkmoiaa", sum := "f7bdca15fc0d840a83529dab0271e5b22a3db5187ac6c39de7ced3f58c9a48fd", checked := Try.checked }
namespace Rows
def none {H : Type} : Left H := { results := [], args := [] }

/-- 'affidavitlaw06.SectApart': WHATEVER THE INPUT: true; the input reads as it did. -/
def sectApartSpec : ChangeSpec := { name := "sectApart", fn := fun _ => fun
  | [d1, d2, d3] => { results := [.lit (.bool true)], args := [d1, d2, d3] }
  | _ => none }
def sectApartRow : OpenClaim := { program := "ytnddkodenkmoiaa", sum := "f7bdca15fc0d840a83529dab0271e5b22a3db5187ac6c39de7ced3f58c9a48fd", func := "affidavit/affidavitlaw06.SectApart", spec := "sectApart", unfollowed := true, recurses := true, apart := false }
def SectApartSaid : Prop := sectApartRow.holds Try.pinned (OpenSpec.ofChange sectApartSpec)

/-- ITS FALSE NEIGHBOUR: 'it returns false'. Refute it at one input. -/
def sectApartWrong : ChangeSpec := { name := "sectApart", fn := fun _ => fun
  | [d1, d2, d3] => { results := [.lit (.bool false)], args := [d1, d2, d3] }
  | _ => none }
def SectApartWrongFalsely : Prop := sectApartRow.holds Try.pinned (OpenSpec.ofChange sectApartWrong)

/-- 'affidavitlaw06.SectArmed': WHATEVER THE INPUT: true; the input reads as it did. -/
def sectArmedSpec : ChangeSpec := { name := "sectArmed", fn := fun _ => fun
  | [d1, d2] => { results := [.lit (.bool true)], args := [d1, d2] }
  | _ => none }
def sectArmedRow : OpenClaim := { program := "ytnddkodenkmoiaa", sum := "f7bdca15fc0d840a83529dab0271e5b22a3db5187ac6c39de7ced3f58c9a48fd", func := "affidavit/affidavitlaw06.SectArmed", spec := "sectArmed", unfollowed := true, recurses := true, apart := false }
def SectArmedSaid : Prop := sectArmedRow.holds Try.pinned (OpenSpec.ofChange sectArmedSpec)

/-- ITS FALSE NEIGHBOUR: 'it returns false'. Refute it at one input. -/
def sectArmedWrong : ChangeSpec := { name := "sectArmed", fn := fun _ => fun
  | [d1, d2] => { results := [.lit (.bool false)], args := [d1, d2] }
  | _ => none }
def SectArmedWrongFalsely : Prop := sectArmedRow.holds Try.pinned (OpenSpec.ofChange sectArmedWrong)

/-- 'affidavitlaw06.SectNone': WHATEVER THE INPUT: true; the input reads as it did. -/
def sectNoneSpec : ChangeSpec := { name := "sectNone", fn := fun _ => fun
  | [d1, d2] => { results := [.lit (.bool true)], args := [d1, d2] }
  | _ => none }
def sectNoneRow : OpenClaim := { program := "ytnddkodenkmoiaa", sum := "f7bdca15fc0d840a83529dab0271e5b22a3db5187ac6c39de7ced3f58c9a48fd", func := "affidavit/affidavitlaw06.SectNone", spec := "sectNone", unfollowed := true, recurses := true, apart := false }
def SectNoneSaid : Prop := sectNoneRow.holds Try.pinned (OpenSpec.ofChange sectNoneSpec)

/-- ITS FALSE NEIGHBOUR: 'it returns false'. Refute it at one input. -/
def sectNoneWrong : ChangeSpec := { name := "sectNone", fn := fun _ => fun
  | [d1, d2] => { results := [.lit (.bool false)], args := [d1, d2] }
  | _ => none }
def SectNoneWrongFalsely : Prop := sectNoneRow.holds Try.pinned (OpenSpec.ofChange sectNoneWrong)

/-- 'affidavitlaw07.CellApart': WHATEVER THE INPUT: true; the input reads as it did. -/
def cellApartSpec : ChangeSpec := { name := "cellApart", fn := fun _ => fun
  | [d1, d2] => { results := [.lit (.bool true)], args := [d1, d2] }
  | _ => none }
def cellApartRow : OpenClaim := { program := "ytnddkodenkmoiaa", sum := "f7bdca15fc0d840a83529dab0271e5b22a3db5187ac6c39de7ced3f58c9a48fd", func := "affidavit/affidavitlaw07.CellApart", spec := "cellApart", unfollowed := true, recurses := true, apart := false }
def CellApartSaid : Prop := cellApartRow.holds Try.pinned (OpenSpec.ofChange cellApartSpec)

/-- ITS FALSE NEIGHBOUR: 'it returns false'. Refute it at one input. -/
def cellApartWrong : ChangeSpec := { name := "cellApart", fn := fun _ => fun
  | [d1, d2] => { results := [.lit (.bool false)], args := [d1, d2] }
  | _ => none }
def CellApartWrongFalsely : Prop := cellApartRow.holds Try.pinned (OpenSpec.ofChange cellApartWrong)

/-- 'affidavitlaw07.CellNone': WHATEVER THE INPUT: true; the input reads as it did. -/
def cellNoneSpec : ChangeSpec := { name := "cellNone", fn := fun _ => fun
  | [d1, d2, d3] => { results := [.lit (.bool true)], args := [d1, d2, d3] }
  | _ => none }
def cellNoneRow : OpenClaim := { program := "ytnddkodenkmoiaa", sum := "f7bdca15fc0d840a83529dab0271e5b22a3db5187ac6c39de7ced3f58c9a48fd", func := "affidavit/affidavitlaw07.CellNone", spec := "cellNone", unfollowed := true, recurses := true, apart := false }
def CellNoneSaid : Prop := cellNoneRow.holds Try.pinned (OpenSpec.ofChange cellNoneSpec)

/-- ITS FALSE NEIGHBOUR: 'it returns false'. Refute it at one input. -/
def cellNoneWrong : ChangeSpec := { name := "cellNone", fn := fun _ => fun
  | [d1, d2, d3] => { results := [.lit (.bool false)], args := [d1, d2, d3] }
  | _ => none }
def CellNoneWrongFalsely : Prop := cellNoneRow.holds Try.pinned (OpenSpec.ofChange cellNoneWrong)

/-- 'affidavitlaw07.CellSaves': WHATEVER THE INPUT: true; the input reads as it did. -/
def cellSavesSpec : ChangeSpec := { name := "cellSaves", fn := fun _ => fun
  | [d1, d2] => { results := [.lit (.bool true)], args := [d1, d2] }
  | _ => none }
def cellSavesRow : OpenClaim := { program := "ytnddkodenkmoiaa", sum := "f7bdca15fc0d840a83529dab0271e5b22a3db5187ac6c39de7ced3f58c9a48fd", func := "affidavit/affidavitlaw07.CellSaves", spec := "cellSaves", unfollowed := true, recurses := true, apart := false }
def CellSavesSaid : Prop := cellSavesRow.holds Try.pinned (OpenSpec.ofChange cellSavesSpec)

/-- ITS FALSE NEIGHBOUR: 'it returns false'. Refute it at one input. -/
def cellSavesWrong : ChangeSpec := { name := "cellSaves", fn := fun _ => fun
  | [d1, d2] => { results := [.lit (.bool false)], args := [d1, d2] }
  | _ => none }
def CellSavesWrongFalsely : Prop := cellSavesRow.holds Try.pinned (OpenSpec.ofChange cellSavesWrong)

/-- 'affidavitlaw07.CellWhole': WHATEVER THE INPUT: true; the input reads as it did. -/
def cellWholeSpec : ChangeSpec := { name := "cellWhole", fn := fun _ => fun
  | [d1, d2, d3] => { results := [.lit (.bool true)], args := [d1, d2, d3] }
  | _ => none }
def cellWholeRow : OpenClaim := { program := "ytnddkodenkmoiaa", sum := "f7bdca15fc0d840a83529dab0271e5b22a3db5187ac6c39de7ced3f58c9a48fd", func := "affidavit/affidavitlaw07.CellWhole", spec := "cellWhole", unfollowed := true, recurses := true, apart := false }
def CellWholeSaid : Prop := cellWholeRow.holds Try.pinned (OpenSpec.ofChange cellWholeSpec)

/-- ITS FALSE NEIGHBOUR: 'it returns false'. Refute it at one input. -/
def cellWholeWrong : ChangeSpec := { name := "cellWhole", fn := fun _ => fun
  | [d1, d2, d3] => { results := [.lit (.bool false)], args := [d1, d2, d3] }
  | _ => none }
def CellWholeWrongFalsely : Prop := cellWholeRow.holds Try.pinned (OpenSpec.ofChange cellWholeWrong)

/-- 'affidavitlaw08.NonceKept': WHATEVER THE INPUT: true; the input reads as it did. -/
def nonceKeptSpec : ChangeSpec := { name := "nonceKept", fn := fun _ => fun
  | [d] => { results := [.lit (.bool true)], args := [d] }
  | _ => none }
def nonceKeptRow : OpenClaim := { program := "ytnddkodenkmoiaa", sum := "f7bdca15fc0d840a83529dab0271e5b22a3db5187ac6c39de7ced3f58c9a48fd", func := "affidavit/affidavitlaw08.NonceKept", spec := "nonceKept", unfollowed := true, recurses := true, apart := false }
def NonceKeptSaid : Prop := nonceKeptRow.holds Try.pinned (OpenSpec.ofChange nonceKeptSpec)

/-- ITS FALSE NEIGHBOUR: 'it returns false'. Refute it at one input. -/
def nonceKeptWrong : ChangeSpec := { name := "nonceKept", fn := fun _ => fun
  | [d] => { results := [.lit (.bool false)], args := [d] }
  | _ => none }
def NonceKeptWrongFalsely : Prop := nonceKeptRow.holds Try.pinned (OpenSpec.ofChange nonceKeptWrong)

/-- 'affidavitlaw08.NonceForeign': WHATEVER THE INPUT: true; the input reads as it did. -/
def nonceForeignSpec : ChangeSpec := { name := "nonceForeign", fn := fun _ => fun
  | [d1, d2] => { results := [.lit (.bool true)], args := [d1, d2] }
  | _ => none }
def nonceForeignRow : OpenClaim := { program := "ytnddkodenkmoiaa", sum := "f7bdca15fc0d840a83529dab0271e5b22a3db5187ac6c39de7ced3f58c9a48fd", func := "affidavit/affidavitlaw08.NonceForeign", spec := "nonceForeign", unfollowed := true, recurses := true, apart := false }
def NonceForeignSaid : Prop := nonceForeignRow.holds Try.pinned (OpenSpec.ofChange nonceForeignSpec)

/-- ITS FALSE NEIGHBOUR: 'it returns false'. Refute it at one input. -/
def nonceForeignWrong : ChangeSpec := { name := "nonceForeign", fn := fun _ => fun
  | [d1, d2] => { results := [.lit (.bool false)], args := [d1, d2] }
  | _ => none }
def NonceForeignWrongFalsely : Prop := nonceForeignRow.holds Try.pinned (OpenSpec.ofChange nonceForeignWrong)

/-- 'affidavitlaw08.NonceNone': WHATEVER THE INPUT: true; the input reads as it did. -/
def nonceNoneSpec : ChangeSpec := { name := "nonceNone", fn := fun _ => fun
  | [d] => { results := [.lit (.bool true)], args := [d] }
  | _ => none }
def nonceNoneRow : OpenClaim := { program := "ytnddkodenkmoiaa", sum := "f7bdca15fc0d840a83529dab0271e5b22a3db5187ac6c39de7ced3f58c9a48fd", func := "affidavit/affidavitlaw08.NonceNone", spec := "nonceNone", unfollowed := true, recurses := true, apart := false }
def NonceNoneSaid : Prop := nonceNoneRow.holds Try.pinned (OpenSpec.ofChange nonceNoneSpec)

/-- ITS FALSE NEIGHBOUR: 'it returns false'. Refute it at one input. -/
def nonceNoneWrong : ChangeSpec := { name := "nonceNone", fn := fun _ => fun
  | [d] => { results := [.lit (.bool false)], args := [d] }
  | _ => none }
def NonceNoneWrongFalsely : Prop := nonceNoneRow.holds Try.pinned (OpenSpec.ofChange nonceNoneWrong)

/-- 'affidavitlaw08.NonceDoes': WHATEVER THE INPUT: true; the input reads as it did. -/
def nonceDoesSpec : ChangeSpec := { name := "nonceDoes", fn := fun _ => fun
  | [d] => { results := [.lit (.bool true)], args := [d] }
  | _ => none }
def nonceDoesRow : OpenClaim := { program := "ytnddkodenkmoiaa", sum := "f7bdca15fc0d840a83529dab0271e5b22a3db5187ac6c39de7ced3f58c9a48fd", func := "affidavit/affidavitlaw08.NonceDoes", spec := "nonceDoes", unfollowed := true, recurses := true, apart := false }
def NonceDoesSaid : Prop := nonceDoesRow.holds Try.pinned (OpenSpec.ofChange nonceDoesSpec)

/-- ITS FALSE NEIGHBOUR: 'it returns false'. Refute it at one input. -/
def nonceDoesWrong : ChangeSpec := { name := "nonceDoes", fn := fun _ => fun
  | [d] => { results := [.lit (.bool false)], args := [d] }
  | _ => none }
def NonceDoesWrongFalsely : Prop := nonceDoesRow.holds Try.pinned (OpenSpec.ofChange nonceDoesWrong)

/-- 'affidavitlaw08.NonceOnce': WHATEVER THE INPUT: true; the input reads as it did. -/
def nonceOnceSpec : ChangeSpec := { name := "nonceOnce", fn := fun _ => fun
  | [d] => { results := [.lit (.bool true)], args := [d] }
  | _ => none }
def nonceOnceRow : OpenClaim := { program := "ytnddkodenkmoiaa", sum := "f7bdca15fc0d840a83529dab0271e5b22a3db5187ac6c39de7ced3f58c9a48fd", func := "affidavit/affidavitlaw08.NonceOnce", spec := "nonceOnce", unfollowed := true, recurses := true, apart := false }
def NonceOnceSaid : Prop := nonceOnceRow.holds Try.pinned (OpenSpec.ofChange nonceOnceSpec)

/-- ITS FALSE NEIGHBOUR: 'it returns false'. Refute it at one input. -/
def nonceOnceWrong : ChangeSpec := { name := "nonceOnce", fn := fun _ => fun
  | [d] => { results := [.lit (.bool false)], args := [d] }
  | _ => none }
def NonceOnceWrongFalsely : Prop := nonceOnceRow.holds Try.pinned (OpenSpec.ofChange nonceOnceWrong)

/- THE SECOND FORM. 'bulk': how many values and letters a reading holds, each counted each time it is reached (what is shared counts as often as it is met; a slice's spare places count too). A statement '..UptoSaid' is the law's where the arguments, and the package variables that the reading takes, are together of bulk at most 1048576: NARROWER than '..Said'. Prove '..Said' where nothing that the law and all that it calls make is longer than what came in: it says more and counts as full. Else prove '..UptoSaid'. A law counts once. -/
mutual
def uptoBulk {H : Type} : DataW H → Nat
  | .lit (.string bytes) => bytes.length + 1
  | .lit _ => 1
  | .nil => 1
  | .ptr d => uptoBulk d + 1
  | .slice elems spare => uptoBulkAll elems + uptoBulkAll spare + 1
  | .agg parts => uptoBulkAll parts + 1
  | .iface _ d => uptoBulk d + 1
  | .map entries => uptoBulkEntries entries + 1
  | .held _ => 1
def uptoBulkAll {H : Type} : List (DataW H) → Nat
  | [] => 0
  | d :: r => uptoBulk d + uptoBulkAll r
def uptoBulkEntries {H : Type} : List (Lit × DataW H) → Nat
  | [] => 0
  | x :: r => uptoBulkEntry x + uptoBulkEntries r
def uptoBulkEntry {H : Type} : Lit × DataW H → Nat
  | (.string bytes, d) => bytes.length + uptoBulk d + 1
  | (_, d) => uptoBulk d + 1
 end
def uptoSmall : (H : Type) → List (DataW H) → Bool := fun _ ds => decide (uptoBulkAll ds ≤ 1048576)
def OpenSpec.upto (s : _root_.Go.ChangeSpec) : _root_.Go.OpenSpec := { _root_.Go.OpenSpec.ofChange s with cond := some uptoSmall }

/-- 'affidavitlaw06.SectApart', WHERE WHAT IT READS IS OF BULK AT MOST 1048576: true; the input reads as it did. -/
def sectApartUptoRow : OpenClaim := { program := "ytnddkodenkmoiaa", sum := "f7bdca15fc0d840a83529dab0271e5b22a3db5187ac6c39de7ced3f58c9a48fd", func := "affidavit/affidavitlaw06.SectApart", spec := "sectApart", unfollowed := true, recurses := true, apart := false, narrowed := true }
def SectApartUptoSaid : Prop := sectApartUptoRow.holds Try.pinned (OpenSpec.upto sectApartSpec)

/-- 'affidavitlaw06.SectArmed', WHERE WHAT IT READS IS OF BULK AT MOST 1048576: true; the input reads as it did. -/
def sectArmedUptoRow : OpenClaim := { program := "ytnddkodenkmoiaa", sum := "f7bdca15fc0d840a83529dab0271e5b22a3db5187ac6c39de7ced3f58c9a48fd", func := "affidavit/affidavitlaw06.SectArmed", spec := "sectArmed", unfollowed := true, recurses := true, apart := false, narrowed := true }
def SectArmedUptoSaid : Prop := sectArmedUptoRow.holds Try.pinned (OpenSpec.upto sectArmedSpec)

/-- 'affidavitlaw06.SectNone', WHERE WHAT IT READS IS OF BULK AT MOST 1048576: true; the input reads as it did. -/
def sectNoneUptoRow : OpenClaim := { program := "ytnddkodenkmoiaa", sum := "f7bdca15fc0d840a83529dab0271e5b22a3db5187ac6c39de7ced3f58c9a48fd", func := "affidavit/affidavitlaw06.SectNone", spec := "sectNone", unfollowed := true, recurses := true, apart := false, narrowed := true }
def SectNoneUptoSaid : Prop := sectNoneUptoRow.holds Try.pinned (OpenSpec.upto sectNoneSpec)

/-- 'affidavitlaw07.CellApart', WHERE WHAT IT READS IS OF BULK AT MOST 1048576: true; the input reads as it did. -/
def cellApartUptoRow : OpenClaim := { program := "ytnddkodenkmoiaa", sum := "f7bdca15fc0d840a83529dab0271e5b22a3db5187ac6c39de7ced3f58c9a48fd", func := "affidavit/affidavitlaw07.CellApart", spec := "cellApart", unfollowed := true, recurses := true, apart := false, narrowed := true }
def CellApartUptoSaid : Prop := cellApartUptoRow.holds Try.pinned (OpenSpec.upto cellApartSpec)

/-- 'affidavitlaw07.CellNone', WHERE WHAT IT READS IS OF BULK AT MOST 1048576: true; the input reads as it did. -/
def cellNoneUptoRow : OpenClaim := { program := "ytnddkodenkmoiaa", sum := "f7bdca15fc0d840a83529dab0271e5b22a3db5187ac6c39de7ced3f58c9a48fd", func := "affidavit/affidavitlaw07.CellNone", spec := "cellNone", unfollowed := true, recurses := true, apart := false, narrowed := true }
def CellNoneUptoSaid : Prop := cellNoneUptoRow.holds Try.pinned (OpenSpec.upto cellNoneSpec)

/-- 'affidavitlaw07.CellSaves', WHERE WHAT IT READS IS OF BULK AT MOST 1048576: true; the input reads as it did. -/
def cellSavesUptoRow : OpenClaim := { program := "ytnddkodenkmoiaa", sum := "f7bdca15fc0d840a83529dab0271e5b22a3db5187ac6c39de7ced3f58c9a48fd", func := "affidavit/affidavitlaw07.CellSaves", spec := "cellSaves", unfollowed := true, recurses := true, apart := false, narrowed := true }
def CellSavesUptoSaid : Prop := cellSavesUptoRow.holds Try.pinned (OpenSpec.upto cellSavesSpec)

/-- 'affidavitlaw07.CellWhole', WHERE WHAT IT READS IS OF BULK AT MOST 1048576: true; the input reads as it did. -/
def cellWholeUptoRow : OpenClaim := { program := "ytnddkodenkmoiaa", sum := "f7bdca15fc0d840a83529dab0271e5b22a3db5187ac6c39de7ced3f58c9a48fd", func := "affidavit/affidavitlaw07.CellWhole", spec := "cellWhole", unfollowed := true, recurses := true, apart := false, narrowed := true }
def CellWholeUptoSaid : Prop := cellWholeUptoRow.holds Try.pinned (OpenSpec.upto cellWholeSpec)

/-- 'affidavitlaw08.NonceKept', WHERE WHAT IT READS IS OF BULK AT MOST 1048576: true; the input reads as it did. -/
def nonceKeptUptoRow : OpenClaim := { program := "ytnddkodenkmoiaa", sum := "f7bdca15fc0d840a83529dab0271e5b22a3db5187ac6c39de7ced3f58c9a48fd", func := "affidavit/affidavitlaw08.NonceKept", spec := "nonceKept", unfollowed := true, recurses := true, apart := false, narrowed := true }
def NonceKeptUptoSaid : Prop := nonceKeptUptoRow.holds Try.pinned (OpenSpec.upto nonceKeptSpec)

/-- 'affidavitlaw08.NonceForeign', WHERE WHAT IT READS IS OF BULK AT MOST 1048576: true; the input reads as it did. -/
def nonceForeignUptoRow : OpenClaim := { program := "ytnddkodenkmoiaa", sum := "f7bdca15fc0d840a83529dab0271e5b22a3db5187ac6c39de7ced3f58c9a48fd", func := "affidavit/affidavitlaw08.NonceForeign", spec := "nonceForeign", unfollowed := true, recurses := true, apart := false, narrowed := true }
def NonceForeignUptoSaid : Prop := nonceForeignUptoRow.holds Try.pinned (OpenSpec.upto nonceForeignSpec)

/-- 'affidavitlaw08.NonceNone', WHERE WHAT IT READS IS OF BULK AT MOST 1048576: true; the input reads as it did. -/
def nonceNoneUptoRow : OpenClaim := { program := "ytnddkodenkmoiaa", sum := "f7bdca15fc0d840a83529dab0271e5b22a3db5187ac6c39de7ced3f58c9a48fd", func := "affidavit/affidavitlaw08.NonceNone", spec := "nonceNone", unfollowed := true, recurses := true, apart := false, narrowed := true }
def NonceNoneUptoSaid : Prop := nonceNoneUptoRow.holds Try.pinned (OpenSpec.upto nonceNoneSpec)

/-- 'affidavitlaw08.NonceDoes', WHERE WHAT IT READS IS OF BULK AT MOST 1048576: true; the input reads as it did. -/
def nonceDoesUptoRow : OpenClaim := { program := "ytnddkodenkmoiaa", sum := "f7bdca15fc0d840a83529dab0271e5b22a3db5187ac6c39de7ced3f58c9a48fd", func := "affidavit/affidavitlaw08.NonceDoes", spec := "nonceDoes", unfollowed := true, recurses := true, apart := false, narrowed := true }
def NonceDoesUptoSaid : Prop := nonceDoesUptoRow.holds Try.pinned (OpenSpec.upto nonceDoesSpec)

/-- 'affidavitlaw08.NonceOnce', WHERE WHAT IT READS IS OF BULK AT MOST 1048576: true; the input reads as it did. -/
def nonceOnceUptoRow : OpenClaim := { program := "ytnddkodenkmoiaa", sum := "f7bdca15fc0d840a83529dab0271e5b22a3db5187ac6c39de7ced3f58c9a48fd", func := "affidavit/affidavitlaw08.NonceOnce", spec := "nonceOnce", unfollowed := true, recurses := true, apart := false, narrowed := true }
def NonceOnceUptoSaid : Prop := nonceOnceUptoRow.holds Try.pinned (OpenSpec.upto nonceOnceSpec)

end Rows
end Go.Proofs.Ytnddkodenkmoiaa
