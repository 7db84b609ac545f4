/-
  No cell of these rows narrows 'for every input' (looked for: loops, veiled, ifaces, maps, wideKeys, modest, calm, conditions, laid).
  DERIVED. THE GIVEN ROWS OF THIS SEAT. 5 by the template 'for every input the law returns true; each argument reads behind the call as it read before'; 0 by the template 'total and deterministic' (their statements: YtaennccfhdjaaaaTotals.lean).
  GIVEN WITH THE SEED: the statements are not yours to turn. If you find one false, say at which input.
  Laid BY PROGRAM, IN A SANDBOX (cutbox-rows.mjs): the forced cells as the released guide's own fill.sh prints them over the translation 860ace5b28b53962… (all of the seat's roots in one cut). By AI agents, Wed Nov 11 2026. No macro, syntax, notation, axiom, sorry.
-/
import Derived.Test.YtaennccfhdjaaaaChecked
import GoSem.Claim
import GoSem.ClaimJoined
import GoSem.ClaimMapViews
import Derived.JoinedTies
import Derived.KernelRfl
namespace Go.Proofs.Ytaennccfhdjaaaa
/- THE CELL 'sum', in the pinned program and in every row, IS THE sha256 OF THE DUMP (.gsa) THAT YtaennccfhdjaaaaProg.lean LOADS. Nothing in Lean hashes anything: it is a label: what it is worth is what the hold of that sum in a sandbox is worth. -/
noncomputable def Try.pinned : Pinned := { name := "ytaennccfhdjaaaa", sum := "860ace5b28b5396297752fb4343c7b7008af6534c9e9f5887409dac3232a1038", checked := Try.checked }
namespace Rows
def none {H : Type} : Left H := { results := [], args := [] }

/-- 'affidavitlaw17.ProbeTurns': WHATEVER THE INPUT: true; the input reads as it did. -/
def probeTurnsSpec : ChangeSpec := { name := "probeTurns", fn := fun _ => fun
  | [d1, d2] => { results := [.lit (.bool true)], args := [d1, d2] }
  | _ => none }
def probeTurnsRow : OpenClaim := { program := "ytaennccfhdjaaaa", sum := "860ace5b28b5396297752fb4343c7b7008af6534c9e9f5887409dac3232a1038", func := "affidavit/affidavitlaw17.ProbeTurns", spec := "probeTurns", unfollowed := true, recurses := true, apart := false }
def ProbeTurnsSaid : Prop := probeTurnsRow.holds Try.pinned (OpenSpec.ofChange probeTurnsSpec)

/-- ITS FALSE NEIGHBOUR: 'it returns false'. Refute it at one input. -/
def probeTurnsWrong : ChangeSpec := { name := "probeTurns", fn := fun _ => fun
  | [d1, d2] => { results := [.lit (.bool false)], args := [d1, d2] }
  | _ => none }
def ProbeTurnsWrongFalsely : Prop := probeTurnsRow.holds Try.pinned (OpenSpec.ofChange probeTurnsWrong)

/-- 'affidavitlaw17.ProbeDoes': WHATEVER THE INPUT: true; the input reads as it did. -/
def probeDoesSpec : ChangeSpec := { name := "probeDoes", fn := fun _ => fun
  | [d1, d2, d3] => { results := [.lit (.bool true)], args := [d1, d2, d3] }
  | _ => none }
def probeDoesRow : OpenClaim := { program := "ytaennccfhdjaaaa", sum := "860ace5b28b5396297752fb4343c7b7008af6534c9e9f5887409dac3232a1038", func := "affidavit/affidavitlaw17.ProbeDoes", spec := "probeDoes", unfollowed := true, recurses := true, apart := false }
def ProbeDoesSaid : Prop := probeDoesRow.holds Try.pinned (OpenSpec.ofChange probeDoesSpec)

/-- ITS FALSE NEIGHBOUR: 'it returns false'. Refute it at one input. -/
def probeDoesWrong : ChangeSpec := { name := "probeDoes", fn := fun _ => fun
  | [d1, d2, d3] => { results := [.lit (.bool false)], args := [d1, d2, d3] }
  | _ => none }
def ProbeDoesWrongFalsely : Prop := probeDoesRow.holds Try.pinned (OpenSpec.ofChange probeDoesWrong)

/-- 'affidavitlaw17.ProbeSoon': WHATEVER THE INPUT: true; the input reads as it did. -/
def probeSoonSpec : ChangeSpec := { name := "probeSoon", fn := fun _ => fun
  | [d1, d2] => { results := [.lit (.bool true)], args := [d1, d2] }
  | _ => none }
def probeSoonRow : OpenClaim := { program := "ytaennccfhdjaaaa", sum := "860ace5b28b5396297752fb4343c7b7008af6534c9e9f5887409dac3232a1038", func := "affidavit/affidavitlaw17.ProbeSoon", spec := "probeSoon", unfollowed := true, recurses := true, apart := false }
def ProbeSoonSaid : Prop := probeSoonRow.holds Try.pinned (OpenSpec.ofChange probeSoonSpec)

/-- ITS FALSE NEIGHBOUR: 'it returns false'. Refute it at one input. -/
def probeSoonWrong : ChangeSpec := { name := "probeSoon", fn := fun _ => fun
  | [d1, d2] => { results := [.lit (.bool false)], args := [d1, d2] }
  | _ => none }
def ProbeSoonWrongFalsely : Prop := probeSoonRow.holds Try.pinned (OpenSpec.ofChange probeSoonWrong)

/-- 'affidavitlaw17.ProbeIdle': WHATEVER THE INPUT: true; the input reads as it did. -/
def probeIdleSpec : ChangeSpec := { name := "probeIdle", fn := fun _ => fun
  | [d] => { results := [.lit (.bool true)], args := [d] }
  | _ => none }
def probeIdleRow : OpenClaim := { program := "ytaennccfhdjaaaa", sum := "860ace5b28b5396297752fb4343c7b7008af6534c9e9f5887409dac3232a1038", func := "affidavit/affidavitlaw17.ProbeIdle", spec := "probeIdle", unfollowed := true, recurses := true, apart := false }
def ProbeIdleSaid : Prop := probeIdleRow.holds Try.pinned (OpenSpec.ofChange probeIdleSpec)

/-- ITS FALSE NEIGHBOUR: 'it returns false'. Refute it at one input. -/
def probeIdleWrong : ChangeSpec := { name := "probeIdle", fn := fun _ => fun
  | [d] => { results := [.lit (.bool false)], args := [d] }
  | _ => none }
def ProbeIdleWrongFalsely : Prop := probeIdleRow.holds Try.pinned (OpenSpec.ofChange probeIdleWrong)

/-- 'affidavitlaw17.ProbeNone': WHATEVER THE INPUT: true; the input reads as it did. -/
def probeNoneSpec : ChangeSpec := { name := "probeNone", fn := fun _ => fun
  | [d1, d2] => { results := [.lit (.bool true)], args := [d1, d2] }
  | _ => none }
def probeNoneRow : OpenClaim := { program := "ytaennccfhdjaaaa", sum := "860ace5b28b5396297752fb4343c7b7008af6534c9e9f5887409dac3232a1038", func := "affidavit/affidavitlaw17.ProbeNone", spec := "probeNone", unfollowed := true, recurses := true, apart := false }
def ProbeNoneSaid : Prop := probeNoneRow.holds Try.pinned (OpenSpec.ofChange probeNoneSpec)

/-- ITS FALSE NEIGHBOUR: 'it returns false'. Refute it at one input. -/
def probeNoneWrong : ChangeSpec := { name := "probeNone", fn := fun _ => fun
  | [d1, d2] => { results := [.lit (.bool false)], args := [d1, d2] }
  | _ => none }
def ProbeNoneWrongFalsely : Prop := probeNoneRow.holds Try.pinned (OpenSpec.ofChange probeNoneWrong)

/- THE SECOND FORM. 'bulk': how many values and letters a reading holds, each counted each time it is reached (what is shared counts as often as it is met; a slice's spare places count too). A statement '..UptoSaid' is the law's where the arguments, and the package variables that the reading takes, are together of bulk at most 1048576: NARROWER than '..Said'. Prove '..Said' where nothing that the law and all that it calls make is longer than what came in: it says more and counts as full. Else prove '..UptoSaid'. A law counts once. -/
mutual
def uptoBulk {H : Type} : DataW H → Nat
  | .lit (.string bytes) => bytes.length + 1
  | .lit _ => 1
  | .nil => 1
  | .ptr d => uptoBulk d + 1
  | .slice elems spare => uptoBulkAll elems + uptoBulkAll spare + 1
  | .agg parts => uptoBulkAll parts + 1
  | .iface _ d => uptoBulk d + 1
  | .map entries => uptoBulkEntries entries + 1
  | .held _ => 1
def uptoBulkAll {H : Type} : List (DataW H) → Nat
  | [] => 0
  | d :: r => uptoBulk d + uptoBulkAll r
def uptoBulkEntries {H : Type} : List (Lit × DataW H) → Nat
  | [] => 0
  | x :: r => uptoBulkEntry x + uptoBulkEntries r
def uptoBulkEntry {H : Type} : Lit × DataW H → Nat
  | (.string bytes, d) => bytes.length + uptoBulk d + 1
  | (_, d) => uptoBulk d + 1
 end
def uptoSmall : (H : Type) → List (DataW H) → Bool := fun _ ds => decide (uptoBulkAll ds ≤ 1048576)
def OpenSpec.upto (s : _root_.Go.ChangeSpec) : _root_.Go.OpenSpec := { _root_.Go.OpenSpec.ofChange s with cond := some uptoSmall }

/-- 'affidavitlaw17.ProbeTurns', WHERE WHAT IT READS IS OF BULK AT MOST 1048576: true; the input reads as it did. -/
def probeTurnsUptoRow : OpenClaim := { program := "ytaennccfhdjaaaa", sum := "860ace5b28b5396297752fb4343c7b7008af6534c9e9f5887409dac3232a1038", func := "affidavit/affidavitlaw17.ProbeTurns", spec := "probeTurns", unfollowed := true, recurses := true, apart := false, narrowed := true }
def ProbeTurnsUptoSaid : Prop := probeTurnsUptoRow.holds Try.pinned (OpenSpec.upto probeTurnsSpec)

/-- 'affidavitlaw17.ProbeDoes', WHERE WHAT IT READS IS OF BULK AT MOST 1048576: true; the input reads as it did. -/
def probeDoesUptoRow : OpenClaim := { program := "ytaennccfhdjaaaa", sum := "860ace5b28b5396297752fb4343c7b7008af6534c9e9f5887409dac3232a1038", func := "affidavit/affidavitlaw17.ProbeDoes", spec := "probeDoes", unfollowed := true, recurses := true, apart := false, narrowed := true }
def ProbeDoesUptoSaid : Prop := probeDoesUptoRow.holds Try.pinned (OpenSpec.upto probeDoesSpec)

/-- 'affidavitlaw17.ProbeSoon', WHERE WHAT IT READS IS OF BULK AT MOST 1048576: true; the input reads as it did. -/
def probeSoonUptoRow : OpenClaim := { program := "ytaennccfhdjaaaa", sum := "860ace5b28b5396297752fb4343c7b7008af6534c9e9f5887409dac3232a1038", func := "affidavit/affidavitlaw17.ProbeSoon", spec := "probeSoon", unfollowed := true, recurses := true, apart := false, narrowed := true }
def ProbeSoonUptoSaid : Prop := probeSoonUptoRow.holds Try.pinned (OpenSpec.upto probeSoonSpec)

/-- 'affidavitlaw17.ProbeIdle', WHERE WHAT IT READS IS OF BULK AT MOST 1048576: true; the input reads as it did. -/
def probeIdleUptoRow : OpenClaim := { program := "ytaennccfhdjaaaa", sum := "860ace5b28b5396297752fb4343c7b7008af6534c9e9f5887409dac3232a1038", func := "affidavit/affidavitlaw17.ProbeIdle", spec := "probeIdle", unfollowed := true, recurses := true, apart := false, narrowed := true }
def ProbeIdleUptoSaid : Prop := probeIdleUptoRow.holds Try.pinned (OpenSpec.upto probeIdleSpec)

/-- 'affidavitlaw17.ProbeNone', WHERE WHAT IT READS IS OF BULK AT MOST 1048576: true; the input reads as it did. -/
def probeNoneUptoRow : OpenClaim := { program := "ytaennccfhdjaaaa", sum := "860ace5b28b5396297752fb4343c7b7008af6534c9e9f5887409dac3232a1038", func := "affidavit/affidavitlaw17.ProbeNone", spec := "probeNone", unfollowed := true, recurses := true, apart := false, narrowed := true }
def ProbeNoneUptoSaid : Prop := probeNoneUptoRow.holds Try.pinned (OpenSpec.upto probeNoneSpec)

end Rows
end Go.Proofs.Ytaennccfhdjaaaa
