/- The walks of awake, LinkFull and LinkNone: each comes to true. -/
import Derived.Test.YtdfdgcknahmnnaaQuietA
namespace Go.Proofs.Ytdfdgcknahmnnaa
open Go.RowKit Go.Proofs
set_option linter.unusedSimpArgs false
set_option linter.unusedVariables false
abbrev AnyB : Nat → Prop := fun _ => True

theorem Moved.below {g B : Nat} {N : Int} {L : Nat → List ByteArray} {w0 w w' : World} (hB : Below B w0 w) (h : Moved AnyB g N L w w') (hg : B ≤ g) (hs : B ≤ w.heap.size) : Below B w0 w' :=
  hB.trans (below_of_only h.only hg hs)

def sA : ByteArray := ⟨#[97]⟩
def sB : ByteArray := ⟨#[98]⟩
def sC : ByteArray := ⟨#[99]⟩
def L0 : Nat → List ByteArray := fun _ => []
def L1 : Nat → List ByteArray := putM 2 0 sA L0 0
def L2 : Nat → List ByteArray := putM 2 0 sB L1 0
def L3 : Nat → List ByteArray := putM 2 1 sC L2 1
def L4 : Nat → List ByteArray := takeM 2 0 L3 0

theorem aUp1 (g : Nat) (w : World) (h : LinkA AnyB w g 2 L0) : Calls Try.prog 10 #[.pointer (some ⟨g, 0, none⟩), .int .i64 0, .string ⟨#[97]⟩] w fun e w' => e = .returned (.int .i64 0) ∧ Moved AnyB g 2 L1 w w' := Up_any g 0 2 sA w L0 h (fun _ _ => trivial)
theorem aUp2 (g : Nat) (w : World) (h : LinkA AnyB w g 2 L1) : Calls Try.prog 10 #[.pointer (some ⟨g, 0, none⟩), .int .i64 0, .string ⟨#[98]⟩] w fun e w' => e = .returned (.int .i64 0) ∧ Moved AnyB g 2 L2 w w' := Up_any g 0 2 sB w L1 h (fun _ _ => trivial)
theorem aDown (g : Nat) (w : World) (h : LinkA AnyB w g 2 L2) : Calls Try.prog 11 #[.pointer (some ⟨g, 0, none⟩), .int .i64 1, .string ⟨#[99]⟩] w fun e w' => e = .returned (.int .i64 0) ∧ Moved AnyB g 2 L3 w w' := Down_any g 1 2 sC w L2 h (fun _ _ => trivial)
theorem aTake (g : Nat) (w : World) (h : LinkA AnyB w g 2 L3) : Calls Try.prog 18 #[.pointer (some ⟨g, 0, none⟩), .int .i64 0] w fun e w' => e = .returned (.tuple #[.string ⟨#[97]⟩, .bool true]) ∧ Moved AnyB g 2 L4 w w' := TakeUp_any g 0 2 w L3 h
theorem aLen (g : Nat) (w : World) (h : LinkA AnyB w g 2 L4) : Calls Try.prog 12 #[.pointer (some ⟨g, 0, none⟩), .int .i64 0] w fun e w' => e = .returned (.tuple #[.int .i64 1, .int .i64 0]) ∧ ∃ k, w' = w.drewN k := Len_a g 0 2 w L4 h
theorem aQuiet (g : Nat) (w : World) (h : LinkA AnyB w g 2 L4) : Calls Try.prog 13 #[.pointer (some ⟨g, 0, none⟩)] w fun e w' => e = .returned (.bool false) ∧ w.grownBy w' none := by
  have := Quiet_any g 2 w L4 h
  rw [show quietTo 2 L4 8 = false from by decide] at this
  exact this
theorem aReset (g : Nat) (w : World) (h : LinkA AnyB w g 2 L4) : Calls Try.prog 20 #[.pointer (some ⟨g, 0, none⟩), .int .i64 1] w fun e w' => e = .returned (.bool true) ∧ OnlyAt g w w' :=
  (Reset_any g 1 2 w L4 h).mono fun _ _ ⟨he, hm⟩ => ⟨he, hm.only⟩

set_option maxRecDepth 100000 in
set_option maxHeartbeats 2000000 in
theorem awake_any (w : World) : Calls Try.prog 9 #[] w fun e w' => e = .returned (.bool true) ∧ Below w.heap.size w w' := by
  go_enter Try.func9, Try.ntmps9
  go_wp2_with fail
  refine (New_a (Av := AnyB) 2 w (by omega) (by omega)).mono ?_
  rintro e w1 ⟨rfl, hL0, hg, hsz⟩
  have hB := Lib.hid (below_of_grown (B := w.heap.size) hg (Nat.le_refl _))
  have hz : w.heap.size ≤ w1.heap.size := by omega
  have HL := Lib.hid hL0
  clear hL0 hg hsz
  go_wp2_with fail
  refine (aUp1 _ w1 HL.out).mono ?_
  rintro e w2 ⟨rfl, hm⟩
  have HL := Lib.hid hm.link
  have hB := Lib.hid (hm.below hB.out (Nat.le_refl _) hz)
  have hz := hB.out.size
  clear hm
  go_wp2_with fail
  refine (aUp2 _ w2 HL.out).mono ?_
  rintro e w3 ⟨rfl, hm⟩
  have HL := Lib.hid hm.link
  have hB := Lib.hid (hm.below hB.out (Nat.le_refl _) hz)
  have hz := hB.out.size
  clear hm
  go_wp2_with fail
  refine (aDown _ w3 HL.out).mono ?_
  rintro e w4 ⟨rfl, hm⟩
  have HL := Lib.hid hm.link
  have hB := Lib.hid (hm.below hB.out (Nat.le_refl _) hz)
  have hz := hB.out.size
  clear hm
  go_wp2_with fail
  refine (aTake _ w4 HL.out).mono ?_
  rintro e w5 ⟨rfl, hm⟩
  have HL := Lib.hid hm.link
  have hB := Lib.hid (hm.below hB.out (Nat.le_refl _) hz)
  have hz := hB.out.size
  clear hm
  go_wp2_with fail
  refine (aLen _ w5 HL.out).mono ?_
  rintro e w6 ⟨rfl, k, rfl⟩
  go_wp2_with fail
  refine (aQuiet _ _ (HL.out.drewN k)).mono ?_
  rintro e w7 ⟨rfl, hg⟩
  have HL := Lib.hid ((HL.out.drewN k).grown hg)
  have hB := Lib.hid ((hB.out.drewN k).trans (below_of_grown hg hz))
  have hz := hB.out.size
  clear hg
  go_wp2_with fail
  refine (aReset _ w7 HL.out).mono ?_
  rintro e w8 ⟨rfl, ho⟩
  have hB := Lib.hid (hB.out.trans (below_of_only ho (Nat.le_refl _) hz))
  clear ho
  go_wp2_with fail
  go_ret
  exact ⟨rfl, hB.out⟩

/-- Rows of which the one at place j has n texts a, and no other has any. -/
def rowsOf (j n : Nat) : Nat → List ByteArray := upd L0 j (List.replicate n sA)
end Go.Proofs.Ytdfdgcknahmnnaa
