/- The disk: its shape in memory; works, goes, Arm, Down, Sectors. -/
import Derived.Test.YtnddkodenkmoiaaProg
import Derived.Test.YtnddkodenkmoiaaRep
import Derived.Test.YtnddkodenkmoiaaSec
import Derived.WalkSpells
import Derived.WalkLawsBesides
import Derived.WalkKit
import Derived.Lib.Hide
import Derived.Deep.Cut
namespace Go.Proofs.Ytnddkodenkmoiaa
open Go.RowKit Go.Proofs
set_option linter.unusedSimpArgs false
set_option linter.unusedVariables false
/-- A disk. -/
structure Dk where
  L : List Sec
  armed : Int
  down : Bool
/-- Only two old blocks have turned. -/
structure Only2 (d g : Nat) (a b : World) : Prop where
  os : b.os = a.os
  tape : b.tape = a.tape
  output : b.output = a.output
  size : a.heap.size ≤ b.heap.size
  block : ∀ i, i < a.heap.size → i ≠ d → i ≠ g → b.heap[i]? = a.heap[i]?
theorem Only2.refl (d g : Nat) (a : World) : Only2 d g a a := ⟨rfl, rfl, rfl, Nat.le_refl _, fun _ _ _ _ => rfl⟩
theorem Only2.trans {d g : Nat} {a b c : World} (h : Only2 d g a b) (k : Only2 d g b c) : Only2 d g a c :=
  ⟨k.os.trans h.os, k.tape.trans h.tape, k.output.trans h.output, Nat.le_trans h.size k.size, fun i hi h1 h2 => (k.block i (Nat.lt_of_lt_of_le hi h.size) h1 h2).trans (h.block i hi h1 h2)⟩
theorem Only2.below {d g B : Nat} {a b : World} (h : Only2 d g a b) (hB : B ≤ a.heap.size) (hd : B ≤ d) (hg : B ≤ g) : Below B a b :=
  ⟨h.os, h.tape, h.output, h.size, fun i hi => h.block i (by omega) (by omega) (by omega)⟩
theorem Only2.of_below {d g : Nat} {a b : World} (h : Below a.heap.size a b) : Only2 d g a b := ⟨h.os, h.tape, h.output, h.size, fun i hi _ _ => h.block i hi⟩
theorem Only2.set_ {d g : Nat} {a b : World} (h : Only2 d g a b) {p : Addr} (hp : p.block = d ∨ p.block = g) (u : Value) : Only2 d g a (b.setCell p u) :=
  ⟨h.os, h.tape, h.output, by have := h.size; simpa [World.setCell] using this, fun i hi h1 h2 => (Below.heap_setCell b p u i (by rcases hp with hp | hp <;> omega)).trans (h.block i hi h1 h2)⟩
theorem Only2.drew {d g : Nat} {a b : World} (h : Only2 d g a b) : Only2 d g a b.drew := ⟨h.os, h.tape, h.output, h.size, h.block⟩
def DiskAt (w : World) (d g : Nat) (x : Dk) : Prop :=
  Blk w d 89 #[.slice (some ⟨g, 0, none⟩) x.L.length x.L.length, .int .i64 x.armed, .bool x.down] ∧ Blk w g 93 (rowC x.L).toArray ∧ okL x.L ∧ 1 ≤ x.L.length ∧ x.L.length ≤ 512
theorem DiskAt.ne {w : World} {d g : Nat} {x : Dk} (h : DiskAt w d g x) : d ≠ g := h.1.ne_ h.2.1 (by decide)
theorem DiskAt.below {w w' : World} {d g : Nat} {x : Dk} (h : DiskAt w d g x) (hb : Below w.heap.size w w') : DiskAt w' d g x := ⟨h.1.below hb h.1.lt, h.2.1.below hb h.2.1.lt, h.2.2⟩
theorem DiskAt.drew {w : World} {d g : Nat} {x : Dk} (h : DiskAt w d g x) : DiskAt w.drew d g x := h
theorem DiskAt.down {w : World} {d g : Nat} {x : Dk} (h : DiskAt w d g x) : w.cell? ⟨d, 2, none⟩ = some (.bool x.down) := h.1.cell 2
theorem DiskAt.armed {w : World} {d g : Nat} {x : Dk} (h : DiskAt w d g x) : w.cell? ⟨d, 1, none⟩ = some (.int .i64 x.armed) := h.1.cell 1
theorem DiskAt.row {w : World} {d g : Nat} {x : Dk} (h : DiskAt w d g x) : w.cell? ⟨d, 0, none⟩ = some (.slice (some ⟨g, 0, none⟩) x.L.length x.L.length) := h.1.cell 0
theorem DiskAt.setDown {w : World} {d g : Nat} {x : Dk} (h : DiskAt w d g x) (v : Bool) : DiskAt (w.setCell ⟨d, 2, none⟩ (.bool v)) d g { x with down := v } := by
  have h1 := h.1.set_ 2 (.bool v)
  exact ⟨h1, h.2.1.far (p := ⟨d, 2, none⟩) (by have := h.ne; simp; omega) _, h.2.2⟩
theorem DiskAt.setArmed {w : World} {d g : Nat} {x : Dk} (h : DiskAt w d g x) (v : Int) : DiskAt (w.setCell ⟨d, 1, none⟩ (.int .i64 v)) d g { x with armed := v } := by
  have h1 := h.1.set_ 1 (.int .i64 v)
  exact ⟨h1, h.2.1.far (p := ⟨d, 1, none⟩) (by have := h.ne; simp; omega) _, h.2.2⟩
theorem works_any (d g : Nat) (x : Dk) (w : World) (h : DiskAt w d g x) :
    Calls Try.prog 49 #[.pointer (some ⟨d, 0, none⟩)] w fun e w' => e = .returned (.int .i64 (if x.down then 12 else 0)) ∧ w = w' := by
  have c2 := h.down
  clear h
  go_enter Try.func49, Try.ntmps49
  obtain ⟨L, ar, dn⟩ := x
  cases dn
  · go_wp2_with fail
    go_ret
    exact ⟨rfl, rfl⟩
  · go_wp2_with fail
    go_ret
    exact ⟨rfl, rfl⟩
theorem works_nil (w : World) :
    Calls Try.prog 49 #[.pointer none] w fun e w' => e = .returned (.int .i64 1) ∧ w = w' := by
  go_enter Try.func49, Try.ntmps49
  go_wp2_with fail
  go_ret
  exact ⟨rfl, rfl⟩
def Dk.goes (x : Dk) : Dk := if 0 < x.armed then { x with armed := x.armed - 1, down := (x.armed - 1 == 0) } else x
theorem goes_any (d g : Nat) (x : Dk) (w : World) (h : DiskAt w d g x) (ha : x.armed ≤ 9223372036854775807) :
    Calls Try.prog 50 #[.pointer (some ⟨d, 0, none⟩)] w fun e w' => e = .returned (.bool x.goes.down) ∧ DiskAt w' d g x.goes ∧ Only2 d g w w' := by
  have H := Lib.hid h
  have c1 := h.armed
  have f1 := h.1.frozen 1
  have f2 := h.1.frozen 2
  have c2 := h.down
  clear h
  go_enter Try.func50, Try.ntmps50
  by_cases h0 : 0 < x.armed
  · have HG := Lib.hid (show x.goes = { x with armed := x.armed - 1, down := (x.armed - 1 == 0) } by unfold Dk.goes; rw [if_pos h0])
    have hs := (H.out.setArmed (x.armed - 1)).setDown (x.armed - 1 == 0)
    have HS := Lib.hid hs
    clear hs
    go_wp2_with fail
    go_ret
    exact ⟨by rw [HG.out]; rfl, by rw [HG.out]; exact HS.out, ((Only2.refl d g w).set_ (p := ⟨d, 1, none⟩) (.inl rfl) _).set_ (p := ⟨d, 2, none⟩) (.inl rfl) _⟩
  · have HG := Lib.hid (show x.goes = x by unfold Dk.goes; rw [if_neg h0])
    go_wp2_with fail
    go_ret
    exact ⟨by rw [HG.out]; rfl, by rw [HG.out]; exact H.out, Only2.refl _ _ _⟩
theorem down_any (d g : Nat) (x : Dk) (w : World) (h : DiskAt w d g x) :
    Calls Try.prog 19 #[.pointer (some ⟨d, 0, none⟩)] w fun e w' => e = .returned (.bool x.down) ∧ w = w' := by
  have c2 := h.down
  clear h
  go_enter Try.func19, Try.ntmps19
  go_wp2_with fail
  go_ret
  exact ⟨rfl, rfl⟩
theorem down_nil (w : World) :
    Calls Try.prog 19 #[.pointer none] w fun e w' => e = .returned (.bool false) ∧ w = w' := by
  go_enter Try.func19, Try.ntmps19
  go_wp2_with fail
  go_ret
  exact ⟨rfl, rfl⟩
theorem sectors_any (d g : Nat) (x : Dk) (w : World) (h : DiskAt w d g x) :
    Calls Try.prog 26 #[.pointer (some ⟨d, 0, none⟩)] w fun e w' => e = .returned (.int .i64 (x.L.length : Int)) ∧ w = w' := by
  have c0 := h.row
  have hl := h.2.2.2.2
  clear h
  go_enter Try.func26, Try.ntmps26
  go_wp2_with fail
  go_ret
  exact ⟨rfl, rfl⟩
theorem sectors_nil (w : World) :
    Calls Try.prog 26 #[.pointer none] w fun e w' => e = .returned (.int .i64 0) ∧ w = w' := by
  go_enter Try.func26, Try.ntmps26
  go_wp2_with fail
  go_ret
  exact ⟨rfl, rfl⟩
/-- Arm: what is answered, and the disk behind it. -/
def Dk.armR (x : Dk) (n : Int) : Int := if x.down then 12 else if n < 1 then 2 else 0
def Dk.arm (x : Dk) (n : Int) : Dk := if x.armR n = 0 then { x with armed := n } else x
theorem arm_any (d g : Nat) (x : Dk) (n : Int) (w : World) (h : DiskAt w d g x) :
    Calls Try.prog 22 #[.pointer (some ⟨d, 0, none⟩), .int .i64 n] w fun e w' => e = .returned (.int .i64 (x.armR n)) ∧ DiskAt w' d g (x.arm n) ∧ Only2 d g w w' := by
  have H := Lib.hid h
  have c1 := h.armed
  have f1 := h.1.frozen 1
  clear h
  go_enter Try.func22, Try.ntmps22
  go_wp2_with fail
  refine (works_any d g x w H.out).mono ?_
  rintro e w1 ⟨rfl, rfl⟩
  by_cases hd : x.down = true
  · have HR := Lib.hid (show x.armR n = 12 by unfold Dk.armR; rw [if_pos hd])
    have HA := Lib.hid (show x.arm n = x by unfold Dk.arm; rw [if_neg (by rw [HR.out]; decide)])
    rw [if_pos hd]
    clear hd
    go_wp2_with fail
    go_ret
    exact ⟨by rw [HR.out]; rfl, by rw [HA.out]; exact H.out, Only2.refl _ _ _⟩
  · rw [if_neg hd]
    by_cases hn : n < 1
    · have HR := Lib.hid (show x.armR n = 2 by unfold Dk.armR; rw [if_neg hd, if_pos hn])
      have HA := Lib.hid (show x.arm n = x by unfold Dk.arm; rw [if_neg (by rw [HR.out]; decide)])
      clear hd
      go_wp2_with fail
      go_ret
      exact ⟨by rw [HR.out]; rfl, by rw [HA.out]; exact H.out, Only2.refl _ _ _⟩
    · have HR := Lib.hid (show x.armR n = 0 by unfold Dk.armR; rw [if_neg hd, if_neg hn])
      have HA := Lib.hid (show x.arm n = { x with armed := n } by unfold Dk.arm; rw [if_pos HR.out])
      clear hd
      go_wp2_with fail
      go_ret
      exact ⟨by rw [HR.out]; rfl, by rw [HA.out]; exact H.out.setArmed n, (Only2.refl d g w).set_ (p := ⟨d, 1, none⟩) (.inl rfl) _⟩
theorem arm_nil (n : Int) (w : World) :
    Calls Try.prog 22 #[.pointer none, .int .i64 n] w fun e w' => e = .returned (.int .i64 1) ∧ w = w' := by
  go_enter Try.func22, Try.ntmps22
  go_wp2_with fail
  refine (works_nil w).mono ?_
  rintro e w1 ⟨rfl, rfl⟩
  go_wp2_with fail
  go_ret
  exact ⟨rfl, rfl⟩
end Go.Proofs.Ytnddkodenkmoiaa
