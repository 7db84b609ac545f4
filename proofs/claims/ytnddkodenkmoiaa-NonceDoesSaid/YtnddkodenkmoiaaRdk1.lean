/- The reference's disk: its shape in memory; goes, Arm. -/
import Derived.Test.YtnddkodenkmoiaaDisk8
import Derived.Test.YtnddkodenkmoiaaPure
namespace Go.Proofs.Ytnddkodenkmoiaa
open Go.RowKit Go.Proofs
set_option linter.unusedSimpArgs false
set_option linter.unusedVariables false
/-- A block whose first cells are these strings. -/
def StrsB (w : World) (g : Nat) (ss : List ByteArray) : Prop := ∃ A : Array Value, Blk w g 9 A ∧ A.toList.take ss.length = ss.map Value.string
section
variable {w w' : World} {g : Nat} {ss : List ByteArray}
theorem StrsB.cell (h : StrsB w g ss) {j : Nat} {t : ByteArray} (hj : ss[j]? = some t) : w.cell? ⟨g, j, none⟩ = some (.string t) := by
  obtain ⟨A, hB, ht⟩ := h
  rw [hB.cell j]
  have hl := (List.getElem?_eq_some_iff.1 hj).1
  have e : (ss.map Value.string)[j]? = some (.string t) := by rw [List.getElem?_map, hj]; rfl
  rw [← ht, List.getElem?_take_of_lt hl] at e
  simpa using e
theorem StrsB.set_ (h : StrsB w g ss) (j : Nat) (t : ByteArray) : StrsB (w.setCell ⟨g, j, none⟩ (.string t)) g (ss.set j t) := by
  obtain ⟨A, hB, ht⟩ := h
  refine ⟨_, hB.set_ j _, ?_⟩
  rw [List.length_set, Array.toList_setIfInBounds, List.take_set, ht, List.map_set]
theorem StrsB.far (h : StrsB w g ss) {p : Addr} (hp : g ≠ p.block) (u : Value) : StrsB (w.setCell p u) g ss := by
  obtain ⟨A, hB, ht⟩ := h
  exact ⟨A, hB.far hp u, ht⟩
theorem StrsB.blk (h : StrsB w g ss) : ∃ A, Blk w g 9 A := by
  obtain ⟨A, hB, _⟩ := h
  exact ⟨A, hB⟩
theorem StrsB.lt (h : StrsB w g ss) : g < w.heap.size := by
  obtain ⟨A, hB, _⟩ := h
  exact hB.lt
theorem StrsB.frozen (h : StrsB w g ss) (i : Nat) : w.frozen? ⟨g, i, none⟩ = false := by
  obtain ⟨A, hB, _⟩ := h
  exact hB.frozen i
theorem StrsB.same (h : StrsB w g ss) (hb : w'.heap[g]? = w.heap[g]?) : StrsB w' g ss := by
  obtain ⟨A, hB, ht⟩ := h
  exact ⟨A, hb.trans hB, ht⟩
end
def Sec.oldS (s : Sec) : ByteArray := if s.loose then strOf s.old else ⟨#[]⟩
def NowL (L : List Sec) : List ByteArray := L.map fun s => strOf s.b
def OldL (L : List Sec) : List ByteArray := L.map Sec.oldS
/-- The reference's disk at block x, its two rows in blocks gl and go. -/
structure RD (w : World) (x gl go cl co : Nat) (X : Dk) : Prop where
  head : Blk w x 32 #[.slice (some ⟨gl, 0, none⟩) X.L.length cl, .slice (some ⟨go, 0, none⟩) X.L.length co, .int .i64 X.armed, .bool X.down]
  now : StrsB w gl (NowL X.L)
  old : StrsB w go (OldL X.L)
  apart : gl ≠ go
  ok : okL X.L
  pos : 1 ≤ X.L.length
  top : X.L.length ≤ 512
  arm0 : 0 ≤ X.armed
  arm1 : X.armed ≤ 9223372036854775807
/-- Only three old blocks have turned. -/
structure Only3 (x g o : Nat) (a b : World) : Prop where
  os : b.os = a.os
  tape : b.tape = a.tape
  output : b.output = a.output
  size : a.heap.size ≤ b.heap.size
  block : ∀ i, i < a.heap.size → i ≠ x → i ≠ g → i ≠ o → b.heap[i]? = a.heap[i]?
theorem Only3.refl (x g o : Nat) (a : World) : Only3 x g o a a := ⟨rfl, rfl, rfl, Nat.le_refl _, fun _ _ _ _ _ => rfl⟩
theorem Only3.trans {x g o : Nat} {a b c : World} (h : Only3 x g o a b) (k : Only3 x g o b c) : Only3 x g o a c :=
  ⟨k.os.trans h.os, k.tape.trans h.tape, k.output.trans h.output, Nat.le_trans h.size k.size, fun i hi h1 h2 h3 => (k.block i (Nat.lt_of_lt_of_le hi h.size) h1 h2 h3).trans (h.block i hi h1 h2 h3)⟩
theorem Only3.below {x g o B : Nat} {a b : World} (h : Only3 x g o a b) (hB : B ≤ a.heap.size) (hx : B ≤ x) (hg : B ≤ g) (ho : B ≤ o) : Below B a b :=
  ⟨h.os, h.tape, h.output, h.size, fun i hi => h.block i (by omega) (by omega) (by omega) (by omega)⟩
theorem Only3.of_below {x g o : Nat} {a b : World} (h : Below a.heap.size a b) : Only3 x g o a b := ⟨h.os, h.tape, h.output, h.size, fun i hi _ _ _ => h.block i hi⟩
theorem Only3.set_ {x g o : Nat} {a b : World} (h : Only3 x g o a b) {p : Addr} (hp : p.block = x ∨ p.block = g ∨ p.block = o) (u : Value) : Only3 x g o a (b.setCell p u) :=
  ⟨h.os, h.tape, h.output, by have := h.size; simpa [World.setCell] using this, fun i hi h1 h2 h3 => (Below.heap_setCell b p u i (by rcases hp with hp | hp | hp <;> omega)).trans (h.block i hi h1 h2 h3)⟩
theorem Only3.drew {x g o : Nat} {a b : World} (h : Only3 x g o a b) : Only3 x g o a b.drew := ⟨h.os, h.tape, h.output, h.size, h.block⟩
theorem Only3.cell {x g o : Nat} {a b : World} (h : Only3 x g o a b) {p : Addr} {v : Value} (hc : a.cell? p = some v) (h1 : p.block ≠ x) (h2 : p.block ≠ g) (h3 : p.block ≠ o) : b.cell? p = some v := by
  have hl := World.block_lt_of_cell? a p hc
  have := h.block p.block hl h1 h2 h3
  unfold World.cell? at hc ⊢
  rw [this]; exact hc
section
variable {w w' : World} {x gl go cl co : Nat} {X : Dk}
theorem RD.ne (h : RD w x gl go cl co X) : x ≠ gl ∧ x ≠ go := by
  obtain ⟨A, hA⟩ := h.now.blk
  obtain ⟨B, hB⟩ := h.old.blk
  exact ⟨h.head.ne_ hA (by decide), h.head.ne_ hB (by decide)⟩
theorem RD.below (h : RD w x gl go cl co X) (hb : Below w.heap.size w w') : RD w' x gl go cl co X :=
  { h with head := h.head.below hb h.head.lt, now := h.now.same (hb.block gl h.now.lt), old := h.old.same (hb.block go h.old.lt) }
theorem RD.drew (h : RD w x gl go cl co X) : RD w.drew x gl go cl co X := { h with head := h.head, now := h.now, old := h.old }
theorem RD.row0 (h : RD w x gl go cl co X) : w.cell? ⟨x, 0, none⟩ = some (.slice (some ⟨gl, 0, none⟩) X.L.length cl) := h.head.cell 0
theorem RD.row1 (h : RD w x gl go cl co X) : w.cell? ⟨x, 1, none⟩ = some (.slice (some ⟨go, 0, none⟩) X.L.length co) := h.head.cell 1
theorem RD.armed (h : RD w x gl go cl co X) : w.cell? ⟨x, 2, none⟩ = some (.int .i64 X.armed) := h.head.cell 2
theorem RD.down (h : RD w x gl go cl co X) : w.cell? ⟨x, 3, none⟩ = some (.bool X.down) := h.head.cell 3
theorem RD.sec (h : RD w x gl go cl co X) {j : Nat} {s : Sec} (hs : X.L[j]? = some s) : w.cell? ⟨gl, j, none⟩ = some (.string (strOf s.b)) ∧ w.cell? ⟨go, j, none⟩ = some (.string s.oldS) :=
  ⟨h.now.cell (by unfold NowL; rw [List.getElem?_map, hs]; rfl), h.old.cell (by unfold OldL; rw [List.getElem?_map, hs]; rfl)⟩
theorem RD.setArmed (h : RD w x gl go cl co X) (v : Int) (h0 : 0 ≤ v) (h1 : v ≤ 9223372036854775807) : RD (w.setCell ⟨x, 2, none⟩ (.int .i64 v)) x gl go cl co { X with armed := v } :=
  ⟨h.head.set_ 2 (.int .i64 v), h.now.far (p := ⟨x, 2, none⟩) h.ne.1.symm _, h.old.far (p := ⟨x, 2, none⟩) h.ne.2.symm _, h.apart, h.ok, h.pos, h.top, h0, h1⟩
theorem RD.setDown (h : RD w x gl go cl co X) (v : Bool) : RD (w.setCell ⟨x, 3, none⟩ (.bool v)) x gl go cl co { X with down := v } :=
  ⟨h.head.set_ 3 (.bool v), h.now.far (p := ⟨x, 3, none⟩) h.ne.1.symm _, h.old.far (p := ⟨x, 3, none⟩) h.ne.2.symm _, h.apart, h.ok, h.pos, h.top, h.arm0, h.arm1⟩
theorem set_same_of {α : Type} {l : List α} {j : Nat} {a : α} (h : l[j]? = some a) : l.set j a = l := by
  refine List.ext_getElem? fun k => ?_
  by_cases hk : j = k
  · subst hk; rw [List.getElem?_set_self (List.getElem?_eq_some_iff.1 h).1, h]
  · rw [List.getElem?_set_ne hk]
theorem RD.storeOld (h : RD w x gl go cl co X) {j : Nat} {s s' : Sec} (hs : X.L[j]? = some s) (hok : s'.ok) (hb : s'.b = s.b) : RD (w.setCell ⟨go, j, none⟩ (.string s'.oldS)) x gl go cl co (DkS X j s') := by
  have hl : (DkS X j s').L.length = X.L.length := List.length_set
  refine ⟨?_, ?_, ?_, h.apart, h.ok.set j hok, by rw [hl]; exact h.pos, by rw [hl]; exact h.top, h.arm0, h.arm1⟩
  · rw [hl]; exact h.head.far (p := ⟨go, j, none⟩) h.ne.2 _
  · have e : NowL (DkS X j s').L = NowL X.L := by
      unfold NowL DkS
      rw [List.map_set, hb]
      exact set_same_of (by rw [List.getElem?_map, hs]; rfl)
    rw [e]; exact h.now.far (p := ⟨go, j, none⟩) h.apart _
  · have e : OldL (DkS X j s').L = (OldL X.L).set j s'.oldS := by unfold OldL DkS; rw [List.map_set]
    rw [e]; exact h.old.set_ j _
theorem RD.storeNow (h : RD w x gl go cl co X) {j : Nat} {s s' : Sec} (hs : X.L[j]? = some s) (hok : s'.ok) (hb : s'.oldS = s.oldS) : RD (w.setCell ⟨gl, j, none⟩ (.string (strOf s'.b))) x gl go cl co (DkS X j s') := by
  have hl : (DkS X j s').L.length = X.L.length := List.length_set
  refine ⟨?_, ?_, ?_, h.apart, h.ok.set j hok, by rw [hl]; exact h.pos, by rw [hl]; exact h.top, h.arm0, h.arm1⟩
  · rw [hl]; exact h.head.far (p := ⟨gl, j, none⟩) h.ne.1 _
  · have e : NowL (DkS X j s').L = (NowL X.L).set j (strOf s'.b) := by unfold NowL DkS; rw [List.map_set]
    rw [e]; exact h.now.set_ j _
  · have e : OldL (DkS X j s').L = OldL X.L := by
      unfold OldL DkS
      rw [List.map_set, hb]
      exact set_same_of (by rw [List.getElem?_map, hs]; rfl)
    rw [e]; exact h.old.far (p := ⟨gl, j, none⟩) h.apart.symm _
end
set_option maxRecDepth 100000 in
set_option maxHeartbeats 4000000 in
theorem goesR_any (x gl go cl co : Nat) (X : Dk) (w : World) (h : RD w x gl go cl co X) (hd : X.down = false) :
    Calls Try.prog 51 #[.pointer (some ⟨x, 0, none⟩)] w fun e w' => e = .returned (.bool X.goes.down) ∧ RD w' x gl go cl co X.goes ∧ Only3 x gl go w w' := by
  have H := Lib.hid h
  have c2 := h.armed
  have f2 := h.head.frozen 2
  have f3 := h.head.frozen 3
  have c3 := h.down
  have a0 := h.arm0
  have a1 := h.arm1
  clear h
  by_cases h0 : 0 < X.armed
  · have HG := Lib.hid (show X.goes = { X with armed := X.armed - 1, down := (X.armed - 1 == 0) } by unfold Dk.goes; rw [if_pos h0])
    have hn : ¬ X.armed = 0 := by omega
    have HS := Lib.hid ((H.out.setArmed (X.armed - 1) (by omega) (by omega)).setDown (X.armed - 1 == 0))
    go_enter Try.func51, Try.ntmps51
    go_wp2_with fail
    go_ret
    exact ⟨by rw [HG.out]; rfl, by rw [HG.out]; exact HS.out, ((Only3.refl x gl go w).set_ (p := ⟨x, 2, none⟩) (.inl rfl) _).set_ (p := ⟨x, 3, none⟩) (.inl rfl) _⟩
  · have HG := Lib.hid (show X.goes = X by unfold Dk.goes; rw [if_neg h0])
    have hn : X.armed = 0 := by omega
    rw [hn] at c2
    clear hn a0 a1 h0
    have HD := Lib.hid hd
    go_enter Try.func51, Try.ntmps51
    go_wp2_with fail
    go_ret
    exact ⟨by rw [HG.out, HD.out]; rfl, by rw [HG.out]; exact H.out, Only3.refl _ _ _ _⟩
set_option maxRecDepth 100000 in
set_option maxHeartbeats 4000000 in
theorem armR_any (x gl go cl co : Nat) (X : Dk) (n : Int) (hn : n ≤ 9223372036854775807) (w : World) (h : RD w x gl go cl co X) :
    Calls Try.prog 42 #[.pointer (some ⟨x, 0, none⟩), .int .i64 n] w fun e w' => e = .returned (.int .i64 (X.armR n)) ∧ RD w' x gl go cl co (X.arm n) ∧ Only3 x gl go w w' := by
  have H := Lib.hid h
  have c2 := h.armed
  have f2 := h.head.frozen 2
  have c3 := h.down
  clear h
  go_enter Try.func42, Try.ntmps42
  by_cases hd : X.down = true
  · have HR := Lib.hid (show X.armR n = 12 by unfold Dk.armR; rw [if_pos hd])
    have HA := Lib.hid (show X.arm n = X by unfold Dk.arm; rw [if_neg (by rw [HR.out]; decide)])
    rw [hd] at c3
    clear hd
    go_wp2_with fail
    go_ret
    exact ⟨by rw [HR.out]; rfl, by rw [HA.out]; exact H.out, Only3.refl _ _ _ _⟩
  · have hd0 : X.down = false := by simpa using hd
    rw [hd0] at c3
    by_cases h1 : n < 1
    · have HR := Lib.hid (show X.armR n = 2 by unfold Dk.armR; rw [if_neg hd, if_pos h1])
      have HA := Lib.hid (show X.arm n = X by unfold Dk.arm; rw [if_neg (by rw [HR.out]; decide)])
      clear hd hd0
      go_wp2_with fail
      go_ret
      exact ⟨by rw [HR.out]; rfl, by rw [HA.out]; exact H.out, Only3.refl _ _ _ _⟩
    · have HR := Lib.hid (show X.armR n = 0 by unfold Dk.armR; rw [if_neg hd, if_neg h1])
      have HA := Lib.hid (show X.arm n = { X with armed := n } by unfold Dk.arm; rw [if_pos HR.out])
      clear hd hd0
      go_wp2_with fail
      go_ret
      exact ⟨by rw [HR.out]; rfl, by rw [HA.out]; exact H.out.setArmed n (by omega) hn, (Only3.refl x gl go w).set_ (p := ⟨x, 2, none⟩) (.inl rfl) _⟩
end Go.Proofs.Ytnddkodenkmoiaa
