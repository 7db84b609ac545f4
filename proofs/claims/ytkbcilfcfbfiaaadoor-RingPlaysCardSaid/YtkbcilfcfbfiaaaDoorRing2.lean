/- A ring: what lies there; may. -/
import Derived.Test.YtkbcilfcfbfiaaaDoorRing1
import Derived.Test.YtkbcilfcfbfiaaaDoorKeep2
import Derived.BigQuiet
namespace Go.Proofs.YtkbcilfcfbfiaaaDoor
open Go.RowKit Go.Proofs
set_option linter.unusedSimpArgs false
set_option linter.unusedVariables false
/-- The key of a client. -/
def clientT : ByteArray := { data := #[99, 108, 105, 101, 110, 116] }
def keyS (sd : ByteArray) (j : Nat) : ByteArray := strOf (madeOf (by_ sd) (by_ clientT) (j : Int))
/-- A ring of N keys, its row of keys in the block g, its book in the block b. -/
structure RingAt (w : World) (r g cap b : Nat) (sd : ByteArray) (N : Nat) (S : List Ln) : Prop where
  ring : Blk w r 108 #[.string sd, .slice (some ⟨g, 0, none⟩) N cap, .map (some b)]
  keys : ∀ j, j < N → w.cell? ⟨g, j, none⟩ = some (.string (keyS sd j))
  book : BookAt w b S
  two : 2 ≤ N
  eight : N ≤ 8
section
variable {w w' : World} {r g cap b N : Nat} {sd : ByteArray} {S : List Ln}
theorem RingAt.lt (h : RingAt w r g cap b sd N S) : r < w.heap.size := h.ring.lt
theorem RingAt.below (h : RingAt w r g cap b sd N S) (hb : Below w.heap.size w w') : RingAt w' r g cap b sd N S :=
  ⟨h.ring.below hb h.ring.lt, fun j hj => (hb.cell (World.block_lt_of_cell? w _ (h.keys j hj))).trans (h.keys j hj), h.book.below hb, h.two, h.eight⟩
theorem RingAt.alloc (h : RingAt w r g cap b sd N S) (o : Obj) : RingAt (w.alloc o) r g cap b sd N S := h.below ((Below.refl _ _).alloc (Nat.le_refl _) o)
theorem RingAt.drew (h : RingAt w r g cap b sd N S) : RingAt w.drew r g cap b sd N S := ⟨h.ring, h.keys, h.book, h.two, h.eight⟩
theorem RingAt.stored {S' : List Ln} (h : RingAt w r g cap b sd N S) (hg : w.grownBy w' (some b)) (hb : BookAt w' b S') : RingAt w' r g cap b sd N S' :=
  ⟨h.ring.grown hg (fun e => h.book.ne_ h.ring (Option.some.inj e).symm),
   fun j hj => (World.cell?_of_block (hg.block g (World.block_lt_of_cell? w _ (h.keys j hj)) (fun e => by
      obtain ⟨es, clock, hm⟩ := h.book.map
      have hk := h.keys j hj
      obtain rfl := Option.some.inj e
      simp [World.cell?, hm] at hk))).trans (h.keys j hj), hb, h.two, h.eight⟩
end
/-- May that be tagged? -/
def MayB (N : Nat) (c d : Int) (n : Nat) : Prop := 0 ≤ c ∧ c < N ∧ 1 ≤ d ∧ d ≤ 6 ∧ n ≤ 16384
instance (N : Nat) (c d : Int) (n : Nat) : Decidable (MayB N c d n) := by unfold MayB; infer_instance
set_option maxRecDepth 100000 in
theorem may_nil (c d : Int) (t : ByteArray) (w : World) :
    Calls Tryd.prog 75 #[.pointer none, .agg #[.int .i64 c, .int .i64 d, .string t]] w fun e w' => e = .returned (.bool false) ∧ Below w.heap.size w w' := by
  go_enter Tryd.func75, Tryd.ntmps75
  go_upto_region 1 with (fail)
  go_quiet (fail)
  go_wp2_with fail
  go_ret
  exact ⟨rfl, ((Below.refl _ _).alloc (Nat.le_refl _) _).drewN _⟩
set_option maxRecDepth 100000 in
set_option maxHeartbeats 2000000 in
theorem may_any (c d : Int) (t : ByteArray) (r g cap b N : Nat) (sd : ByteArray) (S : List Ln) (w : World) (hR : RingAt w r g cap b sd N S) :
    Calls Tryd.prog 75 #[.pointer (some ⟨r, 0, none⟩), .agg #[.int .i64 c, .int .i64 d, .string t]] w fun e w' => e = .returned (.bool (decide (MayB N c d t.size))) ∧ Below w.heap.size w w' := by
  have h0 := hR.ring.cell 0
  have h1 := hR.ring.cell 1
  have h2 := hR.ring.cell 2
  have hlt := hR.lt
  clear hR
  have k1 : (w.alloc (Obj.cells #[Value.int IntKind.i64 c, Value.int IntKind.i64 d, Value.string t] 110)).cell? ⟨r, 1, none⟩ = some (.slice (some ⟨g, 0, none⟩) N cap) := (((Below.refl w.heap.size w).alloc (Nat.le_refl _) _).cell hlt).trans h1
  go_enter Tryd.func75, Tryd.ntmps75
  go_upto_region 1 with (fail)
  by_cases c1 : 0 ≤ c
  · have g1 : decide (0 ≤ c) = true := decide_eq_true c1
    by_cases c2 : c < (N : Int)
    · have g2 : decide (c < (N : Int)) = true := decide_eq_true c2
      by_cases c3 : 1 ≤ d
      · have g3 : decide (1 ≤ d) = true := decide_eq_true c3
        by_cases c4 : d ≤ 6
        · have g4 : decide (d ≤ 6) = true := decide_eq_true c4
          have HM := Lib.hid (show decide (MayB N c d t.size) = decide ((t.size : Int) ≤ 16384) from decide_eq_decide.2 ⟨fun h => by have := h.2.2.2.2; omega, fun h => ⟨c1, c2, c3, c4, by omega⟩⟩)
          go_quiet (fail)
          go_wp2_with fail
          go_ret
          exact ⟨by rw [HM.out]; rfl, ((Below.refl _ _).alloc (Nat.le_refl _) _).drewN _⟩
        · have g4 : decide (d ≤ 6) = false := decide_eq_false c4
          have hm : decide (MayB N c d t.size) = false := decide_eq_false (fun h => c4 h.2.2.2.1)
          go_quiet (fail)
          go_wp2_with fail
          go_ret
          exact ⟨rfl, ((Below.refl _ _).alloc (Nat.le_refl _) _).drewN _⟩
      · have g3 : decide (1 ≤ d) = false := decide_eq_false c3
        have hm : decide (MayB N c d t.size) = false := decide_eq_false (fun h => c3 h.2.2.1)
        go_quiet (fail)
        go_wp2_with fail
        go_ret
        exact ⟨rfl, ((Below.refl _ _).alloc (Nat.le_refl _) _).drewN _⟩
    · have g2 : decide (c < (N : Int)) = false := decide_eq_false c2
      have hm : decide (MayB N c d t.size) = false := decide_eq_false (fun h => c2 h.2.1)
      go_quiet (fail)
      go_wp2_with fail
      go_ret
      exact ⟨rfl, ((Below.refl _ _).alloc (Nat.le_refl _) _).drewN _⟩
  · have g1 : decide (0 ≤ c) = false := decide_eq_false c1
    have hm : decide (MayB N c d t.size) = false := decide_eq_false (fun h => c1 h.1)
    go_quiet (fail)
    go_wp2_with fail
    go_ret
    exact ⟨rfl, ((Below.refl _ _).alloc (Nat.le_refl _) _).drewN _⟩
end Go.Proofs.YtkbcilfcfbfiaaaDoor
