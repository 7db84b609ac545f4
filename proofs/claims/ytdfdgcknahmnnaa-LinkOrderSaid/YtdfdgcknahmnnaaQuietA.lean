/- The contract of Quiet: have all rows nothing? -/
import Derived.Test.YtdfdgcknahmnnaaCallsA
namespace Go.Proofs.Ytdfdgcknahmnnaa
open Go.RowKit Go.Proofs
set_option linter.unusedSimpArgs false
set_option linter.unusedVariables false
variable {Av : Nat → Prop}

def emptyAt (N : Int) (L : Nat → List ByteArray) (c : Int) : Bool := decide (lenM N c L 0 + lenM N c L 1 = 0)
def quietTo (N : Int) (L : Nat → List ByteArray) : Nat → Bool
  | 0 => true
  | k + 1 => quietTo N L k && emptyAt N L k
def Drawn (w w' : World) : Prop := ∃ k, w' = w.drewN k

theorem lenM_small {N : Int} {L : Nat → List ByteArray} (h : ∀ j, (L j).length ≤ 128) (n : Int) (d : Nat) : lenM N n L d ≤ 128 := by
  unfold lenM
  split
  · exact h _
  · omega

set_option maxRecDepth 100000 in
set_option maxHeartbeats 1000000 in
theorem each_any (g lb qb : Nat) (c N : Int) (q : Bool) (w : World) (L : Nat → List ByteArray) (h : LinkA Av w g N L)
    (hl : w.cell? ⟨lb, 0, none⟩ = some (.pointer (some ⟨g, 0, none⟩))) (hq : w.cell? ⟨qb, 0, none⟩ = some (.bool q)) (hf : w.frozen? ⟨qb, 0, none⟩ = false) :
    Calls Try.prog 26 #[.int .i64 c, .pointer (some ⟨lb, 0, none⟩), .pointer (some ⟨qb, 0, none⟩)] w fun e w' => e = .returned (.tuple #[]) ∧ ∃ k, w' = (w.drewN k).setCell ⟨qb, 0, none⟩ (.bool (q && emptyAt N L c)) := by
  have s0 := lenM_small (N := N) h.2 c 0
  have s1 := lenM_small (N := N) h.2 c 1
  have H := Lib.hid h
  have HE : Hid ((((lenM N c L 0 : Nat) : Int) + ((lenM N c L 1 : Nat) : Int) == 0) = emptyAt N L c) := by
    show _ = _
    unfold emptyAt
    rw [Bool.eq_iff_iff]
    simp
    omega
  clear h
  cases q
  all_goals
    go_enter Try.func26, Try.ntmps26
    go_wp2_with fail
    refine (Len_a g c N w L H.out).mono ?_
    rintro e w' ⟨rfl, k, rfl⟩
    go_wp2_with fail
    go_end0
    refine ⟨rfl, k, ?_⟩
    first
      | rfl
      | rw [Bool.true_and, ← HE.out]

/-- What Quiet needs of its world: the links, its two boxes. -/
theorem LinkA.grown {g : Nat} {N : Int} {L : Nat → List ByteArray} {w w' : World} (h : LinkA Av w g N L) (ho : w.grownBy w' none) : LinkA Av w' g N L := ⟨⟨h.1.1.grown ho, h.1.2⟩, h.2⟩
theorem LinkA.below {g : Nat} {N : Int} {L : Nat → List ByteArray} {w w' : World} (h : LinkA Av w g N L) (hB : Below w.heap.size w w') : LinkA Av w' g N L := ⟨⟨h.1.1.below hB, h.1.2⟩, h.2⟩
theorem LinkA.far {g q : Nat} {N : Int} {L : Nat → List ByteArray} {w w' : World} (h : LinkA Av w g N L) {t' : TypeId} {cs : Array Value} (ho : OnlyAt q w w') (hg : Blk w q t' cs) (hne : 9 ≠ t') (hb : g ≠ q) : LinkA Av w' g N L :=
  ⟨⟨h.1.1.only ho hg hne hb, h.1.2⟩, h.2⟩

set_option maxRecDepth 100000 in
set_option maxHeartbeats 1000000 in
theorem Quiet_any (g : Nat) (N : Int) (w : World) (L : Nat → List ByteArray) (h : LinkA Av w g N L) :
    Calls Try.prog 13 #[.pointer (some ⟨g, 0, none⟩)] w fun e w' => e = .returned (.bool (quietTo N L 8)) ∧ w.grownBy w' none := by
  have hmf : ∀ (fn : Fn) (first cap : Array Value) (w : World), (Instr.makeFunc fn first cap).run Try.prog w = .ok (.func fn first cap) w := fun _ _ _ _ => rfl
  have hg := h.1.1.lt
  have H := Lib.hid h
  clear h
  go_enter Try.func13, Try.ntmps13
  go_wp2_with fail
  go_loopw [7] (fun i wr => ∃ k : Nat, k ≤ 8 ∧ i = .int .i64 k ∧ Below w.heap.size w wr ∧ Blk wr w.heap.size 22 #[.pointer (some ⟨g, 0, none⟩)] ∧ Blk wr (w.heap.size + 1) 4 #[.bool (quietTo N L k)]) (fun i _ => 8 - (intOf i).toNat)
  case atStart =>
    exact ⟨0, by omega, rfl, ((Below.refl _ _).alloc (Nat.le_refl _) _).alloc (by simp) _, (Blk.new _ _ _).alloc _, by have := Blk.new (w.alloc (.cells #[.pointer (some ⟨g, 0, none⟩)] 22)) 4 #[.bool true]; simpa [quietTo] using this⟩
  case round =>
    obtain ⟨k, hk, rfl, hB, h1, h2⟩ := hrel
    have H' : Hid (LinkA Av wr g N L) := H.out.below hB
    have HB := Lib.hid hB
    have H1 := Lib.hid h1
    have H2 := Lib.hid h2
    have c1 := h1.cell 0
    have c2 := h2.cell 0
    have f2 := h2.frozen 0
    simp only [List.getElem?_toArray, List.getElem?_cons_zero] at c1 c2
    clear hB h1 h2
    by_cases hlt : k < 8
    · go_wp2_with fail
      refine (each_any g w.heap.size (w.heap.size + 1) k N _ wr L H'.out c1 c2 f2).mono ?_
      rintro e w' ⟨rfl, m, rfl⟩
      go_wp2_with fail
      go_roundw
      case rel =>
        refine ⟨k + 1, by omega, by go_num, HB.out.trans (((Below.refl _ _).drewN m).setCell (by simp) _), (H1.out.drewN m).far (by simp) _, ?_⟩
        have := (H2.out.drewN m).set_ 0 (.bool (quietTo N L k && emptyAt N L k))
        simpa [quietTo] using this
      case measure => simp [intOf]; omega
    · have hk8 : k = 8 := by omega
      subst hk8
      go_wp2_with fail
      go_ret
      exact ⟨rfl, grownBy_of_below HB.out none⟩

set_option maxRecDepth 100000 in
set_option maxHeartbeats 1000000 in
theorem each_nil (lb qb : Nat) (c : Int) (w : World)
    (hl : w.cell? ⟨lb, 0, none⟩ = some (.pointer none)) (hq : w.cell? ⟨qb, 0, none⟩ = some (.bool true)) (hf : w.frozen? ⟨qb, 0, none⟩ = false) :
    Calls Try.prog 26 #[.int .i64 c, .pointer (some ⟨lb, 0, none⟩), .pointer (some ⟨qb, 0, none⟩)] w fun e w' => e = .returned (.tuple #[]) ∧ w' = w.setCell ⟨qb, 0, none⟩ (.bool true) := by
  go_enter Try.func26, Try.ntmps26
  go_wp2_with fail
  refine (Len_nil c w).mono ?_
  rintro e w' ⟨rfl, rfl⟩
  go_wp2_with fail
  go_end0
  exact ⟨rfl, rfl⟩

set_option maxRecDepth 100000 in
set_option maxHeartbeats 1000000 in
theorem Quiet_nil (w : World) :
    Calls Try.prog 13 #[.pointer none] w fun e w' => e = .returned (.bool true) ∧ w.grownBy w' none := by
  have hmf : ∀ (fn : Fn) (first cap : Array Value) (w : World), (Instr.makeFunc fn first cap).run Try.prog w = .ok (.func fn first cap) w := fun _ _ _ _ => rfl
  go_enter Try.func13, Try.ntmps13
  go_wp2_with fail
  go_loopw [7] (fun i wr => ∃ k : Nat, k ≤ 8 ∧ i = .int .i64 k ∧ Below w.heap.size w wr ∧ Blk wr w.heap.size 22 #[.pointer none] ∧ Blk wr (w.heap.size + 1) 4 #[.bool true]) (fun i _ => 8 - (intOf i).toNat)
  case atStart =>
    exact ⟨0, by omega, rfl, ((Below.refl _ _).alloc (Nat.le_refl _) _).alloc (by simp) _, (Blk.new _ _ _).alloc _, by have := Blk.new (w.alloc (.cells #[.pointer none] 22)) 4 #[.bool true]; simpa using this⟩
  case round =>
    obtain ⟨k, hk, rfl, hB, h1, h2⟩ := hrel
    have HB := Lib.hid hB
    have H1 := Lib.hid h1
    have H2 := Lib.hid h2
    have c1 := h1.cell 0
    have c2 := h2.cell 0
    have f2 := h2.frozen 0
    simp only [List.getElem?_toArray, List.getElem?_cons_zero] at c1 c2
    clear hB h1 h2
    by_cases hlt : k < 8
    · go_wp2_with fail
      refine (each_nil w.heap.size (w.heap.size + 1) k wr c1 c2 f2).mono ?_
      rintro e w' ⟨rfl, rfl⟩
      go_wp2_with fail
      go_roundw
      case rel =>
        refine ⟨k + 1, by omega, by go_num, HB.out.trans ((Below.refl _ _).setCell (by simp) _), H1.out.far (by simp) _, ?_⟩
        have := H2.out.set_ 0 (.bool true)
        simpa using this
      case measure => simp [intOf]; omega
    · have hk8 : k = 8 := by omega
      subst hk8
      go_wp2_with fail
      go_ret
      exact ⟨rfl, grownBy_of_below HB.out none⟩
end Go.Proofs.Ytdfdgcknahmnnaa
