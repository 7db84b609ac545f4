/- A prober: is, set, Heard, Asked, Next, Due, turn. -/
import Derived.Test.YtaennccfhdjaaaaPr7
namespace Go.Proofs.Ytaennccfhdjaaaa
open Go.RowKit Go.Proofs
set_option linter.unusedSimpArgs false
set_option linter.unusedVariables false
/-- A prober at p, its row in block g: D is when each is due. -/
structure ProbAt (w : World) (base p g : Nat) (N me : Nat) (now next : Int) (D : Int → Int) : Prop where
  here : ∃ cap f, PAt w base p (.slice (some ⟨g, 0, none⟩) N cap) N me now next f N ∧ HeapC f N (InHeap N me D)
  two : 2 ≤ N
  eight : N ≤ 8
  lt : me < N
def isB (N me : Nat) (n : Int) : Bool := decide (0 ≤ n ∧ n < (N : Int) ∧ n ≠ (me : Int))
theorem is_nil (n : Int) (w : World) : Calls Try.prog 20 #[.pointer none, .int .i64 n] w fun e w' => e = .returned (.bool false) ∧ w = w' := by
  go_enter Try.func20, Try.ntmps20
  go_wp2_with fail
  go_ret
  exact ⟨rfl, rfl⟩
theorem is_any (base p : Nat) (v : Value) (N me : Nat) (now next : Int) (f : Nat → En) (m : Nat) (n : Int) (w : World) (hP : PAt w base p v N me now next f m) :
    Calls Try.prog 20 #[.pointer (some ⟨p, 0, none⟩), .int .i64 n] w fun e w' => e = .returned (.bool (isB N me n)) ∧ w = w' := by
  have c0 : w.cell? ⟨p, 0, none⟩ = some (.int .i64 N) := hP.blk.cell 0
  have c1 : w.cell? ⟨p, 1, none⟩ = some (.int .i64 me) := hP.blk.cell 1
  clear hP
  by_cases h0 : 0 ≤ n
  · by_cases h1 : n < (N : Int)
    · have hB : isB N me n = decide (¬ n = (me : Int)) := decide_eq_decide.2 ⟨fun h => h.2.2, fun h => ⟨h0, h1, h⟩⟩
      have HB := Lib.hid hB
      clear hB
      go_enter Try.func20, Try.ntmps20
      go_wp2_with fail
      go_ret
      refine ⟨?_, rfl⟩
      rw [HB.out]
      first | rfl | (refine congrArg (fun b => Ending.returned (Value.bool b)) ?_; rw [Bool.eq_iff_iff]; simp)
    · have hB : isB N me n = false := decide_eq_false (fun h => h1 h.2.1)
      have HB := Lib.hid hB
      clear hB
      go_enter Try.func20, Try.ntmps20
      go_wp2_with fail
      go_ret
      exact ⟨by rw [HB.out]; rfl, rfl⟩
  · have hB : isB N me n = false := decide_eq_false (fun h => h0 h.1)
    have HB := Lib.hid hB
    clear hB
    go_enter Try.func20, Try.ntmps20
    go_wp2_with fail
    go_ret
    exact ⟨by rw [HB.out]; rfl, rfl⟩
/-- What set leaves. -/
def SetP (base p g N me : Nat) (now next : Int) (D : Int → Int) (w w' : World) : Prop := ProbAt w' base p g N me now next D ∧ Hop p (some g) (some g) w w'
set_option maxRecDepth 100000 in
set_option maxHeartbeats 1000000 in
theorem set_any (base p g N me : Nat) (now next : Int) (D : Int → Int) (s d : Int) (hs : Who N me s) (w : World) (hA : ProbAt w base p g N me now next D) :
    Calls Try.prog 21 #[.pointer (some ⟨p, 0, none⟩), .int .i64 s, .int .i64 d] w fun e w' => e = .returned (.tuple #[]) ∧ SetP base p g N me now next (setD D s d) w w' := by
  obtain ⟨cap, f, hP, hC⟩ := hA.here
  have HC := Lib.hid hC
  have HE := Lib.hid (⟨hA.two, hA.eight, hA.lt⟩ : 2 ≤ N ∧ N ≤ 8 ∧ me < N)
  have HF := Lib.hid ((hC.mem (D s, s)).1 ⟨hs, rfl⟩)
  have c4 := hP.sl
  have HP := Lib.hid hP
  have HPL := Lib.hid hP.blk.lt
  have hN := hA.eight
  clear hA hC hP
  go_enter Try.func21, Try.ntmps21
  go_wp2_with fail
  go_loopw [6, 7, 13] (fun _ _ v13 wr => ∃ k : Nat, v13 = .int .i64 (k : Int) ∧ k ≤ N ∧ (∀ j, j < k → (f j).2 ≠ s) ∧ Below w.heap.size w wr) (fun _ _ v13 _ => N - (intOf v13).toNat)
  case atStart => exact ⟨0, rfl, by omega, fun j hj => by omega, Below.refl _ _⟩
  case round =>
    obtain ⟨k, rfl, hk, hne, hb⟩ := hrel
    have HNE := Lib.hid hne
    have HP2 := Lib.hid (HP.out.below hb)
    have HB := Lib.hid hb
    clear hne hb
    by_cases hlt : (k : Int) < (N : Int)
    · obtain ⟨h1, h2⟩ := owns_cells HP2.out.own (k := k) (by omega)
      have c4' := HP2.out.sl
      have hgl : g < wr.heap.size := World.block_lt_of_cell? _ _ h1
      have hpl : p < wr.heap.size := HP2.out.blk.lt
      have HK := Lib.hid (show k < N by omega)
      by_cases hw : (f k).2 = s
      · have HW := Lib.hid hw
        have hfz := HP2.out.own.frozenAt (k * 2)
        have hst := HP2.out.own.stored (k * 2) (.int .i64 d)
        rw [flatE_setDue f HK.out d, hw] at hst
        have HA3 := Lib.hid ((HP2.out.swapped hst.1 hst.2).below ((Below.refl _ _).alloc (Nat.le_refl _) (Obj.cells #[Value.int IntKind.i64 (f k).fst, Value.int IntKind.i64 s] 53)))
        have HO := Lib.hid (show Hop p (some g) (some g) w ((wr.setCell { block := g, off := k * 2 } (Value.int IntKind.i64 d)).alloc (Obj.cells #[Value.int IntKind.i64 (f k).fst, Value.int IntKind.i64 s] 53)) from (Hop.of_below HB.out).trans ((Hop.of_grown' hst.2).trans (.of_below ((Below.refl _ _).alloc (Nat.le_refl _) _))))
        clear hst
        go_wp2_with fail
        refine (heapFix_any base p g cap N me now next (putE f k (d, s)) N k HK.out (by omega) _ HA3.out (HC.out.heap.fix (d, s))).mono ?_
        rintro e w3 ⟨rfl, f', hf, hs', hA, hO⟩
        have HR := Lib.hid (show SetP base p g N me now next (setD D s d) w w3 from ⟨⟨⟨cap, f', hA, HC.out.set_ hs HK.out HW.out hs' hf⟩, HE.out.1, HE.out.2.1, HE.out.2.2⟩, HO.out.trans hO⟩)
        clear hf hs' hA hO
        go_wp2_with fail
        refine bodyPost_ret (results_none rfl _ _ _) rfl ⟨rfl, HR.out⟩
      · go_wp2_with fail
        go_roundw
        case rel => exact ⟨k + 1, by go_num, by omega, fun j hj => by
          by_cases e : j = k
          · rw [e]; exact hw
          · exact HNE.out j (by omega), HB.out.alloc HB.out.size _⟩
        case measure => simp [intOf]; omega
    · go_wp2_with fail
      go_end0
      obtain ⟨i, hi, he⟩ := HF.out
      exact absurd (by rw [he]) (HNE.out i (by omega))
end Go.Proofs.Ytaennccfhdjaaaa
