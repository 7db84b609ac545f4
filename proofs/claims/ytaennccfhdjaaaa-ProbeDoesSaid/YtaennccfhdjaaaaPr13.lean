/- A prober: New. -/
import Derived.Test.YtaennccfhdjaaaaPr12
namespace Go.Proofs.Ytaennccfhdjaaaa
open Go.RowKit Go.Proofs
set_option linter.unusedSimpArgs false
set_option linter.unusedVariables false
set_option maxRecDepth 100000 in
theorem new_bad (n me : Int) (w : World) (h : ¬ (2 ≤ n ∧ n ≤ 8 ∧ 0 ≤ me ∧ me < n)) :
    Calls Try.prog 8 #[.int .i64 n, .int .i64 me] w fun e w' => e = .returned (.tuple #[.pointer none, .int .i64 2]) ∧ w = w' := by
  by_cases h1 : n < 2
  · go_enter Try.func8, Try.ntmps8
    go_wp2_with fail
    go_ret2
    exact ⟨rfl, rfl⟩
  · by_cases h2 : 8 < n
    · go_enter Try.func8, Try.ntmps8
      go_wp2_with fail
      go_ret2
      exact ⟨rfl, rfl⟩
    · by_cases h3 : me < 0
      · go_enter Try.func8, Try.ntmps8
        go_wp2_with fail
        go_ret2
        exact ⟨rfl, rfl⟩
      · have h4 : n ≤ me := by omega
        clear h
        go_enter Try.func8, Try.ntmps8
        go_wp2_with fail
        go_ret2
        exact ⟨rfl, rfl⟩
/-- When each is due at first. -/
def due0 (s : Int) : Int := if s = -1 then 7 else 4
theorem Hop.below' {B p : Nat} {o o' : Option Nat} {w wr w' : World} (h : Hop p o o' wr w') (hB : Below B w wr) (hp : B ≤ p) (ho : ∀ g, o = some g → B ≤ g) (hw : B ≤ w.heap.size) : Below B w w' :=
  ⟨h.os.trans hB.os, h.tape.trans hB.tape, h.output.trans hB.output, Nat.le_trans hB.size h.size, fun k hk => (h.block k (by have := hB.size; omega) (by omega) (fun e => by have := ho k e.symm; omega)).trans (hB.block k hk)⟩
/-- What New leaves. -/
def NewP (N me : Nat) (w : World) (e : Ending) (w' : World) : Prop :=
  ∃ g, e = .returned (.tuple #[.pointer (some ⟨w.heap.size, 0, none⟩), .int .i64 0]) ∧ ProbAt w' w.heap.size w.heap.size g N me 0 (((me + 1) % N : Nat) : Int) due0 ∧ Below w.heap.size w w' ∧ w.heap.size ≤ g
/-- Those below k. -/
def Early (me k : Nat) (x : En) : Prop := 0 ≤ x.2 ∧ x.2 < (k : Int) ∧ x.2 ≠ (me : Int) ∧ x.1 = 4
set_option maxRecDepth 100000 in
set_option maxHeartbeats 2000000 in
theorem new_ok (N me : Nat) (w : World) (h2 : 2 ≤ N) (h8 : N ≤ 8) (hme : me < N) :
    Calls Try.prog 8 #[.int .i64 N, .int .i64 me] w fun e w' => NewP N me w e w' := by
  obtain ⟨q, hQ⟩ : ∃ q : Nat, q = (me + 1) % N := ⟨_, rfl⟩
  have hq : ((me : Int) + 1) % (N : Int) = (q : Int) := by rw [hQ, Int.natCast_emod]; rfl
  have HQ := Lib.hid hQ
  clear hQ
  have hst : PAt (w.alloc (.cells #[.int .i64 N, .int .i64 me, .int .i64 0, .int .i64 q, .slice none 0 0] 49)) w.heap.size w.heap.size (.slice none 0 0) N me 0 q (fun _ => (0, 0)) 0 := ⟨Blk.new w 49 _, World.ownsRow_nil _ _ _ _⟩
  have HST := Lib.hid hst
  clear hst
  have g1 : decide ((N : Int) < 2) = false := decide_eq_false (by omega)
  have g2 : decide (8 < (N : Int)) = false := decide_eq_false (by omega)
  have g3 : decide ((me : Int) < 0) = false := decide_eq_false (by omega)
  have g4 : decide (N ≤ me) = false := decide_eq_false (by omega)
  go_enter Try.func8, Try.ntmps8
  go_wp2_with fail
  clear hq g1 g2 g3 g4
  go_loopw [7, 32] (fun _ v32 wr => ∃ (k m : Nat) (v : Value) (f : Nat → En), v32 = .int .i64 (k : Int) ∧ k ≤ N ∧ m + (if me < k then 1 else 0) = k ∧ PAt wr w.heap.size w.heap.size v N me 0 q f m ∧ HeapC f m (Early me k) ∧ Below w.heap.size w wr) (fun _ v32 _ => N - (intOf v32).toNat)
  case atStart => exact ⟨0, 0, _, _, rfl, by omega, rfl, HST.out, (HeapC.nil _).congr fun x => ⟨fun h => h.elim, fun h => by have := h.1; have := h.2.1; omega⟩, (Below.refl _ _).alloc (Nat.le_refl _) _⟩
  case round =>
    obtain ⟨k, m, v, f, rfl, hk, hm, hP, hC, hB⟩ := hrel
    have HP := Lib.hid hP
    have HC := Lib.hid hC
    have HB := Lib.hid hB
    have HM := Lib.hid hm
    clear hP hC hB hm
    by_cases hlt : (k : Int) < (N : Int)
    · by_cases hkm : (k : Int) = (me : Int)
      · go_wp2_with fail
        go_roundw
        case rel =>
          refine ⟨k + 1, m, v, f, by go_num, by omega, ?_, HP.out, HC.out.congr fun x => ?_, HB.out⟩
          · have hm := HM.out
            rw [if_neg (by omega)] at hm; rw [if_pos (by omega)]; omega
          · unfold Early; omega
        case measure => simp [intOf]; omega
      · go_wp2_with fail
        refine (heapPush_any w.heap.size w.heap.size v N me 0 q f m (4, (k : Int)) wr HP.out (by have := HM.out; omega) HB.out.size HC.out.heap).mono ?_
        rintro e w2 ⟨rfl, g, cap, f', hf, hs, hA, hO⟩
        have HA := Lib.hid hA
        have HC2 := Lib.hid (HC.out.push (4, (k : Int)) (fun y hy e => by have := hy.2.1; simp only at e; omega) hs hf)
        have HB2 := Lib.hid (hO.below' HB.out (Nat.le_refl _) (fun g hg => by obtain ⟨_, _, hb⟩ := own_blk HP.out.own hg; exact hb) (Nat.le_refl _))
        clear hf hs hA hO
        go_wp2_with fail
        go_roundw
        case rel =>
          refine ⟨k + 1, m + 1, _, f', by go_num, by omega, ?_, HA.out, HC2.out.congr fun x => ?_, HB2.out⟩
          · have hm := HM.out
            by_cases h1 : me < k
            · rw [if_pos h1] at hm; rw [if_pos (by omega)]; omega
            · rw [if_neg h1] at hm; rw [if_neg (by omega)]; omega
          · unfold Early
            constructor
            · rintro (h | rfl)
              · omega
              · exact ⟨by simp only; omega, by simp only; omega, by simp only; omega, rfl⟩
            · intro h
              by_cases e : x.2 = (k : Int)
              · exact .inr (Prod.ext h.2.2.2 e)
              · exact .inl (by omega)
        case measure => simp [intOf]; omega
    · obtain rfl : k = N := by omega
      go_wp2_with fail
      refine (heapPush_any w.heap.size w.heap.size v k me 0 q f m (7, -1) wr HP.out (by have := HM.out; omega) HB.out.size HC.out.heap).mono ?_
      rintro e w2 ⟨rfl, g, cap, f', hf, hs, hA, hO⟩
      have hm1 : m + 1 = k := by have := HM.out; rw [if_pos hme] at this; omega
      rw [hm1] at hf hs hA
      have hC2 := HC.out.push (7, -1) (fun y hy e => by have := hy.1; simp only at e; omega) (f' := f') (by rw [hm1]; exact hs) (by rw [hm1]; exact hf)
      rw [hm1] at hC2
      have hC3 : HeapC f' k (InHeap k me due0) := hC2.congr fun x => by
        unfold Early InHeap Who due0
        constructor
        · rintro (h | rfl)
          · refine ⟨.inr ⟨h.1, h.2.1, h.2.2.1⟩, ?_⟩
            rw [if_neg (by omega)]; exact h.2.2.2
          · exact ⟨.inl rfl, by simp⟩
        · rintro ⟨h | h, e⟩
          · right
            rw [if_pos h] at e
            exact Prod.ext e h
          · left
            rw [if_neg (by omega)] at e
            exact ⟨h.1, h.2.1, h.2.2, e⟩
      have HN := Lib.hid (show NewP k me w (.returned (.tuple #[.pointer (some ⟨w.heap.size, 0, none⟩), .int .i64 0])) w2 from ⟨g, rfl, ⟨⟨cap, f', HQ.out ▸ hA, hC3⟩, h2, h8, hme⟩, hO.below' HB.out (Nat.le_refl _) (fun g hg => by obtain ⟨_, _, hb⟩ := own_blk HP.out.own hg; exact hb) (Nat.le_refl _), by
        obtain ⟨_, _, hb⟩ := own_blk hA.own (g := g) rfl
        exact hb⟩)
      clear hf hs hA hO hC2 hC3
      go_wp2_with fail
      go_ret2
      exact HN.out
end Go.Proofs.Ytaennccfhdjaaaa
