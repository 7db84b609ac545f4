/- The walks of short and same. -/
import Derived.Test.YtdfdgcknahmnnaaDo
namespace Go.Proofs.Ytdfdgcknahmnnaa
open Go.RowKit Go.Proofs
set_option linter.unusedSimpArgs false
set_option linter.unusedVariables false

def shortB (s : ByteArray) : Bool := decide (s.size < 300) || decide (16384 < s.size)
set_option maxHeartbeats 400000 in
theorem short_any (k c : Int) (s : ByteArray) (w : World) :
    Calls Try.prog 15 #[.agg #[.int .i64 k, .int .i64 c, .string s]] w fun e w' => e = .returned (.bool (shortB s)) ∧ w.grownBy w' none := by
  by_cases h1 : s.size < 300
  · go_enter Try.func15, Try.ntmps15
    go_wp2_with fail
    go_ret
    exact ⟨by simp [shortB, h1], World.grownBy_alloc _ _ _⟩
  · by_cases h2 : 16384 < s.size
    · go_enter Try.func15, Try.ntmps15
      go_wp2_with fail
      go_ret
      refine ⟨?_, World.grownBy_alloc _ _ _⟩
      have : shortB s = true := by simp [shortB]; omega
      rw [this]
      simp
      omega
    · go_enter Try.func15, Try.ntmps15
      go_wp2_with fail
      go_ret
      refine ⟨?_, World.grownBy_alloc _ _ _⟩
      have : shortB s = false := by simp [shortB]; omega
      rw [this]
      simp
      omega

theorem empty_out (N : Nat) (L : Nat → List ByteArray) (j : Nat) (h : N ≤ j) : emptyAt N L j = true := by
  have : isB (j : Int) N = false := isB_not (by omega)
  simp [emptyAt, lenM, this]

set_option maxRecDepth 100000 in
set_option maxHeartbeats 4000000 in
theorem same_any (g x u d N : Nat) (hN : 2 ≤ N) (hN8 : N ≤ 8) (w : World) (L : Nat → List ByteArray) (h : Sync w g x u d N L) :
    Calls Try.prog 17 #[.pointer (some ⟨g, 0, none⟩), .pointer (some ⟨x, 0, none⟩)] w fun e w' => e = .returned (.bool true) ∧ w.grownBy w' none := by
  have HS := Lib.hid h
  clear h
  go_enter Try.func17, Try.ntmps17
  go_wp2_with fail
  go_loopw [5, 6] (fun q i wr => ∃ k : Nat, k ≤ 10 ∧ q = .bool (quietTo N L (k - 1)) ∧ i = .int .i64 ((k : Int) - 1) ∧ ∃ n, wr = w.drewN n) (fun _ i _ => 20 - (intOf i + 1).toNat)
  case atStart => exact ⟨0, by omega, rfl, rfl, 0, rfl⟩
  case round =>
    obtain ⟨k, hk, rfl, rfl, n, rfl⟩ := hrel
    have HS' := Lib.hid (HS.out.drewN n)
    have hx0 := HS.out.ref.blk.cell 0
    have hx1 := HS.out.ref.blk.cell 1
    simp only [List.getElem?_toArray, List.getElem?_cons_zero, List.getElem?_cons_succ] at hx0 hx1
    have l1 := lenM_small (N := (N : Int)) HS.out.link.2 ((k : Int) - 1) 0
    have l2 := lenM_small (N := (N : Int)) HS.out.link.2 ((k : Int) - 1) 1
    by_cases hk10 : k < 10
    · by_cases hin : 1 ≤ k ∧ k - 1 < N
      · obtain ⟨j, rfl⟩ : ∃ j, k = j + 1 := ⟨k - 1, by omega⟩
        have hj : j < N := by omega
        clear hin
        have e1 : ((j + 1 : Nat) : Int) - 1 = (j : Int) := by omega
        rw [e1] at l1 l2
        have hb : isB (j : Int) N = true := isB_of (by omega) (by omega)
        obtain ⟨v, hv, hrow⟩ := HS.out.ref.up.get hj
        obtain ⟨v', hv', hrow'⟩ := HS.out.ref.down.get hj
        obtain ⟨ao, ku, cu, rfl, _, hlen, _, _⟩ := row_parts hrow
        obtain ⟨bo, kd, cd, rfl, _, hlen', _, _⟩ := row_parts hrow'
        simp only [List.length_nil, Nat.zero_add] at hv hv'
        have ej : (j : Int).toNat = j := by omega
        have hu : ku = lenM N j L 0 := by rw [← hlen]; simp [vals, row, lenM, hb, ej]
        have hd : kd = lenM N j L 1 := by rw [← hlen']; simp [vals, row, lenM, hb, ej]
        subst hu hd
        have hq : Hid (quietTo N L (j + 1) = (quietTo N L j && emptyAt N L j)) := rfl
        have he : Hid (emptyAt N L j = (((lenM N j L 0 : Nat) : Int) + ((lenM N j L 1 : Nat) : Int) == 0)) := by
          show _ = _
          unfold emptyAt
          rw [Bool.eq_iff_iff]
          simp
          omega
        clear hrow hrow' hlen hlen'
        rw [e1]
        rw [Nat.add_sub_cancel]
        cases hqv : quietTo N L j
        all_goals
          have HQ := Lib.hid hqv
          clear hqv
          go_wp2_with fail
          refine (Len_a g j N _ L HS'.out.link).mono ?_
          rintro e w' ⟨rfl, n2, rfl⟩
          go_wp2_with fail
          refine (RIs x u N .nilFunc _ _ (by simpa using hx0)).mono ?_
          rintro e w' ⟨rfl, rfl⟩
          go_wp2_with fail
          go_roundw
          case rel =>
            refine ⟨j + 2, by omega, ?_, by go_num, n + n2, by simp⟩
            rw [show j + 2 - 1 = j + 1 from rfl, hq.out, HQ.out]
            first | rfl | (rw [Bool.true_and, he.out])
          case measure => simp [intOf]; omega
      · have hb : isB ((k : Int) - 1) N = false := isB_not (by omega)
        have z1 : lenM N ((k : Int) - 1) L 0 = 0 := by unfold lenM; rw [if_neg (by rw [hb]; simp)]
        have z2 : lenM N ((k : Int) - 1) L 1 = 0 := by unfold lenM; rw [if_neg (by rw [hb]; simp)]
        have hq : Hid (quietTo N L (k + 1 - 1) = quietTo N L (k - 1)) := by
          show _ = _
          rcases k with _ | k
          · rfl
          · rw [Nat.add_sub_cancel, Nat.add_sub_cancel]
            show (quietTo N L k && emptyAt N L k) = _
            rw [empty_out N L k (by omega), Bool.and_true]
        have hc := Len_a g ((k : Int) - 1) N (w.drewN n) L HS'.out.link
        rw [z1, z2] at hc
        have HC := Lib.hid hc
        clear hc z1 z2
        go_wp2_with fail
        refine HC.out.mono ?_
        rintro e w' ⟨rfl, n2, rfl⟩
        go_wp2_with fail
        refine (RIs x u N .nilFunc _ _ (by simpa using hx0)).mono ?_
        rintro e w' ⟨rfl, rfl⟩
        go_wp2_with fail
        go_roundw
        case rel =>
          exact ⟨k + 1, by omega, by rw [hq.out], by go_num, n + n2, by simp⟩
        case measure => simp [intOf]; omega
    · have hk' : k = 10 := by omega
      subst hk'
      have hq : Hid (quietTo N L 9 = quietTo N L 8) := by
        show (quietTo N L 8 && emptyAt N L ((8 : Nat) : Int)) = _
        rw [empty_out N L 8 (by omega), Bool.and_true]
      go_wp2_with fail
      refine (Quiet_any g N _ L HS'.out.link).mono ?_
      rintro e w' ⟨rfl, hg⟩
      have HG := Lib.hid hg
      clear hg
      go_wp2_with fail
      go_ret
      exact ⟨by rw [← hq.out]; simp, grownBy_trans (a := w) (b := w.drewN n) ⟨rfl, rfl, rfl, Nat.le_refl _, fun _ _ _ => rfl⟩ HG.out⟩
end Go.Proofs.Ytdfdgcknahmnnaa
