/- ProbeTurns: the walk. -/
import Derived.Test.YtaennccfhdjaaaaPr18
namespace Go.Proofs.Ytaennccfhdjaaaa
open Go.RowKit Go.Proofs
set_option linter.unusedSimpArgs false
set_option linter.unusedVariables false
set_option maxRecDepth 100000 in
set_option maxHeartbeats 4000000 in
theorem probeTurns_any (a0 : Int) (ha0 : 0 ≤ a0) (ha1 : a0 ≤ 255) (v0 : Value) (acts : List Act2) (hle : acts.length ≤ 9223372036854775807) (w : World) (hac : ActsAt2 w v0 acts) :
    Calls Try.prog 3 #[.int .u8 a0, v0] w fun e w' => e = .returned (.bool true) ∧ Below w.heap.size w w' := by
  have HAC := Lib.hid hac
  obtain ⟨ao, cp, rfl, _⟩ := hac
  obtain ⟨K, hK⟩ : ∃ K : Nat, a0 % 7 + 2 = (K : Int) := ⟨(a0 % 7 + 2).toNat, by omega⟩
  have hK2 : 2 ≤ K := by omega
  have hK8 : K ≤ 8 := by omega
  obtain ⟨q2, hQ2⟩ : ∃ q : Nat, q = (1 + 1) % K := ⟨_, rfl⟩
  have hq2 : (2 : Int) % (K : Int) = (q2 : Int) := by rw [hQ2, Int.natCast_emod]; rfl
  have HQ2 := Lib.hid hQ2
  have HN2 := Lib.hid (show q2 ≠ 1 by
    have := Nat.mod_lt (1 + 1) (show 0 < K by omega)
    by_cases h : K = 2
    · subst h; rw [hQ2]; decide
    · rw [hQ2, Nat.mod_eq_of_lt (by omega)]; decide)
  have hq2k : q2 < K := by rw [hQ2]; exact Nat.mod_lt _ (by omega)
  clear hQ2
  go_enter Try.func3, Try.ntmps3
  go_wp2_with fail
  refine (new_ok K 1 w hK2 hK8 (by omega)).mono ?_
  rintro e w1 ⟨g, rfl, hA, hb, hg⟩
  have HA := Lib.hid (show ProbAt w1 w.heap.size w.heap.size g K 1 (0 : Nat) q2 due0 from HQ2.out ▸ hA)
  have HB := Lib.hid hb
  clear hA hb hg
  go_wp2_with fail
  refine (awake_any w1).mono ?_
  rintro e w2 ⟨rfl, hb⟩
  have HA := Lib.hid (HA.out.below hb)
  have HB := Lib.hid (HB.out.trans (hb.mono HB.out.size))
  clear hb
  go_wp2_with fail
  rw [hq2]
  go_loopw [8, 9, 10, 11, 12] (fun v8 v9 _ _ _ wr => ∃ (i now nx g : Nat) (D : Int → Int), v8 = .int .i64 (nx : Int) ∧ v9 = .int .i64 (i : Int) ∧ i ≤ acts.length ∧ i ≤ 90 ∧ ProbAt wr w.heap.size w.heap.size g K 1 now nx D ∧ nx < K ∧ nx ≠ 1 ∧ now ≤ i ∧ Below w.heap.size w wr) (fun _ v9 _ _ _ _ => 90 - (intOf v9).toNat)
  case atStart => exact ⟨0, 0, q2, g, due0, rfl, rfl, by omega, by omega, HA.out, hq2k, HN2.out, by omega, HB.out⟩
  case round =>
    clear HA HB
    obtain ⟨i, now, nx, g, D, rfl, rfl, hi1, hi2, hA, hnx, hn1, hno, hb⟩ := hrel
    have HA := Lib.hid hA
    have HB := Lib.hid hb
    clear hA hb
    by_cases hin : i < acts.length ∧ i < 90
    · obtain ⟨hin1, hin2⟩ := hin
      obtain ⟨b, o, cp', hv, hbl, c0, c1⟩ := HAC.out.get HB.out i (by omega)
      injection hv with hv1 hv2 hv3
      subst hv1
      clear hv2 hv3
      generalize acts[i]'(by omega) = act at c0 c1
      obtain ⟨k, c⟩ := act
      dsimp only at c0 c1
      by_cases hk : k < 0 ∨ 4 < k
      · rcases hk with hk | hk
        · as_aux_lemma =>
            go_upto_region 11 with (fail)
            have HA := Lib.hid (HA.out.below ((Below.refl _ _).alloc (Nat.le_refl _) (.cells #[.int .i64 k, .int .i64 c] 29)))
            have HB := Lib.hid (HB.out.trans (((Below.refl _ _).alloc (Nat.le_refl _) (.cells #[.int .i64 k, .int .i64 c] 29)).mono HB.out.size))
            have hbx := Blk.new wr 29 #[.int .i64 k, .int .i64 c]
            generalize wr.alloc (.cells #[.int .i64 k, .int .i64 c] 29) = w2 at HA HB hbx ⊢
            generalize wr.heap.size = bx at hbx ⊢
            have b1 := hbx.cell 1
            go_wp2_with fail
            refine (heard_bool c HA.out (by omega) (by omega)).mono ?_
            rintro e w3 ⟨rfl, hS⟩
            have HB3 := Lib.hid (HA.out.below_of hS.2 (Nat.le_refl _) HB.out (Nat.le_refl _))
            have HA3 := Lib.hid hS.1
            clear hS b1 hbx
            go_wp2_with fail
            go_roundw
            case rel => exact ⟨i + 1, now, nx, _, _, by first | go_num | (rw [hq2]; done) | (rw [hq1]; done), by go_num, by omega, by omega, HA3.out, hnx, hn1, by omega, HB3.out⟩
            case measure => simp [intOf]; omega
        · have hk0 : ¬ k < 0 := by omega
          as_aux_lemma =>
            go_upto_region 11 with (fail)
            have HA := Lib.hid (HA.out.below ((Below.refl _ _).alloc (Nat.le_refl _) (.cells #[.int .i64 k, .int .i64 c] 29)))
            have HB := Lib.hid (HB.out.trans (((Below.refl _ _).alloc (Nat.le_refl _) (.cells #[.int .i64 k, .int .i64 c] 29)).mono HB.out.size))
            have hbx := Blk.new wr 29 #[.int .i64 k, .int .i64 c]
            generalize wr.alloc (.cells #[.int .i64 k, .int .i64 c] 29) = w2 at HA HB hbx ⊢
            generalize wr.heap.size = bx at hbx ⊢
            have b1 := hbx.cell 1
            go_wp2_with fail
            refine (heard_bool c HA.out (by omega) (by omega)).mono ?_
            rintro e w3 ⟨rfl, hS⟩
            have HB3 := Lib.hid (HA.out.below_of hS.2 (Nat.le_refl _) HB.out (Nat.le_refl _))
            have HA3 := Lib.hid hS.1
            clear hS b1 hbx
            go_wp2_with fail
            go_roundw
            case rel => exact ⟨i + 1, now, nx, _, _, by first | go_num | (rw [hq2]; done) | (rw [hq1]; done), by go_num, by omega, by omega, HA3.out, hnx, hn1, by omega, HB3.out⟩
            case measure => simp [intOf]; omega
      · have hka : ¬ k < 0 := by omega
        have hkb : ¬ 4 < k := by omega
        by_cases hk4 : k = 4
        · subst hk4
          as_aux_lemma =>
            go_upto_region 12 with (fail)
            have HA := Lib.hid (HA.out.below ((Below.refl _ _).alloc (Nat.le_refl _) (.cells #[.int .i64 4, .int .i64 c] 29)))
            have HB := Lib.hid (HB.out.trans (((Below.refl _ _).alloc (Nat.le_refl _) (.cells #[.int .i64 4, .int .i64 c] 29)).mono HB.out.size))
            have hbx := Blk.new wr 29 #[.int .i64 4, .int .i64 c]
            generalize wr.alloc (.cells #[.int .i64 4, .int .i64 c] 29) = w2 at HA HB hbx ⊢
            generalize wr.heap.size = bx at hbx ⊢
            have b0 := hbx.cell 0
            have hbl := hbx.lt
            have HBX := Lib.hid hbx
            clear hbx
            go_wp2_with fail
            refine (tick_any w.heap.size w.heap.size g K 1 now (now + 1) rfl nx D true w2 HA.out (by omega) (by omega) hnx HB.out.size).mono ?_
            rintro e w3 h
            obtain ⟨v6, out, g', rfl, ho, hm, hA, hH⟩ := h.no (by unfold readsT; simp)
            clear b0
            have HB3 := Lib.hid (HA.out.below_of hH (Nat.le_refl _) HB.out (Nat.le_refl _))
            have HA3 := Lib.hid (show ProbAt w3 w.heap.size w.heap.size g' K 1 ((now + 1 : Nat) : Int) _ _ from by simpa using hA)
            have b0 : w3.cell? ⟨bx, 0, none⟩ = _ := (World.cell?_of_block (hH.block bx HBX.out.lt (HA.out.ne_box HBX.out).1 (HA.out.ne_box HBX.out).2)).trans (HBX.out.cell 0)
            clear hA hH ho hm
            go_wp2_with fail
            go_roundw
            case rel => exact ⟨i + 1, now + 1, nx, _, _, by first | go_num | (rw [hq2]; done) | (rw [hq1]; done), by go_num, by omega, by omega, HA3.out, hnx, hn1, by omega, HB3.out⟩
            case measure => simp [intOf]; omega
        · have hk4b : (k == (4 : Int)) = false := by simp [hk4]
          have hk4n : (k != (4 : Int)) = true := by simp [hk4]
          as_aux_lemma =>
            go_upto_region 12 with (fail)
            have HA := Lib.hid (HA.out.below ((Below.refl _ _).alloc (Nat.le_refl _) (.cells #[.int .i64 k, .int .i64 c] 29)))
            have HB := Lib.hid (HB.out.trans (((Below.refl _ _).alloc (Nat.le_refl _) (.cells #[.int .i64 k, .int .i64 c] 29)).mono HB.out.size))
            have hbx := Blk.new wr 29 #[.int .i64 k, .int .i64 c]
            generalize wr.alloc (.cells #[.int .i64 k, .int .i64 c] 29) = w2 at HA HB hbx ⊢
            generalize wr.heap.size = bx at hbx ⊢
            have b0 := hbx.cell 0
            have hbl := hbx.lt
            have HBX := Lib.hid hbx
            clear hbx
            go_wp2_with fail
            refine (tick_any w.heap.size w.heap.size g K 1 now (now + 1) rfl nx D false w2 HA.out (by omega) (by omega) hnx HB.out.size).mono ?_
            rintro e w3 h
            cases hr : readsT D (now + 1) false with
            | false =>
              obtain ⟨v6, out, g', rfl, ho, hm, hA, hH⟩ := h.no (hr)
              clear b0
              have HB3 := Lib.hid (HA.out.below_of hH (Nat.le_refl _) HB.out (Nat.le_refl _))
              have HA3 := Lib.hid (show ProbAt w3 w.heap.size w.heap.size g' K 1 ((now + 1 : Nat) : Int) _ _ from by simpa using hA)
              have b0 : w3.cell? ⟨bx, 0, none⟩ = _ := (World.cell?_of_block (hH.block bx HBX.out.lt (HA.out.ne_box HBX.out).1 (HA.out.ne_box HBX.out).2)).trans (HBX.out.cell 0)
              clear hA hH ho hm
              go_wp2_with fail
              go_roundw
              case rel => exact ⟨i + 1, now + 1, nx, _, _, by first | go_num | (rw [hq2]; done) | (rw [hq1]; done), by go_num, by omega, by omega, HA3.out, hnx, hn1, by omega, HB3.out⟩
              case measure => simp [intOf]; omega
            | true =>
              obtain ⟨v6, out, g', rfl, ho, hm, hA, hH⟩ := h.yes hr
              clear b0
              have HB3 := Lib.hid (HA.out.below_of hH (Nat.le_refl _) HB.out (Nat.le_refl _))
              have HA3 := Lib.hid (show ProbAt w3 w.heap.size w.heap.size g' K 1 ((now + 1 : Nat) : Int) _ _ from by simpa using hA)
              have b0 : w3.cell? ⟨bx, 0, none⟩ = _ := (World.cell?_of_block (hH.block bx HBX.out.lt (HA.out.ne_box HBX.out).1 (HA.out.ne_box HBX.out).2)).trans (HBX.out.cell 0)
              clear hA hH ho hm
              obtain ⟨q1, hQ1⟩ : ∃ q : Nat, q = (nx + 1) % K := ⟨_, rfl⟩
              have hq1 : ((nx : Int) + 1) % (K : Int) = (q1 : Int) := by rw [hQ1, Int.natCast_emod]; rfl
              have HQ1 := Lib.hid hQ1
              have hqk : q1 < K := by rw [hQ1]; exact Nat.mod_lt _ (by omega)
              have hn0 : ¬ (nx : Int) < 0 := by omega
              have hne : ((nx : Int) == 1) = false := by simp; omega
              have hnn : ((nx : Int) != (nx : Int)) = false := by simp
              clear hQ1
              by_cases he : (q1 : Int) = 1
              · have HS := Lib.hid (show stepN K 1 nx = q2 by unfold stepN; rw [← HQ1.out, if_pos (by omega), HQ2.out])
                go_wp2_with fail
                go_roundw
                case rel => exact ⟨i + 1, now + 1, q2, _, _, by first | go_num | (rw [hq2]; done) | (rw [hq1]; done), by go_num, by omega, by omega, HS.out ▸ HA3.out, by have := HQ2.out; rw [this]; exact Nat.mod_lt _ (by omega), HN2.out, by omega, HB3.out⟩
                case measure => simp [intOf]; omega
              · have HS := Lib.hid (show stepN K 1 nx = q1 by unfold stepN; rw [← HQ1.out, if_neg (by omega)])
                go_wp2_with fail
                go_roundw
                case rel => exact ⟨i + 1, now + 1, q1, _, _, by first | go_num | (rw [hq2]; done) | (rw [hq1]; done), by go_num, by omega, by omega, HS.out ▸ HA3.out, hqk, by omega, by omega, HB3.out⟩
                case measure => simp [intOf]; omega
    · by_cases hn : i < acts.length
      · have h90 : ¬ (i : Int) < 90 := by omega
        have hn' : (i : Int) < (acts.length : Int) := by omega
        go_wp2_with fail
        go_ret
        exact ⟨rfl, HB.out⟩
      · have hn' : ¬ (i : Int) < (acts.length : Int) := by omega
        go_wp2_with fail
        go_ret
        exact ⟨rfl, HB.out⟩
end Go.Proofs.Ytaennccfhdjaaaa
