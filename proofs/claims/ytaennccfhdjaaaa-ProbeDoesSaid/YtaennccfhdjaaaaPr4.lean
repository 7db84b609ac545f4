/- container/heap's down. -/
import Derived.Test.YtaennccfhdjaaaaPr3
namespace Go.Proofs.Ytaennccfhdjaaaa
open Go.RowKit Go.Proofs
set_option linter.unusedSimpArgs false
set_option linter.unusedVariables false
/-- What down leaves. -/
def DownP (base p g cap : Nat) (N me now next : Int) (f : Nat → En) (m n i0 : Nat) (w : World) (e : Ending) (w' : World) : Prop :=
  ∃ (b : Bool) (f' : Nat → En), e = .returned (.bool b) ∧ (b = true → HeapF f' n) ∧ (b = false → UpI f' n i0) ∧ SameC n f f' ∧ (∀ k, n ≤ k → f' k = f k) ∧ PAt w' base p (.slice (some ⟨g, 0, none⟩) m cap) N me now next f' m ∧ w.grownBy w' (some g)
theorem downP_of {base p g cap : Nat} {N me now next : Int} {f f' : Nat → En} {m n i0 j : Nat} {w w' : World} (hD : DownI f' n i0 j) (hS : SameC n f f') (hK : ∀ k, n ≤ k → f' k = f k)
    (hA : PAt w' base p (.slice (some ⟨g, 0, none⟩) m cap) N me now next f' m) (hG : w.grownBy w' (some g)) (hs : ∀ k, 0 < k → k < n → par k = j → leE (f' j) (f' k)) :
    DownP base p g cap N me now next f m n i0 w (.returned (.bool (decide (i0 < j)))) w' := by
  refine ⟨_, f', rfl, fun h => ?_, fun h => ?_, hS, hK, hA, hG⟩
  · have := of_decide_eq_true h
    exact hD.done hs (by omega)
  · have := of_decide_eq_false h
    have := hD.ge
    obtain rfl : j = i0 := by omega
    exact hD.still hs
set_option maxRecDepth 100000 in
set_option maxHeartbeats 2000000 in
theorem down_any (base p g cap : Nat) (N me now next : Int) (f : Nat → En) (m n i0 : Nat) (w : World) (hP : PAt w base p (.slice (some ⟨g, 0, none⟩) m cap) N me now next f m) (hi : i0 ≤ n) (hn : n ≤ m) (hm : m ≤ 100) (hB : BotI f n i0) :
    Calls Try.prog 29 #[.iface 51 (.pointer (some ⟨p, 4, none⟩)), .int .i64 i0, .int .i64 n] w fun e w' => DownP base p g cap N me now next f m n i0 w e w' := by
  go_enter Try.func29, Try.ntmps29
  go_wp2_with fail
  go_loopw [7, 8, 9, 10] (fun v7 _ _ _ wr => ∃ (j : Nat) (f' : Nat → En), v7 = .int .i64 (j : Int) ∧ j ≤ n ∧ DownI f' n i0 j ∧ SameC n f f' ∧ (∀ k, n ≤ k → f' k = f k) ∧ PAt wr base p (.slice (some ⟨g, 0, none⟩) m cap) N me now next f' m ∧ w.grownBy wr (some g)) (fun v7 _ _ _ _ => n - (intOf v7).toNat)
  case atStart => exact ⟨i0, f, rfl, hi, hB.down, .refl _ _, fun _ _ => rfl, hP, grownBy_of_below (Below.refl _ _) _⟩
  case round =>
    obtain ⟨j, f', rfl, hj, hD, hS, hK, hA, hG⟩ := hrel
    obtain ⟨c1, hC1⟩ : ∃ c1 : Nat, c1 = 2 * j + 1 := ⟨_, rfl⟩
    obtain ⟨c2, hC2⟩ : ∃ c2 : Nat, c2 = c1 + 1 := ⟨_, rfl⟩
    have hq1 : 2 * (j : Int) + 1 = (c1 : Int) := by omega
    have hq2 : (c1 : Int) + 1 = (c2 : Int) := by omega
    have hc0 : ¬ (c1 : Int) < 0 := by omega
    have HC1 := Lib.hid hC1
    have HC2 := Lib.hid hC2
    have HD := Lib.hid hD
    have HS := Lib.hid hS
    have HK := Lib.hid hK
    have HA := Lib.hid hA
    have HG := Lib.hid hG
    clear hC1 hC2 hD hS hK hA hG hP hB
    by_cases h1 : (n : Int) ≤ (c1 : Int)
    · go_wp2_with fail
      go_ret
      have hc1 := HC1.out
      exact downP_of HD.out HS.out HK.out HA.out HG.out fun k k0 kn kp => by
        rcases (par_kids k0).1 kp with e | e <;> omega
    · have hmL := less_at HA.out.sl
      by_cases h2 : (c2 : Int) < (n : Int)
      · go_wp2_with fail
        refine (less_any g m cap c2 c1 f' wr HA.out.cells (by omega) (by omega)).mono ?_
        rintro e w2 ⟨rfl, hb⟩
        have HA := Lib.hid (HA.out.below hb)
        have HG := Lib.hid (grownBy_trans HG.out (grownBy_of_below hb (some g)))
        clear hb hmL
        have hmL := less_at HA.out.sl
        by_cases hlk : lessE (f' c2) (f' c1)
        · have hd2 : decide (lessE (f' c2) (f' c1)) = true := decide_eq_true hlk
          have HLK := Lib.hid hlk
          clear hlk
          go_wp2_with fail
          clear hd2
          refine (less_any g m cap c2 j f' w2 HA.out.cells (by omega) (by omega)).mono ?_
          rintro e w3 ⟨rfl, hb⟩
          have HA := Lib.hid (HA.out.below hb)
          have HG := Lib.hid (grownBy_trans HG.out (grownBy_of_below hb (some g)))
          clear hb hmL
          by_cases hl : lessE (f' c2) (f' j)
          · have hd : decide (lessE (f' c2) (f' j)) = true := decide_eq_true hl
            have HL := Lib.hid hl
            have hmS := swap_at HA.out.sl
            clear hl
            go_wp2_with fail
            refine (swap_any g m cap j c2 f' w3 base HA.out.own (by omega) (by omega)).mono ?_
            rintro e w4 ⟨rfl, ho, hg⟩
            have HA := Lib.hid (HA.out.swapped ho hg)
            have HG := Lib.hid (grownBy_trans HG.out hg)
            clear ho hg hmS hd
            go_wp2_with fail
            go_roundw
            case rel =>
              have hc1 := HC1.out
              have hc2 := HC2.out
              refine ⟨c2, swp f' j c2, rfl, by omega, HD.out.step (by omega) (by omega) (by unfold par; omega) HL.out ?_, HS.out.trans (.of_swp n f' (by omega) (by omega)), fun k hk => (swp_else f' (by omega) (by omega)).trans (HK.out k hk), HA.out, HG.out⟩
              intro k k0 kn kp
              rcases (par_kids k0).1 kp with e | e
              · rw [show k = c1 by omega]; exact .of_less HLK.out
              · rw [show k = c2 by omega]; exact .refl _
            case measure => have hc1 := HC1.out; have hc2 := HC2.out; simp [intOf]; omega
          · have hd : decide (lessE (f' c2) (f' j)) = false := decide_eq_false hl
            have HL := Lib.hid hl
            clear hl
            go_wp2_with fail
            go_ret
            have hc1 := HC1.out
            have hc2 := HC2.out
            refine downP_of HD.out HS.out HK.out HA.out HG.out ?_
            intro k k0 kn kp
            refine leE.trans (b := f' c2) HL.out ?_
            rcases (par_kids k0).1 kp with e | e
            · rw [show k = c1 by omega]; exact .of_less HLK.out
            · rw [show k = c2 by omega]; exact .refl _
        · have hd2 : decide (lessE (f' c2) (f' c1)) = false := decide_eq_false hlk
          have HLK := Lib.hid hlk
          clear hlk
          go_wp2_with fail
          clear hd2
          refine (less_any g m cap c1 j f' w2 HA.out.cells (by omega) (by omega)).mono ?_
          rintro e w3 ⟨rfl, hb⟩
          have HA := Lib.hid (HA.out.below hb)
          have HG := Lib.hid (grownBy_trans HG.out (grownBy_of_below hb (some g)))
          clear hb hmL
          by_cases hl : lessE (f' c1) (f' j)
          · have hd : decide (lessE (f' c1) (f' j)) = true := decide_eq_true hl
            have HL := Lib.hid hl
            have hmS := swap_at HA.out.sl
            clear hl
            go_wp2_with fail
            refine (swap_any g m cap j c1 f' w3 base HA.out.own (by omega) (by omega)).mono ?_
            rintro e w4 ⟨rfl, ho, hg⟩
            have HA := Lib.hid (HA.out.swapped ho hg)
            have HG := Lib.hid (grownBy_trans HG.out hg)
            clear ho hg hmS hd
            go_wp2_with fail
            go_roundw
            case rel =>
              have hc1 := HC1.out
              have hc2 := HC2.out
              refine ⟨c1, swp f' j c1, rfl, by omega, HD.out.step (by omega) (by omega) (by unfold par; omega) HL.out ?_, HS.out.trans (.of_swp n f' (by omega) (by omega)), fun k hk => (swp_else f' (by omega) (by omega)).trans (HK.out k hk), HA.out, HG.out⟩
              intro k k0 kn kp
              rcases (par_kids k0).1 kp with e | e
              · rw [show k = c1 by omega]; exact .refl _
              · rw [show k = c2 by omega]; exact HLK.out
            case measure => have hc1 := HC1.out; have hc2 := HC2.out; simp [intOf]; omega
          · have hd : decide (lessE (f' c1) (f' j)) = false := decide_eq_false hl
            have HL := Lib.hid hl
            clear hl
            go_wp2_with fail
            go_ret
            have hc1 := HC1.out
            have hc2 := HC2.out
            refine downP_of HD.out HS.out HK.out HA.out HG.out ?_
            intro k k0 kn kp
            refine leE.trans (b := f' c1) HL.out ?_
            rcases (par_kids k0).1 kp with e | e
            · rw [show k = c1 by omega]; exact .refl _
            · rw [show k = c2 by omega]; exact HLK.out
      · go_wp2_with fail
        refine (less_any g m cap c1 j f' wr HA.out.cells (by omega) (by omega)).mono ?_
        rintro e w3 ⟨rfl, hb⟩
        have HA := Lib.hid (HA.out.below hb)
        have HG := Lib.hid (grownBy_trans HG.out (grownBy_of_below hb (some g)))
        clear hb hmL
        by_cases hl : lessE (f' c1) (f' j)
        · have hd : decide (lessE (f' c1) (f' j)) = true := decide_eq_true hl
          have HL := Lib.hid hl
          have hmS := swap_at HA.out.sl
          clear hl
          go_wp2_with fail
          refine (swap_any g m cap j c1 f' w3 base HA.out.own (by omega) (by omega)).mono ?_
          rintro e w4 ⟨rfl, ho, hg⟩
          have HA := Lib.hid (HA.out.swapped ho hg)
          have HG := Lib.hid (grownBy_trans HG.out hg)
          clear ho hg hmS hd
          go_wp2_with fail
          go_roundw
          case rel =>
            have hc1 := HC1.out
            have hc2 := HC2.out
            refine ⟨c1, swp f' j c1, rfl, by omega, HD.out.step (by omega) (by omega) (by unfold par; omega) HL.out ?_, HS.out.trans (.of_swp n f' (by omega) (by omega)), fun k hk => (swp_else f' (by omega) (by omega)).trans (HK.out k hk), HA.out, HG.out⟩
            intro k k0 kn kp
            rcases (par_kids k0).1 kp with e | e
            · rw [show k = c1 by omega]; exact .refl _
            · omega
          case measure => have hc1 := HC1.out; have hc2 := HC2.out; simp [intOf]; omega
        · have hd : decide (lessE (f' c1) (f' j)) = false := decide_eq_false hl
          have HL := Lib.hid hl
          clear hl
          go_wp2_with fail
          go_ret
          have hc1 := HC1.out
          have hc2 := HC2.out
          refine downP_of HD.out HS.out HK.out HA.out HG.out ?_
          intro k k0 kn kp
          refine leE.trans (b := f' c1) HL.out ?_
          rcases (par_kids k0).1 kp with e | e
          · rw [show k = c1 by omega]; exact .refl _
          · omega
end Go.Proofs.Ytaennccfhdjaaaa
