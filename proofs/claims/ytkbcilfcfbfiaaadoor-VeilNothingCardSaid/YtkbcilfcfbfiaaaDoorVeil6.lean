/- veil: what must come at any rate; VeilVeils, VeilRows, VeilTwice answer true. -/
import Derived.Test.YtkbcilfcfbfiaaaDoorVeil5
namespace Go.Proofs.YtkbcilfcfbfiaaaDoor
open Go.RowKit Go.Proofs
set_option linter.unusedSimpArgs false
set_option linter.unusedVariables false
theorem veilS_size {k : ByteArray} {a : Int} {t : ByteArray} (h : wrongOf a (t.size : Int) = 0) : (veilS k a t).size = t.size := by
  unfold veilS; rw [if_pos h, strOf_size, veilOf_length, ← by_size]
theorem veilS_twice {k : ByteArray} {a : Int} {t : ByteArray} (h : wrongOf a (t.size : Int) = 0) : veilS k a (veilS k a t) = t := by
  have hs := veilS_size (k := k) h
  have h2 : wrongOf a ((veilS k a t).size : Int) = 0 := by rw [hs]; exact h
  unfold veilS at h2 ⊢
  rw [if_pos h] at h2 ⊢
  rw [if_pos h2, by_strOf, veilOf_twice, strOf_by]
theorem veilS_at {k : ByteArray} {a : Int} {t : ByteArray} (h : wrongOf a (t.size : Int) = 0) (i : Nat) (hi : i < (veilS k a t).size) (hit : i < t.size) : (veilS k a t)[i] = t[i] ^^^ rowAt (by_ k) a i := by
  rw [← by_at (veilS k a t) i hi, ← by_at t i hit]
  have hv : by_ (veilS k a t) = veilOf (by_ k) a (by_ t) := by unfold veilS; rw [if_pos h, by_strOf]
  rw [hv, List.getD_eq_getElem?_getD, veilOf_get _ _ _ _ (by rw [← by_size]; exact hit)]; rfl
set_option maxRecDepth 100000 in
set_option maxHeartbeats 4000000 in
theorem awakeV_any (w : World) (hk : Consts w) :
    Calls Tryd.prog 43 #[] w fun e w' => e = .returned (.bool true) ∧ Below w.heap.size w w' := by
  have HK := Lib.hid hk
  clear hk
  have hw0 : wrongOf 1 (abc.size : Int) = 0 := by decide
  have hv1 := fun w hk => veil_any (strOf [107]) (by decide) 1 abc (by decide) w hk
  have hs := veilS_size (k := strOf [107]) hw0
  have htw := veilS_twice (k := strOf [107]) hw0
  have hat := fun h => veilS_at (k := strOf [107]) hw0 0 h (by decide)
  have hr := fun w => rbyte0_any (strOf [107]) (by decide) 1 (by decide) w
  have hv2 := fun w hk => veil_any (strOf [107]) (by decide) 1 (veilS (strOf [107]) 1 abc) (by rw [hs]; decide) w hk
  rw [hs, hw0, htw] at hv2
  rw [hw0] at hv1
  generalize veilS (strOf [107]) 1 abc = V at hv1 hs hat hv2
  have h0 : 0 < V.size := by rw [hs]; decide
  have hx := hat h0
  have habc : abc[0]'(by decide) = 97 := rfl
  rw [habc] at hx
  generalize rowAt (by_ (strOf [107])) 1 0 = r at hx hr
  have hbx : bits .xor .u8 97 (r.toNat : Int) = (V[0].toNat : Int) := by rw [hx]; exact B_xor 97 r
  have hs3 : V.size = 3 := hs
  change ∀ w, Consts w → Calls _ 41 #[.string ⟨#[107]⟩, .int .i64 1, .string ⟨#[97, 98, 99]⟩] w _ at hv1
  change ∀ w, Calls _ 71 #[.string ⟨#[107]⟩, .int .i64 1, .int .i64 0] w _ at hr
  change ∀ w, Consts w → Calls _ 41 #[.string ⟨#[107]⟩, .int .i64 1, .string V] w (fun e w' => e = .returned (.tuple #[.string ⟨#[97, 98, 99]⟩, .int .i64 0]) ∧ _) at hv2
  have H1 := Lib.hid hv1
  have H2 := Lib.hid hv2
  have HR := Lib.hid hr
  have HBX := Lib.hid hbx
  clear hv1 hv2 hr hbx hs hat htw hw0 hx habc
  go_enter Tryd.func43, Tryd.ntmps43
  go_wp2_with fail
  refine (H1.out w HK.out).mono ?_
  rintro e w2 ⟨rfl, hb⟩
  have HB := Lib.hid hb
  clear hb
  go_wp2_with fail
  refine (H2.out w2 (HK.out.below HB.out)).mono ?_
  rintro e w3 ⟨rfl, hb⟩
  have HB := Lib.hid (HB.out.trans (hb.mono HB.out.size))
  clear hb
  have i3 : (V.size : Int) = 3 := by omega
  have i0 : (0 : Int) < (V.size : Int) := by omega
  go_upto_region 3 with (fail)
  refine wp_region_keep (KeptOn fun _ => True) (KeptOn.refl _) (KeptOn.trans) [(0,0),(1,0),(2,0),(3,0),(4,0),(5,0),(6,1),(7,0),(8,0),(9,0),(10,0),(11,0),(12,0),(13,0),(14,0),(15,0),(16,0),(17,0),(18,0),(19,0),(20,0),(21,0),(22,0)] (by kernel_rfl) (by kernel_rfl) ?_
  iterate 6 (refine keep_quiet (v := ?_) rfl (fun _ _ _ h => h) (by rfl) (fun w' hR => ?_) ?_; rotate_left; (go_simp; try with_reducible rfl); simp only [Act.put, List.setIfInBounds_toArray, List.set_cons_zero, List.set_cons_succ])
  refine keep_eff rfl ?_
  go_wp2_with fail
  refine (HR.out w3.drew).mono ?_
  rintro e w4 ⟨rfl, hb⟩
  have hK : KeptOn (fun _ => True) w3.drew w4 := KeptOn.below hb (fun b hb _ => hb)
  have HB := Lib.hid ((HB.out.drewN 1).trans (hb.mono HB.out.size))
  clear hb
  go_wp2_with fail
  refine keepPost_need hK ?_
  clear hK
  iterate 1 (refine keep_quiet (v := ?_) rfl (fun _ _ _ h => h) (by rfl) (fun w' hR => ?_) ?_; rotate_left; (go_simp; try with_reducible rfl); simp only [Act.put, List.setIfInBounds_toArray, List.set_cons_zero, List.set_cons_succ])
  rw [HBX.out]
  iterate 15 (refine keep_quiet (v := ?_) rfl (fun _ _ _ h => h) (by rfl) (fun w' hR => ?_) ?_; rotate_left; (go_simp; try with_reducible rfl); simp only [Act.put, List.setIfInBounds_toArray, List.set_cons_zero, List.set_cons_succ])
  refine keep_done ?_
  go_wp2_with fail
  go_ret
  exact ⟨rfl, HB.out⟩
theorem few4_lim {t : ByteArray} (h : t.size ≤ 140737488351232) : (few4 t).size < 150000000000000 := by
  rcases few4_size t with h1 | ⟨_, h1⟩
  · omega
  · rw [h1]; omega
set_option maxRecDepth 100000 in
set_option maxHeartbeats 4000000 in
theorem veilVeils_any (k0 : ByteArray) (hk0 : k0.size ≤ 140737488351232) (a : Int) (t0 : ByteArray) (ht0 : t0.size ≤ 140737488351232) (w : World) (hk : Consts w) :
    Calls Tryd.prog 13 #[.string k0, .int .i64 a, .string t0] w fun e w' => e = .returned (.bool true) ∧ Below w.heap.size w w' := by
  have HK := Lib.hid hk
  have HKS := Lib.hid (few4_lim hk0)
  have HTS := Lib.hid (few4_lim ht0)
  clear hk
  go_enter Tryd.func13, Tryd.ntmps13
  go_wp2_with fail
  refine (few4_any k0 w).mono ?_
  rintro e w1 ⟨rfl, rfl⟩
  generalize few4 k0 = k at HKS ⊢
  go_wp2_with fail
  refine (few4_any t0 w).mono ?_
  rintro e w1 ⟨rfl, rfl⟩
  generalize few4 t0 = t at HTS ⊢
  have h1 := veil_any k HKS.out a t (by have := HTS.out; omega) w HK.out
  have h2 := fun w => rveil_any k HKS.out a t w
  generalize veilS k a t = V at h1 h2
  generalize wrongOf a (t.size : Int) = E at h1 h2
  have H1 := Lib.hid h1
  have H2 := Lib.hid h2
  clear h1 h2
  go_wp2_with fail
  refine H1.out.mono ?_
  rintro e w2 ⟨rfl, hb⟩
  have HB := Lib.hid hb
  clear hb
  go_wp2_with fail
  refine (H2.out w2).mono ?_
  rintro e w3 ⟨rfl, hb⟩
  have HB := Lib.hid (HB.out.trans (hb.mono HB.out.size))
  clear hb
  go_wp2_with fail
  refine (awakeV_any w3 (HK.out.below HB.out)).mono ?_
  rintro e w4 ⟨rfl, hb⟩
  have HB := Lib.hid (HB.out.trans (hb.mono HB.out.size))
  clear hb
  go_wp2_with fail
  go_ret
  exact ⟨rfl, HB.out⟩
def cut6 (n : Int) : Int := if 600 < n ∧ n ≤ 16384 then 600 else n
set_option maxRecDepth 100000 in
set_option maxHeartbeats 4000000 in
theorem veilRows_any (k0 : ByteArray) (hk0 : k0.size ≤ 140737488351232) (a n : Int) (hn1 : -9223372036854775808 ≤ n) (hn2 : n ≤ 9223372036854775807) (w : World) (hk : Consts w) :
    Calls Tryd.prog 14 #[.string k0, .int .i64 a, .int .i64 n] w fun e w' => e = .returned (.bool true) ∧ Below w.heap.size w w' := by
  have HK := Lib.hid hk
  have HKS := Lib.hid (few4_lim hk0)
  clear hk
  go_enter Tryd.func14, Tryd.ntmps14
  go_wp2_with fail
  refine (few4_any k0 w).mono ?_
  rintro e w1 ⟨rfl, rfl⟩
  generalize few4 k0 = k at HKS ⊢
  by_cases g1 : 600 < n
  · by_cases g2 : n ≤ 16384
    · have g3 := g1
      have h1 := row_any k HKS.out a (600) w HK.out
      have h2 := fun w => rrow_any k HKS.out a (600) w
      generalize rowS k a (600) = V at h1 h2
      generalize wrongOf a (600) = E at h1 h2
      have H1 := Lib.hid h1
      have H2 := Lib.hid h2
      clear h1 h2
      go_wp2_with fail
      refine H1.out.mono ?_
      rintro e w2 ⟨rfl, hb⟩
      have HB := Lib.hid hb
      clear hb
      go_wp2_with fail
      refine (H2.out w2).mono ?_
      rintro e w3 ⟨rfl, hb⟩
      have HB := Lib.hid (HB.out.trans (hb.mono HB.out.size))
      clear hb
      go_wp2_with fail
      refine (awakeV_any w3 (HK.out.below HB.out)).mono ?_
      rintro e w4 ⟨rfl, hb⟩
      have HB := Lib.hid (HB.out.trans (hb.mono HB.out.size))
      clear hb
      go_wp2_with fail
      go_ret
      exact ⟨rfl, HB.out⟩
    · have g3 := g1
      have h1 := row_any k HKS.out a (n) w HK.out
      have h2 := fun w => rrow_any k HKS.out a (n) w
      generalize rowS k a (n) = V at h1 h2
      generalize wrongOf a (n) = E at h1 h2
      have H1 := Lib.hid h1
      have H2 := Lib.hid h2
      clear h1 h2
      go_wp2_with fail
      refine H1.out.mono ?_
      rintro e w2 ⟨rfl, hb⟩
      have HB := Lib.hid hb
      clear hb
      go_wp2_with fail
      refine (H2.out w2).mono ?_
      rintro e w3 ⟨rfl, hb⟩
      have HB := Lib.hid (HB.out.trans (hb.mono HB.out.size))
      clear hb
      go_wp2_with fail
      refine (awakeV_any w3 (HK.out.below HB.out)).mono ?_
      rintro e w4 ⟨rfl, hb⟩
      have HB := Lib.hid (HB.out.trans (hb.mono HB.out.size))
      clear hb
      go_wp2_with fail
      go_ret
      exact ⟨rfl, HB.out⟩
  · have g3 := g1
    have h1 := row_any k HKS.out a (n) w HK.out
    have h2 := fun w => rrow_any k HKS.out a (n) w
    generalize rowS k a (n) = V at h1 h2
    generalize wrongOf a (n) = E at h1 h2
    have H1 := Lib.hid h1
    have H2 := Lib.hid h2
    clear h1 h2
    go_wp2_with fail
    refine H1.out.mono ?_
    rintro e w2 ⟨rfl, hb⟩
    have HB := Lib.hid hb
    clear hb
    go_wp2_with fail
    refine (H2.out w2).mono ?_
    rintro e w3 ⟨rfl, hb⟩
    have HB := Lib.hid (HB.out.trans (hb.mono HB.out.size))
    clear hb
    go_wp2_with fail
    refine (awakeV_any w3 (HK.out.below HB.out)).mono ?_
    rintro e w4 ⟨rfl, hb⟩
    have HB := Lib.hid (HB.out.trans (hb.mono HB.out.size))
    clear hb
    go_wp2_with fail
    go_ret
    exact ⟨rfl, HB.out⟩
set_option maxRecDepth 100000 in
set_option maxHeartbeats 4000000 in
theorem veilTwice_any (k0 : ByteArray) (hk0 : k0.size ≤ 140737488351232) (a : Int) (t0 : ByteArray) (ht0 : t0.size ≤ 140737488351232) (w : World) (hk : Consts w) :
    Calls Tryd.prog 15 #[.string k0, .int .i64 a, .string t0] w fun e w' => e = .returned (.bool true) ∧ Below w.heap.size w w' := by
  have HK := Lib.hid hk
  have HKS := Lib.hid (few4_lim hk0)
  have HTS := Lib.hid (few4_lim ht0)
  clear hk
  go_enter Tryd.func15, Tryd.ntmps15
  go_wp2_with fail
  refine (few4_any k0 w).mono ?_
  rintro e w1 ⟨rfl, rfl⟩
  generalize few4 k0 = k at HKS ⊢
  go_wp2_with fail
  refine (few4_any t0 w).mono ?_
  rintro e w1 ⟨rfl, rfl⟩
  generalize few4 t0 = t at HTS ⊢
  have h1 := veil_any k HKS.out a t (by have := HTS.out; omega) w HK.out
  by_cases hw : wrongOf a (t.size : Int) = 0
  · have hs := veilS_size (k := k) hw
    have htw := veilS_twice (k := k) hw
    have h2 := fun w hk => veil_any k HKS.out a (veilS k a t) (by rw [hs]; have := HTS.out; omega) w hk
    rw [hs, htw, hw] at h2
    rw [hw] at h1
    generalize veilS k a t = V at h1 h2 hs
    have H1 := Lib.hid h1
    have H2 := Lib.hid h2
    have HS := Lib.hid hs
    clear h1 h2 hs htw hw
    go_wp2_with fail
    refine H1.out.mono ?_
    rintro e w2 ⟨rfl, hb⟩
    have HB := Lib.hid hb
    clear hb
    go_wp2_with fail
    refine (H2.out w2 (HK.out.below HB.out)).mono ?_
    rintro e w3 ⟨rfl, hb⟩
    have HB := Lib.hid (HB.out.trans (hb.mono HB.out.size))
    clear hb
    go_wp2_with fail
    refine (awakeV_any w3 (HK.out.below HB.out)).mono ?_
    rintro e w4 ⟨rfl, hb⟩
    have HB := Lib.hid (HB.out.trans (hb.mono HB.out.size))
    clear hb
    have hs := HS.out
    have hsi : (V.size : Int) = (t.size : Int) := by rw [hs]
    go_wp2_with fail
    go_ret
    exact ⟨rfl, HB.out⟩
  · rw [veilS_bad hw] at h1
    generalize wrongOf a (t.size : Int) = E at h1 hw
    have H1 := Lib.hid h1
    clear h1
    go_wp2_with fail
    refine H1.out.mono ?_
    rintro e w2 ⟨rfl, hb⟩
    have HB := Lib.hid hb
    clear hb
    go_wp2_with fail
    refine (awakeV_any w2 (HK.out.below HB.out)).mono ?_
    rintro e w3 ⟨rfl, hb⟩
    have HB := Lib.hid (HB.out.trans (hb.mono HB.out.size))
    clear hb
    go_wp2_with fail
    go_ret
    exact ⟨rfl, HB.out⟩
end Go.Proofs.YtkbcilfcfbfiaaaDoor
