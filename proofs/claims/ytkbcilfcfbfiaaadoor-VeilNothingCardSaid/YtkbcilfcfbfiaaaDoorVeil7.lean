/- VeilShape answers true. -/
import Derived.Test.YtkbcilfcfbfiaaaDoorVeil6
import Derived.Test.YtkbcilfcfbfiaaaDoorKeep2
namespace Go.Proofs.YtkbcilfcfbfiaaaDoor
open Go.RowKit Go.Proofs
set_option linter.unusedSimpArgs false
set_option linter.unusedVariables false
theorem xor_beq (c d r : UInt8) : (((c ^^^ r).toNat : Int) == ((d ^^^ r).toNat : Int)) = ((c.toNat : Int) == (d.toNat : Int)) := by
  by_cases h : c = d
  · subst h; simp
  · have h1 : c.toNat ≠ d.toNat := fun e => h (UInt8.toNat_inj.1 e)
    have h2 : (c ^^^ r).toNat ≠ (d ^^^ r).toNat := fun e => h (by
      have e2 := UInt8.toNat_inj.1 e
      have e3 := congrArg (· ^^^ r) e2
      simpa [UInt8.xor_assoc] using e3)
    rw [beq_eq_false_iff_ne.2 (by omega), beq_eq_false_iff_ne.2 (by omega)]
theorem xor_pair (c d r : UInt8) : (c ^^^ r) ^^^ (d ^^^ r) = c ^^^ d := by
  rw [UInt8.xor_comm d r, UInt8.xor_assoc, ← UInt8.xor_assoc r r d]; simp
set_option maxRecDepth 100000 in
set_option maxHeartbeats 4000000 in
theorem veilShape_any (k0 : ByteArray) (hk0 : k0.size ≤ 140737488351232) (a : Int) (s0 : ByteArray) (hs0 : s0.size ≤ 140737488351232) (t0 : ByteArray) (ht0 : t0.size ≤ 140737488351232) (w : World) (hk : Consts w) :
    Calls Tryd.prog 16 #[.agg #[.string k0, .int .i64 a, .string s0, .string t0]] w fun e w' => e = .returned (.bool true) ∧ Below w.heap.size w w' := by
  have HK := Lib.hid hk
  have HKS := Lib.hid (few4_lim hk0)
  have HSS := Lib.hid (few4_lim hs0)
  have HTS := Lib.hid (few4_lim ht0)
  clear hk
  go_enter Tryd.func16, Tryd.ntmps16
  go_upto_region 1 with (fail)
  change Code.wp _ _ _ _ (w.alloc (.cells #[.string k0, .int .i64 a, .string s0, .string t0] 55))
  have hD : Blk (w.alloc (.cells #[.string k0, .int .i64 a, .string s0, .string t0] 55)) w.heap.size 55 #[.string k0, .int .i64 a, .string s0, .string t0] := Blk.new w 55 _
  have HB := Lib.hid ((Below.refl w.heap.size w).alloc (Nat.le_refl _) (.cells #[.string k0, .int .i64 a, .string s0, .string t0] 55))
  generalize w.alloc (.cells #[.string k0, .int .i64 a, .string s0, .string t0] 55) = w1 at hD HB ⊢
  have c0 : ∀ w', KeptOn (fun _ => True) w1.drew w' → w'.cell? ⟨w.heap.size, 0, none⟩ = some (.string k0) := fun w' hR => (Blk.kept (w := w1.drew) hD hR trivial).cell 0
  have c1 : ∀ w', KeptOn (fun _ => True) w1.drew w' → w'.cell? ⟨w.heap.size, 1, none⟩ = some (.int .i64 a) := fun w' hR => (Blk.kept (w := w1.drew) hD hR trivial).cell 1
  have c2 : ∀ w', KeptOn (fun _ => True) w1.drew w' → w'.cell? ⟨w.heap.size, 2, none⟩ = some (.string s0) := fun w' hR => (Blk.kept (w := w1.drew) hD hR trivial).cell 2
  have c3 : ∀ w', KeptOn (fun _ => True) w1.drew w' → w'.cell? ⟨w.heap.size, 3, none⟩ = some (.string t0) := fun w' hR => (Blk.kept (w := w1.drew) hD hR trivial).cell 3
  clear hD
  refine wp_region_keep (KeptOn fun _ => True) (KeptOn.refl _) (KeptOn.trans) [(0,0),(1,0),(3,0),(4,0),(5,0),(6,0),(8,0),(9,0),(2,1),(7,1),(10,1),(11,0),(12,0),(13,0),(14,0)] (by kernel_rfl) (by kernel_rfl) ?_
  iterate 8 (refine keep_quiet (v := ?_) rfl (fun _ _ _ h => h) (by rfl) (fun w' hR => ?_) ?_; rotate_left; (go_simp; try with_reducible rfl); simp only [Act.put, List.setIfInBounds_toArray, List.set_cons_zero, List.set_cons_succ])
  clear c0 c1 c2 c3
  refine keep_eff rfl ?_
  go_wp2_with fail
  refine (few4_any k0 w1.drew).mono ?_
  rintro e w9 ⟨rfl, rfl⟩
  generalize few4 k0 = k at HKS ⊢
  go_wp2_with fail
  refine keepPost_need (KeptOn.refl _ _) ?_
  refine keep_eff rfl ?_
  go_wp2_with fail
  refine (few4_any s0 w1.drew).mono ?_
  rintro e w9 ⟨rfl, rfl⟩
  generalize few4 s0 = s at HSS ⊢
  go_wp2_with fail
  refine keepPost_need (KeptOn.refl _ _) ?_
  refine keep_eff rfl ?_
  go_wp2_with fail
  refine (few4_any t0 w1.drew).mono ?_
  rintro e w9 ⟨rfl, rfl⟩
  generalize few4 t0 = t at HTS ⊢
  go_wp2_with fail
  refine keepPost_need (KeptOn.refl _ _) ?_
  iterate 4 (refine keep_quiet (v := ?_) rfl (fun _ _ _ h => h) (by rfl) (fun w' hR => ?_) ?_; rotate_left; (go_simp; try with_reducible rfl); simp only [Act.put, List.setIfInBounds_toArray, List.set_cons_zero, List.set_cons_succ])
  refine keep_done ?_
  have HB := Lib.hid (HB.out.drewN 1)
  change Exit.then _ _ _ _ w1.drew
  have hBd : Below w.heap.size w w1.drew := HB.out
  generalize w1.drew = w2 at hBd ⊢
  have HB := Lib.hid hBd
  clear hBd
  have h1 := veil_any k HKS.out a s (by have := HSS.out; omega) w2 (HK.out.below HB.out)
  have h2 := fun w hk => veil_any k HKS.out a t (by have := HTS.out; omega) w hk
  by_cases hw1 : wrongOf a (s.size : Int) = 0
  · by_cases hw2 : wrongOf a (t.size : Int) = 0
    · have hz1 := veilS_size (k := k) hw1
      have hz2 := veilS_size (k := k) hw2
      have ha1 := fun i hi hit => veilS_at (k := k) hw1 i hi hit
      have ha2 := fun i hi hit => veilS_at (k := k) hw2 i hi hit
      have hr1 := wrongOf_ok hw1
      have hr2 := wrongOf_ok hw2
      rw [hw1] at h1
      rw [hw2] at h2
      generalize veilS k a s = X at h1 hz1 ha1
      generalize veilS k a t = Y at h2 hz2 ha2
      have H1 := Lib.hid h1
      have H2 := Lib.hid h2
      have HA1 := Lib.hid ha1
      have HA2 := Lib.hid ha2
      clear h1 h2 ha1 ha2 hw1 hw2
      go_wp2_with fail
      refine H1.out.mono ?_
      rintro e w3 ⟨rfl, hb⟩
      have HB := Lib.hid (HB.out.trans (hb.mono HB.out.size))
      clear hb
      go_wp2_with fail
      refine (H2.out w3 (HK.out.below HB.out)).mono ?_
      rintro e w4 ⟨rfl, hb⟩
      have HB := Lib.hid (HB.out.trans (hb.mono HB.out.size))
      clear hb
      have hxs : s.size ≤ 16384 := by omega
      have hys : t.size ≤ 16384 := by omega
      clear hr1 hr2
      have HZ1 := Lib.hid hz1
      have HZ2 := Lib.hid hz2
      have hX : X.size ≤ 16384 := by omega
      have hY : Y.size ≤ 16384 := by omega
      clear hz1 hz2
      go_wp2_with fail
      go_loopw [11] (fun v11 wr => ∃ i : Nat, i ≤ X.size ∧ v11 = .int .i64 (i : Int) ∧ Below w.heap.size w wr) (fun v11 _ => X.size - (intOf v11).toNat)
      case atStart => exact ⟨0, by omega, rfl, HB.out⟩
      case round =>
        obtain ⟨i, hi, rfl, hB⟩ := hrel
        clear HB
        have HB := Lib.hid hB
        clear hB
        by_cases g1 : i < X.size
        · by_cases g2 : i < Y.size
          · have i1 : (i : Int) < (X.size : Int) := by omega
            have i2 : (i : Int) < (Y.size : Int) := by omega
            have g3 : i < s.size := by have := HZ1.out; omega
            have g4 : i < t.size := by have := HZ2.out; omega
            have i3 : (i : Int) < (s.size : Int) := by omega
            have i4 : (i : Int) < (t.size : Int) := by omega
            have e1 := HA1.out i g1 g3
            have e2 := HA2.out i g2 g4
            generalize rowAt (by_ k) a i = r at e1 e2
            have E1 := Lib.hid e1
            have E2 := Lib.hid e2
            clear e1 e2
            go_upto_region 9 with (fail)
            refine wp_region_keep2 (KeptOn fun _ => True) (KeptOn.refl _) (KeptOn.trans) [(0,0),(1,0),(2,0),(3,0),(4,0),(5,0),(6,0),(7,0),(8,0),(9,0),(10,0),(11,0),(12,0),(13,0),(14,0),(15,0),(16,0),(17,0),(18,0),(19,0),(20,0),(21,0),(22,0),(23,0),(24,0),(25,0),(26,0),(27,0),(28,0),(29,0),(30,0),(31,0)] (by kernel_rfl) (by kernel_rfl) ?_
            iterate 15 (refine keep_quiet (v := ?_) rfl (fun _ _ _ h => h) (by rfl) (fun w' hR => ?_) ?_; rotate_left; (go_simp; try with_reducible rfl); simp only [Act.put, List.setIfInBounds_toArray, List.set_cons_zero, List.set_cons_succ])
            have hb : ((X[i].toNat : Int) == (Y[i].toNat : Int)) = ((s[i].toNat : Int) == (t[i].toNat : Int)) := by rw [E1.out, E2.out]; exact xor_beq _ _ _
            have hxx : X[i] ^^^ Y[i] = s[i] ^^^ t[i] := by rw [E1.out, E2.out]; exact xor_pair _ _ _
            simp only [hb, beq_self_eq_true, bne_self_eq_false, Bool.not_true, bne]
            have HXX := Lib.hid hxx
            clear hb hxx
            iterate 15 (refine keep_quiet (v := ?_) rfl (fun _ _ _ h => h) (by rfl) (fun w' hR => ?_) ?_; rotate_left; (go_simp; try with_reducible rfl); simp only [Act.put, List.setIfInBounds_toArray, List.set_cons_zero, List.set_cons_succ])
            simp only [B_xor, HXX.out]
            generalize s[i] ^^^ t[i] = z
            iterate 2 (refine keep_quiet (v := ?_) rfl (fun _ _ _ h => h) (by rfl) (fun w' hR => ?_) ?_; rotate_left; (go_simp; try with_reducible rfl); simp only [Act.put, List.setIfInBounds_toArray, List.set_cons_zero, List.set_cons_succ])
            refine keep_done ?_
            have hBd : Below w.heap.size w wr.drew := HB.out.drewN 1
            generalize wr.drew = w8 at hBd ⊢
            have HB := Lib.hid hBd
            clear hBd
            go_wp2_with fail
            go_roundw
            case rel => exact ⟨i + 1, by omega, by go_num, HB.out⟩
            case measure => simp [intOf]; omega
          · have i1 : (i : Int) < (X.size : Int) := by omega
            have i2 : ¬ ((i : Int) < (Y.size : Int)) := by omega
            go_wp2_with fail
            refine (awakeV_any wr (HK.out.below HB.out)).mono ?_
            rintro e w9 ⟨rfl, hb⟩
            have HB := Lib.hid (HB.out.trans (hb.mono HB.out.size))
            clear hb
            go_wp2_with fail
            go_ret
            exact ⟨rfl, HB.out⟩
        · have i1 : ¬ ((i : Int) < (X.size : Int)) := by omega
          go_wp2_with fail
          refine (awakeV_any wr (HK.out.below HB.out)).mono ?_
          rintro e w9 ⟨rfl, hb⟩
          have HB := Lib.hid (HB.out.trans (hb.mono HB.out.size))
          clear hb
          go_wp2_with fail
          go_ret
          exact ⟨rfl, HB.out⟩
    · have H1 := Lib.hid h1
      rw [veilS_bad hw2] at h2
      generalize wrongOf a (t.size : Int) = F at h2 hw2
      have H2 := Lib.hid h2
      rw [hw1] at h1
      have H1 := Lib.hid h1
      clear h1 h2
      generalize veilS k a s = X at H1
      go_wp2_with fail
      refine H1.out.mono ?_
      rintro e w3 ⟨rfl, hb⟩
      have HB := Lib.hid (HB.out.trans (hb.mono HB.out.size))
      clear hb
      go_wp2_with fail
      refine (H2.out w3 (HK.out.below HB.out)).mono ?_
      rintro e w4 ⟨rfl, hb⟩
      have HB := Lib.hid (HB.out.trans (hb.mono HB.out.size))
      clear hb
      go_wp2_with fail
      refine (awakeV_any w4 (HK.out.below HB.out)).mono ?_
      rintro e w9 ⟨rfl, hb⟩
      have HB := Lib.hid (HB.out.trans (hb.mono HB.out.size))
      clear hb
      go_wp2_with fail
      go_ret
      exact ⟨rfl, HB.out⟩
  · have H2 := Lib.hid h2
    generalize veilS k a s = X at h1
    generalize wrongOf a (s.size : Int) = E at h1 hw1
    have H1 := Lib.hid h1
    clear h1 h2
    generalize veilS k a t = Y at H2
    generalize wrongOf a (t.size : Int) = F at H2
    go_wp2_with fail
    refine H1.out.mono ?_
    rintro e w3 ⟨rfl, hb⟩
    have HB := Lib.hid (HB.out.trans (hb.mono HB.out.size))
    clear hb
    go_wp2_with fail
    refine (H2.out w3 (HK.out.below HB.out)).mono ?_
    rintro e w4 ⟨rfl, hb⟩
    have HB := Lib.hid (HB.out.trans (hb.mono HB.out.size))
    clear hb
    go_wp2_with fail
    refine (awakeV_any w4 (HK.out.below HB.out)).mono ?_
    rintro e w9 ⟨rfl, hb⟩
    have HB := Lib.hid (HB.out.trans (hb.mono HB.out.size))
    clear hb
    go_wp2_with fail
    go_ret
    exact ⟨rfl, HB.out⟩
end Go.Proofs.YtkbcilfcfbfiaaaDoor
