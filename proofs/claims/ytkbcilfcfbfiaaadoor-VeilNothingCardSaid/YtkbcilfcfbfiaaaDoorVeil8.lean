/- VeilNothing answers true. -/
import Derived.Test.YtkbcilfcfbfiaaaDoorVeil7
import Derived.OwnWalk
namespace Go.Proofs.YtkbcilfcfbfiaaaDoor
open Go.RowKit Go.Proofs
set_option linter.unusedSimpArgs false
set_option linter.unusedVariables false
theorem OwnB.of_full {w : World} {base g n : Nat} (h : w.ownsRow base 5 1 (.slice (some ⟨g, 0, none⟩) n n) n (madeCells (Value.int .u8 0).cells (n * 1)).toList) : OwnB w base (.slice (some ⟨g, 0, none⟩) n n) (List.replicate n 0) := by
  have e : (madeCells (Value.int .u8 0).cells (n * 1)).toList = (List.replicate n (0 : UInt8)).map bb := by
    rw [Nat.mul_one, List.map_replicate]
    exact toList_madeCells_one _ n
  rw [e] at h
  obtain ⟨h1, ⟨h, _⟩ | ⟨g', cap, cur, hv, h2, h3, h4, h5, h6, h7⟩⟩ := h
  · cases h
  · refine .inr ⟨by rw [List.length_map], g', cap, cur, (0, 0), ?_, h2, h3, .inl rfl, by rw [List.length_replicate]; exact h4, h5, by omega, by rw [List.length_replicate, Nat.mul_one] at *; exact h7⟩
    rw [List.length_replicate]; exact hv
set_option maxRecDepth 100000 in
set_option maxHeartbeats 4000000 in
theorem veilNothing_any (k0 : ByteArray) (hk0 : k0.size ≤ 140737488351232) (a : Int) (n m : Nat) (hn : n < 65536) (hm : m < 65536) (w : World) (hk : Consts w) :
    Calls Tryd.prog 17 #[.agg #[.string k0, .int .i64 a, .int .u16 (n : Int), .int .u16 (m : Int)]] w fun e w' => e = .returned (.bool true) ∧ Below w.heap.size w w' := by
  have HK := Lib.hid hk
  have HKS := Lib.hid (few4_lim hk0)
  clear hk
  go_enter Tryd.func17, Tryd.ntmps17
  go_upto_region 1 with (fail)
  change Code.wp _ _ _ _ (w.alloc (.cells #[.string k0, .int .i64 a, .int .u16 (n : Int), .int .u16 (m : Int)] 58))
  have hD : Blk (w.alloc (.cells #[.string k0, .int .i64 a, .int .u16 (n : Int), .int .u16 (m : Int)] 58)) w.heap.size 58 #[.string k0, .int .i64 a, .int .u16 (n : Int), .int .u16 (m : Int)] := Blk.new w 58 _
  have HB := Lib.hid ((Below.refl w.heap.size w).alloc (Nat.le_refl _) (.cells #[.string k0, .int .i64 a, .int .u16 (n : Int), .int .u16 (m : Int)] 58))
  generalize w.alloc (.cells #[.string k0, .int .i64 a, .int .u16 (n : Int), .int .u16 (m : Int)] 58) = w1 at hD HB ⊢
  have HD := Lib.hid hD
  have c0 : ∀ w', KeptOn (fun _ => True) w1.drew w' → w'.cell? ⟨w.heap.size, 0, none⟩ = some (.string k0) := fun w' hR => (Blk.kept (w := w1.drew) hD hR trivial).cell 0
  have c1 : ∀ w', KeptOn (fun _ => True) w1.drew w' → w'.cell? ⟨w.heap.size, 1, none⟩ = some (.int .i64 a) := fun w' hR => (Blk.kept (w := w1.drew) hD hR trivial).cell 1
  clear hD
  refine wp_region_keep2 (KeptOn fun _ => True) (KeptOn.refl _) (KeptOn.trans) [(0,0),(1,0),(3,0),(4,0),(2,1),(5,0),(6,0)] (by kernel_rfl) (by kernel_rfl) ?_
  iterate 4 (refine keep_quiet (v := ?_) rfl (fun _ _ _ h => h) (by rfl) (fun w' hR => ?_) ?_; rotate_left; (go_simp; try with_reducible rfl); simp only [Act.put, List.setIfInBounds_toArray, List.set_cons_zero, List.set_cons_succ])
  clear c0 c1
  refine keep_eff rfl ?_
  go_wp2_with fail
  refine (few4_any k0 w1.drew).mono ?_
  rintro e w9 ⟨rfl, rfl⟩
  generalize few4 k0 = k at HKS ⊢
  go_wp2_with fail
  refine keepPost_need (KeptOn.refl _ _) ?_
  iterate 2 (refine keep_quiet (v := ?_) rfl (fun _ _ _ h => h) (by rfl) (fun w' hR => ?_) ?_; rotate_left; (go_simp; try with_reducible rfl); simp only [Act.put, List.setIfInBounds_toArray, List.set_cons_zero, List.set_cons_succ])
  refine keep_done ?_
  have hBd : Below w.heap.size w w1.drew := HB.out.drewN 1
  have hDd : Blk w1.drew w.heap.size 58 #[.string k0, .int .i64 a, .int .u16 (n : Int), .int .u16 (m : Int)] := HD.out
  clear HD HB
  generalize w1.drew = w2 at hBd hDd ⊢
  have HB := Lib.hid hBd
  have c2 : ∀ w', KeptOn (fun _ => True) w2.drew w' → w'.cell? ⟨w.heap.size, 2, none⟩ = some (.int .u16 (n : Int)) := fun w' hR => (Blk.kept (w := w2.drew) hDd hR trivial).cell 2
  have c3 : ∀ w', KeptOn (fun _ => True) w2.drew w' → w'.cell? ⟨w.heap.size, 3, none⟩ = some (.int .u16 (m : Int)) := fun w' hR => (Blk.kept (w := w2.drew) hDd hR trivial).cell 3
  clear hBd hDd
  go_upto_region 2 with (fail)
  refine wp_region_keep2 (KeptOn fun _ => True) (KeptOn.refl _) (KeptOn.trans) [(0,0),(1,0),(2,0),(3,0),(4,0),(5,0),(6,0),(7,0),(8,0),(9,0)] (by kernel_rfl) (by kernel_rfl) ?_
  iterate 10 (refine keep_quiet (v := ?_) rfl (fun _ _ _ h => h) (by rfl) (fun w' hR => ?_) ?_; rotate_left; (go_simp; try with_reducible rfl); simp only [Act.put, List.setIfInBounds_toArray, List.set_cons_zero, List.set_cons_succ])
  clear c2 c3
  refine keep_done ?_
  have e1 : (n : Int).tmod 300 = ((n % 300 : Nat) : Int) := by rw [Int.tmod_eq_emod_of_nonneg (by omega)]; omega
  have e2 : (m : Int).tmod 300 = ((m % 300 : Nat) : Int) := by rw [Int.tmod_eq_emod_of_nonneg (by omega)]; omega
  have f1 : IntKind.i64.wrap ((n % 300 : Nat) : Int) = ((n % 300 : Nat) : Int) := IntWalk.i64_in _ (by omega)
  have f2 : IntKind.i64.wrap ((m % 300 : Nat) : Int) = ((m % 300 : Nat) : Int) := IntWalk.i64_in _ (by omega)
  rw [e1, e2, f1, f2]
  clear e1 e2 f1 f2
  have hA : n % 300 < 300 := by omega
  have hB0 : m % 300 < 300 := by omega
  generalize n % 300 = A0 at hA ⊢
  generalize m % 300 = B0 at hB0 ⊢
  have hBd : Below w.heap.size w w2.drew := HB.out.drewN 1
  change Exit.then _ _ _ _ w2.drew
  generalize w2.drew = w3 at hBd ⊢
  have HB := Lib.hid hBd
  clear hBd
  have h1 := row_any k HKS.out a (A0 : Int) w3 (HK.out.below HB.out)
  have h2 := fun w hk => row_any k HKS.out a (B0 : Int) w hk
  have hzs : (strOf (List.replicate A0 0)).size = A0 := by rw [strOf_size, List.length_replicate]
  have h3 := fun w hk => veil_any k HKS.out a (strOf (List.replicate A0 0)) (by rw [hzs]; omega) w hk
  by_cases hbad : a < 0 ∨ 1099511627776 < a
  · have w1 : wrongOf a (A0 : Int) = 3 := by unfold wrongOf; rw [if_pos hbad]
    have w2 : wrongOf a (B0 : Int) = 3 := by unfold wrongOf; rw [if_pos hbad]
    rw [rowS_bad (by rw [w1]; decide), w1] at h1
    rw [rowS_bad (by rw [w2]; decide), w2] at h2
    rw [veilS_bad (by rw [hzs, w1]; decide), hzs, w1] at h3
    clear w1 w2 hzs
    have H1 := Lib.hid h1
    have H2 := Lib.hid h2
    have H3 := Lib.hid h3
    clear h1 h2 h3
    go_wp2_with fail
    refine H1.out.mono ?_
    rintro e w4 ⟨rfl, hb⟩
    have HB := Lib.hid (HB.out.trans (hb.mono HB.out.size))
    clear hb
    go_wp2_with fail
    refine (H2.out w4 (HK.out.below HB.out)).mono ?_
    rintro e w5 ⟨rfl, hb⟩
    have HB := Lib.hid (HB.out.trans (hb.mono HB.out.size))
    clear hb
    go_upto_region 5 with (fail)
    refine wp_region_lit ?_
    iterate 9 go_step
    have hs5 : (Tryd.prog.info? 5).map (fun i => (i.size, i.bytes, i.zero)) = some (1, 1, some (.int .u8 0)) := by kernel_rfl
    obtain ⟨i, hi, hi2⟩ := Option.map_eq_some_iff.1 hs5
    simp only [Prod.mk.injEq] at hi2
    obtain ⟨e1, e2, e3⟩ := hi2
    refine wpList_make_full w5 rfl _ _ 29 rfl w5.heap.size 5 i (.int .u8 0) 1 Tryd.underlying29 hi e3 e1 .i64 .i64 (A0 : Int) (A0 : Int) A0 rfl rfl rfl rfl (by rw [e2]; omega) (by simp only [maxLen]; omega) (Nat.le_refl _) ?_
    intro w6 hO hG
    have HB := Lib.hid (HB.out.grown hG HB.out.size (fun k hk => by cases hk))
    have hst := ownB_string (OwnB.of_full hO)
    change (convert 29 9 _).run _ _ = .ok (.string (strOf (List.replicate A0 0))) _ at hst
    clear hO hG hi e1 e2 e3 hs5
    generalize strOf (List.replicate A0 0) = Z at hst H3
    simp only [Act.put]
    refine wpList_runIs rfl _ w6 (execConvert 29 9 _ rfl (p := .slice (some ⟨w5.heap.size, 0, none⟩) A0 A0) rfl hst) ?_
    clear hst
    simp only [Act.put]
    go_wp2_with fail
    refine (H3.out w6 (HK.out.below HB.out)).mono ?_
    rintro e w7 ⟨rfl, hb⟩
    have HB := Lib.hid (HB.out.trans (hb.mono HB.out.size))
    clear hb
    rcases hbad with hb1 | hb1
    · have hcat0 : ∀ w, (Op.stringOp .add (⟨#[]⟩ : ByteArray) ⟨#[]⟩).run Tryd.prog w = .ok (.string ⟨#[]⟩) w := fun w => cat_run [] [] (by decide) w
      go_wp2_with fail
      refine (awakeV_any w7 (HK.out.below HB.out)).mono ?_
      rintro e w9 ⟨rfl, hb⟩
      have HB := Lib.hid (HB.out.trans (hb.mono HB.out.size))
      clear hb
      go_wp2_with fail
      go_ret
      exact ⟨rfl, HB.out⟩
    · have hcat0 : ∀ w, (Op.stringOp .add (⟨#[]⟩ : ByteArray) ⟨#[]⟩).run Tryd.prog w = .ok (.string ⟨#[]⟩) w := fun w => cat_run [] [] (by decide) w
      go_wp2_with fail
      refine (awakeV_any w7 (HK.out.below HB.out)).mono ?_
      rintro e w9 ⟨rfl, hb⟩
      have HB := Lib.hid (HB.out.trans (hb.mono HB.out.size))
      clear hb
      go_wp2_with fail
      go_ret
      exact ⟨rfl, HB.out⟩
  · have w1 : wrongOf a (A0 : Int) = 0 := by unfold wrongOf; rw [if_neg hbad, if_neg (by omega), if_neg (by omega)]
    have w2 : wrongOf a (B0 : Int) = 0 := by unfold wrongOf; rw [if_neg hbad, if_neg (by omega), if_neg (by omega)]
    have hV : veilS k a (strOf (List.replicate A0 0)) = strOf (rowOf (by_ k) a A0) := by
      unfold veilS; rw [if_pos (by rw [hzs]; exact w1), by_strOf, veilOf_zeros]
    rw [rowS_ok w1, w1] at h1
    rw [rowS_ok w2, w2] at h2
    rw [hV, hzs, w1] at h3
    have hp1 : ¬ a < 0 := by omega
    have hp2 : ¬ 1099511627776 < a := by omega
    clear w1 w2 hV hzs hbad
    have hl1 := rowOf_length (by_ k) a A0
    have hl2 := rowOf_length (by_ k) a B0
    have hpre : (rowOf (by_ k) a A0).take (min A0 B0) = (rowOf (by_ k) a B0).take (min A0 B0) := by
      rw [rowOf_take _ _ _ _ (Nat.min_le_left _ _), rowOf_take _ _ _ _ (Nat.min_le_right _ _)]
    generalize rowOf (by_ k) a A0 = RA at h1 h3 hl1 hpre
    generalize rowOf (by_ k) a B0 = RB at h2 hl2 hpre
    have hs1 : (strOf RA).size = A0 := by rw [strOf_size, hl1]
    have hs2 : (strOf RB).size = B0 := by rw [strOf_size, hl2]
    have hpx : (strOf RA).extract 0 (min A0 B0) = (strOf RB).extract 0 (min A0 B0) := by
      refine by_ext _ _ ?_
      rw [by_extract, by_extract, by_strOf, by_strOf, hpre]
    generalize strOf RA = X at h1 h3 hs1 hpx
    generalize strOf RB = Y at h2 hs2 hpx
    have HPX := Lib.hid hpx
    have HS1 := Lib.hid hs1
    have HS2 := Lib.hid hs2
    clear hl1 hl2 hpre hs1 hs2 hpx
    have H1 := Lib.hid h1
    have H2 := Lib.hid h2
    have H3 := Lib.hid h3
    clear h1 h2 h3
    go_wp2_with fail
    refine H1.out.mono ?_
    rintro e w4 ⟨rfl, hb⟩
    have HB := Lib.hid (HB.out.trans (hb.mono HB.out.size))
    clear hb
    go_wp2_with fail
    refine (H2.out w4 (HK.out.below HB.out)).mono ?_
    rintro e w5 ⟨rfl, hb⟩
    have HB := Lib.hid (HB.out.trans (hb.mono HB.out.size))
    clear hb
    go_upto_region 5 with (fail)
    refine wp_region_lit ?_
    iterate 9 go_step
    have hs5 : (Tryd.prog.info? 5).map (fun i => (i.size, i.bytes, i.zero)) = some (1, 1, some (.int .u8 0)) := by kernel_rfl
    obtain ⟨i, hi, hi2⟩ := Option.map_eq_some_iff.1 hs5
    simp only [Prod.mk.injEq] at hi2
    obtain ⟨e1, e2, e3⟩ := hi2
    refine wpList_make_full w5 rfl _ _ 29 rfl w5.heap.size 5 i (.int .u8 0) 1 Tryd.underlying29 hi e3 e1 .i64 .i64 (A0 : Int) (A0 : Int) A0 rfl rfl rfl rfl (by rw [e2]; omega) (by simp only [maxLen]; omega) (Nat.le_refl _) ?_
    intro w6 hO hG
    have HB := Lib.hid (HB.out.grown hG HB.out.size (fun k hk => by cases hk))
    have hst := ownB_string (OwnB.of_full hO)
    change (convert 29 9 _).run _ _ = .ok (.string (strOf (List.replicate A0 0))) _ at hst
    clear hO hG hi e1 e2 e3 hs5
    generalize strOf (List.replicate A0 0) = Z at hst H3
    simp only [Act.put]
    refine wpList_runIs rfl _ w6 (execConvert 29 9 _ rfl (p := .slice (some ⟨w5.heap.size, 0, none⟩) A0 A0) rfl hst) ?_
    clear hst
    simp only [Act.put]
    go_wp2_with fail
    refine (H3.out w6 (HK.out.below HB.out)).mono ?_
    rintro e w7 ⟨rfl, hb⟩
    have HB := Lib.hid (HB.out.trans (hb.mono HB.out.size))
    clear hb
    by_cases hm0 : A0 ≤ B0
    · have hmi : (A0 : Int) ≤ (B0 : Int) := by omega
      rw [Nat.min_eq_left hm0] at HPX
      go_upto_region 9 with (fail)
      refine wp_region_keep2 (KeptOn fun _ => True) (KeptOn.refl _) (KeptOn.trans) [(0,1),(1,0),(2,0),(3,0),(4,0),(5,0),(6,0),(7,0),(8,0),(9,0),(10,0),(11,0),(12,0),(13,0),(14,0),(15,0),(16,0),(17,0),(18,0),(19,0),(20,0),(21,0),(22,0),(23,0),(24,0),(25,0),(26,0),(27,0),(28,0),(29,0),(30,0),(31,0),(32,0),(33,0)] (by kernel_rfl) (by kernel_rfl) ?_
      refine keep_eff rfl ?_
      go_wp2_with fail
      refine (awakeV_any w7.drew (HK.out.below (HB.out.drewN 1))).mono ?_
      rintro e w8 ⟨rfl, hb⟩
      have hK : KeptOn (fun _ => True) w7.drew w8 := KeptOn.below hb (fun b hb _ => hb)
      have HB := Lib.hid ((HB.out.drewN 1).trans (hb.mono HB.out.size))
      clear hb
      go_wp2_with fail
      refine keepPost_need hK ?_
      clear hK
      have hs1 := HS1.out
      have hs2 := HS2.out
      have hs1i : (X.size : Int) = (A0 : Int) := by rw [hs1]
      have hs2i : (Y.size : Int) = (B0 : Int) := by rw [hs2]
      iterate 26 (refine keep_quiet (v := ?_) rfl (fun _ _ _ h => h) (by rfl) (fun w' hR => ?_) ?_; rotate_left; (go_simp; try with_reducible rfl); simp only [Act.put, List.setIfInBounds_toArray, List.set_cons_zero, List.set_cons_succ])
      have hpx := HPX.out
      have hk1 : (A0 : Int) ≤ (X.size : Int) := by omega
      have hk2 : (A0 : Int) ≤ (Y.size : Int) := by omega
      iterate 4 (refine keep_quiet (v := ?_) rfl (fun _ _ _ h => h) (by rfl) (fun w' hR => ?_) ?_; rotate_left; (go_simp; try with_reducible rfl); simp only [Act.put, List.setIfInBounds_toArray, List.set_cons_zero, List.set_cons_succ])

      iterate 3 (refine keep_quiet (v := ?_) rfl (fun _ _ _ h => h) (by rfl) (fun w' hR => ?_) ?_; rotate_left; (go_simp; try with_reducible rfl); simp only [Act.put, List.setIfInBounds_toArray, List.set_cons_zero, List.set_cons_succ])
      refine keep_done ?_
      go_wp2_with fail
      go_ret
      exact ⟨rfl, HB.out⟩
    · have hmi : ¬ ((A0 : Int) ≤ (B0 : Int)) := by omega
      have hmi2 : (B0 : Int) < (A0 : Int) := by omega
      have hle : B0 ≤ A0 := by omega
      rw [Nat.min_eq_right (by omega)] at HPX
      go_upto_region 9 with (fail)
      refine wp_region_keep2 (KeptOn fun _ => True) (KeptOn.refl _) (KeptOn.trans) [(0,1),(1,0),(2,0),(3,0),(4,0),(5,0),(6,0),(7,0),(8,0),(9,0),(10,0),(11,0),(12,0),(13,0),(14,0),(15,0),(16,0),(17,0),(18,0),(19,0),(20,0),(21,0),(22,0),(23,0),(24,0),(25,0),(26,0),(27,0),(28,0),(29,0),(30,0),(31,0),(32,0),(33,0)] (by kernel_rfl) (by kernel_rfl) ?_
      refine keep_eff rfl ?_
      go_wp2_with fail
      refine (awakeV_any w7.drew (HK.out.below (HB.out.drewN 1))).mono ?_
      rintro e w8 ⟨rfl, hb⟩
      have hK : KeptOn (fun _ => True) w7.drew w8 := KeptOn.below hb (fun b hb _ => hb)
      have HB := Lib.hid ((HB.out.drewN 1).trans (hb.mono HB.out.size))
      clear hb
      go_wp2_with fail
      refine keepPost_need hK ?_
      clear hK
      have hs1 := HS1.out
      have hs2 := HS2.out
      have hs1i : (X.size : Int) = (A0 : Int) := by rw [hs1]
      have hs2i : (Y.size : Int) = (B0 : Int) := by rw [hs2]
      iterate 26 (refine keep_quiet (v := ?_) rfl (fun _ _ _ h => h) (by rfl) (fun w' hR => ?_) ?_; rotate_left; (go_simp; try with_reducible rfl); simp only [Act.put, List.setIfInBounds_toArray, List.set_cons_zero, List.set_cons_succ])
      have hpx := HPX.out
      have hk1 : (B0 : Int) ≤ (X.size : Int) := by omega
      have hk2 : (B0 : Int) ≤ (Y.size : Int) := by omega
      iterate 4 (refine keep_quiet (v := ?_) rfl (fun _ _ _ h => h) (by rfl) (fun w' hR => ?_) ?_; rotate_left; (go_simp; try with_reducible rfl); simp only [Act.put, List.setIfInBounds_toArray, List.set_cons_zero, List.set_cons_succ])

      iterate 3 (refine keep_quiet (v := ?_) rfl (fun _ _ _ h => h) (by rfl) (fun w' hR => ?_) ?_; rotate_left; (go_simp; try with_reducible rfl); simp only [Act.put, List.setIfInBounds_toArray, List.set_cons_zero, List.set_cons_succ])
      refine keep_done ?_
      go_wp2_with fail
      go_ret
      exact ⟨rfl, HB.out⟩
end Go.Proofs.YtkbcilfcfbfiaaaDoor
