/- MacBytes answers true. -/
import Derived.Test.YtkbcilfcfbfiaaaDoorMac12
import Derived.Test.YtkbcilfcfbfiaaaDoorKeep2
namespace Go.Proofs.YtkbcilfcfbfiaaaDoor
open Go.RowKit Go.Proofs
set_option linter.unusedSimpArgs false
set_option linter.unusedVariables false
theorem load25 {w : World} {g : Nat} {X : Array Value} (hB : Blk w g 25 X) (hs : X.size = 32) : (Instr.loadAt 25 (.pointer (some ⟨g, 0, none⟩))).run Tryd.prog w = .ok (.agg X) w := by
  have h := run_loadAt_mid (P := Tryd.prog) w g 0 25 X.toList _ (hB.rangeAt 0 _ (fun j v hv => by rw [Nat.zero_add, ← Array.getElem?_toList]; exact hv)) Tryd.underlying25 rfl (by rw [Array.length_toList, hs]; kernel_rfl)
  rw [h]
theorem digestOf_self (D : List UInt8) (h : D.length = 32) : digestOf (strOf D) = (D, 0) := by
  unfold digestOf; rw [if_neg (by rw [strOf_size]; omega), if_neg (by rw [strOf_size]; omega), by_strOf]
theorem digestOf_length (t : ByteArray) : (digestOf t).1.length = 32 := by
  unfold digestOf; split
  · rw [List.length_replicate]
  · split
    · rw [List.length_replicate]
    · show (by_ t).length = 32; rw [← by_size]; omega
theorem heqZ (Y : Array Value) (h : Y = z32) (w : World) : (Op.equalIn 10000 25 (.agg Y) (.agg #[.int .u8 0, .int .u8 0, .int .u8 0, .int .u8 0, .int .u8 0, .int .u8 0, .int .u8 0, .int .u8 0, .int .u8 0, .int .u8 0, .int .u8 0, .int .u8 0, .int .u8 0, .int .u8 0, .int .u8 0, .int .u8 0, .int .u8 0, .int .u8 0, .int .u8 0, .int .u8 0, .int .u8 0, .int .u8 0, .int .u8 0, .int .u8 0, .int .u8 0, .int .u8 0, .int .u8 0, .int .u8 0, .int .u8 0, .int .u8 0, .int .u8 0, .int .u8 0])).run Tryd.prog w = .ok true w := by
  subst h
  have := eql_digest (List.replicate 32 0) (List.replicate 32 0) (by rw [List.length_replicate]) (by rw [List.length_replicate]) w
  rw [beq_self_eq_true] at this
  exact this
set_option maxRecDepth 100000 in
set_option maxHeartbeats 4000000 in
theorem macBytes_any (D : List UInt8) (hD : D.length = 32) (s : ByteArray) (w : World) (hk : Consts w) :
    Calls Tryd.prog 12 #[.agg (bytesC D), .string s] w fun e w' => e = .returned (.bool true) ∧ Below w.heap.size w w' := by
  have HK := Lib.hid hk
  have HDL := Lib.hid hD
  clear hk
  have hb1 := fun w => bytes_any D hD w
  have hb2 := fun w => rbytes_any D hD w
  have hdg := fun w => digest_any (strOf D) w
  rw [digestOf_self D hD] at hdg
  have heqD := fun w => eql_digest D D hD hD w
  simp only [beq_self_eq_true] at heqD
  have hXs : (bytesC D).size = 32 := by rw [bytesC_size, hD]
  have hXo := bytesC_one D
  generalize bytesC D = X at hb1 hb2 hdg heqD hXs hXo ⊢
  generalize strOf D = SD at hb1 hb2 hdg
  have HB1 := Lib.hid hb1
  have HB2 := Lib.hid hb2
  have HDG := Lib.hid hdg
  have HEQ := Lib.hid heqD
  have HXS := Lib.hid hXs
  have HXO := Lib.hid hXo
  clear hb1 hb2 hdg heqD hXs hXo hD
  go_enter Tryd.func12, Tryd.ntmps12
  go_upto_region 1 with (fail)
  change Code.wp _ _ _ _ (w.alloc (.cells X 25))
  have HD := Lib.hid (show Blk (w.alloc (.cells X 25)) w.heap.size 25 X from Blk.new w 25 X)
  have HB := Lib.hid ((Below.refl w.heap.size w).alloc (Nat.le_refl _) (.cells X 25))
  generalize w.alloc (.cells X 25) = w1 at HD HB ⊢
  have hi25 : (Tryd.prog.info? 25).map (·.size) = some X.size := by rw [HXS.out]; kernel_rfl
  refine wp_region_lit ?_
  refine wpList_load_row rfl 25 _ rfl w.heap.size rfl 25 X _ _ HD.out Tryd.underlying25 rfl hi25 ?_
  simp only [Act.put]
  iterate 2 go_step
  refine (HB1.out w1).mono ?_
  rintro e w2 ⟨rfl, hb⟩
  have HD := Lib.hid (HD.out.below hb HD.out.lt)
  have HB := Lib.hid (HB.out.trans (hb.mono HB.out.size))
  clear hb
  dsimp only
  iterate 3 go_step
  refine (HDG.out w2).mono ?_
  rintro e w3 ⟨rfl, hb⟩
  have HD := Lib.hid (HD.out.below hb HD.out.lt)
  have HB := Lib.hid (HB.out.trans (hb.mono HB.out.size))
  clear hb
  have hlt3 := HD.out.lt
  dsimp only
  iterate 13 go_step
  change wpList _ _ _ _ _ (w3.alloc (.cells z32 25))
  have hz := Blk.new w3 25 z32
  have HD := Lib.hid (HD.out.alloc (.cells z32 25))
  have HSZ := Lib.hid HB.out.size
  have HB := Lib.hid (HB.out.alloc HB.out.size (.cells z32 25))
  have HDL3 := Lib.hid (show w.heap.size < w3.heap.size from hlt3)
  refine wpList_store_mid rfl 25 _ _ rfl w3.heap.size 0 X rfl rfl (hz.there 0 _ (by rw [HXS.out, z32_size]; exact Nat.le_refl _)) hi25 HXO.out ?_
  simp only [Act.put]
  have hz2 := hz.setCells X.toList 0
  rw [putAll_all _ _ (by rw [HXS.out, z32_size])] at hz2
  have HD := Lib.hid (HD.out.setCells_far (b := w3.heap.size) X.toList (by have := HDL3.out; omega) 0)
  have HB := Lib.hid (Below.setCells' (b := w3.heap.size) X.toList HSZ.out 0 HB.out)
  clear hz
  generalize (w3.alloc (.cells z32 25)).setCells w3.heap.size 0 X.toList = w4 at hz2 HD HB ⊢
  generalize w3.heap.size = e0 at hz2 ⊢
  have HE := Lib.hid hz2
  clear hz2 hi25
  go_wp2_with fail
  have hYs : (bytesC (digestOf s).1).size = 32 := by rw [bytesC_size, digestOf_length]
  have hYo := bytesC_one (digestOf s).1
  have hcase : (s.size < 32 ∧ (digestOf s).2 = 5 ∧ bytesC (digestOf s).1 = z32) ∨ (32 < s.size ∧ (digestOf s).2 = 6 ∧ bytesC (digestOf s).1 = z32) ∨ (s.size = 32 ∧ (digestOf s).2 = 0 ∧ ∀ w, Calls Tryd.prog 39 #[.agg (bytesC (digestOf s).1)] w fun e w' => e = .returned (.string s) ∧ Below w.heap.size w w') := by
    by_cases h1 : s.size < 32
    · left; unfold digestOf; rw [if_pos h1]; exact ⟨h1, rfl, rfl⟩
    · by_cases h2 : 32 < s.size
      · right; left; unfold digestOf; rw [if_neg h1, if_pos h2]; exact ⟨h2, rfl, rfl⟩
      · right; right
        unfold digestOf; rw [if_neg h1, if_neg h2]
        exact ⟨by omega, rfl, fun w => bytes_any (by_ s) (by rw [← by_size]; omega) w⟩
  have hdg := digest_any s w4
  generalize bytesC (digestOf s).1 = Y at hYs hYo hcase hdg
  generalize (digestOf s).2 = f at hcase hdg
  have HYS := Lib.hid hYs
  have HYO := Lib.hid hYo
  have HC := Lib.hid hcase
  clear hYs hYo hcase
  refine hdg.mono ?_
  clear hdg
  rintro e w5 ⟨rfl, hb⟩
  have HD := Lib.hid (HD.out.below hb HD.out.lt)
  have HE := Lib.hid (HE.out.below hb HE.out.lt)
  have HB := Lib.hid (HB.out.trans (hb.mono HB.out.size))
  clear hb
  dsimp only
  iterate 13 go_step
  change wpList _ _ _ _ _ (w5.alloc (.cells z32 25))
  have hz := Blk.new w5 25 z32
  have hd5 := HD.out.lt
  have he5 := HE.out.lt
  have HD := Lib.hid (HD.out.alloc (.cells z32 25))
  have HE := Lib.hid (HE.out.alloc (.cells z32 25))
  have HSZ := Lib.hid HB.out.size
  have HB := Lib.hid (HB.out.alloc HB.out.size (.cells z32 25))
  have hi25 : (Tryd.prog.info? 25).map (·.size) = some Y.size := by rw [HYS.out]; kernel_rfl
  refine wpList_store_mid rfl 25 _ _ rfl w5.heap.size 0 Y rfl rfl (hz.there 0 _ (by rw [HYS.out, z32_size]; exact Nat.le_refl _)) hi25 HYO.out ?_
  simp only [Act.put]
  have hz2 := hz.setCells Y.toList 0
  rw [putAll_all _ _ (by rw [HYS.out, z32_size])] at hz2
  have HD := Lib.hid (HD.out.setCells_far (b := w5.heap.size) Y.toList (by omega) 0)
  have HE := Lib.hid (HE.out.setCells_far (b := w5.heap.size) Y.toList (by omega) 0)
  have HB := Lib.hid (Below.setCells' (b := w5.heap.size) Y.toList HSZ.out 0 HB.out)
  clear hz hd5 he5
  generalize (w5.alloc (.cells z32 25)).setCells w5.heap.size 0 Y.toList = w7 at hz2 HD HE HB ⊢
  generalize w5.heap.size = f0 at hz2 ⊢
  have HF := Lib.hid hz2
  clear hz2 hi25
  rcases HC.out with ⟨h1, rfl, hY⟩ | ⟨h1, rfl, hY⟩ | ⟨h1, rfl, hY⟩
  · have HZ := Lib.hid (heqZ Y hY)
    clear hY
    go_upto_region 8 with (fail)
    refine wp_region_keep2 (KeptOn fun _ => True) (KeptOn.refl _) (KeptOn.trans) [(0,1),(1,0),(2,0),(3,0),(4,0),(5,0),(6,0),(7,0),(8,0),(9,0),(10,0),(11,0),(13,0),(12,1),(14,1),(15,0),(16,0),(17,0),(18,0),(19,0),(20,0),(21,0),(22,0),(23,0),(24,0),(25,0),(26,0),(28,0),(27,1),(29,0),(30,0),(31,0),(32,0),(33,0),(34,0),(35,0),(36,0),(37,0),(38,0),(39,0),(40,0),(41,0)] (by kernel_rfl) (by kernel_rfl) ?_
    refine keep_eff rfl ?_
    go_wp2_with fail
    refine (awakeM_any w7.drew (HK.out.below (HB.out.drewN 1))).mono ?_
    rintro e w8 ⟨rfl, hb⟩
    have hK : KeptOn (fun _ => True) w7.drew w8 := KeptOn.below hb (fun b hb _ => hb)
    have HD := Lib.hid (Blk.kept (w := w7.drew) HD.out hK trivial)
    have HE := Lib.hid (Blk.kept (w := w7.drew) HE.out hK trivial)
    have HF := Lib.hid (Blk.kept (w := w7.drew) HF.out hK trivial)
    have HB := Lib.hid ((HB.out.drewN 1).trans (hb.mono HB.out.size))
    clear hb
    go_wp2_with fail
    refine keepPost_need hK ?_
    clear hK
    iterate 1 (refine keep_quiet (v := ?_) rfl (fun _ _ _ h => h) (by rfl) (fun w' hR => ?_) ?_; rotate_left; (go_simp; try with_reducible rfl); simp only [Act.put, List.setIfInBounds_toArray, List.set_cons_zero, List.set_cons_succ])
    refine keep_quiet (v := .agg X) rfl (fun _ _ _ h => h) (by rfl) (fun w' hR => execLoad 25 _ rfl (p := .pointer (some ⟨e0, 0, none⟩)) rfl (load25 (Blk.kept HE.out hR trivial) HXS.out)) ?_
    simp only [Act.put, List.setIfInBounds_toArray, List.set_cons_zero, List.set_cons_succ]
    refine keep_quiet (v := .agg X) rfl (fun _ _ _ h => h) (by rfl) (fun w' hR => execLoad 25 _ rfl (p := .pointer (some ⟨w.heap.size, 0, none⟩)) rfl (load25 (Blk.kept HD.out hR trivial) HXS.out)) ?_
    simp only [Act.put, List.setIfInBounds_toArray, List.set_cons_zero, List.set_cons_succ]
    have heq := HEQ.out
    iterate 1 (refine keep_quiet (v := ?_) rfl (fun _ _ _ h => h) (by rfl) (fun w' hR => ?_) ?_; rotate_left; (go_simp; try with_reducible rfl); simp only [Act.put, List.setIfInBounds_toArray, List.set_cons_zero, List.set_cons_succ])
    clear heq
    iterate 6 (refine keep_quiet (v := ?_) rfl (fun _ _ _ h => h) (by rfl) (fun w' hR => ?_) ?_; rotate_left; (go_simp; try with_reducible rfl); simp only [Act.put, List.setIfInBounds_toArray, List.set_cons_zero, List.set_cons_succ])
    refine keep_quiet (v := .agg X) rfl (fun _ _ _ h => h) (by rfl) (fun w' hR => execLoad 25 _ rfl (p := .pointer (some ⟨w.heap.size, 0, none⟩)) rfl (load25 (Blk.kept HD.out hR trivial) HXS.out)) ?_
    simp only [Act.put, List.setIfInBounds_toArray, List.set_cons_zero, List.set_cons_succ]
    refine keep_quiet (v := .agg X) rfl (fun _ _ _ h => h) (by rfl) (fun w' hR => execLoad 25 _ rfl (p := .pointer (some ⟨w.heap.size, 0, none⟩)) rfl (load25 (Blk.kept HD.out hR trivial) HXS.out)) ?_
    simp only [Act.put, List.setIfInBounds_toArray, List.set_cons_zero, List.set_cons_succ]
    refine keep_eff rfl ?_
    go_wp2_with fail
    refine (HB1.out w8).mono ?_
    rintro e w9 ⟨rfl, hb⟩
    have hK : KeptOn (fun _ => True) w8 w9 := KeptOn.below hb (fun b hb _ => hb)
    have HF := Lib.hid (Blk.kept (w := w8) HF.out hK trivial)
    have HB := Lib.hid (HB.out.trans (hb.mono HB.out.size))
    clear hb
    go_wp2_with fail
    refine keepPost_need hK ?_
    clear hK
    refine keep_eff rfl ?_
    go_wp2_with fail
    refine (HB2.out w9).mono ?_
    rintro e w10 ⟨rfl, hb⟩
    have hK : KeptOn (fun _ => True) w9 w10 := KeptOn.below hb (fun b hb _ => hb)
    have HF := Lib.hid (Blk.kept (w := w9) HF.out hK trivial)
    have HB := Lib.hid (HB.out.trans (hb.mono HB.out.size))
    clear hb
    go_wp2_with fail
    refine keepPost_need hK ?_
    clear hK
    iterate 11 (refine keep_quiet (v := ?_) rfl (fun _ _ _ h => h) (by rfl) (fun w' hR => ?_) ?_; rotate_left; (go_simp; try with_reducible rfl); simp only [Act.put, List.setIfInBounds_toArray, List.set_cons_zero, List.set_cons_succ])
    iterate 2 (refine keep_skip rfl (fun _ _ _ h => h) (by rfl) ?_; simp only [Act.put, List.setIfInBounds_toArray, List.set_cons_zero, List.set_cons_succ])
    refine keep_eff rfl ?_
    go_wp2_with fail
    refine keepPost_need (KeptOn.refl _ _) ?_
    iterate 1 (refine keep_skip rfl (fun _ _ _ h => h) (by rfl) ?_; simp only [Act.put, List.setIfInBounds_toArray, List.set_cons_zero, List.set_cons_succ])
    iterate 2 (refine keep_quiet (v := ?_) rfl (fun _ _ _ h => h) (by rfl) (fun w' hR => ?_) ?_; rotate_left; (go_simp; try with_reducible rfl); simp only [Act.put, List.setIfInBounds_toArray, List.set_cons_zero, List.set_cons_succ])
    iterate 3 (refine keep_quiet (v := ?_) rfl (fun _ _ _ h => h) (by rfl) (fun w' hR => ?_) ?_; rotate_left; (go_simp; try with_reducible rfl); simp only [Act.put, List.setIfInBounds_toArray, List.set_cons_zero, List.set_cons_succ])
    refine keep_quiet (v := .agg Y) rfl (fun _ _ _ h => h) (by rfl) (fun w' hR => execLoad 25 _ rfl (p := .pointer (some ⟨f0, 0, none⟩)) rfl (load25 (Blk.kept HF.out hR trivial) HYS.out)) ?_
    simp only [Act.put, List.setIfInBounds_toArray, List.set_cons_zero, List.set_cons_succ]
    iterate 1 (refine keep_quiet (v := ?_) rfl (fun _ _ _ h => h) (by rfl) (fun w' hR => ?_) ?_; rotate_left; (go_simp; try with_reducible rfl); simp only [Act.put, List.setIfInBounds_toArray, List.set_cons_zero, List.set_cons_succ])
    have heq := HZ.out
    iterate 1 (refine keep_quiet (v := ?_) rfl (fun _ _ _ h => h) (by rfl) (fun w' hR => ?_) ?_; rotate_left; (go_simp; try with_reducible rfl); simp only [Act.put, List.setIfInBounds_toArray, List.set_cons_zero, List.set_cons_succ])
    clear heq
    iterate 4 (refine keep_quiet (v := ?_) rfl (fun _ _ _ h => h) (by rfl) (fun w' hR => ?_) ?_; rotate_left; (go_simp; try with_reducible rfl); simp only [Act.put, List.setIfInBounds_toArray, List.set_cons_zero, List.set_cons_succ])
    refine keep_done ?_
    go_wp2_with fail
    go_ret
    exact ⟨rfl, HB.out⟩
  · have HZ := Lib.hid (heqZ Y hY)
    clear hY
    go_upto_region 8 with (fail)
    refine wp_region_keep2 (KeptOn fun _ => True) (KeptOn.refl _) (KeptOn.trans) [(0,1),(1,0),(2,0),(3,0),(4,0),(5,0),(6,0),(7,0),(8,0),(9,0),(10,0),(11,0),(13,0),(12,1),(14,1),(15,0),(16,0),(17,0),(18,0),(19,0),(20,0),(21,0),(22,0),(23,0),(24,0),(25,0),(26,0),(28,0),(27,1),(29,0),(30,0),(31,0),(32,0),(33,0),(34,0),(35,0),(36,0),(37,0),(38,0),(39,0),(40,0),(41,0)] (by kernel_rfl) (by kernel_rfl) ?_
    refine keep_eff rfl ?_
    go_wp2_with fail
    refine (awakeM_any w7.drew (HK.out.below (HB.out.drewN 1))).mono ?_
    rintro e w8 ⟨rfl, hb⟩
    have hK : KeptOn (fun _ => True) w7.drew w8 := KeptOn.below hb (fun b hb _ => hb)
    have HD := Lib.hid (Blk.kept (w := w7.drew) HD.out hK trivial)
    have HE := Lib.hid (Blk.kept (w := w7.drew) HE.out hK trivial)
    have HF := Lib.hid (Blk.kept (w := w7.drew) HF.out hK trivial)
    have HB := Lib.hid ((HB.out.drewN 1).trans (hb.mono HB.out.size))
    clear hb
    go_wp2_with fail
    refine keepPost_need hK ?_
    clear hK
    iterate 1 (refine keep_quiet (v := ?_) rfl (fun _ _ _ h => h) (by rfl) (fun w' hR => ?_) ?_; rotate_left; (go_simp; try with_reducible rfl); simp only [Act.put, List.setIfInBounds_toArray, List.set_cons_zero, List.set_cons_succ])
    refine keep_quiet (v := .agg X) rfl (fun _ _ _ h => h) (by rfl) (fun w' hR => execLoad 25 _ rfl (p := .pointer (some ⟨e0, 0, none⟩)) rfl (load25 (Blk.kept HE.out hR trivial) HXS.out)) ?_
    simp only [Act.put, List.setIfInBounds_toArray, List.set_cons_zero, List.set_cons_succ]
    refine keep_quiet (v := .agg X) rfl (fun _ _ _ h => h) (by rfl) (fun w' hR => execLoad 25 _ rfl (p := .pointer (some ⟨w.heap.size, 0, none⟩)) rfl (load25 (Blk.kept HD.out hR trivial) HXS.out)) ?_
    simp only [Act.put, List.setIfInBounds_toArray, List.set_cons_zero, List.set_cons_succ]
    have heq := HEQ.out
    iterate 1 (refine keep_quiet (v := ?_) rfl (fun _ _ _ h => h) (by rfl) (fun w' hR => ?_) ?_; rotate_left; (go_simp; try with_reducible rfl); simp only [Act.put, List.setIfInBounds_toArray, List.set_cons_zero, List.set_cons_succ])
    clear heq
    iterate 6 (refine keep_quiet (v := ?_) rfl (fun _ _ _ h => h) (by rfl) (fun w' hR => ?_) ?_; rotate_left; (go_simp; try with_reducible rfl); simp only [Act.put, List.setIfInBounds_toArray, List.set_cons_zero, List.set_cons_succ])
    refine keep_quiet (v := .agg X) rfl (fun _ _ _ h => h) (by rfl) (fun w' hR => execLoad 25 _ rfl (p := .pointer (some ⟨w.heap.size, 0, none⟩)) rfl (load25 (Blk.kept HD.out hR trivial) HXS.out)) ?_
    simp only [Act.put, List.setIfInBounds_toArray, List.set_cons_zero, List.set_cons_succ]
    refine keep_quiet (v := .agg X) rfl (fun _ _ _ h => h) (by rfl) (fun w' hR => execLoad 25 _ rfl (p := .pointer (some ⟨w.heap.size, 0, none⟩)) rfl (load25 (Blk.kept HD.out hR trivial) HXS.out)) ?_
    simp only [Act.put, List.setIfInBounds_toArray, List.set_cons_zero, List.set_cons_succ]
    refine keep_eff rfl ?_
    go_wp2_with fail
    refine (HB1.out w8).mono ?_
    rintro e w9 ⟨rfl, hb⟩
    have hK : KeptOn (fun _ => True) w8 w9 := KeptOn.below hb (fun b hb _ => hb)
    have HF := Lib.hid (Blk.kept (w := w8) HF.out hK trivial)
    have HB := Lib.hid (HB.out.trans (hb.mono HB.out.size))
    clear hb
    go_wp2_with fail
    refine keepPost_need hK ?_
    clear hK
    refine keep_eff rfl ?_
    go_wp2_with fail
    refine (HB2.out w9).mono ?_
    rintro e w10 ⟨rfl, hb⟩
    have hK : KeptOn (fun _ => True) w9 w10 := KeptOn.below hb (fun b hb _ => hb)
    have HF := Lib.hid (Blk.kept (w := w9) HF.out hK trivial)
    have HB := Lib.hid (HB.out.trans (hb.mono HB.out.size))
    clear hb
    go_wp2_with fail
    refine keepPost_need hK ?_
    clear hK
    iterate 11 (refine keep_quiet (v := ?_) rfl (fun _ _ _ h => h) (by rfl) (fun w' hR => ?_) ?_; rotate_left; (go_simp; try with_reducible rfl); simp only [Act.put, List.setIfInBounds_toArray, List.set_cons_zero, List.set_cons_succ])
    iterate 2 (refine keep_skip rfl (fun _ _ _ h => h) (by rfl) ?_; simp only [Act.put, List.setIfInBounds_toArray, List.set_cons_zero, List.set_cons_succ])
    refine keep_eff rfl ?_
    go_wp2_with fail
    refine keepPost_need (KeptOn.refl _ _) ?_
    iterate 1 (refine keep_skip rfl (fun _ _ _ h => h) (by rfl) ?_; simp only [Act.put, List.setIfInBounds_toArray, List.set_cons_zero, List.set_cons_succ])
    iterate 2 (refine keep_quiet (v := ?_) rfl (fun _ _ _ h => h) (by rfl) (fun w' hR => ?_) ?_; rotate_left; (go_simp; try with_reducible rfl); simp only [Act.put, List.setIfInBounds_toArray, List.set_cons_zero, List.set_cons_succ])
    iterate 3 (refine keep_quiet (v := ?_) rfl (fun _ _ _ h => h) (by rfl) (fun w' hR => ?_) ?_; rotate_left; (go_simp; try with_reducible rfl); simp only [Act.put, List.setIfInBounds_toArray, List.set_cons_zero, List.set_cons_succ])
    refine keep_quiet (v := .agg Y) rfl (fun _ _ _ h => h) (by rfl) (fun w' hR => execLoad 25 _ rfl (p := .pointer (some ⟨f0, 0, none⟩)) rfl (load25 (Blk.kept HF.out hR trivial) HYS.out)) ?_
    simp only [Act.put, List.setIfInBounds_toArray, List.set_cons_zero, List.set_cons_succ]
    iterate 1 (refine keep_quiet (v := ?_) rfl (fun _ _ _ h => h) (by rfl) (fun w' hR => ?_) ?_; rotate_left; (go_simp; try with_reducible rfl); simp only [Act.put, List.setIfInBounds_toArray, List.set_cons_zero, List.set_cons_succ])
    have heq := HZ.out
    iterate 1 (refine keep_quiet (v := ?_) rfl (fun _ _ _ h => h) (by rfl) (fun w' hR => ?_) ?_; rotate_left; (go_simp; try with_reducible rfl); simp only [Act.put, List.setIfInBounds_toArray, List.set_cons_zero, List.set_cons_succ])
    clear heq
    iterate 4 (refine keep_quiet (v := ?_) rfl (fun _ _ _ h => h) (by rfl) (fun w' hR => ?_) ?_; rotate_left; (go_simp; try with_reducible rfl); simp only [Act.put, List.setIfInBounds_toArray, List.set_cons_zero, List.set_cons_succ])
    refine keep_done ?_
    go_wp2_with fail
    go_ret
    exact ⟨rfl, HB.out⟩
  · have HB3 := Lib.hid hY
    clear hY
    go_upto_region 8 with (fail)
    refine wp_region_keep2 (KeptOn fun _ => True) (KeptOn.refl _) (KeptOn.trans) [(0,1),(1,0),(2,0),(3,0),(4,0),(5,0),(6,0),(7,0),(8,0),(9,0),(10,0),(11,0),(13,0),(12,1),(14,1),(15,0),(16,0),(17,0),(18,0),(19,0),(20,0),(21,0),(22,0),(23,0),(24,0),(25,0),(26,0),(28,0),(27,1),(29,0),(30,0),(31,0),(32,0),(33,0),(34,0),(35,0),(36,0),(37,0),(38,0),(39,0),(40,0),(41,0)] (by kernel_rfl) (by kernel_rfl) ?_
    refine keep_eff rfl ?_
    go_wp2_with fail
    refine (awakeM_any w7.drew (HK.out.below (HB.out.drewN 1))).mono ?_
    rintro e w8 ⟨rfl, hb⟩
    have hK : KeptOn (fun _ => True) w7.drew w8 := KeptOn.below hb (fun b hb _ => hb)
    have HD := Lib.hid (Blk.kept (w := w7.drew) HD.out hK trivial)
    have HE := Lib.hid (Blk.kept (w := w7.drew) HE.out hK trivial)
    have HF := Lib.hid (Blk.kept (w := w7.drew) HF.out hK trivial)
    have HB := Lib.hid ((HB.out.drewN 1).trans (hb.mono HB.out.size))
    clear hb
    go_wp2_with fail
    refine keepPost_need hK ?_
    clear hK
    iterate 1 (refine keep_quiet (v := ?_) rfl (fun _ _ _ h => h) (by rfl) (fun w' hR => ?_) ?_; rotate_left; (go_simp; try with_reducible rfl); simp only [Act.put, List.setIfInBounds_toArray, List.set_cons_zero, List.set_cons_succ])
    refine keep_quiet (v := .agg X) rfl (fun _ _ _ h => h) (by rfl) (fun w' hR => execLoad 25 _ rfl (p := .pointer (some ⟨e0, 0, none⟩)) rfl (load25 (Blk.kept HE.out hR trivial) HXS.out)) ?_
    simp only [Act.put, List.setIfInBounds_toArray, List.set_cons_zero, List.set_cons_succ]
    refine keep_quiet (v := .agg X) rfl (fun _ _ _ h => h) (by rfl) (fun w' hR => execLoad 25 _ rfl (p := .pointer (some ⟨w.heap.size, 0, none⟩)) rfl (load25 (Blk.kept HD.out hR trivial) HXS.out)) ?_
    simp only [Act.put, List.setIfInBounds_toArray, List.set_cons_zero, List.set_cons_succ]
    have heq := HEQ.out
    iterate 1 (refine keep_quiet (v := ?_) rfl (fun _ _ _ h => h) (by rfl) (fun w' hR => ?_) ?_; rotate_left; (go_simp; try with_reducible rfl); simp only [Act.put, List.setIfInBounds_toArray, List.set_cons_zero, List.set_cons_succ])
    clear heq
    iterate 6 (refine keep_quiet (v := ?_) rfl (fun _ _ _ h => h) (by rfl) (fun w' hR => ?_) ?_; rotate_left; (go_simp; try with_reducible rfl); simp only [Act.put, List.setIfInBounds_toArray, List.set_cons_zero, List.set_cons_succ])
    refine keep_quiet (v := .agg X) rfl (fun _ _ _ h => h) (by rfl) (fun w' hR => execLoad 25 _ rfl (p := .pointer (some ⟨w.heap.size, 0, none⟩)) rfl (load25 (Blk.kept HD.out hR trivial) HXS.out)) ?_
    simp only [Act.put, List.setIfInBounds_toArray, List.set_cons_zero, List.set_cons_succ]
    refine keep_quiet (v := .agg X) rfl (fun _ _ _ h => h) (by rfl) (fun w' hR => execLoad 25 _ rfl (p := .pointer (some ⟨w.heap.size, 0, none⟩)) rfl (load25 (Blk.kept HD.out hR trivial) HXS.out)) ?_
    simp only [Act.put, List.setIfInBounds_toArray, List.set_cons_zero, List.set_cons_succ]
    refine keep_eff rfl ?_
    go_wp2_with fail
    refine (HB1.out w8).mono ?_
    rintro e w9 ⟨rfl, hb⟩
    have hK : KeptOn (fun _ => True) w8 w9 := KeptOn.below hb (fun b hb _ => hb)
    have HF := Lib.hid (Blk.kept (w := w8) HF.out hK trivial)
    have HB := Lib.hid (HB.out.trans (hb.mono HB.out.size))
    clear hb
    go_wp2_with fail
    refine keepPost_need hK ?_
    clear hK
    refine keep_eff rfl ?_
    go_wp2_with fail
    refine (HB2.out w9).mono ?_
    rintro e w10 ⟨rfl, hb⟩
    have hK : KeptOn (fun _ => True) w9 w10 := KeptOn.below hb (fun b hb _ => hb)
    have HF := Lib.hid (Blk.kept (w := w9) HF.out hK trivial)
    have HB := Lib.hid (HB.out.trans (hb.mono HB.out.size))
    clear hb
    go_wp2_with fail
    refine keepPost_need hK ?_
    clear hK
    iterate 11 (refine keep_quiet (v := ?_) rfl (fun _ _ _ h => h) (by rfl) (fun w' hR => ?_) ?_; rotate_left; (go_simp; try with_reducible rfl); simp only [Act.put, List.setIfInBounds_toArray, List.set_cons_zero, List.set_cons_succ])
    refine keep_quiet (v := .agg Y) rfl (fun _ _ _ h => h) (by rfl) (fun w' hR => execLoad 25 _ rfl (p := .pointer (some ⟨f0, 0, none⟩)) rfl (load25 (Blk.kept HF.out hR trivial) HYS.out)) ?_
    simp only [Act.put, List.setIfInBounds_toArray, List.set_cons_zero, List.set_cons_succ]
    iterate 1 (refine keep_quiet (v := ?_) rfl (fun _ _ _ h => h) (by rfl) (fun w' hR => ?_) ?_; rotate_left; (go_simp; try with_reducible rfl); simp only [Act.put, List.setIfInBounds_toArray, List.set_cons_zero, List.set_cons_succ])
    refine keep_eff rfl ?_
    go_wp2_with fail
    refine (HB3.out w10).mono ?_
    rintro e w11 ⟨rfl, hb⟩
    have hK : KeptOn (fun _ => True) w10 w11 := KeptOn.below hb (fun b hb _ => hb)
    have HB := Lib.hid (HB.out.trans (hb.mono HB.out.size))
    clear hb
    go_wp2_with fail
    refine keepPost_need hK ?_
    clear hK
    iterate 3 (refine keep_quiet (v := ?_) rfl (fun _ _ _ h => h) (by rfl) (fun w' hR => ?_) ?_; rotate_left; (go_simp; try with_reducible rfl); simp only [Act.put, List.setIfInBounds_toArray, List.set_cons_zero, List.set_cons_succ])
    iterate 7 (refine keep_skip rfl (fun _ _ _ h => h) (by rfl) ?_; simp only [Act.put, List.setIfInBounds_toArray, List.set_cons_zero, List.set_cons_succ])
    iterate 3 (refine keep_quiet (v := ?_) rfl (fun _ _ _ h => h) (by rfl) (fun w' hR => ?_) ?_; rotate_left; (go_simp; try with_reducible rfl); simp only [Act.put, List.setIfInBounds_toArray, List.set_cons_zero, List.set_cons_succ])
    refine keep_done ?_
    go_wp2_with fail
    go_ret
    exact ⟨rfl, HB.out⟩
end Go.Proofs.YtkbcilfcfbfiaaaDoor
