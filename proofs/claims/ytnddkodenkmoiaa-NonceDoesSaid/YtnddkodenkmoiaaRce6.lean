/- The reference's cell: Save. -/
import Derived.Test.YtnddkodenkmoiaaRceA
import Derived.Test.YtnddkodenkmoiaaRdk6
import Derived.Test.YtnddkodenkmoiaaNon1
namespace Go.Proofs.Ytnddkodenkmoiaa
open Go.RowKit Go.Proofs
set_option linter.unusedSimpArgs false
set_option linter.unusedVariables false
theorem Only3.keptB {x g o cl co : Nat} {a b : World} {X : Dk} {q : Nat} {cs : Array Value} (h : Only3 x g o a b) (hR : RD a x g o cl co X) (hq : Blk a q 111 cs) : KeptOn (fun i => i = q) a b := by
  obtain ⟨A, hA⟩ := hR.now.blk
  obtain ⟨B, hB⟩ := hR.old.blk
  exact ⟨h.size, fun i hi e => by subst e; exact h.block i hi (hq.ne_ hR.head (by decide)) (hq.ne_ hA (by decide)) (hq.ne_ hB (by decide))⟩
set_option maxRecDepth 100000 in
set_option maxHeartbeats 16000000 in
theorem saveR_any (y x gl go cl co : Nat) (X : Dk) (t : ByteArray) (w : World) (hC : CellR w y x) (hR : RD w x gl go cl co X) (hl : X.L.length = 6) (htm : t.size ≤ 9223372036854775807) :
    Calls Try.prog 44 #[.pointer (some ⟨y, 0, none⟩), .string t] w fun e w' => e = .returned (.int .i64 (X.saveF 1 1 t).2) ∧ RD w' x gl go cl co (X.saveF 1 1 t).1 ∧ Only3 x gl go w w' := by
  have c0 : w.cell? ⟨y, 0, none⟩ = some (.pointer (some ⟨x, 0, none⟩)) := Blk.cell hC 0
  have c2 : w.cell? ⟨y, 2, none⟩ = some (.int .i64 1) := Blk.cell hC 2
  have c3 := hR.down
  have HC := Lib.hid hC
  have HR := Lib.hid hR
  have HLN := Lib.hid hl
  clear hC hR hl
  go_enter Try.func44, Try.ntmps44
  by_cases hb : 64 < t.size
  · have HV := Lib.hid (show X.saveF 1 1 t = (X, 4) by unfold Dk.saveF; rw [if_pos (by omega)])
    have hb' : (64 : Int) < (t.size : Int) := by omega
    clear hb
    go_wp2_with fail
    go_ret
    exact ⟨by rw [HV.out]; rfl, by rw [HV.out]; exact HR.out, Only3.refl _ _ _ _⟩
  have hb' : ¬ (64 : Int) < (t.size : Int) := by omega
  cases hd : X.down with
  | true =>
    rw [hd] at c3
    have HV := Lib.hid (show X.saveF 1 1 t = (X, 12) by unfold Dk.saveF; rw [if_neg (by omega), if_pos hd])
    clear hd hb
    go_wp2_with fail
    go_ret
    exact ⟨by rw [HV.out]; rfl, by rw [HV.out]; exact HR.out, Only3.refl _ _ _ _⟩
  | false =>
    rw [hd] at c3
    have hsv := saveF_ref X t hd hb
    have HT := Lib.hid (show t.size ≤ 64 by omega)
    have htn := toN_ref X 1 1
    have hcn := cnt_ref X 1 1
    change X.toN 1 1 = (if (slotS X 2 1).1 ≤ (slotS X 1 1).1 ∧ 0 < (slotS X 1 1).1 then 1 else 0) at htn
    change ((X.cnt 1 1 : Nat) : Int) = (if (slotS X 1 1).1 < (slotS X 2 1).1 then (slotS X 2 1).1 else (slotS X 1 1).1) + 1 at hcn
    have hp := slotS_bd X 1 1 (by omega)
    have hq := slotS_bd X 2 1 (by omega)
    have hsay1 := saysR0_any y x gl go cl co X w HC.out HR.out (by rw [HLN.out]; omega)
    have hsay2 := fun w1 hb1 => saysR1_any y x gl go cl co X w1 (show CellR w1 y x from HC.out.below hb1 HC.out.lt) (HR.out.below hb1) (by rw [HLN.out]; omega)
    generalize slotS X 1 1 = p at htn hcn hp hsay1
    generalize slotS X 2 1 = q at htn hcn hq hsay2
    obtain ⟨p1, p2⟩ := p
    obtain ⟨q1, q2⟩ := q
    dsimp only at htn hcn hp hq hsay1 hsay2
    generalize X.toN 1 1 = tn at htn hsv
    generalize X.cnt 1 1 = n at hcn hsv
    have HS2 := Lib.hid hsay2
    have HTN := Lib.hid htn
    have HCN := Lib.hid hcn
    have HSV := Lib.hid hsv
    clear hd hsay2 htn hcn hsv hb
    go_wp2_with fail
    refine hsay1.mono ?_
    rintro e w2 ⟨rfl, hb⟩
    have HB := Lib.hid hb
    clear hsay1 hb c0 c3 c2 hb'
    go_wp2_with fail
    refine (HS2.out w2 HB.out).mono ?_
    rintro e w3 ⟨rfl, hb⟩
    have HB := Lib.hid (HB.out.trans (hb.mono HB.out.size))
    clear hb HS2
    have HC0 := HC
    have HR0 := HR
    have HC := Lib.hid (show CellR w3 y x from HC.out.below HB.out HC.out.lt)
    have HR := Lib.hid (HR.out.below HB.out)
    have HO := Lib.hid (Only3.of_below (x := x) (g := gl) (o := go) HB.out)
    by_cases a1 : q1 ≤ p1
    · have a1' : ¬ p1 < q1 := by omega
      have hn : p1 + 1 = (n : Int) := by have := HCN.out; rw [if_neg a1'] at this; exact this.symm
      have HNN := Lib.hid hn
      clear hn
      by_cases a2 : 0 < p1
      · have he := HTN.out.trans (if_pos ⟨a1, a2⟩)
        subst he
        go_upto_region 11 with (fail)
        rw [HNN.out]
        clear HNN HTN HCN
        as_aux_lemma =>
          by_cases hcm : 1099511627776 < n
          · have HV := Lib.hid (show X.saveF 1 1 t = (X, 3) from HSV.out.trans (if_pos hcm))
            have hcm' : (1099511627776 : Int) < (n : Int) := by omega
            clear hcm
            go_wp2_with fail
            go_ret
            exact ⟨by rw [HV.out]; rfl, by rw [HV.out]; exact HR.out, HO.out⟩
          · have hcm' : ¬ (1099511627776 : Int) < (n : Int) := by omega
            have HSV := Lib.hid (show X.saveF 1 1 t = headF (1 + 1) n t.size (partsF (3 + 1) t 1 0 X) from HSV.out.trans (if_neg hcm))
            have HN := Lib.hid (show n ≤ 9223372036854775807 by omega)
            clear hcm
            have HV := Lib.hid (show X.saveF 1 1 t = headF 2 n t.size (partsF 4 t 1 0 X) from HSV.out)
            clear HSV
            go_wp2_with fail
            go_loopw [11] (fun v11 wr => ∃ (i : Nat) (Y : Dk), v11 = .int .i64 (i : Int) ∧ ((i = 0 ∧ Y = X) ∨ (i = 1 ∧ 0 < t.size ∧ partsF 4 t 1 0 X = (Y, 0))) ∧ RD wr x gl go cl co Y ∧ Only3 x gl go w wr) (fun v11 _ => 1 - (intOf v11).toNat)
            case atStart => exact ⟨0, X, rfl, .inl ⟨rfl, rfl⟩, HR.out, HO.out⟩
            case round =>
              obtain ⟨i, Y, rfl, hcase, hR, hO⟩ := hrel
              have HC := Lib.hid (show CellR wr y x from (show Only3 x gl go w wr from hO).blk HR0.out HC0.out (by decide) (by decide))
              by_cases hlt : i = 0 ∧ 0 < t.size
              · obtain ⟨rfl, h0⟩ := hlt
                obtain rfl : Y = X := by rcases hcase with h | h; exact h.2; omega
                clear hcase
                have HP := Lib.hid (show partsF 4 t 1 0 Y = (Y.write 4 (partOf t 0), Y.writeR 4 (partOf t 0)) from partsF_one 4 t Y h0)
                have HR := Lib.hid hR
                have HO := Lib.hid hO
                clear hR hO
                have i1 : (0 : Int) < (t.size : Int) := by omega
                go_upto_region 16 with (fail)
                clear i1
                have HR := Lib.hid HR.out.drew
                have HO := Lib.hid HO.out.drew
                have HC := Lib.hid (show CellR wr.drew y x from HC.out)
                have H0 := Lib.hid h0
                clear h0
                generalize hw5 : wr.drew = w5 at HR HO HC
                have e0 : ∀ w', KeptOn (fun b => b = y) w5 w' → w'.cell? ⟨y, 0, none⟩ = some (.pointer (some ⟨x, 0, none⟩)) := fun w' h => h.cell (w := w5) (Blk.cell HC.out 0) rfl
                have e1 : ∀ w', KeptOn (fun b => b = y) w5 w' → w'.cell? ⟨y, 1, none⟩ = some (.int .i64 1) := fun w' h => h.cell (w := w5) (Blk.cell HC.out 1) rfl
                have e2 : ∀ w', KeptOn (fun b => b = y) w5 w' → w'.cell? ⟨y, 2, none⟩ = some (.int .i64 1) := fun w' h => h.cell (w := w5) (Blk.cell HC.out 2) rfl
                refine wp_region_pure (KeptOn fun b => b = y) (KeptOn.refl _) (KeptOn.trans) [(0,3),(1,3),(2,3),(3,0),(4,3),(5,3),(6,3),(7,0),(8,3),(9,3),(10,3),(11,3),(12,3),(13,0),(14,3),(15,3),(16,3),(17,3),(18,3),(19,3),(20,1),(21,1),(22,3)] (by kernel_rfl) (by kernel_rfl) ?_
                rw [hw5]
                clear hw5
                iterate 3 (refine pure_pure (v := ?_) rfl (fun _ _ _ h => h) (by rfl) (fun w' => ?_) ?_; rotate_left; (go_simp; try with_reducible rfl); simp only [Act.put, List.setIfInBounds_toArray, List.set_cons_zero, List.set_cons_succ])
                iterate 1 (refine pure_quiet (v := ?_) rfl (fun _ _ _ h => h) (by rfl) (fun w' hR => ?_) ?_; rotate_left; (go_simp; try with_reducible rfl); simp only [Act.put, List.setIfInBounds_toArray, List.set_cons_zero, List.set_cons_succ])
                iterate 3 (refine pure_pure (v := ?_) rfl (fun _ _ _ h => h) (by rfl) (fun w' => ?_) ?_; rotate_left; (go_simp; try with_reducible rfl); simp only [Act.put, List.setIfInBounds_toArray, List.set_cons_zero, List.set_cons_succ])
                iterate 1 (refine pure_quiet (v := ?_) rfl (fun _ _ _ h => h) (by rfl) (fun w' hR => ?_) ?_; rotate_left; (go_simp; try with_reducible rfl); simp only [Act.put, List.setIfInBounds_toArray, List.set_cons_zero, List.set_cons_succ])
                iterate 5 (refine pure_pure (v := ?_) rfl (fun _ _ _ h => h) (by rfl) (fun w' => ?_) ?_; rotate_left; (go_simp; try with_reducible rfl); simp only [Act.put, List.setIfInBounds_toArray, List.set_cons_zero, List.set_cons_succ])
                iterate 1 (refine pure_quiet (v := ?_) rfl (fun _ _ _ h => h) (by rfl) (fun w' hR => ?_) ?_; rotate_left; (go_simp; try with_reducible rfl); simp only [Act.put, List.setIfInBounds_toArray, List.set_cons_zero, List.set_cons_succ])
                iterate 6 (refine pure_pure (v := ?_) rfl (fun _ _ _ h => h) (by rfl) (fun w' => ?_) ?_; rotate_left; (go_simp; try with_reducible rfl); simp only [Act.put, List.setIfInBounds_toArray, List.set_cons_zero, List.set_cons_succ])
                clear e0 e1 e2
                refine pure_eff rfl ?_
                go_wp2_with fail
                refine (part_any t w5 H0.out HT.out).mono ?_
                rintro e w6 ⟨rfl, rfl⟩
                go_wp2_with fail
                refine purePost_need (KeptOn.refl _ _) ?_
                refine pure_eff rfl ?_
                go_wp2_with fail
                refine (writeR_any x gl go cl co Y 4 (partOf t 0) w5 HR.out).mono ?_
                rintro e w6 ⟨rfl, hD, hO⟩
                have HKe := Lib.hid (show KeptOn (fun b => b = y) w5 w6 from hO.keptB HR.out HC.out)
                have HO := Lib.hid (HO.out.trans hO)
                have HR := Lib.hid hD
                clear hD hO
                generalize Y.writeR 4 (partOf t 0) = r at HP ⊢
                generalize Y.write 4 (partOf t 0) = Y2 at HP HR
                have HRV := Lib.hid HP.out
                go_wp2_with fail
                refine purePost_need HKe.out ?_
                iterate 1 (refine pure_pure (v := ?_) rfl (fun _ _ _ h => h) (by rfl) (fun w' => ?_) ?_; rotate_left; (go_simp; try with_reducible rfl); simp only [Act.put, List.setIfInBounds_toArray, List.set_cons_zero, List.set_cons_succ])
                refine pure_done ?_
                by_cases hr : r = 0
                · subst hr
                  go_wp2_with fail
                  go_roundw
                  case rel => exact ⟨1, Y2, by go_num, .inr ⟨rfl, H0.out, HP.out⟩, HR.out, HO.out⟩
                  case measure => simp [intOf]
                · have HVV := Lib.hid (show Y.saveF 1 1 t = (Y2, r) by rw [HV.out, HP.out]; unfold headF; rw [if_neg hr])
                  go_wp2_with fail
                  go_ret
                  exact ⟨by rw [HVV.out]; rfl, by rw [HVV.out]; exact HR.out, HO.out⟩
              · have HP := Lib.hid (show partsF 4 t 1 0 X = (Y, 0) by
                  rcases hcase with ⟨rfl, rfl⟩ | ⟨_, _, h⟩
                  · exact partsF_none 4 t Y (by omega)
                  · exact h)
                have i1 : ¬ 64 * (i : Int) < (t.size : Int) := by have := HT.out; rcases hcase with ⟨rfl, rfl⟩ | ⟨rfl, _, h⟩ <;> omega
                have hi1 : i ≤ 1 := by omega
                have HR := Lib.hid hR
                have HO := Lib.hid hO
                have HV := Lib.hid (HV.out.trans (by rw [HP.out]))
                clear hR hO hcase hlt HP
                have c0 : wr.cell? ⟨y, 0, none⟩ = some (.pointer (some ⟨x, 0, none⟩)) := Blk.cell HC.out 0
                go_wp2_with fail
                clear i1 hi1 c0
                refine (syncR_any x gl go cl co Y wr HR.out).mono ?_
                rintro e w6 ⟨rfl, hD, hO⟩
                have HC := Lib.hid (show CellR w6 y x from hO.blk HR.out HC.out (by decide) (by decide))
                have HO := Lib.hid (HO.out.trans hO)
                have HR := Lib.hid hD
                clear hD hO
                have hv : X.saveF 1 1 t = if Y.syncR = 0 then
                  if Y.sync.writeR 2 (headOf n t.size) = 0 then ((Y.sync.write 2 (headOf n t.size)).sync, (Y.sync.write 2 (headOf n t.size)).syncR)
                  else (Y.sync.write 2 (headOf n t.size), Y.sync.writeR 2 (headOf n t.size))
                else (Y.sync, Y.syncR) := HV.out.trans (by unfold headF; rw [if_pos rfl]; rfl)
                generalize Y.syncR = r at hv ⊢
                generalize Y.sync = Y3 at hv HR
                by_cases hr : r = 0
                · subst hr
                  rw [if_pos rfl] at hv
                  have HV := Lib.hid hv
                  clear hv
                  go_wp2_with fail
                  refine (fill_any ⟨#[]⟩ w6 (by decide)).mono ?_
                  rintro e w7 ⟨rfl, hb⟩
                  have HC := Lib.hid (show CellR w7 y x from HC.out.below hb HC.out.lt)
                  have HO := Lib.hid (HO.out.trans (Only3.of_below hb))
                  have HR := Lib.hid (HR.out.below hb)
                  clear hb
                  have HZ := Lib.hid (show (strOf (fillOf (by_ ⟨#[]⟩))).extract 0 40 = strOf (List.replicate 40 0) by decide +kernel)
                  have hz : (strOf (fillOf (by_ ⟨#[]⟩))).size = 64 := by decide +kernel
                  generalize strOf (fillOf (by_ ⟨#[]⟩)) = Z at HZ hz ⊢
                  have hc1 := cat_run (beOf n) (beOf t.size) (by simp [beOf_length])
                  have hc2 := cat_run (beOf n ++ beOf t.size) (List.replicate 40 0) (by simp [beOf_length])
                  have hc3 := cat_run ((beOf n ++ beOf t.size) ++ List.replicate 40 0) (beOf n) (by simp [beOf_length])
                  have hh : strOf (((beOf n ++ beOf t.size) ++ List.replicate 40 0) ++ beOf n) = headOf n t.size := by
                    unfold headOf headL
                    rw [List.append_assoc, List.append_assoc]
                  rw [hh] at hc3
                  rw [← HZ.out] at hc2
                  have he1 := fun w => eightR_any n HN.out w
                  have he2 := fun w => eightR_any t.size (by have := HT.out; omega) w
                  generalize strOf ((beOf n ++ beOf t.size) ++ List.replicate 40 0) = S3 at hc2 hc3
                  generalize strOf (beOf n ++ beOf t.size) = S2 at hc1 hc2
                  generalize headOf n t.size = HD at hc3 HV
                  generalize strOf (beOf n) = S0 at hc1 hc3 he1
                  generalize strOf (beOf t.size) = S1 at hc1 he2
                  have HE1 := Lib.hid he1
                  have HE2 := Lib.hid he2
                  have HC1 := Lib.hid hc1
                  have HC2 := Lib.hid hc2
                  have HC3 := Lib.hid hc3
                  clear hc1 hc2 hc3 he1 he2 hh
                  go_upto_region 23 with (fail)
                  have HR := Lib.hid HR.out.drew
                  have HO := Lib.hid HO.out.drew
                  have HC := Lib.hid (show CellR w7.drew y x from HC.out)
                  generalize hw5 : w7.drew = w5 at HR HO HC
                  have e0 : ∀ w', KeptOn (fun b => b = y) w5 w' → w'.cell? ⟨y, 0, none⟩ = some (.pointer (some ⟨x, 0, none⟩)) := fun w' h => h.cell (w := w5) (Blk.cell HC.out 0) rfl
                  have e1 : ∀ w', KeptOn (fun b => b = y) w5 w' → w'.cell? ⟨y, 1, none⟩ = some (.int .i64 1) := fun w' h => h.cell (w := w5) (Blk.cell HC.out 1) rfl
                  refine wp_region_pure (KeptOn fun b => b = y) (KeptOn.refl _) (KeptOn.trans) [(0,3),(1,3),(2,3),(3,0),(4,3),(5,3),(6,3),(7,0),(8,3),(9,3),(10,3),(12,3),(13,3),(16,3),(17,3),(19,3),(11,1),(14,1),(15,3),(18,3),(20,1),(21,3),(22,1),(23,3)] (by kernel_rfl) (by kernel_rfl) ?_
                  rw [hw5]
                  clear hw5
                  iterate 3 (refine pure_pure (v := ?_) rfl (fun _ _ _ h => h) (by rfl) (fun w' => ?_) ?_; rotate_left; (go_simp; try with_reducible rfl); simp only [Act.put, List.setIfInBounds_toArray, List.set_cons_zero, List.set_cons_succ])
                  iterate 1 (refine pure_quiet (v := ?_) rfl (fun _ _ _ h => h) (by rfl) (fun w' hR => ?_) ?_; rotate_left; (go_simp; try with_reducible rfl); simp only [Act.put, List.setIfInBounds_toArray, List.set_cons_zero, List.set_cons_succ])
                  iterate 3 (refine pure_pure (v := ?_) rfl (fun _ _ _ h => h) (by rfl) (fun w' => ?_) ?_; rotate_left; (go_simp; try with_reducible rfl); simp only [Act.put, List.setIfInBounds_toArray, List.set_cons_zero, List.set_cons_succ])
                  iterate 1 (refine pure_quiet (v := ?_) rfl (fun _ _ _ h => h) (by rfl) (fun w' hR => ?_) ?_; rotate_left; (go_simp; try with_reducible rfl); simp only [Act.put, List.setIfInBounds_toArray, List.set_cons_zero, List.set_cons_succ])
                  iterate 8 (refine pure_pure (v := ?_) rfl (fun _ _ _ h => h) (by rfl) (fun w' => ?_) ?_; rotate_left; (go_simp; try with_reducible rfl); simp only [Act.put, List.setIfInBounds_toArray, List.set_cons_zero, List.set_cons_succ])
                  clear e0 e1 hz
                  refine pure_eff rfl ?_
                  go_wp2_with fail
                  refine (HE1.out w5).mono ?_
                  rintro e w6 ⟨rfl, hb⟩
                  have HKe := Lib.hid (show KeptOn (fun b => b = y) w5 w6 from ⟨hb.size, fun i hi _ => hb.block i hi⟩)
                  have HC := Lib.hid (show CellR w6 y x from HC.out.below hb HC.out.lt)
                  have HO := Lib.hid (HO.out.trans (Only3.of_below hb))
                  have HR := Lib.hid (HR.out.below hb)
                  clear hb
                  go_wp2_with fail
                  refine purePost_need HKe.out ?_
                  refine pure_eff rfl ?_
                  go_wp2_with fail
                  refine (HE2.out w6).mono ?_
                  rintro e w8 ⟨rfl, hb⟩
                  have HKe := Lib.hid (show KeptOn (fun b => b = y) w6 w8 from ⟨hb.size, fun i hi _ => hb.block i hi⟩)
                  have HC := Lib.hid (show CellR w8 y x from HC.out.below hb HC.out.lt)
                  have HO := Lib.hid (HO.out.trans (Only3.of_below hb))
                  have HR := Lib.hid (HR.out.below hb)
                  clear hb
                  go_wp2_with fail
                  refine purePost_need HKe.out ?_
                  have hc1 := HC1.out
                  have hc2 := HC2.out
                  iterate 2 (refine pure_pure (v := ?_) rfl (fun _ _ _ h => h) (by rfl) (fun w' => ?_) ?_; rotate_left; (go_simp; try with_reducible rfl); simp only [Act.put, List.setIfInBounds_toArray, List.set_cons_zero, List.set_cons_succ])
                  clear hc1 hc2
                  refine pure_eff rfl ?_
                  go_wp2_with fail
                  refine (HE1.out w8).mono ?_
                  rintro e w9 ⟨rfl, hb⟩
                  have HKe := Lib.hid (show KeptOn (fun b => b = y) w8 w9 from ⟨hb.size, fun i hi _ => hb.block i hi⟩)
                  have HC := Lib.hid (show CellR w9 y x from HC.out.below hb HC.out.lt)
                  have HO := Lib.hid (HO.out.trans (Only3.of_below hb))
                  have HR := Lib.hid (HR.out.below hb)
                  clear hb
                  go_wp2_with fail
                  refine purePost_need HKe.out ?_
                  have hc3 := HC3.out
                  iterate 1 (refine pure_pure (v := ?_) rfl (fun _ _ _ h => h) (by rfl) (fun w' => ?_) ?_; rotate_left; (go_simp; try with_reducible rfl); simp only [Act.put, List.setIfInBounds_toArray, List.set_cons_zero, List.set_cons_succ])
                  clear hc3
                  refine pure_eff rfl ?_
                  go_wp2_with fail
                  refine (writeR_any x gl go cl co Y3 2 HD w9 HR.out).mono ?_
                  rintro e w6 ⟨rfl, hD, hO⟩
                  have HKe := Lib.hid (show KeptOn (fun b => b = y) w9 w6 from hO.keptB HR.out HC.out)
                  have HC := Lib.hid (show CellR w6 y x from hO.blk HR.out HC.out (by decide) (by decide))
                  have HO := Lib.hid (HO.out.trans hO)
                  have HR := Lib.hid hD
                  clear hD hO
                  have hv := HV.out
                  generalize Y3.writeR 2 HD = r2 at hv ⊢
                  generalize Y3.write 2 HD = Y4 at hv HR
                  have HV := Lib.hid hv
                  clear hv
                  go_wp2_with fail
                  refine purePost_need HKe.out ?_
                  iterate 1 (refine pure_pure (v := ?_) rfl (fun _ _ _ h => h) (by rfl) (fun w' => ?_) ?_; rotate_left; (go_simp; try with_reducible rfl); simp only [Act.put, List.setIfInBounds_toArray, List.set_cons_zero, List.set_cons_succ])
                  refine pure_done ?_
                  by_cases hr : r2 = 0
                  · subst hr
                    have HVV := Lib.hid (HV.out.trans (if_pos rfl))
                    have c0 : w6.cell? ⟨y, 0, none⟩ = some (.pointer (some ⟨x, 0, none⟩)) := Blk.cell HC.out 0
                    go_wp2_with fail
                    clear c0
                    refine (syncR_any x gl go cl co Y4 w6 HR.out).mono ?_
                    rintro e w7 ⟨rfl, hD, hO⟩
                    have HO := Lib.hid (HO.out.trans hO)
                    have HR := Lib.hid hD
                    clear hD hO
                    go_wp2_with fail
                    go_ret
                    exact ⟨by rw [HVV.out]; rfl, by rw [HVV.out]; exact HR.out, HO.out⟩
                  · have HVV := Lib.hid (HV.out.trans (if_neg hr))
                    go_wp2_with fail
                    go_ret
                    exact ⟨by rw [HVV.out]; rfl, by rw [HVV.out]; exact HR.out, HO.out⟩
                · have HVV := Lib.hid (hv.trans (if_neg hr))
                  clear hv
                  go_wp2_with fail
                  go_ret
                  exact ⟨by rw [HVV.out]; rfl, by rw [HVV.out]; exact HR.out, HO.out⟩
      · have he := HTN.out.trans (if_neg (fun h => a2 h.2))
        subst he
        go_upto_region 11 with (fail)
        rw [HNN.out]
        clear HNN HTN HCN
        as_aux_lemma =>
          by_cases hcm : 1099511627776 < n
          · have HV := Lib.hid (show X.saveF 1 1 t = (X, 3) from HSV.out.trans (if_pos hcm))
            have hcm' : (1099511627776 : Int) < (n : Int) := by omega
            clear hcm
            go_wp2_with fail
            go_ret
            exact ⟨by rw [HV.out]; rfl, by rw [HV.out]; exact HR.out, HO.out⟩
          · have hcm' : ¬ (1099511627776 : Int) < (n : Int) := by omega
            have HSV := Lib.hid (show X.saveF 1 1 t = headF (1 + 0) n t.size (partsF (3 + 0) t 1 0 X) from HSV.out.trans (if_neg hcm))
            have HN := Lib.hid (show n ≤ 9223372036854775807 by omega)
            clear hcm
            have HV := Lib.hid (show X.saveF 1 1 t = headF 1 n t.size (partsF 3 t 1 0 X) from HSV.out)
            clear HSV
            go_wp2_with fail
            go_loopw [11] (fun v11 wr => ∃ (i : Nat) (Y : Dk), v11 = .int .i64 (i : Int) ∧ ((i = 0 ∧ Y = X) ∨ (i = 1 ∧ 0 < t.size ∧ partsF 3 t 1 0 X = (Y, 0))) ∧ RD wr x gl go cl co Y ∧ Only3 x gl go w wr) (fun v11 _ => 1 - (intOf v11).toNat)
            case atStart => exact ⟨0, X, rfl, .inl ⟨rfl, rfl⟩, HR.out, HO.out⟩
            case round =>
              obtain ⟨i, Y, rfl, hcase, hR, hO⟩ := hrel
              have HC := Lib.hid (show CellR wr y x from (show Only3 x gl go w wr from hO).blk HR0.out HC0.out (by decide) (by decide))
              by_cases hlt : i = 0 ∧ 0 < t.size
              · obtain ⟨rfl, h0⟩ := hlt
                obtain rfl : Y = X := by rcases hcase with h | h; exact h.2; omega
                clear hcase
                have HP := Lib.hid (show partsF 3 t 1 0 Y = (Y.write 3 (partOf t 0), Y.writeR 3 (partOf t 0)) from partsF_one 3 t Y h0)
                have HR := Lib.hid hR
                have HO := Lib.hid hO
                clear hR hO
                have i1 : (0 : Int) < (t.size : Int) := by omega
                go_upto_region 16 with (fail)
                clear i1
                have HR := Lib.hid HR.out.drew
                have HO := Lib.hid HO.out.drew
                have HC := Lib.hid (show CellR wr.drew y x from HC.out)
                have H0 := Lib.hid h0
                clear h0
                generalize hw5 : wr.drew = w5 at HR HO HC
                have e0 : ∀ w', KeptOn (fun b => b = y) w5 w' → w'.cell? ⟨y, 0, none⟩ = some (.pointer (some ⟨x, 0, none⟩)) := fun w' h => h.cell (w := w5) (Blk.cell HC.out 0) rfl
                have e1 : ∀ w', KeptOn (fun b => b = y) w5 w' → w'.cell? ⟨y, 1, none⟩ = some (.int .i64 1) := fun w' h => h.cell (w := w5) (Blk.cell HC.out 1) rfl
                have e2 : ∀ w', KeptOn (fun b => b = y) w5 w' → w'.cell? ⟨y, 2, none⟩ = some (.int .i64 1) := fun w' h => h.cell (w := w5) (Blk.cell HC.out 2) rfl
                refine wp_region_pure (KeptOn fun b => b = y) (KeptOn.refl _) (KeptOn.trans) [(0,3),(1,3),(2,3),(3,0),(4,3),(5,3),(6,3),(7,0),(8,3),(9,3),(10,3),(11,3),(12,3),(13,0),(14,3),(15,3),(16,3),(17,3),(18,3),(19,3),(20,1),(21,1),(22,3)] (by kernel_rfl) (by kernel_rfl) ?_
                rw [hw5]
                clear hw5
                iterate 3 (refine pure_pure (v := ?_) rfl (fun _ _ _ h => h) (by rfl) (fun w' => ?_) ?_; rotate_left; (go_simp; try with_reducible rfl); simp only [Act.put, List.setIfInBounds_toArray, List.set_cons_zero, List.set_cons_succ])
                iterate 1 (refine pure_quiet (v := ?_) rfl (fun _ _ _ h => h) (by rfl) (fun w' hR => ?_) ?_; rotate_left; (go_simp; try with_reducible rfl); simp only [Act.put, List.setIfInBounds_toArray, List.set_cons_zero, List.set_cons_succ])
                iterate 3 (refine pure_pure (v := ?_) rfl (fun _ _ _ h => h) (by rfl) (fun w' => ?_) ?_; rotate_left; (go_simp; try with_reducible rfl); simp only [Act.put, List.setIfInBounds_toArray, List.set_cons_zero, List.set_cons_succ])
                iterate 1 (refine pure_quiet (v := ?_) rfl (fun _ _ _ h => h) (by rfl) (fun w' hR => ?_) ?_; rotate_left; (go_simp; try with_reducible rfl); simp only [Act.put, List.setIfInBounds_toArray, List.set_cons_zero, List.set_cons_succ])
                iterate 5 (refine pure_pure (v := ?_) rfl (fun _ _ _ h => h) (by rfl) (fun w' => ?_) ?_; rotate_left; (go_simp; try with_reducible rfl); simp only [Act.put, List.setIfInBounds_toArray, List.set_cons_zero, List.set_cons_succ])
                iterate 1 (refine pure_quiet (v := ?_) rfl (fun _ _ _ h => h) (by rfl) (fun w' hR => ?_) ?_; rotate_left; (go_simp; try with_reducible rfl); simp only [Act.put, List.setIfInBounds_toArray, List.set_cons_zero, List.set_cons_succ])
                iterate 6 (refine pure_pure (v := ?_) rfl (fun _ _ _ h => h) (by rfl) (fun w' => ?_) ?_; rotate_left; (go_simp; try with_reducible rfl); simp only [Act.put, List.setIfInBounds_toArray, List.set_cons_zero, List.set_cons_succ])
                clear e0 e1 e2
                refine pure_eff rfl ?_
                go_wp2_with fail
                refine (part_any t w5 H0.out HT.out).mono ?_
                rintro e w6 ⟨rfl, rfl⟩
                go_wp2_with fail
                refine purePost_need (KeptOn.refl _ _) ?_
                refine pure_eff rfl ?_
                go_wp2_with fail
                refine (writeR_any x gl go cl co Y 3 (partOf t 0) w5 HR.out).mono ?_
                rintro e w6 ⟨rfl, hD, hO⟩
                have HKe := Lib.hid (show KeptOn (fun b => b = y) w5 w6 from hO.keptB HR.out HC.out)
                have HO := Lib.hid (HO.out.trans hO)
                have HR := Lib.hid hD
                clear hD hO
                generalize Y.writeR 3 (partOf t 0) = r at HP ⊢
                generalize Y.write 3 (partOf t 0) = Y2 at HP HR
                have HRV := Lib.hid HP.out
                go_wp2_with fail
                refine purePost_need HKe.out ?_
                iterate 1 (refine pure_pure (v := ?_) rfl (fun _ _ _ h => h) (by rfl) (fun w' => ?_) ?_; rotate_left; (go_simp; try with_reducible rfl); simp only [Act.put, List.setIfInBounds_toArray, List.set_cons_zero, List.set_cons_succ])
                refine pure_done ?_
                by_cases hr : r = 0
                · subst hr
                  go_wp2_with fail
                  go_roundw
                  case rel => exact ⟨1, Y2, by go_num, .inr ⟨rfl, H0.out, HP.out⟩, HR.out, HO.out⟩
                  case measure => simp [intOf]
                · have HVV := Lib.hid (show Y.saveF 1 1 t = (Y2, r) by rw [HV.out, HP.out]; unfold headF; rw [if_neg hr])
                  go_wp2_with fail
                  go_ret
                  exact ⟨by rw [HVV.out]; rfl, by rw [HVV.out]; exact HR.out, HO.out⟩
              · have HP := Lib.hid (show partsF 3 t 1 0 X = (Y, 0) by
                  rcases hcase with ⟨rfl, rfl⟩ | ⟨_, _, h⟩
                  · exact partsF_none 3 t Y (by omega)
                  · exact h)
                have i1 : ¬ 64 * (i : Int) < (t.size : Int) := by have := HT.out; rcases hcase with ⟨rfl, rfl⟩ | ⟨rfl, _, h⟩ <;> omega
                have hi1 : i ≤ 1 := by omega
                have HR := Lib.hid hR
                have HO := Lib.hid hO
                have HV := Lib.hid (HV.out.trans (by rw [HP.out]))
                clear hR hO hcase hlt HP
                have c0 : wr.cell? ⟨y, 0, none⟩ = some (.pointer (some ⟨x, 0, none⟩)) := Blk.cell HC.out 0
                go_wp2_with fail
                clear i1 hi1 c0
                refine (syncR_any x gl go cl co Y wr HR.out).mono ?_
                rintro e w6 ⟨rfl, hD, hO⟩
                have HC := Lib.hid (show CellR w6 y x from hO.blk HR.out HC.out (by decide) (by decide))
                have HO := Lib.hid (HO.out.trans hO)
                have HR := Lib.hid hD
                clear hD hO
                have hv : X.saveF 1 1 t = if Y.syncR = 0 then
                  if Y.sync.writeR 1 (headOf n t.size) = 0 then ((Y.sync.write 1 (headOf n t.size)).sync, (Y.sync.write 1 (headOf n t.size)).syncR)
                  else (Y.sync.write 1 (headOf n t.size), Y.sync.writeR 1 (headOf n t.size))
                else (Y.sync, Y.syncR) := HV.out.trans (by unfold headF; rw [if_pos rfl]; rfl)
                generalize Y.syncR = r at hv ⊢
                generalize Y.sync = Y3 at hv HR
                by_cases hr : r = 0
                · subst hr
                  rw [if_pos rfl] at hv
                  have HV := Lib.hid hv
                  clear hv
                  go_wp2_with fail
                  refine (fill_any ⟨#[]⟩ w6 (by decide)).mono ?_
                  rintro e w7 ⟨rfl, hb⟩
                  have HC := Lib.hid (show CellR w7 y x from HC.out.below hb HC.out.lt)
                  have HO := Lib.hid (HO.out.trans (Only3.of_below hb))
                  have HR := Lib.hid (HR.out.below hb)
                  clear hb
                  have HZ := Lib.hid (show (strOf (fillOf (by_ ⟨#[]⟩))).extract 0 40 = strOf (List.replicate 40 0) by decide +kernel)
                  have hz : (strOf (fillOf (by_ ⟨#[]⟩))).size = 64 := by decide +kernel
                  generalize strOf (fillOf (by_ ⟨#[]⟩)) = Z at HZ hz ⊢
                  have hc1 := cat_run (beOf n) (beOf t.size) (by simp [beOf_length])
                  have hc2 := cat_run (beOf n ++ beOf t.size) (List.replicate 40 0) (by simp [beOf_length])
                  have hc3 := cat_run ((beOf n ++ beOf t.size) ++ List.replicate 40 0) (beOf n) (by simp [beOf_length])
                  have hh : strOf (((beOf n ++ beOf t.size) ++ List.replicate 40 0) ++ beOf n) = headOf n t.size := by
                    unfold headOf headL
                    rw [List.append_assoc, List.append_assoc]
                  rw [hh] at hc3
                  rw [← HZ.out] at hc2
                  have he1 := fun w => eightR_any n HN.out w
                  have he2 := fun w => eightR_any t.size (by have := HT.out; omega) w
                  generalize strOf ((beOf n ++ beOf t.size) ++ List.replicate 40 0) = S3 at hc2 hc3
                  generalize strOf (beOf n ++ beOf t.size) = S2 at hc1 hc2
                  generalize headOf n t.size = HD at hc3 HV
                  generalize strOf (beOf n) = S0 at hc1 hc3 he1
                  generalize strOf (beOf t.size) = S1 at hc1 he2
                  have HE1 := Lib.hid he1
                  have HE2 := Lib.hid he2
                  have HC1 := Lib.hid hc1
                  have HC2 := Lib.hid hc2
                  have HC3 := Lib.hid hc3
                  clear hc1 hc2 hc3 he1 he2 hh
                  go_upto_region 23 with (fail)
                  have HR := Lib.hid HR.out.drew
                  have HO := Lib.hid HO.out.drew
                  have HC := Lib.hid (show CellR w7.drew y x from HC.out)
                  generalize hw5 : w7.drew = w5 at HR HO HC
                  have e0 : ∀ w', KeptOn (fun b => b = y) w5 w' → w'.cell? ⟨y, 0, none⟩ = some (.pointer (some ⟨x, 0, none⟩)) := fun w' h => h.cell (w := w5) (Blk.cell HC.out 0) rfl
                  have e1 : ∀ w', KeptOn (fun b => b = y) w5 w' → w'.cell? ⟨y, 1, none⟩ = some (.int .i64 1) := fun w' h => h.cell (w := w5) (Blk.cell HC.out 1) rfl
                  refine wp_region_pure (KeptOn fun b => b = y) (KeptOn.refl _) (KeptOn.trans) [(0,3),(1,3),(2,3),(3,0),(4,3),(5,3),(6,3),(7,0),(8,3),(9,3),(10,3),(12,3),(13,3),(16,3),(17,3),(19,3),(11,1),(14,1),(15,3),(18,3),(20,1),(21,3),(22,1),(23,3)] (by kernel_rfl) (by kernel_rfl) ?_
                  rw [hw5]
                  clear hw5
                  iterate 3 (refine pure_pure (v := ?_) rfl (fun _ _ _ h => h) (by rfl) (fun w' => ?_) ?_; rotate_left; (go_simp; try with_reducible rfl); simp only [Act.put, List.setIfInBounds_toArray, List.set_cons_zero, List.set_cons_succ])
                  iterate 1 (refine pure_quiet (v := ?_) rfl (fun _ _ _ h => h) (by rfl) (fun w' hR => ?_) ?_; rotate_left; (go_simp; try with_reducible rfl); simp only [Act.put, List.setIfInBounds_toArray, List.set_cons_zero, List.set_cons_succ])
                  iterate 3 (refine pure_pure (v := ?_) rfl (fun _ _ _ h => h) (by rfl) (fun w' => ?_) ?_; rotate_left; (go_simp; try with_reducible rfl); simp only [Act.put, List.setIfInBounds_toArray, List.set_cons_zero, List.set_cons_succ])
                  iterate 1 (refine pure_quiet (v := ?_) rfl (fun _ _ _ h => h) (by rfl) (fun w' hR => ?_) ?_; rotate_left; (go_simp; try with_reducible rfl); simp only [Act.put, List.setIfInBounds_toArray, List.set_cons_zero, List.set_cons_succ])
                  iterate 8 (refine pure_pure (v := ?_) rfl (fun _ _ _ h => h) (by rfl) (fun w' => ?_) ?_; rotate_left; (go_simp; try with_reducible rfl); simp only [Act.put, List.setIfInBounds_toArray, List.set_cons_zero, List.set_cons_succ])
                  clear e0 e1 hz
                  refine pure_eff rfl ?_
                  go_wp2_with fail
                  refine (HE1.out w5).mono ?_
                  rintro e w6 ⟨rfl, hb⟩
                  have HKe := Lib.hid (show KeptOn (fun b => b = y) w5 w6 from ⟨hb.size, fun i hi _ => hb.block i hi⟩)
                  have HC := Lib.hid (show CellR w6 y x from HC.out.below hb HC.out.lt)
                  have HO := Lib.hid (HO.out.trans (Only3.of_below hb))
                  have HR := Lib.hid (HR.out.below hb)
                  clear hb
                  go_wp2_with fail
                  refine purePost_need HKe.out ?_
                  refine pure_eff rfl ?_
                  go_wp2_with fail
                  refine (HE2.out w6).mono ?_
                  rintro e w8 ⟨rfl, hb⟩
                  have HKe := Lib.hid (show KeptOn (fun b => b = y) w6 w8 from ⟨hb.size, fun i hi _ => hb.block i hi⟩)
                  have HC := Lib.hid (show CellR w8 y x from HC.out.below hb HC.out.lt)
                  have HO := Lib.hid (HO.out.trans (Only3.of_below hb))
                  have HR := Lib.hid (HR.out.below hb)
                  clear hb
                  go_wp2_with fail
                  refine purePost_need HKe.out ?_
                  have hc1 := HC1.out
                  have hc2 := HC2.out
                  iterate 2 (refine pure_pure (v := ?_) rfl (fun _ _ _ h => h) (by rfl) (fun w' => ?_) ?_; rotate_left; (go_simp; try with_reducible rfl); simp only [Act.put, List.setIfInBounds_toArray, List.set_cons_zero, List.set_cons_succ])
                  clear hc1 hc2
                  refine pure_eff rfl ?_
                  go_wp2_with fail
                  refine (HE1.out w8).mono ?_
                  rintro e w9 ⟨rfl, hb⟩
                  have HKe := Lib.hid (show KeptOn (fun b => b = y) w8 w9 from ⟨hb.size, fun i hi _ => hb.block i hi⟩)
                  have HC := Lib.hid (show CellR w9 y x from HC.out.below hb HC.out.lt)
                  have HO := Lib.hid (HO.out.trans (Only3.of_below hb))
                  have HR := Lib.hid (HR.out.below hb)
                  clear hb
                  go_wp2_with fail
                  refine purePost_need HKe.out ?_
                  have hc3 := HC3.out
                  iterate 1 (refine pure_pure (v := ?_) rfl (fun _ _ _ h => h) (by rfl) (fun w' => ?_) ?_; rotate_left; (go_simp; try with_reducible rfl); simp only [Act.put, List.setIfInBounds_toArray, List.set_cons_zero, List.set_cons_succ])
                  clear hc3
                  refine pure_eff rfl ?_
                  go_wp2_with fail
                  refine (writeR_any x gl go cl co Y3 1 HD w9 HR.out).mono ?_
                  rintro e w6 ⟨rfl, hD, hO⟩
                  have HKe := Lib.hid (show KeptOn (fun b => b = y) w9 w6 from hO.keptB HR.out HC.out)
                  have HC := Lib.hid (show CellR w6 y x from hO.blk HR.out HC.out (by decide) (by decide))
                  have HO := Lib.hid (HO.out.trans hO)
                  have HR := Lib.hid hD
                  clear hD hO
                  have hv := HV.out
                  generalize Y3.writeR 1 HD = r2 at hv ⊢
                  generalize Y3.write 1 HD = Y4 at hv HR
                  have HV := Lib.hid hv
                  clear hv
                  go_wp2_with fail
                  refine purePost_need HKe.out ?_
                  iterate 1 (refine pure_pure (v := ?_) rfl (fun _ _ _ h => h) (by rfl) (fun w' => ?_) ?_; rotate_left; (go_simp; try with_reducible rfl); simp only [Act.put, List.setIfInBounds_toArray, List.set_cons_zero, List.set_cons_succ])
                  refine pure_done ?_
                  by_cases hr : r2 = 0
                  · subst hr
                    have HVV := Lib.hid (HV.out.trans (if_pos rfl))
                    have c0 : w6.cell? ⟨y, 0, none⟩ = some (.pointer (some ⟨x, 0, none⟩)) := Blk.cell HC.out 0
                    go_wp2_with fail
                    clear c0
                    refine (syncR_any x gl go cl co Y4 w6 HR.out).mono ?_
                    rintro e w7 ⟨rfl, hD, hO⟩
                    have HO := Lib.hid (HO.out.trans hO)
                    have HR := Lib.hid hD
                    clear hD hO
                    go_wp2_with fail
                    go_ret
                    exact ⟨by rw [HVV.out]; rfl, by rw [HVV.out]; exact HR.out, HO.out⟩
                  · have HVV := Lib.hid (HV.out.trans (if_neg hr))
                    go_wp2_with fail
                    go_ret
                    exact ⟨by rw [HVV.out]; rfl, by rw [HVV.out]; exact HR.out, HO.out⟩
                · have HVV := Lib.hid (hv.trans (if_neg hr))
                  clear hv
                  go_wp2_with fail
                  go_ret
                  exact ⟨by rw [HVV.out]; rfl, by rw [HVV.out]; exact HR.out, HO.out⟩
    · have a1' : p1 < q1 := by omega
      have he := HTN.out.trans (if_neg (fun h => a1 h.1))
      subst he
      have hn : q1 + 1 = (n : Int) := by have := HCN.out; rw [if_pos a1'] at this; exact this.symm
      have HNN := Lib.hid hn
      clear hn
      go_upto_region 11 with (fail)
      rw [HNN.out]
      clear HNN HTN HCN
      as_aux_lemma =>
        by_cases hcm : 1099511627776 < n
        · have HV := Lib.hid (show X.saveF 1 1 t = (X, 3) from HSV.out.trans (if_pos hcm))
          have hcm' : (1099511627776 : Int) < (n : Int) := by omega
          clear hcm
          go_wp2_with fail
          go_ret
          exact ⟨by rw [HV.out]; rfl, by rw [HV.out]; exact HR.out, HO.out⟩
        · have hcm' : ¬ (1099511627776 : Int) < (n : Int) := by omega
          have HSV := Lib.hid (show X.saveF 1 1 t = headF (1 + 0) n t.size (partsF (3 + 0) t 1 0 X) from HSV.out.trans (if_neg hcm))
          have HN := Lib.hid (show n ≤ 9223372036854775807 by omega)
          clear hcm
          have HV := Lib.hid (show X.saveF 1 1 t = headF 1 n t.size (partsF 3 t 1 0 X) from HSV.out)
          clear HSV
          go_wp2_with fail
          go_loopw [11] (fun v11 wr => ∃ (i : Nat) (Y : Dk), v11 = .int .i64 (i : Int) ∧ ((i = 0 ∧ Y = X) ∨ (i = 1 ∧ 0 < t.size ∧ partsF 3 t 1 0 X = (Y, 0))) ∧ RD wr x gl go cl co Y ∧ Only3 x gl go w wr) (fun v11 _ => 1 - (intOf v11).toNat)
          case atStart => exact ⟨0, X, rfl, .inl ⟨rfl, rfl⟩, HR.out, HO.out⟩
          case round =>
            obtain ⟨i, Y, rfl, hcase, hR, hO⟩ := hrel
            have HC := Lib.hid (show CellR wr y x from (show Only3 x gl go w wr from hO).blk HR0.out HC0.out (by decide) (by decide))
            by_cases hlt : i = 0 ∧ 0 < t.size
            · obtain ⟨rfl, h0⟩ := hlt
              obtain rfl : Y = X := by rcases hcase with h | h; exact h.2; omega
              clear hcase
              have HP := Lib.hid (show partsF 3 t 1 0 Y = (Y.write 3 (partOf t 0), Y.writeR 3 (partOf t 0)) from partsF_one 3 t Y h0)
              have HR := Lib.hid hR
              have HO := Lib.hid hO
              clear hR hO
              have i1 : (0 : Int) < (t.size : Int) := by omega
              go_upto_region 16 with (fail)
              clear i1
              have HR := Lib.hid HR.out.drew
              have HO := Lib.hid HO.out.drew
              have HC := Lib.hid (show CellR wr.drew y x from HC.out)
              have H0 := Lib.hid h0
              clear h0
              generalize hw5 : wr.drew = w5 at HR HO HC
              have e0 : ∀ w', KeptOn (fun b => b = y) w5 w' → w'.cell? ⟨y, 0, none⟩ = some (.pointer (some ⟨x, 0, none⟩)) := fun w' h => h.cell (w := w5) (Blk.cell HC.out 0) rfl
              have e1 : ∀ w', KeptOn (fun b => b = y) w5 w' → w'.cell? ⟨y, 1, none⟩ = some (.int .i64 1) := fun w' h => h.cell (w := w5) (Blk.cell HC.out 1) rfl
              have e2 : ∀ w', KeptOn (fun b => b = y) w5 w' → w'.cell? ⟨y, 2, none⟩ = some (.int .i64 1) := fun w' h => h.cell (w := w5) (Blk.cell HC.out 2) rfl
              refine wp_region_pure (KeptOn fun b => b = y) (KeptOn.refl _) (KeptOn.trans) [(0,3),(1,3),(2,3),(3,0),(4,3),(5,3),(6,3),(7,0),(8,3),(9,3),(10,3),(11,3),(12,3),(13,0),(14,3),(15,3),(16,3),(17,3),(18,3),(19,3),(20,1),(21,1),(22,3)] (by kernel_rfl) (by kernel_rfl) ?_
              rw [hw5]
              clear hw5
              iterate 3 (refine pure_pure (v := ?_) rfl (fun _ _ _ h => h) (by rfl) (fun w' => ?_) ?_; rotate_left; (go_simp; try with_reducible rfl); simp only [Act.put, List.setIfInBounds_toArray, List.set_cons_zero, List.set_cons_succ])
              iterate 1 (refine pure_quiet (v := ?_) rfl (fun _ _ _ h => h) (by rfl) (fun w' hR => ?_) ?_; rotate_left; (go_simp; try with_reducible rfl); simp only [Act.put, List.setIfInBounds_toArray, List.set_cons_zero, List.set_cons_succ])
              iterate 3 (refine pure_pure (v := ?_) rfl (fun _ _ _ h => h) (by rfl) (fun w' => ?_) ?_; rotate_left; (go_simp; try with_reducible rfl); simp only [Act.put, List.setIfInBounds_toArray, List.set_cons_zero, List.set_cons_succ])
              iterate 1 (refine pure_quiet (v := ?_) rfl (fun _ _ _ h => h) (by rfl) (fun w' hR => ?_) ?_; rotate_left; (go_simp; try with_reducible rfl); simp only [Act.put, List.setIfInBounds_toArray, List.set_cons_zero, List.set_cons_succ])
              iterate 5 (refine pure_pure (v := ?_) rfl (fun _ _ _ h => h) (by rfl) (fun w' => ?_) ?_; rotate_left; (go_simp; try with_reducible rfl); simp only [Act.put, List.setIfInBounds_toArray, List.set_cons_zero, List.set_cons_succ])
              iterate 1 (refine pure_quiet (v := ?_) rfl (fun _ _ _ h => h) (by rfl) (fun w' hR => ?_) ?_; rotate_left; (go_simp; try with_reducible rfl); simp only [Act.put, List.setIfInBounds_toArray, List.set_cons_zero, List.set_cons_succ])
              iterate 6 (refine pure_pure (v := ?_) rfl (fun _ _ _ h => h) (by rfl) (fun w' => ?_) ?_; rotate_left; (go_simp; try with_reducible rfl); simp only [Act.put, List.setIfInBounds_toArray, List.set_cons_zero, List.set_cons_succ])
              clear e0 e1 e2
              refine pure_eff rfl ?_
              go_wp2_with fail
              refine (part_any t w5 H0.out HT.out).mono ?_
              rintro e w6 ⟨rfl, rfl⟩
              go_wp2_with fail
              refine purePost_need (KeptOn.refl _ _) ?_
              refine pure_eff rfl ?_
              go_wp2_with fail
              refine (writeR_any x gl go cl co Y 3 (partOf t 0) w5 HR.out).mono ?_
              rintro e w6 ⟨rfl, hD, hO⟩
              have HKe := Lib.hid (show KeptOn (fun b => b = y) w5 w6 from hO.keptB HR.out HC.out)
              have HO := Lib.hid (HO.out.trans hO)
              have HR := Lib.hid hD
              clear hD hO
              generalize Y.writeR 3 (partOf t 0) = r at HP ⊢
              generalize Y.write 3 (partOf t 0) = Y2 at HP HR
              have HRV := Lib.hid HP.out
              go_wp2_with fail
              refine purePost_need HKe.out ?_
              iterate 1 (refine pure_pure (v := ?_) rfl (fun _ _ _ h => h) (by rfl) (fun w' => ?_) ?_; rotate_left; (go_simp; try with_reducible rfl); simp only [Act.put, List.setIfInBounds_toArray, List.set_cons_zero, List.set_cons_succ])
              refine pure_done ?_
              by_cases hr : r = 0
              · subst hr
                go_wp2_with fail
                go_roundw
                case rel => exact ⟨1, Y2, by go_num, .inr ⟨rfl, H0.out, HP.out⟩, HR.out, HO.out⟩
                case measure => simp [intOf]
              · have HVV := Lib.hid (show Y.saveF 1 1 t = (Y2, r) by rw [HV.out, HP.out]; unfold headF; rw [if_neg hr])
                go_wp2_with fail
                go_ret
                exact ⟨by rw [HVV.out]; rfl, by rw [HVV.out]; exact HR.out, HO.out⟩
            · have HP := Lib.hid (show partsF 3 t 1 0 X = (Y, 0) by
                rcases hcase with ⟨rfl, rfl⟩ | ⟨_, _, h⟩
                · exact partsF_none 3 t Y (by omega)
                · exact h)
              have i1 : ¬ 64 * (i : Int) < (t.size : Int) := by have := HT.out; rcases hcase with ⟨rfl, rfl⟩ | ⟨rfl, _, h⟩ <;> omega
              have hi1 : i ≤ 1 := by omega
              have HR := Lib.hid hR
              have HO := Lib.hid hO
              have HV := Lib.hid (HV.out.trans (by rw [HP.out]))
              clear hR hO hcase hlt HP
              have c0 : wr.cell? ⟨y, 0, none⟩ = some (.pointer (some ⟨x, 0, none⟩)) := Blk.cell HC.out 0
              go_wp2_with fail
              clear i1 hi1 c0
              refine (syncR_any x gl go cl co Y wr HR.out).mono ?_
              rintro e w6 ⟨rfl, hD, hO⟩
              have HC := Lib.hid (show CellR w6 y x from hO.blk HR.out HC.out (by decide) (by decide))
              have HO := Lib.hid (HO.out.trans hO)
              have HR := Lib.hid hD
              clear hD hO
              have hv : X.saveF 1 1 t = if Y.syncR = 0 then
                if Y.sync.writeR 1 (headOf n t.size) = 0 then ((Y.sync.write 1 (headOf n t.size)).sync, (Y.sync.write 1 (headOf n t.size)).syncR)
                else (Y.sync.write 1 (headOf n t.size), Y.sync.writeR 1 (headOf n t.size))
              else (Y.sync, Y.syncR) := HV.out.trans (by unfold headF; rw [if_pos rfl]; rfl)
              generalize Y.syncR = r at hv ⊢
              generalize Y.sync = Y3 at hv HR
              by_cases hr : r = 0
              · subst hr
                rw [if_pos rfl] at hv
                have HV := Lib.hid hv
                clear hv
                go_wp2_with fail
                refine (fill_any ⟨#[]⟩ w6 (by decide)).mono ?_
                rintro e w7 ⟨rfl, hb⟩
                have HC := Lib.hid (show CellR w7 y x from HC.out.below hb HC.out.lt)
                have HO := Lib.hid (HO.out.trans (Only3.of_below hb))
                have HR := Lib.hid (HR.out.below hb)
                clear hb
                have HZ := Lib.hid (show (strOf (fillOf (by_ ⟨#[]⟩))).extract 0 40 = strOf (List.replicate 40 0) by decide +kernel)
                have hz : (strOf (fillOf (by_ ⟨#[]⟩))).size = 64 := by decide +kernel
                generalize strOf (fillOf (by_ ⟨#[]⟩)) = Z at HZ hz ⊢
                have hc1 := cat_run (beOf n) (beOf t.size) (by simp [beOf_length])
                have hc2 := cat_run (beOf n ++ beOf t.size) (List.replicate 40 0) (by simp [beOf_length])
                have hc3 := cat_run ((beOf n ++ beOf t.size) ++ List.replicate 40 0) (beOf n) (by simp [beOf_length])
                have hh : strOf (((beOf n ++ beOf t.size) ++ List.replicate 40 0) ++ beOf n) = headOf n t.size := by
                  unfold headOf headL
                  rw [List.append_assoc, List.append_assoc]
                rw [hh] at hc3
                rw [← HZ.out] at hc2
                have he1 := fun w => eightR_any n HN.out w
                have he2 := fun w => eightR_any t.size (by have := HT.out; omega) w
                generalize strOf ((beOf n ++ beOf t.size) ++ List.replicate 40 0) = S3 at hc2 hc3
                generalize strOf (beOf n ++ beOf t.size) = S2 at hc1 hc2
                generalize headOf n t.size = HD at hc3 HV
                generalize strOf (beOf n) = S0 at hc1 hc3 he1
                generalize strOf (beOf t.size) = S1 at hc1 he2
                have HE1 := Lib.hid he1
                have HE2 := Lib.hid he2
                have HC1 := Lib.hid hc1
                have HC2 := Lib.hid hc2
                have HC3 := Lib.hid hc3
                clear hc1 hc2 hc3 he1 he2 hh
                go_upto_region 23 with (fail)
                have HR := Lib.hid HR.out.drew
                have HO := Lib.hid HO.out.drew
                have HC := Lib.hid (show CellR w7.drew y x from HC.out)
                generalize hw5 : w7.drew = w5 at HR HO HC
                have e0 : ∀ w', KeptOn (fun b => b = y) w5 w' → w'.cell? ⟨y, 0, none⟩ = some (.pointer (some ⟨x, 0, none⟩)) := fun w' h => h.cell (w := w5) (Blk.cell HC.out 0) rfl
                have e1 : ∀ w', KeptOn (fun b => b = y) w5 w' → w'.cell? ⟨y, 1, none⟩ = some (.int .i64 1) := fun w' h => h.cell (w := w5) (Blk.cell HC.out 1) rfl
                refine wp_region_pure (KeptOn fun b => b = y) (KeptOn.refl _) (KeptOn.trans) [(0,3),(1,3),(2,3),(3,0),(4,3),(5,3),(6,3),(7,0),(8,3),(9,3),(10,3),(12,3),(13,3),(16,3),(17,3),(19,3),(11,1),(14,1),(15,3),(18,3),(20,1),(21,3),(22,1),(23,3)] (by kernel_rfl) (by kernel_rfl) ?_
                rw [hw5]
                clear hw5
                iterate 3 (refine pure_pure (v := ?_) rfl (fun _ _ _ h => h) (by rfl) (fun w' => ?_) ?_; rotate_left; (go_simp; try with_reducible rfl); simp only [Act.put, List.setIfInBounds_toArray, List.set_cons_zero, List.set_cons_succ])
                iterate 1 (refine pure_quiet (v := ?_) rfl (fun _ _ _ h => h) (by rfl) (fun w' hR => ?_) ?_; rotate_left; (go_simp; try with_reducible rfl); simp only [Act.put, List.setIfInBounds_toArray, List.set_cons_zero, List.set_cons_succ])
                iterate 3 (refine pure_pure (v := ?_) rfl (fun _ _ _ h => h) (by rfl) (fun w' => ?_) ?_; rotate_left; (go_simp; try with_reducible rfl); simp only [Act.put, List.setIfInBounds_toArray, List.set_cons_zero, List.set_cons_succ])
                iterate 1 (refine pure_quiet (v := ?_) rfl (fun _ _ _ h => h) (by rfl) (fun w' hR => ?_) ?_; rotate_left; (go_simp; try with_reducible rfl); simp only [Act.put, List.setIfInBounds_toArray, List.set_cons_zero, List.set_cons_succ])
                iterate 8 (refine pure_pure (v := ?_) rfl (fun _ _ _ h => h) (by rfl) (fun w' => ?_) ?_; rotate_left; (go_simp; try with_reducible rfl); simp only [Act.put, List.setIfInBounds_toArray, List.set_cons_zero, List.set_cons_succ])
                clear e0 e1 hz
                refine pure_eff rfl ?_
                go_wp2_with fail
                refine (HE1.out w5).mono ?_
                rintro e w6 ⟨rfl, hb⟩
                have HKe := Lib.hid (show KeptOn (fun b => b = y) w5 w6 from ⟨hb.size, fun i hi _ => hb.block i hi⟩)
                have HC := Lib.hid (show CellR w6 y x from HC.out.below hb HC.out.lt)
                have HO := Lib.hid (HO.out.trans (Only3.of_below hb))
                have HR := Lib.hid (HR.out.below hb)
                clear hb
                go_wp2_with fail
                refine purePost_need HKe.out ?_
                refine pure_eff rfl ?_
                go_wp2_with fail
                refine (HE2.out w6).mono ?_
                rintro e w8 ⟨rfl, hb⟩
                have HKe := Lib.hid (show KeptOn (fun b => b = y) w6 w8 from ⟨hb.size, fun i hi _ => hb.block i hi⟩)
                have HC := Lib.hid (show CellR w8 y x from HC.out.below hb HC.out.lt)
                have HO := Lib.hid (HO.out.trans (Only3.of_below hb))
                have HR := Lib.hid (HR.out.below hb)
                clear hb
                go_wp2_with fail
                refine purePost_need HKe.out ?_
                have hc1 := HC1.out
                have hc2 := HC2.out
                iterate 2 (refine pure_pure (v := ?_) rfl (fun _ _ _ h => h) (by rfl) (fun w' => ?_) ?_; rotate_left; (go_simp; try with_reducible rfl); simp only [Act.put, List.setIfInBounds_toArray, List.set_cons_zero, List.set_cons_succ])
                clear hc1 hc2
                refine pure_eff rfl ?_
                go_wp2_with fail
                refine (HE1.out w8).mono ?_
                rintro e w9 ⟨rfl, hb⟩
                have HKe := Lib.hid (show KeptOn (fun b => b = y) w8 w9 from ⟨hb.size, fun i hi _ => hb.block i hi⟩)
                have HC := Lib.hid (show CellR w9 y x from HC.out.below hb HC.out.lt)
                have HO := Lib.hid (HO.out.trans (Only3.of_below hb))
                have HR := Lib.hid (HR.out.below hb)
                clear hb
                go_wp2_with fail
                refine purePost_need HKe.out ?_
                have hc3 := HC3.out
                iterate 1 (refine pure_pure (v := ?_) rfl (fun _ _ _ h => h) (by rfl) (fun w' => ?_) ?_; rotate_left; (go_simp; try with_reducible rfl); simp only [Act.put, List.setIfInBounds_toArray, List.set_cons_zero, List.set_cons_succ])
                clear hc3
                refine pure_eff rfl ?_
                go_wp2_with fail
                refine (writeR_any x gl go cl co Y3 1 HD w9 HR.out).mono ?_
                rintro e w6 ⟨rfl, hD, hO⟩
                have HKe := Lib.hid (show KeptOn (fun b => b = y) w9 w6 from hO.keptB HR.out HC.out)
                have HC := Lib.hid (show CellR w6 y x from hO.blk HR.out HC.out (by decide) (by decide))
                have HO := Lib.hid (HO.out.trans hO)
                have HR := Lib.hid hD
                clear hD hO
                have hv := HV.out
                generalize Y3.writeR 1 HD = r2 at hv ⊢
                generalize Y3.write 1 HD = Y4 at hv HR
                have HV := Lib.hid hv
                clear hv
                go_wp2_with fail
                refine purePost_need HKe.out ?_
                iterate 1 (refine pure_pure (v := ?_) rfl (fun _ _ _ h => h) (by rfl) (fun w' => ?_) ?_; rotate_left; (go_simp; try with_reducible rfl); simp only [Act.put, List.setIfInBounds_toArray, List.set_cons_zero, List.set_cons_succ])
                refine pure_done ?_
                by_cases hr : r2 = 0
                · subst hr
                  have HVV := Lib.hid (HV.out.trans (if_pos rfl))
                  have c0 : w6.cell? ⟨y, 0, none⟩ = some (.pointer (some ⟨x, 0, none⟩)) := Blk.cell HC.out 0
                  go_wp2_with fail
                  clear c0
                  refine (syncR_any x gl go cl co Y4 w6 HR.out).mono ?_
                  rintro e w7 ⟨rfl, hD, hO⟩
                  have HO := Lib.hid (HO.out.trans hO)
                  have HR := Lib.hid hD
                  clear hD hO
                  go_wp2_with fail
                  go_ret
                  exact ⟨by rw [HVV.out]; rfl, by rw [HVV.out]; exact HR.out, HO.out⟩
                · have HVV := Lib.hid (HV.out.trans (if_neg hr))
                  go_wp2_with fail
                  go_ret
                  exact ⟨by rw [HVV.out]; rfl, by rw [HVV.out]; exact HR.out, HO.out⟩
              · have HVV := Lib.hid (hv.trans (if_neg hr))
                clear hv
                go_wp2_with fail
                go_ret
                exact ⟨by rw [HVV.out]; rfl, by rw [HVV.out]; exact HR.out, HO.out⟩
end Go.Proofs.Ytnddkodenkmoiaa
