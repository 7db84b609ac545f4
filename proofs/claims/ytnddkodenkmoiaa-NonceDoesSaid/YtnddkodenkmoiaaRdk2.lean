/- The reference's disk: Write. -/
import Derived.Test.YtnddkodenkmoiaaRdk1
namespace Go.Proofs.Ytnddkodenkmoiaa
open Go.RowKit Go.Proofs
set_option linter.unusedSimpArgs false
set_option linter.unusedVariables false
theorem strOf_ne {l : List UInt8} (h : l.length = 64) : (strOf l).toList.isEmpty = false := by
  rw [ByteArray.toList_eq]
  match l, h with
  | a :: l, _ => rfl
theorem Dk.putAt_eq (X : Dk) {j : Nat} {s : Sec} (hs : X.L[j]? = some s) (t : ByteArray) : X.putAt j t = DkS X j (s.put (by_ t)) := by
  unfold Dk.putAt; rw [hs]; rfl
set_option maxRecDepth 100000 in
set_option maxHeartbeats 4000000 in
theorem writeR_any (x gl go cl co : Nat) (X : Dk) (i : Int) (t : ByteArray) (w : World) (h : RD w x gl go cl co X) :
    Calls Try.prog 18 #[.pointer (some ⟨x, 0, none⟩), .int .i64 i, .string t] w fun e w' => e = .returned (.int .i64 (X.writeR i t)) ∧ RD w' x gl go cl co (X.write i t) ∧ Only3 x gl go w w' := by
  have H := Lib.hid h
  have c0 := h.row0
  have c3 := h.down
  have hlen := h.top
  clear h
  go_enter Try.func18, Try.ntmps18
  by_cases hd : X.down = true
  · have HR := Lib.hid (show X.writeR i t = 12 by unfold Dk.writeR; rw [if_pos hd])
    have HW := Lib.hid (show X.write i t = X by unfold Dk.write; rw [if_pos hd])
    rw [hd] at c3
    clear hd
    go_wp2_with fail
    go_ret
    exact ⟨by rw [HR.out]; rfl, by rw [HW.out]; exact H.out, Only3.refl _ _ _ _⟩
  · have hd0 : X.down = false := by simpa using hd
    rw [hd0] at c3
    by_cases h1 : i < 0
    · have HR := Lib.hid (show X.writeR i t = 3 by unfold Dk.writeR; rw [if_neg hd, if_pos (.inl h1)])
      have HW := Lib.hid (show X.write i t = X by unfold Dk.write; rw [if_neg hd, if_pos (.inl h1)])
      clear hd hd0
      go_wp2_with fail
      go_ret
      exact ⟨by rw [HR.out]; rfl, by rw [HW.out]; exact H.out, Only3.refl _ _ _ _⟩
    · by_cases h2 : (X.L.length : Int) ≤ i
      · have HR := Lib.hid (show X.writeR i t = 3 by unfold Dk.writeR; rw [if_neg hd, if_pos (.inr h2)])
        have HW := Lib.hid (show X.write i t = X by unfold Dk.write; rw [if_neg hd, if_pos (.inr h2)])
        clear hd hd0
        go_wp2_with fail
        go_ret
        exact ⟨by rw [HR.out]; rfl, by rw [HW.out]; exact H.out, Only3.refl _ _ _ _⟩
      · by_cases h3 : 64 < t.size
        · have HR := Lib.hid (show X.writeR i t = 4 by unfold Dk.writeR; rw [if_neg hd, if_neg (by omega), if_pos h3])
          have HW := Lib.hid (show X.write i t = X by unfold Dk.write; rw [if_neg hd, if_neg (by omega), if_pos h3])
          clear hd hd0
          go_wp2_with fail
          go_ret
          exact ⟨by rw [HR.out]; rfl, by rw [HW.out]; exact H.out, Only3.refl _ _ _ _⟩
        · have HR := Lib.hid (show X.writeR i t = if X.goes.down then 12 else 0 by unfold Dk.writeR; rw [if_neg hd, if_neg (by omega), if_neg h3])
          have HW := Lib.hid (show X.write i t = (X.putAt i.toNat t).goes by unfold Dk.write; rw [if_neg hd, if_neg (by omega), if_neg h3])
          obtain ⟨j, rfl⟩ : ∃ j : Nat, i = (j : Int) := ⟨i.toNat, by omega⟩
          have hj : j < X.L.length := by omega
          have HJ := Lib.hid hj
          obtain ⟨s, hs⟩ : ∃ s, X.L[j]? = some s := ⟨_, List.getElem?_eq_getElem hj⟩
          have hso : s.ok := H.out.ok s (List.mem_of_getElem? hs)
          have hj2 : (j : Int) < (X.L.length : Int) := by omega
          have hlt : (by_ t).length ≤ 64 := by rw [← by_size]; omega
          have HSP := Lib.hid (show (s.put (by_ t)).ok from ⟨fillOf_length hlt, by unfold Sec.put Sec.loosen; split; exact hso.2; exact hso.1⟩)
          have HPE := Lib.hid (Dk.putAt_eq X hs t)
          have HSE := Lib.hid (show ∀ s1, DkS (DkS X j s1) j (s.put (by_ t)) = X.putAt j t from fun s1 => by rw [HPE.out]; unfold DkS; rw [List.set_set])
          have HGN := Lib.hid (show (X.putAt j t).down = false by rw [HPE.out]; exact hd0)
          have HGD := Lib.hid (show (X.putAt j t).goes.down = X.goes.down by rw [HPE.out]; exact goes_down_L X _)
          have ho := (H.out.sec hs).2
          have HSS := Lib.hid hs
          have HSO := Lib.hid hso
          clear hs hso hlt hd hd0 h1 h2
          cases hlo : s.loose
          · have HSQ := Lib.hid (show (s.put (by_ t)).oldS = ({ s with old := s.b, loose := true } : Sec).oldS by unfold Sec.put Sec.loosen Sec.oldS; rw [hlo]; rfl)
            have he : s.oldS = ⟨#[]⟩ := by unfold Sec.oldS; rw [hlo]; rfl
            rw [he] at ho
            have c1 := H.out.row1
            clear he hlo
            go_upto_region 8 with (fail)
            clear c0 c1 c3 ho
            have c0 : ∀ w', w.drew = w' → w'.cell? ⟨x, 0, none⟩ = some (.slice (some ⟨gl, 0, none⟩) X.L.length cl) := fun w' h => h ▸ H.out.row0
            have c1 : ∀ w', w.drew = w' → w'.cell? ⟨x, 1, none⟩ = some (.slice (some ⟨go, 0, none⟩) X.L.length co) := fun w' h => h ▸ H.out.row1
            have c2 : ∀ w', w.drew = w' → w'.cell? ⟨gl, j, none⟩ = some (.string (strOf s.b)) := fun w' h => h ▸ (H.out.sec HSS.out).1
            have HD0 := Lib.hid H.out.drew
            have HO0 := Lib.hid (Only3.refl x gl go w).drew
            generalize hw1 : w.drew = w1 at c0 c1 c2 HD0 HO0
            refine wp_region_pure (fun a b => a = b) (fun _ => rfl) (fun _ _ _ h h' => h.trans h') [(0,3),(1,3),(2,3),(3,0),(4,3),(5,3),(6,3),(7,3),(8,0),(9,3),(10,3),(11,0),(12,3),(13,2)] (by kernel_rfl) (by kernel_rfl) ?_
            rw [hw1]
            clear hw1
            iterate 3 (refine pure_pure (v := ?_) rfl (fun _ _ _ h => h) (by rfl) (fun w' => ?_) ?_; rotate_left; (go_simp; try with_reducible rfl); simp only [Act.put, List.setIfInBounds_toArray, List.set_cons_zero, List.set_cons_succ])
            iterate 1 (refine pure_quiet (v := ?_) rfl (fun _ _ _ h => h) (by rfl) (fun w' hR => ?_) ?_; rotate_left; (go_simp; try with_reducible rfl); simp only [Act.put, List.setIfInBounds_toArray, List.set_cons_zero, List.set_cons_succ])
            iterate 4 (refine pure_pure (v := ?_) rfl (fun _ _ _ h => h) (by rfl) (fun w' => ?_) ?_; rotate_left; (go_simp; try with_reducible rfl); simp only [Act.put, List.setIfInBounds_toArray, List.set_cons_zero, List.set_cons_succ])
            iterate 1 (refine pure_quiet (v := ?_) rfl (fun _ _ _ h => h) (by rfl) (fun w' hR => ?_) ?_; rotate_left; (go_simp; try with_reducible rfl); simp only [Act.put, List.setIfInBounds_toArray, List.set_cons_zero, List.set_cons_succ])
            iterate 2 (refine pure_pure (v := ?_) rfl (fun _ _ _ h => h) (by rfl) (fun w' => ?_) ?_; rotate_left; (go_simp; try with_reducible rfl); simp only [Act.put, List.setIfInBounds_toArray, List.set_cons_zero, List.set_cons_succ])
            iterate 1 (refine pure_quiet (v := ?_) rfl (fun _ _ _ h => h) (by rfl) (fun w' hR => ?_) ?_; rotate_left; (go_simp; try with_reducible rfl); simp only [Act.put, List.setIfInBounds_toArray, List.set_cons_zero, List.set_cons_succ])
            iterate 1 (refine pure_pure (v := ?_) rfl (fun _ _ _ h => h) (by rfl) (fun w' => ?_) ?_; rotate_left; (go_simp; try with_reducible rfl); simp only [Act.put, List.setIfInBounds_toArray, List.set_cons_zero, List.set_cons_succ])
            clear c0 c1 c2
            have c1 := (HD0.out.sec HSS.out).2
            have f1 := HD0.out.old.frozen j
            refine pure_eff2 rfl ?_
            go_wp2_with fail
            refine purePost_free ?_
            refine pure_done ?_
            clear c1 f1
            have hD := HD0.out.storeOld (s' := { s with old := s.b, loose := true }) HSS.out ⟨HSO.out.1, HSO.out.1⟩ rfl
            have HO := Lib.hid (HO0.out.set_ (p := ⟨go, j, none⟩) (.inr (.inr rfl)) (.string (strOf s.b)))
            change RD (w1.setCell ⟨go, j, none⟩ (.string (strOf s.b))) x gl go cl co _ at hD
            generalize w1.setCell ⟨go, j, none⟩ (.string (strOf s.b)) = w2 at hD HO ⊢
            have HD := Lib.hid hD
            clear hD HD0 HO0
            go_upto_region 9 with (fail)
            have c0 : ∀ w', KeptOn (fun _ => True) w2.drew w' → w'.cell? ⟨x, 0, none⟩ = some (.slice (some ⟨gl, 0, none⟩) X.L.length cl) := fun w' hR => by
              have := hR.cell (w := w2.drew) HD.out.row0 trivial
              rw [show (DkS X j { s with old := s.b, loose := true }).L.length = X.L.length from List.length_set] at this
              exact this
            have HO := Lib.hid (HO.out.drew)
            have HD := Lib.hid HD.out.drew
            generalize hw3 : w2.drew = w3 at c0 HD HO
            refine wp_region_pure (KeptOn fun _ => True) (KeptOn.refl _) (KeptOn.trans) [(0,3),(1,3),(2,3),(3,0),(4,3),(5,3),(6,1),(7,3),(8,2)] (by kernel_rfl) (by kernel_rfl) ?_
            rw [hw3]
            clear hw3
            iterate 3 (refine pure_pure (v := ?_) rfl (fun _ _ _ h => h) (by rfl) (fun w' => ?_) ?_; rotate_left; (go_simp; try with_reducible rfl); simp only [Act.put, List.setIfInBounds_toArray, List.set_cons_zero, List.set_cons_succ])
            iterate 1 (refine pure_quiet (v := ?_) rfl (fun _ _ _ h => h) (by rfl) (fun w' hR => ?_) ?_; rotate_left; (go_simp; try with_reducible rfl); simp only [Act.put, List.setIfInBounds_toArray, List.set_cons_zero, List.set_cons_succ])
            iterate 2 (refine pure_pure (v := ?_) rfl (fun _ _ _ h => h) (by rfl) (fun w' => ?_) ?_; rotate_left; (go_simp; try with_reducible rfl); simp only [Act.put, List.setIfInBounds_toArray, List.set_cons_zero, List.set_cons_succ])
            clear c0
            refine pure_eff rfl ?_
            go_wp2_with fail
            refine (fill_any t w3 (by omega)).mono ?_
            rintro e w4 ⟨rfl, hb⟩
            have HKe := Lib.hid (show KeptOn (fun _ => True) w3 w4 from KeptOn.below hb (fun b hb _ => hb))
            have HO := Lib.hid (HO.out.trans (.of_below hb))
            have HD := Lib.hid (HD.out.below hb)
            clear hb
            generalize hF : strOf (fillOf (by_ t)) = F
            have HF := Lib.hid hF
            clear hF
            go_wp2_with fail
            refine purePost_need HKe.out ?_
            iterate 1 (refine pure_pure (v := ?_) rfl (fun _ _ _ h => h) (by rfl) (fun w' => ?_) ?_; rotate_left; (go_simp; try with_reducible rfl); simp only [Act.put, List.setIfInBounds_toArray, List.set_cons_zero, List.set_cons_succ])
            have c1 := (HD.out.sec (j := j) (s := { s with old := s.b, loose := true }) (List.getElem?_set_self HJ.out)).1
            have f1 := HD.out.now.frozen j
            refine pure_eff2 rfl ?_
            go_wp2_with fail
            refine purePost_free ?_
            refine pure_done ?_
            clear c1 f1
            have hD2 := HD.out.storeNow (j := j) (s := { s with old := s.b, loose := true }) (s' := s.put (by_ t)) (List.getElem?_set_self HJ.out) HSP.out HSQ.out
            rw [show strOf (s.put (by_ t)).b = F from HF.out, show DkS (DkS X j { s with old := s.b, loose := true }) j (s.put (by_ t)) = X.putAt j t from HSE.out { s with old := s.b, loose := true }] at hD2
            have HO := Lib.hid (HO.out.set_ (p := ⟨gl, j, none⟩) (.inr (.inl rfl)) (.string F))
            generalize w4.setCell ⟨gl, j, none⟩ (.string F) = w5 at hD2 HO ⊢
            have HD := Lib.hid hD2
            clear hD2
            go_wp2_with fail
            refine (goesR_any x gl go cl co (X.putAt j t) w5 HD.out HGN.out).mono ?_
            rintro e w6 ⟨rfl, hD, hO⟩
            have HO := Lib.hid (HO.out.trans hO)
            rw [HGD.out]
            have HDf := Lib.hid hD
            clear hD hO
            generalize hGD : X.goes.down = gd at HR
            clear hGD
            cases gd
            · go_wp2_with fail
              go_ret
              exact ⟨by rw [HR.out]; rfl, by rw [HW.out]; exact HDf.out, HO.out⟩
            · go_wp2_with fail
              go_ret
              exact ⟨by rw [HR.out]; rfl, by rw [HW.out]; exact HDf.out, HO.out⟩
          · have HSQ := Lib.hid (show (s.put (by_ t)).oldS = s.oldS by unfold Sec.put Sec.loosen; rw [if_pos hlo]; rfl)
            have he : s.oldS = strOf s.old := by unfold Sec.oldS; rw [hlo]; rfl
            rw [he] at ho
            have hne := strOf_ne HSO.out.2
            have c1 := H.out.row1
            generalize strOf s.old = o at ho hne
            have hne2 : ¬ o.toList = [] := fun e => by rw [e] at hne; cases hne
            clear he hlo
            go_upto_region 9 with (fail)
            clear c0 c1 c3 ho hne hne2
            have HD := Lib.hid (show RD w x gl go cl co (DkS X j s) from (DkS_self HSS.out).symm ▸ H.out)
            have HO := Lib.hid (Only3.refl x gl go w)
            have c0 : ∀ w', KeptOn (fun _ => True) w.drew w' → w'.cell? ⟨x, 0, none⟩ = some (.slice (some ⟨gl, 0, none⟩) X.L.length cl) := fun w' hR => by
              have := hR.cell (w := w.drew) HD.out.row0 trivial
              rw [show (DkS X j s).L.length = X.L.length from List.length_set] at this
              exact this
            have HO := Lib.hid (HO.out.drew)
            have HD := Lib.hid HD.out.drew
            generalize hw3 : w.drew = w3 at c0 HD HO
            refine wp_region_pure (KeptOn fun _ => True) (KeptOn.refl _) (KeptOn.trans) [(0,3),(1,3),(2,3),(3,0),(4,3),(5,3),(6,1),(7,3),(8,2)] (by kernel_rfl) (by kernel_rfl) ?_
            rw [hw3]
            clear hw3
            iterate 3 (refine pure_pure (v := ?_) rfl (fun _ _ _ h => h) (by rfl) (fun w' => ?_) ?_; rotate_left; (go_simp; try with_reducible rfl); simp only [Act.put, List.setIfInBounds_toArray, List.set_cons_zero, List.set_cons_succ])
            iterate 1 (refine pure_quiet (v := ?_) rfl (fun _ _ _ h => h) (by rfl) (fun w' hR => ?_) ?_; rotate_left; (go_simp; try with_reducible rfl); simp only [Act.put, List.setIfInBounds_toArray, List.set_cons_zero, List.set_cons_succ])
            iterate 2 (refine pure_pure (v := ?_) rfl (fun _ _ _ h => h) (by rfl) (fun w' => ?_) ?_; rotate_left; (go_simp; try with_reducible rfl); simp only [Act.put, List.setIfInBounds_toArray, List.set_cons_zero, List.set_cons_succ])
            clear c0
            refine pure_eff rfl ?_
            go_wp2_with fail
            refine (fill_any t w3 (by omega)).mono ?_
            rintro e w4 ⟨rfl, hb⟩
            have HKe := Lib.hid (show KeptOn (fun _ => True) w3 w4 from KeptOn.below hb (fun b hb _ => hb))
            have HO := Lib.hid (HO.out.trans (.of_below hb))
            have HD := Lib.hid (HD.out.below hb)
            clear hb
            generalize hF : strOf (fillOf (by_ t)) = F
            have HF := Lib.hid hF
            clear hF
            go_wp2_with fail
            refine purePost_need HKe.out ?_
            iterate 1 (refine pure_pure (v := ?_) rfl (fun _ _ _ h => h) (by rfl) (fun w' => ?_) ?_; rotate_left; (go_simp; try with_reducible rfl); simp only [Act.put, List.setIfInBounds_toArray, List.set_cons_zero, List.set_cons_succ])
            have c1 := (HD.out.sec (j := j) (s := s) (List.getElem?_set_self HJ.out)).1
            have f1 := HD.out.now.frozen j
            refine pure_eff2 rfl ?_
            go_wp2_with fail
            refine purePost_free ?_
            refine pure_done ?_
            clear c1 f1
            have hD2 := HD.out.storeNow (j := j) (s := s) (s' := s.put (by_ t)) (List.getElem?_set_self HJ.out) HSP.out HSQ.out
            rw [show strOf (s.put (by_ t)).b = F from HF.out, show DkS (DkS X j s) j (s.put (by_ t)) = X.putAt j t from HSE.out s] at hD2
            have HO := Lib.hid (HO.out.set_ (p := ⟨gl, j, none⟩) (.inr (.inl rfl)) (.string F))
            generalize w4.setCell ⟨gl, j, none⟩ (.string F) = w5 at hD2 HO ⊢
            have HD := Lib.hid hD2
            clear hD2
            go_wp2_with fail
            refine (goesR_any x gl go cl co (X.putAt j t) w5 HD.out HGN.out).mono ?_
            rintro e w6 ⟨rfl, hD, hO⟩
            have HO := Lib.hid (HO.out.trans hO)
            rw [HGD.out]
            have HDf := Lib.hid hD
            clear hD hO
            generalize hGD : X.goes.down = gd at HR
            clear hGD
            cases gd
            · go_wp2_with fail
              go_ret
              exact ⟨by rw [HR.out]; rfl, by rw [HW.out]; exact HDf.out, HO.out⟩
            · go_wp2_with fail
              go_ret
              exact ⟨by rw [HR.out]; rfl, by rw [HW.out]; exact HDf.out, HO.out⟩
end Go.Proofs.Ytnddkodenkmoiaa
