/- RingPlays answers true: every call of both rings is answered alike. -/
import Derived.Test.YtkbcilfcfbfiaaaDoorRingM
/- RingPlays: the walk. -/
namespace Go.Proofs.YtkbcilfcfbfiaaaDoor
open Go.RowKit Go.Proofs
set_option linter.unusedSimpArgs false
set_option linter.unusedVariables false
def z36 : Array Value := (actC 0 0 0 ByteArray.empty (List.replicate 32 0)).toArray
theorem z36_size : z36.size = 36 := by rfl
theorem actC_size (k c e : Int) (t : ByteArray) (D : List UInt8) (hD : D.length = 32) : (actC k c e t D).toArray.size = 36 := by simp [actC, hD]
theorem actC_one (k c e : Int) (t : ByteArray) (D : List UInt8) : (actC k c e t D).toArray.all (·.oneCell') = true := by
  refine all_oneCell_toArray fun v hv => ?_
  unfold actC at hv
  simp only [List.mem_append, List.mem_cons, List.not_mem_nil, or_false, List.mem_map] at hv
  rcases hv with (rfl | rfl | rfl | rfl) | ⟨b, _, rfl⟩ <;> rfl
theorem load70 {w : World} {b o : Nat} {a : ActT} (hD : a.D.length = 32) (h : ∀ j u, a.cells[j]? = some u → w.cell? ⟨b, o + j, none⟩ = some u) : (Instr.loadAt 70 (.pointer (some ⟨b, o, none⟩))).run Tryd.prog w = .ok (.agg (actC a.k a.c a.e a.t a.D).toArray) w :=
  run_loadAt_mid (P := Tryd.prog) w b o 70 a.cells _ h Tryd.underlying70 rfl (by
    have h36 : (Tryd.prog.info? 70).map (·.size) = some 36 := by kernel_rfl
    have : a.cells.length = 36 := by unfold ActT.cells; simp [actC, hD]
    rw [this]; exact h36)
set_option maxRecDepth 100000 in
set_option maxHeartbeats 16000000 in
theorem ringPlays_ok (sd : ByteArray) (N : Nat) (h2 : 2 ≤ N) (h8 : N ≤ 8) (hsd : sd.size ≤ 64) (v0 : Value) (acts : List ActT) (hle : acts.length ≤ 9223372036854775807) (w : World) (hk : Consts w) (hac : ActsAtT w v0 acts) :
    Calls Tryd.prog 18 #[.string sd, .int .i64 N, v0] w fun e w' => e = .returned (.bool true) ∧ Below w.heap.size w w' := by
  have HAC := Lib.hid hac
  obtain ⟨ao, cp, rfl, _⟩ := hac
  have HK := Lib.hid hk
  have HP := Lib.hid hk.lt
  go_enter Tryd.func18, Tryd.ntmps18
  go_wp2_with fail
  refine (ring_new sd N w hk h2 h8 hsd).mono ?_
  rintro e w1 ⟨r, g, cap, b, rfl, hR, hb, hbb⟩
  have HBB := Lib.hid hbb
  have HRG := Lib.hid hR
  have HK := Lib.hid (HK.out.below hb)
  have HB := Lib.hid hb
  clear hR hb hbb hk
  go_wp2_with fail
  refine (newR_ok sd N w1 h2 h8 hsd).mono ?_
  rintro e w2 ⟨x, rfl, hR, hb, hx⟩
  have HXX := Lib.hid (Nat.le_trans HB.out.size hx)
  have HRG := Lib.hid (HRG.out.below hb)
  have HRF := Lib.hid hR
  have HK := Lib.hid (HK.out.below hb)
  have HB := Lib.hid (HB.out.trans (hb.mono HB.out.size))
  clear hR hb hx
  go_wp2_with fail
  refine (awakeR_any w2 HK.out).mono ?_
  rintro e w3 ⟨rfl, hb⟩
  have HRG := Lib.hid (HRG.out.below hb)
  have HRF := Lib.hid (HRF.out.below hb)
  have HK := Lib.hid (HK.out.below hb)
  have HB := Lib.hid (HB.out.trans (hb.mono HB.out.size))
  have HB0 := Lib.hid (show 0 < b by have := HBB.out; have := HP.out; omega)
  have HX0 := Lib.hid (show 0 < x by have := HXX.out; have := HP.out; omega)
  clear hb
  go_wp2_with fail
  go_loopw [11, 12, 13, 14, 15, 16, 17] (fun v11 _ _ _ _ _ _ wr => ∃ (i : Nat) (v : Value) (S : List Ln), v11 = .int .i64 (i : Int) ∧ i ≤ acts.length ∧ i ≤ 20 ∧ RingAt wr r g cap b sd N S ∧ RefAt wr x v sd N S ∧ Wide S ∧ S.length ≤ i ∧ Consts wr ∧ Below w.heap.size w wr) (fun v11 _ _ _ _ _ _ _ => 20 - (intOf v11).toNat)
  case atStart => exact ⟨0, _, [], rfl, by omega, by omega, HRG.out, HRF.out, (fun x hx => by cases hx), by simp, HK.out, HB.out⟩
  case round =>
    clear HRG HRF HK HB
    obtain ⟨i, v, S, rfl, hi1, hi2, hRG, hRF, hWD, hSL, hK, hB⟩ := hrel
    have HRG := Lib.hid hRG
    have HRF := Lib.hid hRF
    have HWD := Lib.hid hWD
    have HSL := Lib.hid hSL
    have HWS := Lib.hid hWD
    have HSS := Lib.hid (show S.length ≤ 1000 by omega)
    have HK := Lib.hid hK
    have HB := Lib.hid hB
    clear hRG hRF hWD hSL hK hB
    by_cases hin : i < acts.length ∧ i < 20
    · obtain ⟨hin1, hin2⟩ := hin
      obtain ⟨b1, o, cp', hv, hbl, hok, hcs⟩ := HAC.out.get HB.out i (by omega)
      injection hv with hv1 hv2 hv3
      subst hv1
      clear hv2 hv3
      generalize acts[i]'(by omega) = act at hok hcs
      obtain ⟨k, c, e, t, D⟩ := act
      obtain ⟨hD, hc, he, hte⟩ := hok
      dsimp only at hD hc he hte
      have htm : t.size ≤ maxLen := by unfold maxLen; omega
      have htm' : t.size ≤ 9223372036854775807 := by omega
      have HLD := Lib.hid (load70 (a := ⟨k, c, e, t, D⟩) hD hcs)
      have HDL := Lib.hid hD
      clear hcs
      dsimp only at HLD
      have i0 : (0 : Int) ≤ (i : Int) := by omega
      have i1 : (i : Int) < (acts.length : Int) := by omega
      have HOA := Lib.hid (actC_one k c e t D)
      have HSA := Lib.hid (actC_size k c e t D hD)
      have HIA := Lib.hid (show (Tryd.prog.info? 70).map (·.size) = some (actC k c e t D).toArray.size by rw [HSA.out]; kernel_rfl)
      generalize hA : (actC k c e t D).toArray = A at HLD HOA HSA HIA
      have HC0 := Lib.hid (show A[0]? = some (.int .i64 k) by rw [← hA]; rfl)
      have HC1 := Lib.hid (show A[1]? = some (.int .i64 c) by rw [← hA]; rfl)
      have HC2 := Lib.hid (show A[2]? = some (.int .i64 e) by rw [← hA]; rfl)
      have HC3 := Lib.hid (show A[3]? = some (.string t) by rw [← hA]; rfl)
      have HCD := Lib.hid (show ∀ (j : Nat) (v : Value), (bytesC D)[j]? = some v → A[4 + j]? = some v from fun j v hv => by
        rw [← hA]
        unfold actC
        unfold bytesC at hv
        simp only [List.getElem?_toArray] at hv ⊢
        rw [List.getElem?_append_right (by simp)]
        simpa using hv)
      clear hA hD
      go_upto_region 8 with (fail)
      refine wp_region_lit ?_
      iterate 9 go_step
      refine wpList_loadG rfl 70 _ rfl (p := .pointer (some ⟨b1, o + i * 36, none⟩)) rfl HLD.out ?_
      simp only [Act.put, List.setIfInBounds_toArray, List.set_cons_zero, List.set_cons_succ]
      iterate 3 go_step
      change wpList _ _ _ _ _ (wr.alloc (.cells z36 70))
      have hz := Blk.new wr 70 z36
      refine wpList_store_mid rfl 70 _ _ rfl wr.heap.size 0 A rfl rfl (hz.there 0 _ (by rw [HSA.out, z36_size]; exact Nat.le_refl _)) HIA.out HOA.out ?_
      simp only [Act.put]
      have hz2 := hz.setCells A.toList 0
      rw [putAll_all _ _ (by rw [HSA.out, z36_size])] at hz2
      have hb := grown_stored wr (.cells z36 70) A.toList
      generalize (wr.alloc (.cells z36 70)).setCells wr.heap.size 0 A.toList = w3 at hz2 hb ⊢
      have HAB := Lib.hid hz2
      have HRG := Lib.hid (HRG.out.below hb)
      have HRF := Lib.hid (HRF.out.below hb)
      have HK := Lib.hid (HK.out.below hb)
      have HB := Lib.hid (HB.out.trans (hb.mono HB.out.size))
      clear hz hz2 hb HLD HOA HSA HIA
      generalize wr.heap.size = bx at HAB ⊢
      have a0 : w3.cell? ⟨bx, 0, none⟩ = some (.int .i64 k) := (HAB.out.cell 0).trans HC0.out
      have a1 : w3.cell? ⟨bx, 1, none⟩ = some (.int .i64 c) := (HAB.out.cell 1).trans HC1.out
      have a2 : w3.cell? ⟨bx, 2, none⟩ = some (.int .i64 e) := (HAB.out.cell 2).trans HC2.out
      have a3 : w3.cell? ⟨bx, 3, none⟩ = some (.string t) := (HAB.out.cell 3).trans HC3.out
      go_upto_region 9 with (fail)
      go_wp2_with fail
      refine (light_any c e t w3).mono ?_
      clear a0 a1 a2 a3
      rintro en w4 ⟨rfl, hb⟩
      have HAB := Lib.hid (HAB.out.below hb HAB.out.lt)
      have HRG := Lib.hid (HRG.out.below hb)
      have HRF := Lib.hid (HRF.out.below hb)
      have HK := Lib.hid (HK.out.below hb)
      have HB := Lib.hid (HB.out.trans (hb.mono HB.out.size))
      clear hb
      cases hli : lightB t.size with
      | false =>
        clear hli
        go_wp2_with fail
        go_roundw
        case rel => exact ⟨i + 1, v, S, by go_num, by omega, by omega, HRG.out, HRF.out, HWD.out, by have := HSL.out; omega, HK.out, HB.out⟩
        case measure => simp [intOf]; omega
      | true =>
        clear hli
        have a0 : w4.cell? ⟨bx, 0, none⟩ = some (.int .i64 k) := (HAB.out.cell 0).trans HC0.out
        by_cases hk0 : k = 0
        · subst hk0
          as_aux_lemma =>
            go_upto_region 15 with (fail)
            have a0 : w4.cell? ⟨bx, 0, none⟩ = some (.int .i64 0) := (HAB.out.cell 0).trans HC0.out
            have a1 : w4.cell? ⟨bx, 1, none⟩ = some (.int .i64 c) := (HAB.out.cell 1).trans HC1.out
            have a2 : w4.cell? ⟨bx, 2, none⟩ = some (.int .i64 e) := (HAB.out.cell 2).trans HC2.out
            have a3 : w4.cell? ⟨bx, 3, none⟩ = some (.string t) := (HAB.out.cell 3).trans HC3.out
            go_wp2_with fail
            refine (tagA_any c e t r g cap b N sd S w4 HK.out HRG.out (by have := HSL.out; omega) HB0.out).mono ?_
            clear a0 a1 a2 a3
            rintro en w5 ⟨rfl, hR, hG⟩
            have HAB := Lib.hid (HAB.out.grown hG (fun e => HRG.out.book.ne_ HAB.out (Option.some.inj e).symm))
            have HRF := Lib.hid (HRF.out.other HRG.out.book hG)
            have HRG := Lib.hid hR
            have HK := Lib.hid (HK.out.only hG HB0.out)
            have HB := Lib.hid (HB.out.grown hG HB.out.size (fun k e => by have := Option.some.inj e; have := HBB.out; omega))
            clear hR hG
            have HWD := Lib.hid (tagS_wide HWD.out N c e t hc he htm')
            have HSL := Lib.hid (show (tagS N S c e t).length ≤ i + 1 from Nat.le_trans (tagS_length N S c e t) (by have := HSL.out; omega))
            have HTB := Lib.hid (fun wq v hR hW hl => tagB_any c e t hc he hte x N v sd S wq hR hsd hW hl)
            have hwl := Lib.hid (And.intro HWS.out HSS.out)
            obtain ⟨L, hL, hLX⟩ := tagX_bytes sd N c e t
            have hsx : (tagX sd N c e t).size = 32 := by rw [hLX, bytesC_size, hL]
            have hox : (tagX sd N c e t).all (·.oneCell') = true := by rw [hLX]; exact bytesC_one L
            have heq := fun w => eql_digest L L hL hL w
            rw [beq_self_eq_true, ← hLX] at heq
            have HEQ := Lib.hid heq
            clear heq hLX hL
            generalize tagX sd N c e t = X at hsx hox HTB HEQ ⊢
            generalize tagE N c e t = er at HTB ⊢
            generalize tagS N S c e t = S2 at HRG HWD HSL HTB
            have HSX := Lib.hid hsx
            have HOX := Lib.hid hox
            have HIX := Lib.hid (show (Tryd.prog.info? 25).map (·.size) = some X.size by rw [hsx]; kernel_rfl)
            clear hsx hox
            dsimp only
            iterate 13 go_step
            change wpList _ _ _ _ _ (w5.alloc (.cells z32 25))
            have hz := Blk.new w5 25 z32
            refine wpList_store_mid rfl 25 _ _ rfl w5.heap.size 0 X rfl rfl (hz.there 0 _ (by rw [HSX.out, z32_size]; exact Nat.le_refl _)) HIX.out HOX.out ?_
            simp only [Act.put]
            have hz2 := hz.setCells X.toList 0
            rw [putAll_all _ _ (by rw [HSX.out, z32_size])] at hz2
            have hb := grown_stored w5 (.cells z32 25) X.toList
            generalize (w5.alloc (.cells z32 25)).setCells w5.heap.size 0 X.toList = w6 at hz2 hb ⊢
            have HQ1 := Lib.hid hz2
            have HAB := Lib.hid (HAB.out.below hb HAB.out.lt)
            have HRG := Lib.hid (HRG.out.below hb)
            have HRF := Lib.hid (HRF.out.below hb)
            have HK := Lib.hid (HK.out.below hb)
            have HB := Lib.hid (HB.out.trans (hb.mono HB.out.size))
            clear hb hz hz2
            generalize w5.heap.size = q1 at HQ1 ⊢
            go_upto_region 16 with (fail)
            have a0 : w6.cell? ⟨bx, 0, none⟩ = some (.int .i64 0) := (HAB.out.cell 0).trans HC0.out
            have a1 : w6.cell? ⟨bx, 1, none⟩ = some (.int .i64 c) := (HAB.out.cell 1).trans HC1.out
            have a2 : w6.cell? ⟨bx, 2, none⟩ = some (.int .i64 e) := (HAB.out.cell 2).trans HC2.out
            have a3 : w6.cell? ⟨bx, 3, none⟩ = some (.string t) := (HAB.out.cell 3).trans HC3.out
            go_wp2_with fail
            refine (HTB.out w6 v HRF.out hwl.out.1 hwl.out.2).mono ?_
            clear a0 a1 a2 a3
            rintro en w7 ⟨rfl, v2, hR, hG⟩
            have HAB := Lib.hid (HAB.out.grown hG (fun e => Blk.ne_ HAB.out HRF.out.ring (by decide) (Option.some.inj e)))
            have HQ1 := Lib.hid (HQ1.out.grown hG (fun e => Blk.ne_ HQ1.out HRF.out.ring (by decide) (Option.some.inj e)))
            have HRG := Lib.hid (HRG.out.other HRF.out hG)
            have HK := Lib.hid (HK.out.only hG HX0.out)
            have HB := Lib.hid (HB.out.grown hG HB.out.size (fun k e => by have := Option.some.inj e; have := HXX.out; omega))
            have HRF := Lib.hid hR
            clear hR hG
            dsimp only
            iterate 13 go_step
            change wpList _ _ _ _ _ (w7.alloc (.cells z32 25))
            have hz := Blk.new w7 25 z32
            refine wpList_store_mid rfl 25 _ _ rfl w7.heap.size 0 X rfl rfl (hz.there 0 _ (by rw [HSX.out, z32_size]; exact Nat.le_refl _)) HIX.out HOX.out ?_
            simp only [Act.put]
            have hz2 := hz.setCells X.toList 0
            rw [putAll_all _ _ (by rw [HSX.out, z32_size])] at hz2
            have hb := grown_stored w7 (.cells z32 25) X.toList
            generalize (w7.alloc (.cells z32 25)).setCells w7.heap.size 0 X.toList = w8 at hz2 hb ⊢
            have HQ2 := Lib.hid hz2
            have HQ1 := Lib.hid (HQ1.out.below hb HQ1.out.lt)
            have HAB := Lib.hid (HAB.out.below hb HAB.out.lt)
            have HRG := Lib.hid (HRG.out.below hb)
            have HRF := Lib.hid (HRF.out.below hb)
            have HK := Lib.hid (HK.out.below hb)
            have HB := Lib.hid (HB.out.trans (hb.mono HB.out.size))
            clear hb hz hz2
            generalize w7.heap.size = q2 at HQ2 ⊢
            have heq := HEQ.out w8
            have hee : (er == er) = true := by simp
            go_upto_region 20 with (first
              | (refine wpList_loadG rfl 25 _ rfl (p := .pointer (some ⟨q1, 0, none⟩)) rfl (load25 HQ1.out HSX.out) ?_; simp only [Act.put, List.setIfInBounds_toArray, List.set_cons_zero, List.set_cons_succ])
              | (refine wpList_loadG rfl 25 _ rfl (p := .pointer (some ⟨q2, 0, none⟩)) rfl (load25 HQ2.out HSX.out) ?_; simp only [Act.put, List.setIfInBounds_toArray, List.set_cons_zero, List.set_cons_succ])
              | fail)
            clear heq hee
            obtain ⟨av, cv, rfl⟩ := HRF.out.rows.len
            have HAB := Lib.hid HAB.out.drew
            have HRG := Lib.hid HRG.out.drew
            have HRF := Lib.hid HRF.out.drew
            have HK := Lib.hid (show Consts w8.drew from HK.out)
            have HB := Lib.hid (show Below w.heap.size w w8.drew from HB.out.drewN 1)
            have HMA := Lib.hid (fun wq hR => made_any c e t hc he htm r g cap b N sd S2 wq hR)
            have HMB := Lib.hid (fun wq v hR => madeR_any c e t hc he htm x N v sd S2 wq hR HWD.out (by have := HSL.out; omega))
            generalize decide (ln c e t ∈ S2) = z at HMA HMB
            have e1 : ∀ w', KeptOn (fun _ => True) w8.drew w' → w'.cell? ⟨bx, 1, none⟩ = some (.int .i64 c) := fun w' h => h.cell (w := w8.drew) ((HAB.out.cell 1).trans HC1.out) trivial
            have e2 : ∀ w', KeptOn (fun _ => True) w8.drew w' → w'.cell? ⟨bx, 2, none⟩ = some (.int .i64 e) := fun w' h => h.cell (w := w8.drew) ((HAB.out.cell 2).trans HC2.out) trivial
            have e3 : ∀ w', KeptOn (fun _ => True) w8.drew w' → w'.cell? ⟨bx, 3, none⟩ = some (.string t) := fun w' h => h.cell (w := w8.drew) ((HAB.out.cell 3).trans HC3.out) trivial
            have f1 : ∀ w', KeptOn (fun _ => True) w8.drew w' → w'.cell? ⟨x, 1, none⟩ = some (.int .i64 N) := fun w' h => h.cell (w := w8.drew) (HRF.out.ring.cell 1) trivial
            have f2 : ∀ w', KeptOn (fun _ => True) w8.drew w' → w'.cell? ⟨x, 2, none⟩ = some (.slice av S2.length cv) := fun w' h => h.cell (w := w8.drew) (HRF.out.ring.cell 2) trivial
            generalize hw20 : w8.drew = w20 at HAB HRG HRF HK HB e1 e2 e3 f1 f2
            refine wp_region_pure (KeptOn fun _ => True) (KeptOn.refl _) (KeptOn.trans) [(0,3),(1,3),(2,3),(3,3),(4,3),(5,3),(6,0),(7,3),(8,3),(9,0),(10,3),(11,3),(12,0),(14,3),(15,3),(16,0),(13,1),(17,1),(18,3),(19,3),(20,3),(21,3),(23,3),(24,3),(25,3),(26,0),(27,3),(22,1),(28,3),(29,3),(30,3),(31,3),(33,3),(34,3),(35,3),(36,0),(32,1),(37,3),(38,3)] (by kernel_rfl) (by kernel_rfl) ?_
            rw [hw20]
            clear hw20
            iterate 6 (refine pure_pure (v := ?_) rfl (fun _ _ _ h => h) (by rfl) (fun w' => ?_) ?_; rotate_left; (go_simp; try with_reducible rfl); simp only [Act.put, List.setIfInBounds_toArray, List.set_cons_zero, List.set_cons_succ])
            iterate 1 (refine pure_quiet (v := ?_) rfl (fun _ _ _ h => h) (by rfl) (fun w' hR => ?_) ?_; rotate_left; (go_simp; try with_reducible rfl); simp only [Act.put, List.setIfInBounds_toArray, List.set_cons_zero, List.set_cons_succ])
            iterate 2 (refine pure_pure (v := ?_) rfl (fun _ _ _ h => h) (by rfl) (fun w' => ?_) ?_; rotate_left; (go_simp; try with_reducible rfl); simp only [Act.put, List.setIfInBounds_toArray, List.set_cons_zero, List.set_cons_succ])
            iterate 1 (refine pure_quiet (v := ?_) rfl (fun _ _ _ h => h) (by rfl) (fun w' hR => ?_) ?_; rotate_left; (go_simp; try with_reducible rfl); simp only [Act.put, List.setIfInBounds_toArray, List.set_cons_zero, List.set_cons_succ])
            iterate 2 (refine pure_pure (v := ?_) rfl (fun _ _ _ h => h) (by rfl) (fun w' => ?_) ?_; rotate_left; (go_simp; try with_reducible rfl); simp only [Act.put, List.setIfInBounds_toArray, List.set_cons_zero, List.set_cons_succ])
            iterate 1 (refine pure_quiet (v := ?_) rfl (fun _ _ _ h => h) (by rfl) (fun w' hR => ?_) ?_; rotate_left; (go_simp; try with_reducible rfl); simp only [Act.put, List.setIfInBounds_toArray, List.set_cons_zero, List.set_cons_succ])
            iterate 2 (refine pure_pure (v := ?_) rfl (fun _ _ _ h => h) (by rfl) (fun w' => ?_) ?_; rotate_left; (go_simp; try with_reducible rfl); simp only [Act.put, List.setIfInBounds_toArray, List.set_cons_zero, List.set_cons_succ])
            iterate 1 (refine pure_quiet (v := ?_) rfl (fun _ _ _ h => h) (by rfl) (fun w' hR => ?_) ?_; rotate_left; (go_simp; try with_reducible rfl); simp only [Act.put, List.setIfInBounds_toArray, List.set_cons_zero, List.set_cons_succ])
            clear e1 e2 e3
            refine pure_eff rfl ?_
            go_wp2_with fail
            refine (HMA.out w20 HRG.out).mono ?_
            rintro en w' ⟨rfl, rfl⟩
            go_wp2_with fail
            refine purePost_need (KeptOn.refl _ _) ?_
            refine pure_eff rfl ?_
            go_wp2_with fail
            refine (HMB.out w20 _ HRF.out).mono ?_
            rintro en w21 ⟨rfl, hb⟩
            have HKe := Lib.hid (show KeptOn (fun _ => True) w20 w21 from KeptOn.below hb (fun b hb _ => hb))
            have HAB := Lib.hid (HAB.out.below hb HAB.out.lt)
            have HRG := Lib.hid (HRG.out.below hb)
            have HRF := Lib.hid (HRF.out.below hb)
            have HK := Lib.hid (HK.out.below hb)
            have HB := Lib.hid (HB.out.trans (hb.mono HB.out.size))
            clear hb f1 f2
            have f1 : ∀ w', KeptOn (fun _ => True) w21 w' → w'.cell? ⟨x, 1, none⟩ = some (.int .i64 N) := fun w' h => h.cell (w := w21) (HRF.out.ring.cell 1) trivial
            have f2 : ∀ w', KeptOn (fun _ => True) w21 w' → w'.cell? ⟨x, 2, none⟩ = some (.slice av S2.length cv) := fun w' h => h.cell (w := w21) (HRF.out.ring.cell 2) trivial
            go_wp2_with fail
            refine purePost_need HKe.out ?_
            have hzz : (z != z) = false := by simp
            iterate 7 (refine pure_pure (v := ?_) rfl (fun _ _ _ h => h) (by rfl) (fun w' => ?_) ?_; rotate_left; (go_simp; try with_reducible rfl); simp only [Act.put, List.setIfInBounds_toArray, List.set_cons_zero, List.set_cons_succ])
            iterate 1 (refine pure_quiet (v := ?_) rfl (fun _ _ _ h => h) (by rfl) (fun w' hR => ?_) ?_; rotate_left; (go_simp; try with_reducible rfl); simp only [Act.put, List.setIfInBounds_toArray, List.set_cons_zero, List.set_cons_succ])
            iterate 1 (refine pure_pure (v := ?_) rfl (fun _ _ _ h => h) (by rfl) (fun w' => ?_) ?_; rotate_left; (go_simp; try with_reducible rfl); simp only [Act.put, List.setIfInBounds_toArray, List.set_cons_zero, List.set_cons_succ])
            refine pure_eff rfl ?_
            go_wp2_with fail
            refine (rlen_any r g cap b N sd S2 w21 HRG.out).mono ?_
            rintro en w' ⟨rfl, rfl⟩
            go_wp2_with fail
            refine purePost_need (KeptOn.refl _ _) ?_
            have hss : ((S2.length : Int) != (S2.length : Int)) = false := by simp
            iterate 7 (refine pure_pure (v := ?_) rfl (fun _ _ _ h => h) (by rfl) (fun w' => ?_) ?_; rotate_left; (go_simp; try with_reducible rfl); simp only [Act.put, List.setIfInBounds_toArray, List.set_cons_zero, List.set_cons_succ])
            iterate 1 (refine pure_quiet (v := ?_) rfl (fun _ _ _ h => h) (by rfl) (fun w' hR => ?_) ?_; rotate_left; (go_simp; try with_reducible rfl); simp only [Act.put, List.setIfInBounds_toArray, List.set_cons_zero, List.set_cons_succ])
            refine pure_eff rfl ?_
            go_wp2_with fail
            refine (clients_any r g cap b N sd S2 w21 HRG.out).mono ?_
            rintro en w' ⟨rfl, rfl⟩
            go_wp2_with fail
            refine purePost_need (KeptOn.refl _ _) ?_
            have hnn : ((N : Int) != (N : Int)) = false := by simp
            iterate 2 (refine pure_pure (v := ?_) rfl (fun _ _ _ h => h) (by rfl) (fun w' => ?_) ?_; rotate_left; (go_simp; try with_reducible rfl); simp only [Act.put, List.setIfInBounds_toArray, List.set_cons_zero, List.set_cons_succ])
            refine pure_done ?_
            clear hzz hss hnn f1 f2
            go_wp2_with fail
            go_roundw
            case rel => exact ⟨i + 1, _, S2, by go_num, by omega, by omega, HRG.out, HRF.out, HWD.out, by have := HSL.out; omega, HK.out, HB.out⟩
            case measure => simp [intOf]; omega
        · by_cases hk1 : k = 1
          · subst hk1
            as_aux_lemma =>
              go_upto_region 15 with (fail)
              have a0 : w4.cell? ⟨bx, 0, none⟩ = some (.int .i64 1) := (HAB.out.cell 0).trans HC0.out
              have a1 : w4.cell? ⟨bx, 1, none⟩ = some (.int .i64 c) := (HAB.out.cell 1).trans HC1.out
              have a2 : w4.cell? ⟨bx, 2, none⟩ = some (.int .i64 e) := (HAB.out.cell 2).trans HC2.out
              have a3 : w4.cell? ⟨bx, 3, none⟩ = some (.string t) := (HAB.out.cell 3).trans HC3.out
              go_wp2_with fail
              refine (tagA_any c e t r g cap b N sd S w4 HK.out HRG.out (by have := HSL.out; omega) HB0.out).mono ?_
              clear a0 a1 a2 a3
              rintro en w5 ⟨rfl, hR, hG⟩
              have HAB := Lib.hid (HAB.out.grown hG (fun e => HRG.out.book.ne_ HAB.out (Option.some.inj e).symm))
              have HRF := Lib.hid (HRF.out.other HRG.out.book hG)
              have HRG := Lib.hid hR
              have HK := Lib.hid (HK.out.only hG HB0.out)
              have HB := Lib.hid (HB.out.grown hG HB.out.size (fun k e => by have := Option.some.inj e; have := HBB.out; omega))
              clear hR hG
              have HWD := Lib.hid (tagS_wide HWD.out N c e t hc he htm')
              have HSL := Lib.hid (show (tagS N S c e t).length ≤ i + 1 from Nat.le_trans (tagS_length N S c e t) (by have := HSL.out; omega))
              have HTB := Lib.hid (fun wq v hR hW hl => tagB_any c e t hc he hte x N v sd S wq hR hsd hW hl)
              have hwl := Lib.hid (And.intro HWS.out HSS.out)
              obtain ⟨L, hL, hLX⟩ := tagX_bytes sd N c e t
              have hsx : (tagX sd N c e t).size = 32 := by rw [hLX, bytesC_size, hL]
              have hox : (tagX sd N c e t).all (·.oneCell') = true := by rw [hLX]; exact bytesC_one L
              have heq := fun w => eql_digest L L hL hL w
              rw [beq_self_eq_true, ← hLX] at heq
              have HEQ := Lib.hid heq
              clear heq hLX hL
              generalize tagX sd N c e t = X at hsx hox HTB HEQ ⊢
              generalize tagE N c e t = er at HTB ⊢
              generalize tagS N S c e t = S2 at HRG HWD HSL HTB
              have HSX := Lib.hid hsx
              have HOX := Lib.hid hox
              have HIX := Lib.hid (show (Tryd.prog.info? 25).map (·.size) = some X.size by rw [hsx]; kernel_rfl)
              clear hsx hox
              dsimp only
              iterate 13 go_step
              change wpList _ _ _ _ _ (w5.alloc (.cells z32 25))
              have hz := Blk.new w5 25 z32
              refine wpList_store_mid rfl 25 _ _ rfl w5.heap.size 0 X rfl rfl (hz.there 0 _ (by rw [HSX.out, z32_size]; exact Nat.le_refl _)) HIX.out HOX.out ?_
              simp only [Act.put]
              have hz2 := hz.setCells X.toList 0
              rw [putAll_all _ _ (by rw [HSX.out, z32_size])] at hz2
              have hb := grown_stored w5 (.cells z32 25) X.toList
              generalize (w5.alloc (.cells z32 25)).setCells w5.heap.size 0 X.toList = w6 at hz2 hb ⊢
              have HQ1 := Lib.hid hz2
              have HAB := Lib.hid (HAB.out.below hb HAB.out.lt)
              have HRG := Lib.hid (HRG.out.below hb)
              have HRF := Lib.hid (HRF.out.below hb)
              have HK := Lib.hid (HK.out.below hb)
              have HB := Lib.hid (HB.out.trans (hb.mono HB.out.size))
              clear hb hz hz2
              generalize w5.heap.size = q1 at HQ1 ⊢
              go_upto_region 16 with (fail)
              have a0 : w6.cell? ⟨bx, 0, none⟩ = some (.int .i64 1) := (HAB.out.cell 0).trans HC0.out
              have a1 : w6.cell? ⟨bx, 1, none⟩ = some (.int .i64 c) := (HAB.out.cell 1).trans HC1.out
              have a2 : w6.cell? ⟨bx, 2, none⟩ = some (.int .i64 e) := (HAB.out.cell 2).trans HC2.out
              have a3 : w6.cell? ⟨bx, 3, none⟩ = some (.string t) := (HAB.out.cell 3).trans HC3.out
              go_wp2_with fail
              refine (HTB.out w6 v HRF.out hwl.out.1 hwl.out.2).mono ?_
              clear a0 a1 a2 a3
              rintro en w7 ⟨rfl, v2, hR, hG⟩
              have HAB := Lib.hid (HAB.out.grown hG (fun e => Blk.ne_ HAB.out HRF.out.ring (by decide) (Option.some.inj e)))
              have HQ1 := Lib.hid (HQ1.out.grown hG (fun e => Blk.ne_ HQ1.out HRF.out.ring (by decide) (Option.some.inj e)))
              have HRG := Lib.hid (HRG.out.other HRF.out hG)
              have HK := Lib.hid (HK.out.only hG HX0.out)
              have HB := Lib.hid (HB.out.grown hG HB.out.size (fun k e => by have := Option.some.inj e; have := HXX.out; omega))
              have HRF := Lib.hid hR
              clear hR hG
              dsimp only
              iterate 13 go_step
              change wpList _ _ _ _ _ (w7.alloc (.cells z32 25))
              have hz := Blk.new w7 25 z32
              refine wpList_store_mid rfl 25 _ _ rfl w7.heap.size 0 X rfl rfl (hz.there 0 _ (by rw [HSX.out, z32_size]; exact Nat.le_refl _)) HIX.out HOX.out ?_
              simp only [Act.put]
              have hz2 := hz.setCells X.toList 0
              rw [putAll_all _ _ (by rw [HSX.out, z32_size])] at hz2
              have hb := grown_stored w7 (.cells z32 25) X.toList
              generalize (w7.alloc (.cells z32 25)).setCells w7.heap.size 0 X.toList = w8 at hz2 hb ⊢
              have HQ2 := Lib.hid hz2
              have HQ1 := Lib.hid (HQ1.out.below hb HQ1.out.lt)
              have HAB := Lib.hid (HAB.out.below hb HAB.out.lt)
              have HRG := Lib.hid (HRG.out.below hb)
              have HRF := Lib.hid (HRF.out.below hb)
              have HK := Lib.hid (HK.out.below hb)
              have HB := Lib.hid (HB.out.trans (hb.mono HB.out.size))
              clear hb hz hz2
              generalize w7.heap.size = q2 at HQ2 ⊢
              have heq := HEQ.out w8
              have hee : (er == er) = true := by simp
              go_upto_region 20 with (first
                | (refine wpList_loadG rfl 25 _ rfl (p := .pointer (some ⟨q1, 0, none⟩)) rfl (load25 HQ1.out HSX.out) ?_; simp only [Act.put, List.setIfInBounds_toArray, List.set_cons_zero, List.set_cons_succ])
                | (refine wpList_loadG rfl 25 _ rfl (p := .pointer (some ⟨q2, 0, none⟩)) rfl (load25 HQ2.out HSX.out) ?_; simp only [Act.put, List.setIfInBounds_toArray, List.set_cons_zero, List.set_cons_succ])
                | fail)
              clear heq hee
              obtain ⟨av, cv, rfl⟩ := HRF.out.rows.len
              have HAB := Lib.hid HAB.out.drew
              have HRG := Lib.hid HRG.out.drew
              have HRF := Lib.hid HRF.out.drew
              have HK := Lib.hid (show Consts w8.drew from HK.out)
              have HB := Lib.hid (show Below w.heap.size w w8.drew from HB.out.drewN 1)
              have HMA := Lib.hid (fun wq hR => made_any c e t hc he htm r g cap b N sd S2 wq hR)
              have HMB := Lib.hid (fun wq v hR => madeR_any c e t hc he htm x N v sd S2 wq hR HWD.out (by have := HSL.out; omega))
              generalize decide (ln c e t ∈ S2) = z at HMA HMB
              have e1 : ∀ w', KeptOn (fun _ => True) w8.drew w' → w'.cell? ⟨bx, 1, none⟩ = some (.int .i64 c) := fun w' h => h.cell (w := w8.drew) ((HAB.out.cell 1).trans HC1.out) trivial
              have e2 : ∀ w', KeptOn (fun _ => True) w8.drew w' → w'.cell? ⟨bx, 2, none⟩ = some (.int .i64 e) := fun w' h => h.cell (w := w8.drew) ((HAB.out.cell 2).trans HC2.out) trivial
              have e3 : ∀ w', KeptOn (fun _ => True) w8.drew w' → w'.cell? ⟨bx, 3, none⟩ = some (.string t) := fun w' h => h.cell (w := w8.drew) ((HAB.out.cell 3).trans HC3.out) trivial
              have f1 : ∀ w', KeptOn (fun _ => True) w8.drew w' → w'.cell? ⟨x, 1, none⟩ = some (.int .i64 N) := fun w' h => h.cell (w := w8.drew) (HRF.out.ring.cell 1) trivial
              have f2 : ∀ w', KeptOn (fun _ => True) w8.drew w' → w'.cell? ⟨x, 2, none⟩ = some (.slice av S2.length cv) := fun w' h => h.cell (w := w8.drew) (HRF.out.ring.cell 2) trivial
              generalize hw20 : w8.drew = w20 at HAB HRG HRF HK HB e1 e2 e3 f1 f2
              refine wp_region_pure (KeptOn fun _ => True) (KeptOn.refl _) (KeptOn.trans) [(0,3),(1,3),(2,3),(3,3),(4,3),(5,3),(6,0),(7,3),(8,3),(9,0),(10,3),(11,3),(12,0),(14,3),(15,3),(16,0),(13,1),(17,1),(18,3),(19,3),(20,3),(21,3),(23,3),(24,3),(25,3),(26,0),(27,3),(22,1),(28,3),(29,3),(30,3),(31,3),(33,3),(34,3),(35,3),(36,0),(32,1),(37,3),(38,3)] (by kernel_rfl) (by kernel_rfl) ?_
              rw [hw20]
              clear hw20
              iterate 6 (refine pure_pure (v := ?_) rfl (fun _ _ _ h => h) (by rfl) (fun w' => ?_) ?_; rotate_left; (go_simp; try with_reducible rfl); simp only [Act.put, List.setIfInBounds_toArray, List.set_cons_zero, List.set_cons_succ])
              iterate 1 (refine pure_quiet (v := ?_) rfl (fun _ _ _ h => h) (by rfl) (fun w' hR => ?_) ?_; rotate_left; (go_simp; try with_reducible rfl); simp only [Act.put, List.setIfInBounds_toArray, List.set_cons_zero, List.set_cons_succ])
              iterate 2 (refine pure_pure (v := ?_) rfl (fun _ _ _ h => h) (by rfl) (fun w' => ?_) ?_; rotate_left; (go_simp; try with_reducible rfl); simp only [Act.put, List.setIfInBounds_toArray, List.set_cons_zero, List.set_cons_succ])
              iterate 1 (refine pure_quiet (v := ?_) rfl (fun _ _ _ h => h) (by rfl) (fun w' hR => ?_) ?_; rotate_left; (go_simp; try with_reducible rfl); simp only [Act.put, List.setIfInBounds_toArray, List.set_cons_zero, List.set_cons_succ])
              iterate 2 (refine pure_pure (v := ?_) rfl (fun _ _ _ h => h) (by rfl) (fun w' => ?_) ?_; rotate_left; (go_simp; try with_reducible rfl); simp only [Act.put, List.setIfInBounds_toArray, List.set_cons_zero, List.set_cons_succ])
              iterate 1 (refine pure_quiet (v := ?_) rfl (fun _ _ _ h => h) (by rfl) (fun w' hR => ?_) ?_; rotate_left; (go_simp; try with_reducible rfl); simp only [Act.put, List.setIfInBounds_toArray, List.set_cons_zero, List.set_cons_succ])
              iterate 2 (refine pure_pure (v := ?_) rfl (fun _ _ _ h => h) (by rfl) (fun w' => ?_) ?_; rotate_left; (go_simp; try with_reducible rfl); simp only [Act.put, List.setIfInBounds_toArray, List.set_cons_zero, List.set_cons_succ])
              iterate 1 (refine pure_quiet (v := ?_) rfl (fun _ _ _ h => h) (by rfl) (fun w' hR => ?_) ?_; rotate_left; (go_simp; try with_reducible rfl); simp only [Act.put, List.setIfInBounds_toArray, List.set_cons_zero, List.set_cons_succ])
              clear e1 e2 e3
              refine pure_eff rfl ?_
              go_wp2_with fail
              refine (HMA.out w20 HRG.out).mono ?_
              rintro en w' ⟨rfl, rfl⟩
              go_wp2_with fail
              refine purePost_need (KeptOn.refl _ _) ?_
              refine pure_eff rfl ?_
              go_wp2_with fail
              refine (HMB.out w20 _ HRF.out).mono ?_
              rintro en w21 ⟨rfl, hb⟩
              have HKe := Lib.hid (show KeptOn (fun _ => True) w20 w21 from KeptOn.below hb (fun b hb _ => hb))
              have HAB := Lib.hid (HAB.out.below hb HAB.out.lt)
              have HRG := Lib.hid (HRG.out.below hb)
              have HRF := Lib.hid (HRF.out.below hb)
              have HK := Lib.hid (HK.out.below hb)
              have HB := Lib.hid (HB.out.trans (hb.mono HB.out.size))
              clear hb f1 f2
              have f1 : ∀ w', KeptOn (fun _ => True) w21 w' → w'.cell? ⟨x, 1, none⟩ = some (.int .i64 N) := fun w' h => h.cell (w := w21) (HRF.out.ring.cell 1) trivial
              have f2 : ∀ w', KeptOn (fun _ => True) w21 w' → w'.cell? ⟨x, 2, none⟩ = some (.slice av S2.length cv) := fun w' h => h.cell (w := w21) (HRF.out.ring.cell 2) trivial
              go_wp2_with fail
              refine purePost_need HKe.out ?_
              have hzz : (z != z) = false := by simp
              iterate 7 (refine pure_pure (v := ?_) rfl (fun _ _ _ h => h) (by rfl) (fun w' => ?_) ?_; rotate_left; (go_simp; try with_reducible rfl); simp only [Act.put, List.setIfInBounds_toArray, List.set_cons_zero, List.set_cons_succ])
              iterate 1 (refine pure_quiet (v := ?_) rfl (fun _ _ _ h => h) (by rfl) (fun w' hR => ?_) ?_; rotate_left; (go_simp; try with_reducible rfl); simp only [Act.put, List.setIfInBounds_toArray, List.set_cons_zero, List.set_cons_succ])
              iterate 1 (refine pure_pure (v := ?_) rfl (fun _ _ _ h => h) (by rfl) (fun w' => ?_) ?_; rotate_left; (go_simp; try with_reducible rfl); simp only [Act.put, List.setIfInBounds_toArray, List.set_cons_zero, List.set_cons_succ])
              refine pure_eff rfl ?_
              go_wp2_with fail
              refine (rlen_any r g cap b N sd S2 w21 HRG.out).mono ?_
              rintro en w' ⟨rfl, rfl⟩
              go_wp2_with fail
              refine purePost_need (KeptOn.refl _ _) ?_
              have hss : ((S2.length : Int) != (S2.length : Int)) = false := by simp
              iterate 7 (refine pure_pure (v := ?_) rfl (fun _ _ _ h => h) (by rfl) (fun w' => ?_) ?_; rotate_left; (go_simp; try with_reducible rfl); simp only [Act.put, List.setIfInBounds_toArray, List.set_cons_zero, List.set_cons_succ])
              iterate 1 (refine pure_quiet (v := ?_) rfl (fun _ _ _ h => h) (by rfl) (fun w' hR => ?_) ?_; rotate_left; (go_simp; try with_reducible rfl); simp only [Act.put, List.setIfInBounds_toArray, List.set_cons_zero, List.set_cons_succ])
              refine pure_eff rfl ?_
              go_wp2_with fail
              refine (clients_any r g cap b N sd S2 w21 HRG.out).mono ?_
              rintro en w' ⟨rfl, rfl⟩
              go_wp2_with fail
              refine purePost_need (KeptOn.refl _ _) ?_
              have hnn : ((N : Int) != (N : Int)) = false := by simp
              iterate 2 (refine pure_pure (v := ?_) rfl (fun _ _ _ h => h) (by rfl) (fun w' => ?_) ?_; rotate_left; (go_simp; try with_reducible rfl); simp only [Act.put, List.setIfInBounds_toArray, List.set_cons_zero, List.set_cons_succ])
              refine pure_done ?_
              clear hzz hss hnn f1 f2
              go_wp2_with fail
              go_roundw
              case rel => exact ⟨i + 1, _, S2, by go_num, by omega, by omega, HRG.out, HRF.out, HWD.out, by have := HSL.out; omega, HK.out, HB.out⟩
              case measure => simp [intOf]; omega
          · by_cases hk2 : k = 2
            · subst hk2
              as_aux_lemma =>
                go_upto_region 19 with (fail)
                have HAB := Lib.hid HAB.out.drew
                have HRG := Lib.hid HRG.out.drew
                have HRF := Lib.hid HRF.out.drew
                have HK := Lib.hid (show Consts w4.drew from HK.out)
                have HB := Lib.hid (show Below w.heap.size w w4.drew from HB.out.drewN 1)
                have HCA := Lib.hid (fun wq hk hR => checkA_any c e t D HDL.out r g cap b N sd S wq hk hR)
                have HCB := Lib.hid (fun wq hR => checkB_any c e t D HDL.out hc he x N v sd S wq hR hsd)
                generalize chkB sd N c e t D = y at HCA HCB
                have e1 : ∀ w', KeptOn (fun _ => True) w4.drew w' → w'.cell? ⟨bx, 1, none⟩ = some (.int .i64 c) := fun w' h => h.cell (w := w4.drew) ((HAB.out.cell 1).trans HC1.out) trivial
                have e2 : ∀ w', KeptOn (fun _ => True) w4.drew w' → w'.cell? ⟨bx, 2, none⟩ = some (.int .i64 e) := fun w' h => h.cell (w := w4.drew) ((HAB.out.cell 2).trans HC2.out) trivial
                have e3 : ∀ w', KeptOn (fun _ => True) w4.drew w' → w'.cell? ⟨bx, 3, none⟩ = some (.string t) := fun w' h => h.cell (w := w4.drew) ((HAB.out.cell 3).trans HC3.out) trivial
                generalize hw5 : w4.drew = w5 at HAB HRG HRF HK HB e1 e2 e3
                refine wp_region_pure (KeptOn fun _ => True) (KeptOn.refl _) (KeptOn.trans) [(0,3),(1,3),(2,3),(3,0),(4,3),(5,3),(6,0),(7,3),(8,3),(9,0),(10,3),(11,0),(13,3),(14,3),(15,0),(16,3),(17,0),(12,1),(18,1),(19,3),(20,3)] (by kernel_rfl) (by kernel_rfl) ?_
                rw [hw5]
                clear hw5
                iterate 3 (refine pure_pure (v := ?_) rfl (fun _ _ _ h => h) (by rfl) (fun w' => ?_) ?_; rotate_left; (go_simp; try with_reducible rfl); simp only [Act.put, List.setIfInBounds_toArray, List.set_cons_zero, List.set_cons_succ])
                iterate 1 (refine pure_quiet (v := ?_) rfl (fun _ _ _ h => h) (by rfl) (fun w' hR => ?_) ?_; rotate_left; (go_simp; try with_reducible rfl); simp only [Act.put, List.setIfInBounds_toArray, List.set_cons_zero, List.set_cons_succ])
                iterate 2 (refine pure_pure (v := ?_) rfl (fun _ _ _ h => h) (by rfl) (fun w' => ?_) ?_; rotate_left; (go_simp; try with_reducible rfl); simp only [Act.put, List.setIfInBounds_toArray, List.set_cons_zero, List.set_cons_succ])
                iterate 1 (refine pure_quiet (v := ?_) rfl (fun _ _ _ h => h) (by rfl) (fun w' hR => ?_) ?_; rotate_left; (go_simp; try with_reducible rfl); simp only [Act.put, List.setIfInBounds_toArray, List.set_cons_zero, List.set_cons_succ])
                iterate 2 (refine pure_pure (v := ?_) rfl (fun _ _ _ h => h) (by rfl) (fun w' => ?_) ?_; rotate_left; (go_simp; try with_reducible rfl); simp only [Act.put, List.setIfInBounds_toArray, List.set_cons_zero, List.set_cons_succ])
                iterate 1 (refine pure_quiet (v := ?_) rfl (fun _ _ _ h => h) (by rfl) (fun w' hR => ?_) ?_; rotate_left; (go_simp; try with_reducible rfl); simp only [Act.put, List.setIfInBounds_toArray, List.set_cons_zero, List.set_cons_succ])
                iterate 1 (refine pure_pure (v := ?_) rfl (fun _ _ _ h => h) (by rfl) (fun w' => ?_) ?_; rotate_left; (go_simp; try with_reducible rfl); simp only [Act.put, List.setIfInBounds_toArray, List.set_cons_zero, List.set_cons_succ])
                refine pure_quiet (v := .agg (bytesC D)) rfl (fun _ _ _ h => h) (by rfl) (fun w' hR => execLoad 25 _ rfl (p := .pointer (some ⟨bx, 4, none⟩)) rfl (load25at (HAB.out.kept hR trivial) (by rw [bytesC_size, HDL.out]) HCD.out)) ?_
                simp only [Act.put, List.setIfInBounds_toArray, List.set_cons_zero, List.set_cons_succ]
                iterate 2 (refine pure_pure (v := ?_) rfl (fun _ _ _ h => h) (by rfl) (fun w' => ?_) ?_; rotate_left; (go_simp; try with_reducible rfl); simp only [Act.put, List.setIfInBounds_toArray, List.set_cons_zero, List.set_cons_succ])
                iterate 1 (refine pure_quiet (v := ?_) rfl (fun _ _ _ h => h) (by rfl) (fun w' hR => ?_) ?_; rotate_left; (go_simp; try with_reducible rfl); simp only [Act.put, List.setIfInBounds_toArray, List.set_cons_zero, List.set_cons_succ])
                iterate 1 (refine pure_pure (v := ?_) rfl (fun _ _ _ h => h) (by rfl) (fun w' => ?_) ?_; rotate_left; (go_simp; try with_reducible rfl); simp only [Act.put, List.setIfInBounds_toArray, List.set_cons_zero, List.set_cons_succ])
                refine pure_quiet (v := .agg (bytesC D)) rfl (fun _ _ _ h => h) (by rfl) (fun w' hR => execLoad 25 _ rfl (p := .pointer (some ⟨bx, 4, none⟩)) rfl (load25at (HAB.out.kept hR trivial) (by rw [bytesC_size, HDL.out]) HCD.out)) ?_
                simp only [Act.put, List.setIfInBounds_toArray, List.set_cons_zero, List.set_cons_succ]
                clear e1 e2 e3
                refine pure_eff rfl ?_
                go_wp2_with fail
                refine (HCA.out w5 HK.out HRG.out).mono ?_
                rintro en w6 ⟨rfl, hb⟩
                have HKe := Lib.hid (show KeptOn (fun _ => True) w5 w6 from KeptOn.below hb (fun b hb _ => hb))
                have HAB := Lib.hid (HAB.out.below hb HAB.out.lt)
                have HRG := Lib.hid (HRG.out.below hb)
                have HRF := Lib.hid (HRF.out.below hb)
                have HK := Lib.hid (HK.out.below hb)
                have HB := Lib.hid (HB.out.trans (hb.mono HB.out.size))
                clear hb
                go_wp2_with fail
                refine purePost_need HKe.out ?_
                refine pure_eff rfl ?_
                go_wp2_with fail
                refine (HCB.out w6 HRF.out).mono ?_
                rintro en w7 ⟨rfl, hb⟩
                have HKe := Lib.hid (show KeptOn (fun _ => True) w6 w7 from KeptOn.below hb (fun b hb _ => hb))
                have HAB := Lib.hid (HAB.out.below hb HAB.out.lt)
                have HRG := Lib.hid (HRG.out.below hb)
                have HRF := Lib.hid (HRF.out.below hb)
                have HK := Lib.hid (HK.out.below hb)
                have HB := Lib.hid (HB.out.trans (hb.mono HB.out.size))
                clear hb
                go_wp2_with fail
                refine purePost_need HKe.out ?_
                have hyy : (y == y) = true := by simp
                iterate 2 (refine pure_pure (v := ?_) rfl (fun _ _ _ h => h) (by rfl) (fun w' => ?_) ?_; rotate_left; (go_simp; try with_reducible rfl); simp only [Act.put, List.setIfInBounds_toArray, List.set_cons_zero, List.set_cons_succ])
                refine pure_done ?_
                clear hyy
                have HSL := Lib.hid (show S.length ≤ i + 1 by have := HSL.out; omega)
                go_upto_region 20 with (fail)
                obtain ⟨av, cv, rfl⟩ := HRF.out.rows.len
                have HAB := Lib.hid HAB.out.drew
                have HRG := Lib.hid HRG.out.drew
                have HRF := Lib.hid HRF.out.drew
                have HK := Lib.hid (show Consts w7.drew from HK.out)
                have HB := Lib.hid (show Below w.heap.size w w7.drew from HB.out.drewN 1)
                have HMA := Lib.hid (fun wq hR => made_any c e t hc he htm r g cap b N sd S wq hR)
                have HMB := Lib.hid (fun wq v hR => madeR_any c e t hc he htm x N v sd S wq hR HWD.out (by have := HSL.out; omega))
                generalize decide (ln c e t ∈ S) = z at HMA HMB
                have e1 : ∀ w', KeptOn (fun _ => True) w7.drew w' → w'.cell? ⟨bx, 1, none⟩ = some (.int .i64 c) := fun w' h => h.cell (w := w7.drew) ((HAB.out.cell 1).trans HC1.out) trivial
                have e2 : ∀ w', KeptOn (fun _ => True) w7.drew w' → w'.cell? ⟨bx, 2, none⟩ = some (.int .i64 e) := fun w' h => h.cell (w := w7.drew) ((HAB.out.cell 2).trans HC2.out) trivial
                have e3 : ∀ w', KeptOn (fun _ => True) w7.drew w' → w'.cell? ⟨bx, 3, none⟩ = some (.string t) := fun w' h => h.cell (w := w7.drew) ((HAB.out.cell 3).trans HC3.out) trivial
                have f1 : ∀ w', KeptOn (fun _ => True) w7.drew w' → w'.cell? ⟨x, 1, none⟩ = some (.int .i64 N) := fun w' h => h.cell (w := w7.drew) (HRF.out.ring.cell 1) trivial
                have f2 : ∀ w', KeptOn (fun _ => True) w7.drew w' → w'.cell? ⟨x, 2, none⟩ = some (.slice av S.length cv) := fun w' h => h.cell (w := w7.drew) (HRF.out.ring.cell 2) trivial
                generalize hw20 : w7.drew = w20 at HAB HRG HRF HK HB e1 e2 e3 f1 f2
                refine wp_region_pure (KeptOn fun _ => True) (KeptOn.refl _) (KeptOn.trans) [(0,3),(1,3),(2,3),(3,3),(4,3),(5,3),(6,0),(7,3),(8,3),(9,0),(10,3),(11,3),(12,0),(14,3),(15,3),(16,0),(13,1),(17,1),(18,3),(19,3),(20,3),(21,3),(23,3),(24,3),(25,3),(26,0),(27,3),(22,1),(28,3),(29,3),(30,3),(31,3),(33,3),(34,3),(35,3),(36,0),(32,1),(37,3),(38,3)] (by kernel_rfl) (by kernel_rfl) ?_
                rw [hw20]
                clear hw20
                iterate 6 (refine pure_pure (v := ?_) rfl (fun _ _ _ h => h) (by rfl) (fun w' => ?_) ?_; rotate_left; (go_simp; try with_reducible rfl); simp only [Act.put, List.setIfInBounds_toArray, List.set_cons_zero, List.set_cons_succ])
                iterate 1 (refine pure_quiet (v := ?_) rfl (fun _ _ _ h => h) (by rfl) (fun w' hR => ?_) ?_; rotate_left; (go_simp; try with_reducible rfl); simp only [Act.put, List.setIfInBounds_toArray, List.set_cons_zero, List.set_cons_succ])
                iterate 2 (refine pure_pure (v := ?_) rfl (fun _ _ _ h => h) (by rfl) (fun w' => ?_) ?_; rotate_left; (go_simp; try with_reducible rfl); simp only [Act.put, List.setIfInBounds_toArray, List.set_cons_zero, List.set_cons_succ])
                iterate 1 (refine pure_quiet (v := ?_) rfl (fun _ _ _ h => h) (by rfl) (fun w' hR => ?_) ?_; rotate_left; (go_simp; try with_reducible rfl); simp only [Act.put, List.setIfInBounds_toArray, List.set_cons_zero, List.set_cons_succ])
                iterate 2 (refine pure_pure (v := ?_) rfl (fun _ _ _ h => h) (by rfl) (fun w' => ?_) ?_; rotate_left; (go_simp; try with_reducible rfl); simp only [Act.put, List.setIfInBounds_toArray, List.set_cons_zero, List.set_cons_succ])
                iterate 1 (refine pure_quiet (v := ?_) rfl (fun _ _ _ h => h) (by rfl) (fun w' hR => ?_) ?_; rotate_left; (go_simp; try with_reducible rfl); simp only [Act.put, List.setIfInBounds_toArray, List.set_cons_zero, List.set_cons_succ])
                iterate 2 (refine pure_pure (v := ?_) rfl (fun _ _ _ h => h) (by rfl) (fun w' => ?_) ?_; rotate_left; (go_simp; try with_reducible rfl); simp only [Act.put, List.setIfInBounds_toArray, List.set_cons_zero, List.set_cons_succ])
                iterate 1 (refine pure_quiet (v := ?_) rfl (fun _ _ _ h => h) (by rfl) (fun w' hR => ?_) ?_; rotate_left; (go_simp; try with_reducible rfl); simp only [Act.put, List.setIfInBounds_toArray, List.set_cons_zero, List.set_cons_succ])
                clear e1 e2 e3
                refine pure_eff rfl ?_
                go_wp2_with fail
                refine (HMA.out w20 HRG.out).mono ?_
                rintro en w' ⟨rfl, rfl⟩
                go_wp2_with fail
                refine purePost_need (KeptOn.refl _ _) ?_
                refine pure_eff rfl ?_
                go_wp2_with fail
                refine (HMB.out w20 _ HRF.out).mono ?_
                rintro en w21 ⟨rfl, hb⟩
                have HKe := Lib.hid (show KeptOn (fun _ => True) w20 w21 from KeptOn.below hb (fun b hb _ => hb))
                have HAB := Lib.hid (HAB.out.below hb HAB.out.lt)
                have HRG := Lib.hid (HRG.out.below hb)
                have HRF := Lib.hid (HRF.out.below hb)
                have HK := Lib.hid (HK.out.below hb)
                have HB := Lib.hid (HB.out.trans (hb.mono HB.out.size))
                clear hb f1 f2
                have f1 : ∀ w', KeptOn (fun _ => True) w21 w' → w'.cell? ⟨x, 1, none⟩ = some (.int .i64 N) := fun w' h => h.cell (w := w21) (HRF.out.ring.cell 1) trivial
                have f2 : ∀ w', KeptOn (fun _ => True) w21 w' → w'.cell? ⟨x, 2, none⟩ = some (.slice av S.length cv) := fun w' h => h.cell (w := w21) (HRF.out.ring.cell 2) trivial
                go_wp2_with fail
                refine purePost_need HKe.out ?_
                have hzz : (z != z) = false := by simp
                iterate 7 (refine pure_pure (v := ?_) rfl (fun _ _ _ h => h) (by rfl) (fun w' => ?_) ?_; rotate_left; (go_simp; try with_reducible rfl); simp only [Act.put, List.setIfInBounds_toArray, List.set_cons_zero, List.set_cons_succ])
                iterate 1 (refine pure_quiet (v := ?_) rfl (fun _ _ _ h => h) (by rfl) (fun w' hR => ?_) ?_; rotate_left; (go_simp; try with_reducible rfl); simp only [Act.put, List.setIfInBounds_toArray, List.set_cons_zero, List.set_cons_succ])
                iterate 1 (refine pure_pure (v := ?_) rfl (fun _ _ _ h => h) (by rfl) (fun w' => ?_) ?_; rotate_left; (go_simp; try with_reducible rfl); simp only [Act.put, List.setIfInBounds_toArray, List.set_cons_zero, List.set_cons_succ])
                refine pure_eff rfl ?_
                go_wp2_with fail
                refine (rlen_any r g cap b N sd S w21 HRG.out).mono ?_
                rintro en w' ⟨rfl, rfl⟩
                go_wp2_with fail
                refine purePost_need (KeptOn.refl _ _) ?_
                have hss : ((S.length : Int) != (S.length : Int)) = false := by simp
                iterate 7 (refine pure_pure (v := ?_) rfl (fun _ _ _ h => h) (by rfl) (fun w' => ?_) ?_; rotate_left; (go_simp; try with_reducible rfl); simp only [Act.put, List.setIfInBounds_toArray, List.set_cons_zero, List.set_cons_succ])
                iterate 1 (refine pure_quiet (v := ?_) rfl (fun _ _ _ h => h) (by rfl) (fun w' hR => ?_) ?_; rotate_left; (go_simp; try with_reducible rfl); simp only [Act.put, List.setIfInBounds_toArray, List.set_cons_zero, List.set_cons_succ])
                refine pure_eff rfl ?_
                go_wp2_with fail
                refine (clients_any r g cap b N sd S w21 HRG.out).mono ?_
                rintro en w' ⟨rfl, rfl⟩
                go_wp2_with fail
                refine purePost_need (KeptOn.refl _ _) ?_
                have hnn : ((N : Int) != (N : Int)) = false := by simp
                iterate 2 (refine pure_pure (v := ?_) rfl (fun _ _ _ h => h) (by rfl) (fun w' => ?_) ?_; rotate_left; (go_simp; try with_reducible rfl); simp only [Act.put, List.setIfInBounds_toArray, List.set_cons_zero, List.set_cons_succ])
                refine pure_done ?_
                clear hzz hss hnn f1 f2
                go_wp2_with fail
                go_roundw
                case rel => exact ⟨i + 1, _, S, by go_num, by omega, by omega, HRG.out, HRF.out, HWD.out, by have := HSL.out; omega, HK.out, HB.out⟩
                case measure => simp [intOf]; omega
            · have hb0 : (k == (0 : Int)) = false := by simp [hk0]
              have hb1 : (k == (1 : Int)) = false := by simp [hk1]
              have hb2 : (k == (2 : Int)) = false := by simp [hk2]
              as_aux_lemma =>
                go_upto_region 12 with (fail)
                have HAB := Lib.hid HAB.out.drew
                have HRG := Lib.hid HRG.out.drew
                have HRF := Lib.hid HRF.out.drew
                have HK := Lib.hid (show Consts w4.drew from HK.out)
                have HB := Lib.hid (show Below w.heap.size w w4.drew from HB.out.drewN 1)
                have HOF := Lib.hid (fun wq hR => ofR_any c e t hc he hte x N v sd S wq hR hsd)
                have HCA := Lib.hid (fun wq hk hR => checkA_any c e t (signOf sd c e t) (signOf_length sd c e t) r g cap b N sd S wq hk hR)
                have HMY := Lib.hid (fun wq hR => mayR_any c e t x N v sd S wq hR)
                have hcy : chkB sd N c e t (signOf sd c e t) = decide (MayB N c e t.size) := by unfold chkB; rw [beq_self_eq_true, Bool.and_true]
                rw [hcy] at HCA
                clear hcy
                generalize decide (MayB N c e t.size) = y at HCA HMY
                generalize bytesC (signOf sd c e t) = X at HOF HCA
                have e1 : ∀ w', KeptOn (fun _ => True) w4.drew w' → w'.cell? ⟨bx, 1, none⟩ = some (.int .i64 c) := fun w' h => h.cell (w := w4.drew) ((HAB.out.cell 1).trans HC1.out) trivial
                have e2 : ∀ w', KeptOn (fun _ => True) w4.drew w' → w'.cell? ⟨bx, 2, none⟩ = some (.int .i64 e) := fun w' h => h.cell (w := w4.drew) ((HAB.out.cell 2).trans HC2.out) trivial
                have e3 : ∀ w', KeptOn (fun _ => True) w4.drew w' → w'.cell? ⟨bx, 3, none⟩ = some (.string t) := fun w' h => h.cell (w := w4.drew) ((HAB.out.cell 3).trans HC3.out) trivial
                generalize hw5 : w4.drew = w5 at HAB HRG HRF HK HB e1 e2 e3
                refine wp_region_pure (KeptOn fun _ => True) (KeptOn.refl _) (KeptOn.trans) [(0,3),(1,3),(2,3),(3,0),(4,3),(5,3),(6,0),(7,3),(8,3),(9,0),(10,3),(11,3),(12,0),(15,3),(16,3),(17,0),(13,1),(14,1),(18,1),(19,3),(20,3)] (by kernel_rfl) (by kernel_rfl) ?_
                rw [hw5]
                clear hw5
                iterate 3 (refine pure_pure (v := ?_) rfl (fun _ _ _ h => h) (by rfl) (fun w' => ?_) ?_; rotate_left; (go_simp; try with_reducible rfl); simp only [Act.put, List.setIfInBounds_toArray, List.set_cons_zero, List.set_cons_succ])
                iterate 1 (refine pure_quiet (v := ?_) rfl (fun _ _ _ h => h) (by rfl) (fun w' hR => ?_) ?_; rotate_left; (go_simp; try with_reducible rfl); simp only [Act.put, List.setIfInBounds_toArray, List.set_cons_zero, List.set_cons_succ])
                iterate 2 (refine pure_pure (v := ?_) rfl (fun _ _ _ h => h) (by rfl) (fun w' => ?_) ?_; rotate_left; (go_simp; try with_reducible rfl); simp only [Act.put, List.setIfInBounds_toArray, List.set_cons_zero, List.set_cons_succ])
                iterate 1 (refine pure_quiet (v := ?_) rfl (fun _ _ _ h => h) (by rfl) (fun w' hR => ?_) ?_; rotate_left; (go_simp; try with_reducible rfl); simp only [Act.put, List.setIfInBounds_toArray, List.set_cons_zero, List.set_cons_succ])
                iterate 2 (refine pure_pure (v := ?_) rfl (fun _ _ _ h => h) (by rfl) (fun w' => ?_) ?_; rotate_left; (go_simp; try with_reducible rfl); simp only [Act.put, List.setIfInBounds_toArray, List.set_cons_zero, List.set_cons_succ])
                iterate 1 (refine pure_quiet (v := ?_) rfl (fun _ _ _ h => h) (by rfl) (fun w' hR => ?_) ?_; rotate_left; (go_simp; try with_reducible rfl); simp only [Act.put, List.setIfInBounds_toArray, List.set_cons_zero, List.set_cons_succ])
                iterate 2 (refine pure_pure (v := ?_) rfl (fun _ _ _ h => h) (by rfl) (fun w' => ?_) ?_; rotate_left; (go_simp; try with_reducible rfl); simp only [Act.put, List.setIfInBounds_toArray, List.set_cons_zero, List.set_cons_succ])
                iterate 1 (refine pure_quiet (v := ?_) rfl (fun _ _ _ h => h) (by rfl) (fun w' hR => ?_) ?_; rotate_left; (go_simp; try with_reducible rfl); simp only [Act.put, List.setIfInBounds_toArray, List.set_cons_zero, List.set_cons_succ])
                iterate 2 (refine pure_pure (v := ?_) rfl (fun _ _ _ h => h) (by rfl) (fun w' => ?_) ?_; rotate_left; (go_simp; try with_reducible rfl); simp only [Act.put, List.setIfInBounds_toArray, List.set_cons_zero, List.set_cons_succ])
                iterate 1 (refine pure_quiet (v := ?_) rfl (fun _ _ _ h => h) (by rfl) (fun w' hR => ?_) ?_; rotate_left; (go_simp; try with_reducible rfl); simp only [Act.put, List.setIfInBounds_toArray, List.set_cons_zero, List.set_cons_succ])
                clear e1 e2 e3
                refine pure_eff rfl ?_
                go_wp2_with fail
                refine (HOF.out w5 HRF.out).mono ?_
                rintro en w6 ⟨rfl, hb⟩
                have HKe := Lib.hid (show KeptOn (fun _ => True) w5 w6 from KeptOn.below hb (fun b hb _ => hb))
                have HAB := Lib.hid (HAB.out.below hb HAB.out.lt)
                have HRG := Lib.hid (HRG.out.below hb)
                have HRF := Lib.hid (HRF.out.below hb)
                have HK := Lib.hid (HK.out.below hb)
                have HB := Lib.hid (HB.out.trans (hb.mono HB.out.size))
                clear hb
                go_wp2_with fail
                refine purePost_need HKe.out ?_
                refine pure_eff rfl ?_
                go_wp2_with fail
                refine (HCA.out w6 HK.out HRG.out).mono ?_
                rintro en w7 ⟨rfl, hb⟩
                have HKe := Lib.hid (show KeptOn (fun _ => True) w6 w7 from KeptOn.below hb (fun b hb _ => hb))
                have HAB := Lib.hid (HAB.out.below hb HAB.out.lt)
                have HRG := Lib.hid (HRG.out.below hb)
                have HRF := Lib.hid (HRF.out.below hb)
                have HK := Lib.hid (HK.out.below hb)
                have HB := Lib.hid (HB.out.trans (hb.mono HB.out.size))
                clear hb
                go_wp2_with fail
                refine purePost_need HKe.out ?_
                refine pure_eff rfl ?_
                go_wp2_with fail
                refine (HMY.out w7 HRF.out).mono ?_
                rintro en w8 ⟨rfl, hb⟩
                have HKe := Lib.hid (show KeptOn (fun _ => True) w7 w8 from KeptOn.below hb (fun b hb _ => hb))
                have HAB := Lib.hid (HAB.out.below hb HAB.out.lt)
                have HRG := Lib.hid (HRG.out.below hb)
                have HRF := Lib.hid (HRF.out.below hb)
                have HK := Lib.hid (HK.out.below hb)
                have HB := Lib.hid (HB.out.trans (hb.mono HB.out.size))
                clear hb
                go_wp2_with fail
                refine purePost_need HKe.out ?_
                have hyy : (y == y) = true := by simp
                iterate 2 (refine pure_pure (v := ?_) rfl (fun _ _ _ h => h) (by rfl) (fun w' => ?_) ?_; rotate_left; (go_simp; try with_reducible rfl); simp only [Act.put, List.setIfInBounds_toArray, List.set_cons_zero, List.set_cons_succ])
                refine pure_done ?_
                clear hyy
                have HSL := Lib.hid (show S.length ≤ i + 1 by have := HSL.out; omega)
                go_upto_region 20 with (fail)
                obtain ⟨av, cv, rfl⟩ := HRF.out.rows.len
                have HAB := Lib.hid HAB.out.drew
                have HRG := Lib.hid HRG.out.drew
                have HRF := Lib.hid HRF.out.drew
                have HK := Lib.hid (show Consts w8.drew from HK.out)
                have HB := Lib.hid (show Below w.heap.size w w8.drew from HB.out.drewN 1)
                have HMA := Lib.hid (fun wq hR => made_any c e t hc he htm r g cap b N sd S wq hR)
                have HMB := Lib.hid (fun wq v hR => madeR_any c e t hc he htm x N v sd S wq hR HWD.out (by have := HSL.out; omega))
                generalize decide (ln c e t ∈ S) = z at HMA HMB
                have e1 : ∀ w', KeptOn (fun _ => True) w8.drew w' → w'.cell? ⟨bx, 1, none⟩ = some (.int .i64 c) := fun w' h => h.cell (w := w8.drew) ((HAB.out.cell 1).trans HC1.out) trivial
                have e2 : ∀ w', KeptOn (fun _ => True) w8.drew w' → w'.cell? ⟨bx, 2, none⟩ = some (.int .i64 e) := fun w' h => h.cell (w := w8.drew) ((HAB.out.cell 2).trans HC2.out) trivial
                have e3 : ∀ w', KeptOn (fun _ => True) w8.drew w' → w'.cell? ⟨bx, 3, none⟩ = some (.string t) := fun w' h => h.cell (w := w8.drew) ((HAB.out.cell 3).trans HC3.out) trivial
                have f1 : ∀ w', KeptOn (fun _ => True) w8.drew w' → w'.cell? ⟨x, 1, none⟩ = some (.int .i64 N) := fun w' h => h.cell (w := w8.drew) (HRF.out.ring.cell 1) trivial
                have f2 : ∀ w', KeptOn (fun _ => True) w8.drew w' → w'.cell? ⟨x, 2, none⟩ = some (.slice av S.length cv) := fun w' h => h.cell (w := w8.drew) (HRF.out.ring.cell 2) trivial
                generalize hw20 : w8.drew = w20 at HAB HRG HRF HK HB e1 e2 e3 f1 f2
                refine wp_region_pure (KeptOn fun _ => True) (KeptOn.refl _) (KeptOn.trans) [(0,3),(1,3),(2,3),(3,3),(4,3),(5,3),(6,0),(7,3),(8,3),(9,0),(10,3),(11,3),(12,0),(14,3),(15,3),(16,0),(13,1),(17,1),(18,3),(19,3),(20,3),(21,3),(23,3),(24,3),(25,3),(26,0),(27,3),(22,1),(28,3),(29,3),(30,3),(31,3),(33,3),(34,3),(35,3),(36,0),(32,1),(37,3),(38,3)] (by kernel_rfl) (by kernel_rfl) ?_
                rw [hw20]
                clear hw20
                iterate 6 (refine pure_pure (v := ?_) rfl (fun _ _ _ h => h) (by rfl) (fun w' => ?_) ?_; rotate_left; (go_simp; try with_reducible rfl); simp only [Act.put, List.setIfInBounds_toArray, List.set_cons_zero, List.set_cons_succ])
                iterate 1 (refine pure_quiet (v := ?_) rfl (fun _ _ _ h => h) (by rfl) (fun w' hR => ?_) ?_; rotate_left; (go_simp; try with_reducible rfl); simp only [Act.put, List.setIfInBounds_toArray, List.set_cons_zero, List.set_cons_succ])
                iterate 2 (refine pure_pure (v := ?_) rfl (fun _ _ _ h => h) (by rfl) (fun w' => ?_) ?_; rotate_left; (go_simp; try with_reducible rfl); simp only [Act.put, List.setIfInBounds_toArray, List.set_cons_zero, List.set_cons_succ])
                iterate 1 (refine pure_quiet (v := ?_) rfl (fun _ _ _ h => h) (by rfl) (fun w' hR => ?_) ?_; rotate_left; (go_simp; try with_reducible rfl); simp only [Act.put, List.setIfInBounds_toArray, List.set_cons_zero, List.set_cons_succ])
                iterate 2 (refine pure_pure (v := ?_) rfl (fun _ _ _ h => h) (by rfl) (fun w' => ?_) ?_; rotate_left; (go_simp; try with_reducible rfl); simp only [Act.put, List.setIfInBounds_toArray, List.set_cons_zero, List.set_cons_succ])
                iterate 1 (refine pure_quiet (v := ?_) rfl (fun _ _ _ h => h) (by rfl) (fun w' hR => ?_) ?_; rotate_left; (go_simp; try with_reducible rfl); simp only [Act.put, List.setIfInBounds_toArray, List.set_cons_zero, List.set_cons_succ])
                iterate 2 (refine pure_pure (v := ?_) rfl (fun _ _ _ h => h) (by rfl) (fun w' => ?_) ?_; rotate_left; (go_simp; try with_reducible rfl); simp only [Act.put, List.setIfInBounds_toArray, List.set_cons_zero, List.set_cons_succ])
                iterate 1 (refine pure_quiet (v := ?_) rfl (fun _ _ _ h => h) (by rfl) (fun w' hR => ?_) ?_; rotate_left; (go_simp; try with_reducible rfl); simp only [Act.put, List.setIfInBounds_toArray, List.set_cons_zero, List.set_cons_succ])
                clear e1 e2 e3
                refine pure_eff rfl ?_
                go_wp2_with fail
                refine (HMA.out w20 HRG.out).mono ?_
                rintro en w' ⟨rfl, rfl⟩
                go_wp2_with fail
                refine purePost_need (KeptOn.refl _ _) ?_
                refine pure_eff rfl ?_
                go_wp2_with fail
                refine (HMB.out w20 _ HRF.out).mono ?_
                rintro en w21 ⟨rfl, hb⟩
                have HKe := Lib.hid (show KeptOn (fun _ => True) w20 w21 from KeptOn.below hb (fun b hb _ => hb))
                have HAB := Lib.hid (HAB.out.below hb HAB.out.lt)
                have HRG := Lib.hid (HRG.out.below hb)
                have HRF := Lib.hid (HRF.out.below hb)
                have HK := Lib.hid (HK.out.below hb)
                have HB := Lib.hid (HB.out.trans (hb.mono HB.out.size))
                clear hb f1 f2
                have f1 : ∀ w', KeptOn (fun _ => True) w21 w' → w'.cell? ⟨x, 1, none⟩ = some (.int .i64 N) := fun w' h => h.cell (w := w21) (HRF.out.ring.cell 1) trivial
                have f2 : ∀ w', KeptOn (fun _ => True) w21 w' → w'.cell? ⟨x, 2, none⟩ = some (.slice av S.length cv) := fun w' h => h.cell (w := w21) (HRF.out.ring.cell 2) trivial
                go_wp2_with fail
                refine purePost_need HKe.out ?_
                have hzz : (z != z) = false := by simp
                iterate 7 (refine pure_pure (v := ?_) rfl (fun _ _ _ h => h) (by rfl) (fun w' => ?_) ?_; rotate_left; (go_simp; try with_reducible rfl); simp only [Act.put, List.setIfInBounds_toArray, List.set_cons_zero, List.set_cons_succ])
                iterate 1 (refine pure_quiet (v := ?_) rfl (fun _ _ _ h => h) (by rfl) (fun w' hR => ?_) ?_; rotate_left; (go_simp; try with_reducible rfl); simp only [Act.put, List.setIfInBounds_toArray, List.set_cons_zero, List.set_cons_succ])
                iterate 1 (refine pure_pure (v := ?_) rfl (fun _ _ _ h => h) (by rfl) (fun w' => ?_) ?_; rotate_left; (go_simp; try with_reducible rfl); simp only [Act.put, List.setIfInBounds_toArray, List.set_cons_zero, List.set_cons_succ])
                refine pure_eff rfl ?_
                go_wp2_with fail
                refine (rlen_any r g cap b N sd S w21 HRG.out).mono ?_
                rintro en w' ⟨rfl, rfl⟩
                go_wp2_with fail
                refine purePost_need (KeptOn.refl _ _) ?_
                have hss : ((S.length : Int) != (S.length : Int)) = false := by simp
                iterate 7 (refine pure_pure (v := ?_) rfl (fun _ _ _ h => h) (by rfl) (fun w' => ?_) ?_; rotate_left; (go_simp; try with_reducible rfl); simp only [Act.put, List.setIfInBounds_toArray, List.set_cons_zero, List.set_cons_succ])
                iterate 1 (refine pure_quiet (v := ?_) rfl (fun _ _ _ h => h) (by rfl) (fun w' hR => ?_) ?_; rotate_left; (go_simp; try with_reducible rfl); simp only [Act.put, List.setIfInBounds_toArray, List.set_cons_zero, List.set_cons_succ])
                refine pure_eff rfl ?_
                go_wp2_with fail
                refine (clients_any r g cap b N sd S w21 HRG.out).mono ?_
                rintro en w' ⟨rfl, rfl⟩
                go_wp2_with fail
                refine purePost_need (KeptOn.refl _ _) ?_
                have hnn : ((N : Int) != (N : Int)) = false := by simp
                iterate 2 (refine pure_pure (v := ?_) rfl (fun _ _ _ h => h) (by rfl) (fun w' => ?_) ?_; rotate_left; (go_simp; try with_reducible rfl); simp only [Act.put, List.setIfInBounds_toArray, List.set_cons_zero, List.set_cons_succ])
                refine pure_done ?_
                clear hzz hss hnn f1 f2
                go_wp2_with fail
                go_roundw
                case rel => exact ⟨i + 1, _, S, by go_num, by omega, by omega, HRG.out, HRF.out, HWD.out, by have := HSL.out; omega, HK.out, HB.out⟩
                case measure => simp [intOf]; omega
    · by_cases hn : i < acts.length
      · have h20 : ¬ (i : Int) < 20 := by omega
        have hn' : (i : Int) < (acts.length : Int) := by omega
        as_aux_lemma =>
          go_wp2_with fail
          refine (secret_any r g cap b N sd S wr HK.out HRG.out hsd).mono ?_
          rintro en w4 ⟨rfl, hb⟩
          have HB := Lib.hid (HB.out.trans (hb.mono HB.out.size))
          clear hb
          go_wp2_with fail
          refine (rmake_any sd secretT 0 (by omega) (by omega) w4 (by omega)).mono ?_
          rintro en w5 ⟨rfl, hb⟩
          have HB := Lib.hid (HB.out.trans (hb.mono HB.out.size))
          clear hb
          generalize strOf (madeOf (by_ sd) (by_ secretT) 0) = Z
          go_wp2_with fail
          go_ret
          exact ⟨by simp, HB.out⟩
      · have hn' : ¬ (i : Int) < (acts.length : Int) := by omega
        as_aux_lemma =>
          go_wp2_with fail
          refine (secret_any r g cap b N sd S wr HK.out HRG.out hsd).mono ?_
          rintro en w4 ⟨rfl, hb⟩
          have HB := Lib.hid (HB.out.trans (hb.mono HB.out.size))
          clear hb
          go_wp2_with fail
          refine (rmake_any sd secretT 0 (by omega) (by omega) w4 (by omega)).mono ?_
          rintro en w5 ⟨rfl, hb⟩
          have HB := Lib.hid (HB.out.trans (hb.mono HB.out.size))
          clear hb
          generalize strOf (madeOf (by_ sd) (by_ secretT) 0) = Z
          go_wp2_with fail
          go_ret
          exact ⟨by simp, HB.out⟩
end Go.Proofs.YtkbcilfcfbfiaaaDoor
/- RingPlays: no ring; both. -/
namespace Go.Proofs.YtkbcilfcfbfiaaaDoor
open Go.RowKit Go.Proofs
set_option linter.unusedSimpArgs false
set_option linter.unusedVariables false
set_option maxRecDepth 100000 in
set_option maxHeartbeats 4000000 in
theorem ringPlays_bad (sd : ByteArray) (c : Int) (h : ¬ (2 ≤ c ∧ c ≤ 8 ∧ sd.size ≤ 64)) (ao : Option Addr) (n cp : Nat) (hn : n ≤ 9223372036854775807) (w : World) (hk : Consts w) :
    Calls Tryd.prog 18 #[.string sd, .int .i64 c, .slice ao n cp] w fun e w' => e = .returned (.bool true) ∧ Below w.heap.size w w' := by
  have HK := Lib.hid hk
  go_enter Tryd.func18, Tryd.ntmps18
  go_wp2_with fail
  refine (new_bad sd c w h).mono ?_
  rintro e w1 ⟨rfl, hb⟩
  have HK := Lib.hid (HK.out.below hb)
  have HB := Lib.hid hb
  clear hb hk
  go_wp2_with fail
  refine (newR_bad sd c w1 h).mono ?_
  rintro e w' ⟨rfl, rfl⟩
  clear h
  go_wp2_with fail
  refine (awakeR_any w1 HK.out).mono ?_
  rintro e w2 ⟨rfl, hb⟩
  have HB := Lib.hid (HB.out.trans (hb.mono HB.out.size))
  clear hb
  by_cases hn0 : n = 0
  · have hn' : ¬ (0 : Int) < (n : Int) := by omega
    as_aux_lemma =>
      go_wp2_with fail
      go_loopw [11, 12, 13, 14, 15, 16, 17] (fun v11 _ _ _ _ _ _ wr => v11 = .int .i64 0 ∧ wr = w2) (fun v11 _ _ _ _ _ _ _ => 0)
      case atStart => exact ⟨rfl, rfl⟩
      case round =>
        obtain ⟨rfl, rfl⟩ := hrel
        go_wp2_with fail
        go_ret
        exact ⟨by simp, HB.out⟩
  · have hn' : (0 : Int) < (n : Int) := by omega
    as_aux_lemma =>
      go_wp2_with fail
      go_loopw [11, 12, 13, 14, 15, 16, 17] (fun v11 _ _ _ _ _ _ wr => v11 = .int .i64 0 ∧ wr = w2) (fun v11 _ _ _ _ _ _ _ => 0)
      case atStart => exact ⟨rfl, rfl⟩
      case round =>
        obtain ⟨rfl, rfl⟩ := hrel
        go_wp2_with fail
        go_ret
        exact ⟨by simp, HB.out⟩
theorem ringPlays_any (sd : ByteArray) (c : Int) (v0 : Value) (acts : List ActT) (hle : acts.length ≤ 9223372036854775807) (w : World) (hk : Consts w) (hac : ActsAtT w v0 acts) :
    Calls Tryd.prog 18 #[.string sd, .int .i64 c, v0] w fun e w' => e = .returned (.bool true) ∧ Below w.heap.size w w' := by
  by_cases h : 2 ≤ c ∧ c ≤ 8 ∧ sd.size ≤ 64
  · obtain ⟨N, rfl⟩ : ∃ N : Nat, c = (N : Int) := ⟨c.toNat, by omega⟩
    exact ringPlays_ok sd N (by omega) (by omega) h.2.2 v0 acts hle w hk hac
  · obtain ⟨ao, cp, rfl, _⟩ := hac
    exact ringPlays_bad sd c h ao acts.length cp hle w hk
end Go.Proofs.YtkbcilfcfbfiaaaDoor
