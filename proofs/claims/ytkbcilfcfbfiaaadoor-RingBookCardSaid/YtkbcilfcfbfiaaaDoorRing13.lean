/- RingBook: the walk. -/
import Derived.Test.YtkbcilfcfbfiaaaDoorRing12
namespace Go.Proofs.YtkbcilfcfbfiaaaDoor
open Go.RowKit Go.Proofs
set_option linter.unusedSimpArgs false
set_option linter.unusedVariables false
theorem line_lits (c d : Int) (t : ByteArray) (hc : In64 c) (hd : In64 d) (ht : t.size ≤ maxLen) : Tryd.prog.keyLits 3 68 (lineV c d t).cells.toList = some [.int .i64 c, .int .i64 d, .string t.data.toList] := by
  have c3 : Tryd.prog.cellsOf 3 = 1 := by kernel_rfl
  have c9 : Tryd.prog.cellsOf 9 = 1 := by kernel_rfl
  have c68 : Tryd.prog.cellsOf 68 = 3 := by kernel_rfl
  have h1 := hc.wf
  have h2 := hd.wf
  simp [Program.keyLits, Tryd.underlying68, Tryd.underlying3, Tryd.underlying9, c3, c9, c68, lineV, Value.cells, h1, h2, ht]
theorem eql_line (c d c2 d2 : Int) (t t2 : ByteArray) (hc : In64 c) (hd : In64 d) (ht : t.size ≤ maxLen) (hc2 : In64 c2) (hd2 : In64 d2) (ht2 : t2.size ≤ maxLen) (w : World) :
    (Op.equalIn 10000 68 (.agg #[.int .i64 c, .int .i64 d, .string t]) (.agg #[.int .i64 c2, .int .i64 d2, .string t2])).run Tryd.prog w = .ok (decide (ln c2 d2 t2 = ln c d t)) w := by
  have c68 : Tryd.prog.cellsOf 68 = 3 := by kernel_rfl
  have f1 : ∀ c d t, (lineV c d t).formed Tryd.prog 68 = true := fun c d t => by simp [lineV, Value.formed, Tryd.underlying68, c68]
  obtain ⟨r, hr, hiff⟩ := run_equalIn_deep (P := Tryd.prog) 9997 3 68 (by kernel_rfl) w 3 3 (lineV c d t) (lineV c2 d2 t2) _ _ (f1 _ _ _) (f1 _ _ _) (line_lits c d t hc hd ht) (line_lits c2 d2 t2 hc2 hd2 ht2)
  have e : r = decide (ln c2 d2 t2 = ln c d t) := by
    rw [Bool.eq_iff_iff, hiff, decide_eq_true_iff]
    unfold ln by_
    simp only [List.cons.injEq, Lit.int.injEq, Lit.string.injEq, true_and, and_true, Prod.mk.injEq]
    exact ⟨fun h => ⟨h.1.symm, h.2.1.symm, h.2.2.symm⟩, fun h => ⟨h.1.symm, h.2.1.symm, h.2.2.symm⟩⟩
  rw [← e]
  exact hr
set_option maxRecDepth 100000 in
set_option maxHeartbeats 8000000 in
theorem ringBook_any (c d : Int) (t : ByteArray) (hc : In64 c) (hd : In64 d) (ht : t.size ≤ maxLen) (c2 d2 : Int) (t2 : ByteArray) (hc2 : In64 c2) (hd2 : In64 d2) (ht2 : t2.size ≤ maxLen) (w : World) (hk : Consts w) :
    Calls Tryd.prog 19 #[.agg #[.int .i64 c, .int .i64 d, .string t], .agg #[.int .i64 c2, .int .i64 d2, .string t2]] w fun e w' => e = .returned (.bool true) ∧ Below w.heap.size w w' := by
  have HP := Lib.hid hk.lt
  go_enter Tryd.func19, Tryd.ntmps19
  go_upto_region 1 with (fail)
  change Code.wp _ _ _ _ ((w.alloc (.cells #[.int .i64 c, .int .i64 d, .string t] 68)).alloc (.cells #[.int .i64 c2, .int .i64 d2, .string t2] 68))
  have hA : Blk ((w.alloc (.cells #[.int .i64 c, .int .i64 d, .string t] 68)).alloc (.cells #[.int .i64 c2, .int .i64 d2, .string t2] 68)) w.heap.size 68 #[.int .i64 c, .int .i64 d, .string t] := (Blk.new w 68 _).alloc _
  have hA2 : Blk ((w.alloc (.cells #[.int .i64 c, .int .i64 d, .string t] 68)).alloc (.cells #[.int .i64 c2, .int .i64 d2, .string t2] 68)) (w.heap.size + 1) 68 #[.int .i64 c2, .int .i64 d2, .string t2] := by
    have := Blk.new (w.alloc (.cells #[.int .i64 c, .int .i64 d, .string t] 68)) 68 #[.int .i64 c2, .int .i64 d2, .string t2]
    rwa [World.size_alloc] at this
  have hB : Below w.heap.size w ((w.alloc (.cells #[.int .i64 c, .int .i64 d, .string t] 68)).alloc (.cells #[.int .i64 c2, .int .i64 d2, .string t2] 68)) := ((Below.refl _ _).alloc (Nat.le_refl _) _).alloc (by simp) _
  have HK := Lib.hid (hk.below hB)
  generalize ((w.alloc (.cells #[.int .i64 c, .int .i64 d, .string t] 68)).alloc (.cells #[.int .i64 c2, .int .i64 d2, .string t2] 68)) = w1 at hA hA2 hB HK ⊢
  have HA := Lib.hid hA
  have HA2 := Lib.hid hA2
  have HB := Lib.hid hB
  clear hA hA2 hB hk
  go_wp2_with fail
  refine (ring_new kT 4 w1 HK.out (by omega) (by omega) (by decide)).mono ?_
  rintro e w2 ⟨r, g, cap, b, rfl, hR, hB, hb⟩
  have HBB := Lib.hid (Nat.lt_of_lt_of_le HA2.out.lt hb)
  have HA := Lib.hid (HA.out.below hB HA.out.lt)
  have HA2 := Lib.hid (HA2.out.below hB HA2.out.lt)
  have HR := Lib.hid hR
  have HK := Lib.hid (HK.out.below hB)
  have HB := Lib.hid (HB.out.trans (hB.mono HB.out.size))
  clear hR hB hb
  go_wp2_with fail
  refine (awakeR_any w2 HK.out).mono ?_
  rintro e w3 ⟨rfl, hb⟩
  have HA := Lib.hid (HA.out.below hb HA.out.lt)
  have HA2 := Lib.hid (HA2.out.below hb HA2.out.lt)
  have HR := Lib.hid (HR.out.below hb)
  have HK := Lib.hid (HK.out.below hb)
  have HB := Lib.hid (HB.out.trans (hb.mono HB.out.size))
  clear hb
  have a0 := HA.out.cell 0
  have a1 := HA.out.cell 1
  have a2 := HA.out.cell 2
  have b0 := HA2.out.cell 0
  have b1 := HA2.out.cell 1
  have b2 := HA2.out.cell 2
  go_wp2_with fail
  refine (light_any c d t w3).mono ?_
  clear a0 a1 a2
  clear b0 b1 b2
  rintro e w4 ⟨rfl, hb⟩
  have HA := Lib.hid (HA.out.below hb HA.out.lt)
  have HA2 := Lib.hid (HA2.out.below hb HA2.out.lt)
  have HR := Lib.hid (HR.out.below hb)
  have HK := Lib.hid (HK.out.below hb)
  have HB := Lib.hid (HB.out.trans (hb.mono HB.out.size))
  clear hb
  have a0 := HA.out.cell 0
  have a1 := HA.out.cell 1
  have a2 := HA.out.cell 2
  have b0 := HA2.out.cell 0
  have b1 := HA2.out.cell 1
  have b2 := HA2.out.cell 2
  cases hli : lightB t.size
  · clear a0 a1 a2 b0 b1 b2
    clear hli
    go_wp2_with fail
    refine (awakeR_any w4 HK.out).mono ?_
    rintro e w5 ⟨rfl, hb⟩
    have HB := Lib.hid (HB.out.trans (hb.mono HB.out.size))
    clear hb
    go_wp2_with fail
    go_ret
    exact ⟨rfl, HB.out⟩
  · clear hli
    go_wp2_with fail
    refine (light_any c2 d2 t2 w4).mono ?_
    clear a0 a1 a2
    clear b0 b1 b2
    rintro e w5 ⟨rfl, hb⟩
    have HA := Lib.hid (HA.out.below hb HA.out.lt)
    have HA2 := Lib.hid (HA2.out.below hb HA2.out.lt)
    have HR := Lib.hid (HR.out.below hb)
    have HK := Lib.hid (HK.out.below hb)
    have HB := Lib.hid (HB.out.trans (hb.mono HB.out.size))
    clear hb
    have a0 := HA.out.cell 0
    have a1 := HA.out.cell 1
    have a2 := HA.out.cell 2
    have b0 := HA2.out.cell 0
    have b1 := HA2.out.cell 1
    have b2 := HA2.out.cell 2
    cases hli : lightB t2.size
    · clear a0 a1 a2 b0 b1 b2
      clear hli
      go_wp2_with fail
      refine (awakeR_any w5 HK.out).mono ?_
      rintro e w6 ⟨rfl, hb⟩
      have HB := Lib.hid (HB.out.trans (hb.mono HB.out.size))
      clear hb
      go_wp2_with fail
      go_ret
      exact ⟨rfl, HB.out⟩
    · clear hli
      go_wp2_with fail
      clear a0 a1 a2 b0 b1 b2
      by_cases hm : MayB 4 c d t.size
      · as_aux_lemma =>
          obtain ⟨j, rfl⟩ : ∃ j : Nat, c = (j : Int) := ⟨c.toNat, by have := hm.1; omega⟩
          have hb0' : 0 < b := by have := HBB.out; have := HP.out; omega
          have HB0 := Lib.hid hb0'
          have htag := fun w S hk hR hS => rtag_ok j d t r g cap b 4 kT S w hk hR hm hS hb0'
          have HCK := fun w S hk hR => rcheck_ok j d t (signOf kT j d t) (signOf_length kT j d t) r g cap b 4 kT S w hk hR hm
          have hsz : (bytesC (signOf kT j d t)).size = 32 := by rw [bytesC_size, signOf_length]
          have hone := bytesC_one (signOf kT j d t)
          have heq := fun w => eql_digest (signOf kT j d t) (signOf kT j d t) (signOf_length kT j d t) (signOf_length kT j d t) w
          rw [beq_self_eq_true] at HCK heq
          generalize bytesC (signOf kT j d t) = X at hsz hone heq htag HCK
          have HTAG := Lib.hid htag
          have HCK := Lib.hid HCK
          have HSZ := Lib.hid hsz
          have HON := Lib.hid hone
          have HEQ := Lib.hid heq
          have HI := Lib.hid (show (Tryd.prog.info? 25).map (·.size) = some X.size by rw [hsz]; kernel_rfl)
          have HM1 := Lib.hid (show ∀ w, RingAt w r g cap b kT 4 [ln j d t] → Calls Tryd.prog 56 #[.pointer (some ⟨r, 0, none⟩), .int .i64 j, .int .i64 d, .string t] w fun e w' => e = .returned (.bool true) ∧ w = w' from fun w hR => by
            have h := made_any j d t hc hd ht r g cap b 4 kT _ w hR
            rw [decide_eq_true (show ln j d t ∈ [ln j d t] by simp)] at h
            exact h)
          have hm2 : ∀ w, RingAt w r g cap b kT 4 [ln j d t] → Calls Tryd.prog 56 #[.pointer (some ⟨r, 0, none⟩), .int .i64 c2, .int .i64 d2, .string t2] w fun e w' => e = .returned (.bool (decide (ln c2 d2 t2 = ln j d t))) ∧ w = w' := fun w hR => by
            have h := made_any c2 d2 t2 hc2 hd2 ht2 r g cap b 4 kT _ w hR
            rw [show decide (ln c2 d2 t2 ∈ [ln j d t]) = decide (ln c2 d2 t2 = ln j d t) by simp only [List.mem_singleton]] at h
            exact h
          have hel := fun w => eql_line j d c2 d2 t t2 hc hd ht hc2 hd2 ht2 w
          have HAD := Lib.hid (show addL [ln j d t] (ln j d t) = [ln j d t] by unfold addL; rw [if_pos (by simp)])
          have HAE := Lib.hid (show addL [] (ln j d t) = [ln j d t] from rfl)
          generalize decide (ln c2 d2 t2 = ln j d t) = z at hm2 hel
          generalize ln j d t = L at HM1 hm2 HTAG HAD HAE
          have HM2 := Lib.hid hm2
          have HEL := Lib.hid hel
          clear htag hsz hone heq hb0' hm2 hel hm hc hd ht hc2 hd2 ht2
          as_aux_lemma =>
            refine (HTAG.out w5 [] HK.out HR.out (by decide)).mono ?_
            rintro e w6 ⟨rfl, hR, hG⟩
            have HA := Lib.hid (HA.out.grown hG (fun e => by have := Option.some.inj e; have := HBB.out; omega))
            have HA2 := Lib.hid (HA2.out.grown hG (fun e => by have := Option.some.inj e; have := HBB.out; omega))
            have HK := Lib.hid (HK.out.only hG HB0.out)
            have HB := Lib.hid (HB.out.grown hG HB.out.size (fun k e => by have := Option.some.inj e; have := HBB.out; omega))
            rw [HAE.out] at hR
            have HR := Lib.hid hR
            clear hR hG
            dsimp only
            iterate 13 go_step
            change wpList _ _ _ _ _ (w6.alloc (.cells z32 25))
            have hz := Blk.new w6 25 z32
            refine wpList_store_mid rfl 25 _ _ rfl w6.heap.size 0 X rfl rfl (hz.there 0 _ (by rw [HSZ.out, z32_size]; exact Nat.le_refl _)) HI.out HON.out ?_
            simp only [Act.put]
            have hz2 := hz.setCells X.toList 0
            rw [putAll_all _ _ (by rw [HSZ.out, z32_size])] at hz2
            have hb := grown_stored w6 (.cells z32 25) X.toList
            generalize (w6.alloc (.cells z32 25)).setCells w6.heap.size 0 X.toList = w7 at hz2 hb ⊢
            have HQ1 := Lib.hid hz2
            have HA := Lib.hid (HA.out.below hb HA.out.lt)
            have HA2 := Lib.hid (HA2.out.below hb HA2.out.lt)
            have HR := Lib.hid (HR.out.below hb)
            have HK := Lib.hid (HK.out.below hb)
            have HB := Lib.hid (HB.out.trans (hb.mono HB.out.size))
            clear hb
            clear hz hz2
            generalize w6.heap.size = q1 at HQ1 ⊢
            have a0 := HA.out.cell 0
            have a1 := HA.out.cell 1
            have a2 := HA.out.cell 2
            as_aux_lemma =>
              go_wp2_with fail
              refine (HTAG.out w7 [L] HK.out HR.out (by simp)).mono ?_
              clear a0 a1 a2
              rintro e w8 ⟨rfl, hR, hG⟩
              have HQ1 := Lib.hid (HQ1.out.grown hG (fun e => HR.out.book.ne_ HQ1.out (Option.some.inj e).symm))
              have HA := Lib.hid (HA.out.grown hG (fun e => by have := Option.some.inj e; have := HBB.out; omega))
              have HA2 := Lib.hid (HA2.out.grown hG (fun e => by have := Option.some.inj e; have := HBB.out; omega))
              have HK := Lib.hid (HK.out.only hG HB0.out)
              have HB := Lib.hid (HB.out.grown hG HB.out.size (fun k e => by have := Option.some.inj e; have := HBB.out; omega))
              rw [HAD.out] at hR
              have HR := Lib.hid hR
              clear hR hG
              dsimp only
              iterate 13 go_step
              change wpList _ _ _ _ _ (w8.alloc (.cells z32 25))
              have hz := Blk.new w8 25 z32
              refine wpList_store_mid rfl 25 _ _ rfl w8.heap.size 0 X rfl rfl (hz.there 0 _ (by rw [HSZ.out, z32_size]; exact Nat.le_refl _)) HI.out HON.out ?_
              simp only [Act.put]
              have hz2 := hz.setCells X.toList 0
              rw [putAll_all _ _ (by rw [HSZ.out, z32_size])] at hz2
              have hb := grown_stored w8 (.cells z32 25) X.toList
              generalize (w8.alloc (.cells z32 25)).setCells w8.heap.size 0 X.toList = w9 at hz2 hb ⊢
              have HQ2 := Lib.hid hz2
              have HQ1 := Lib.hid (HQ1.out.below hb HQ1.out.lt)
              have HA := Lib.hid (HA.out.below hb HA.out.lt)
              have HA2 := Lib.hid (HA2.out.below hb HA2.out.lt)
              have HR := Lib.hid (HR.out.below hb)
              have HK := Lib.hid (HK.out.below hb)
              have HB := Lib.hid (HB.out.trans (hb.mono HB.out.size))
              clear hb
              clear hz hz2
              generalize w8.heap.size = q2 at HQ2 ⊢
              go_upto_region 8 with (fail)
              as_aux_lemma =>
                have HQ1 := Lib.hid HQ1.out.drew
                have HQ2 := Lib.hid HQ2.out.drew
                have HA := Lib.hid HA.out.drew
                have HA2 := Lib.hid HA2.out.drew
                have HK := Lib.hid (show Consts w9.drew from HK.out)
                have HR := Lib.hid HR.out.drew
                have HB := Lib.hid (HB.out.drewN 1)
                have eA0 : ∀ w', KeptOn (fun _ => True) w9.drew w' → w'.cell? ⟨w.heap.size, 0, none⟩ = some (.int .i64 j) := fun w' h => h.cell (w := w9.drew) (HA.out.cell 0) trivial
                have eA1 : ∀ w', KeptOn (fun _ => True) w9.drew w' → w'.cell? ⟨w.heap.size, 1, none⟩ = some (.int .i64 d) := fun w' h => h.cell (w := w9.drew) (HA.out.cell 1) trivial
                have eA2 : ∀ w', KeptOn (fun _ => True) w9.drew w' → w'.cell? ⟨w.heap.size, 2, none⟩ = some (.string t) := fun w' h => h.cell (w := w9.drew) (HA.out.cell 2) trivial
                have eB0 : ∀ w', KeptOn (fun _ => True) w9.drew w' → w'.cell? ⟨w.heap.size + 1, 0, none⟩ = some (.int .i64 c2) := fun w' h => h.cell (w := w9.drew) (HA2.out.cell 0) trivial
                have eB1 : ∀ w', KeptOn (fun _ => True) w9.drew w' → w'.cell? ⟨w.heap.size + 1, 1, none⟩ = some (.int .i64 d2) := fun w' h => h.cell (w := w9.drew) (HA2.out.cell 1) trivial
                have eB2 : ∀ w', KeptOn (fun _ => True) w9.drew w' → w'.cell? ⟨w.heap.size + 1, 2, none⟩ = some (.string t2) := fun w' h => h.cell (w := w9.drew) (HA2.out.cell 2) trivial
                refine wp_region_keep2 (KeptOn fun _ => True) (KeptOn.refl _) (KeptOn.trans) [(0,0),(1,0),(2,0),(3,0),(4,0),(5,0),(6,0),(7,0),(8,0),(9,1),(10,0),(11,0),(12,0),(13,0),(14,0),(15,0),(16,0),(17,0),(18,0),(19,0),(20,0),(21,1),(22,0),(23,0),(24,0),(25,0),(26,0),(27,0),(28,0),(29,0),(30,0),(31,1),(32,0),(33,0),(34,0),(35,0),(36,0),(37,0),(38,0),(39,0),(40,0),(42,0),(43,0),(44,0),(41,1),(45,0),(46,0),(47,0)] (by kernel_rfl) (by kernel_rfl) ?_
                iterate 3 (refine keep_quiet (v := ?_) rfl (fun _ _ _ h => h) (by rfl) (fun w' hR => ?_) ?_; rotate_left; (go_simp; try with_reducible rfl); simp only [Act.put, List.setIfInBounds_toArray, List.set_cons_zero, List.set_cons_succ])
                refine keep_quiet (v := .agg X) rfl (fun _ _ _ h => h) (by rfl) (fun w' hR => execLoad 25 _ rfl (p := .pointer (some ⟨q2, 0, none⟩)) rfl (load25 (Blk.kept HQ2.out hR trivial) HSZ.out)) ?_
                simp only [Act.put, List.setIfInBounds_toArray, List.set_cons_zero, List.set_cons_succ]
                refine keep_quiet (v := .agg X) rfl (fun _ _ _ h => h) (by rfl) (fun w' hR => execLoad 25 _ rfl (p := .pointer (some ⟨q1, 0, none⟩)) rfl (load25 (Blk.kept HQ1.out hR trivial) HSZ.out)) ?_
                simp only [Act.put, List.setIfInBounds_toArray, List.set_cons_zero, List.set_cons_succ]
                have heq := HEQ.out
                iterate 1 (refine keep_quiet (v := ?_) rfl (fun _ _ _ h => h) (by rfl) (fun w' hR => ?_) ?_; rotate_left; (go_simp; try with_reducible rfl); simp only [Act.put, List.setIfInBounds_toArray, List.set_cons_zero, List.set_cons_succ])
                clear heq
                iterate 3 (refine keep_quiet (v := ?_) rfl (fun _ _ _ h => h) (by rfl) (fun w' hR => ?_) ?_; rotate_left; (go_simp; try with_reducible rfl); simp only [Act.put, List.setIfInBounds_toArray, List.set_cons_zero, List.set_cons_succ])
                refine keep_eff rfl ?_
                go_wp2_with fail
                refine (show Calls Tryd.prog 58 #[.pointer (some ⟨r, 0, none⟩)] w9.drew fun e w' => e = .returned (.int .i64 1) ∧ w9.drew = w' from rlen_any r g cap b 4 kT [L] w9.drew HR.out).mono ?_
                rintro e w' ⟨rfl, rfl⟩
                go_wp2_with fail
                refine keepPost_need (KeptOn.refl _ _) ?_
                as_aux_lemma =>
                  iterate 10 (refine keep_quiet (v := ?_) rfl (fun _ _ _ h => h) (by rfl) (fun w' hR => ?_) ?_; rotate_left; (go_simp; try with_reducible rfl); simp only [Act.put, List.setIfInBounds_toArray, List.set_cons_zero, List.set_cons_succ])
                  refine keep_quiet (v := .agg X) rfl (fun _ _ _ h => h) (by rfl) (fun w' hR => execLoad 25 _ rfl (p := .pointer (some ⟨q1, 0, none⟩)) rfl (load25 (Blk.kept HQ1.out hR trivial) HSZ.out)) ?_
                  simp only [Act.put, List.setIfInBounds_toArray, List.set_cons_zero, List.set_cons_succ]
                  refine keep_eff rfl ?_
                  clear eA0 eA1 eA2 eB0 eB1 eB2
                  as_aux_lemma =>
                    go_wp2_with fail
                    refine (HCK.out w9.drew [L] HK.out HR.out).mono ?_
                    rintro e w10 ⟨rfl, hb⟩
                    have HKe := Lib.hid (show KeptOn (fun _ => True) w9.drew w10 from KeptOn.below hb (fun b hb _ => hb))
                    have HA := Lib.hid (HA.out.below hb HA.out.lt)
                    have HA2 := Lib.hid (HA2.out.below hb HA2.out.lt)
                    have HR := Lib.hid (HR.out.below hb)
                    have HK := Lib.hid (HK.out.below hb)
                    have HB := Lib.hid (HB.out.trans (hb.mono HB.out.size))
                    clear hb
                    go_wp2_with fail
                    refine keepPost_need HKe.out ?_
                    have eA0 : ∀ w', KeptOn (fun _ => True) w10 w' → w'.cell? ⟨w.heap.size, 0, none⟩ = some (.int .i64 j) := fun w' h => h.cell (w := w10) (HA.out.cell 0) trivial
                    have eA1 : ∀ w', KeptOn (fun _ => True) w10 w' → w'.cell? ⟨w.heap.size, 1, none⟩ = some (.int .i64 d) := fun w' h => h.cell (w := w10) (HA.out.cell 1) trivial
                    have eA2 : ∀ w', KeptOn (fun _ => True) w10 w' → w'.cell? ⟨w.heap.size, 2, none⟩ = some (.string t) := fun w' h => h.cell (w := w10) (HA.out.cell 2) trivial
                    have eB0 : ∀ w', KeptOn (fun _ => True) w10 w' → w'.cell? ⟨w.heap.size + 1, 0, none⟩ = some (.int .i64 c2) := fun w' h => h.cell (w := w10) (HA2.out.cell 0) trivial
                    have eB1 : ∀ w', KeptOn (fun _ => True) w10 w' → w'.cell? ⟨w.heap.size + 1, 1, none⟩ = some (.int .i64 d2) := fun w' h => h.cell (w := w10) (HA2.out.cell 1) trivial
                    have eB2 : ∀ w', KeptOn (fun _ => True) w10 w' → w'.cell? ⟨w.heap.size + 1, 2, none⟩ = some (.string t2) := fun w' h => h.cell (w := w10) (HA2.out.cell 2) trivial
                    as_aux_lemma =>
                      iterate 9 (refine keep_quiet (v := ?_) rfl (fun _ _ _ h => h) (by rfl) (fun w' hR => ?_) ?_; rotate_left; (go_simp; try with_reducible rfl); simp only [Act.put, List.setIfInBounds_toArray, List.set_cons_zero, List.set_cons_succ])
                      refine keep_eff rfl ?_
                      go_wp2_with fail
                      refine (HM1.out w10 HR.out).mono ?_
                      rintro e w' ⟨rfl, rfl⟩
                      go_wp2_with fail
                      refine keepPost_need (KeptOn.refl _ _) ?_
                      iterate 9 (refine keep_quiet (v := ?_) rfl (fun _ _ _ h => h) (by rfl) (fun w' hR => ?_) ?_; rotate_left; (go_simp; try with_reducible rfl); simp only [Act.put, List.setIfInBounds_toArray, List.set_cons_zero, List.set_cons_succ])
                      as_aux_lemma =>
                        have hel := HEL.out
                        iterate 3 (refine keep_quiet (v := ?_) rfl (fun _ _ _ h => h) (by rfl) (fun w' hR => ?_) ?_; rotate_left; (go_simp; try with_reducible rfl); simp only [Act.put, List.setIfInBounds_toArray, List.set_cons_zero, List.set_cons_succ])
                        clear hel
                        refine keep_eff rfl ?_
                        clear eA0 eA1 eA2 eB0 eB1 eB2
                        go_wp2_with fail
                        refine (HM2.out w10 HR.out).mono ?_
                        rintro e w' ⟨rfl, rfl⟩
                        go_wp2_with fail
                        refine keepPost_need (KeptOn.refl _ _) ?_
                        iterate 3 (refine keep_quiet (v := ?_) rfl (fun _ _ _ h => h) (by rfl) (fun w' hR => ?_) ?_; rotate_left; (go_simp; try with_reducible rfl); simp only [Act.put, List.setIfInBounds_toArray, List.set_cons_zero, List.set_cons_succ])
                        refine keep_done ?_
                        go_wp2_with fail
                        go_ret
                        exact ⟨by simp, HB.out⟩
      · refine (rtag_bad c d t r g cap b 4 kT [] w5 HR.out hm).mono ?_
        rintro e w6 ⟨rfl, hb⟩
        have HA := Lib.hid (HA.out.below hb HA.out.lt)
        have HA2 := Lib.hid (HA2.out.below hb HA2.out.lt)
        have HR := Lib.hid (HR.out.below hb)
        have HK := Lib.hid (HK.out.below hb)
        have HB := Lib.hid (HB.out.trans (hb.mono HB.out.size))
        clear hb
        have HON := Lib.hid (show z32.all (·.oneCell') = true from bytesC_one _)
        have HI := Lib.hid (show (Tryd.prog.info? 25).map (·.size) = some z32.size by rw [z32_size]; kernel_rfl)
        dsimp only
        iterate 13 go_step
        change wpList _ _ _ _ _ (w6.alloc (.cells z32 25))
        have hz := Blk.new w6 25 z32
        refine wpList_store_mid rfl 25 _ _ rfl w6.heap.size 0 z32 rfl rfl (hz.there 0 _ (by rw [z32_size]; exact Nat.le_refl _)) HI.out HON.out ?_
        simp only [Act.put]
        have hz2 := hz.setCells z32.toList 0
        rw [putAll_all _ _ (rfl)] at hz2
        have hb := grown_stored w6 (.cells z32 25) z32.toList
        generalize (w6.alloc (.cells z32 25)).setCells w6.heap.size 0 z32.toList = w7 at hz2 hb ⊢
        have HQ1 := Lib.hid hz2
        have HA := Lib.hid (HA.out.below hb HA.out.lt)
        have HA2 := Lib.hid (HA2.out.below hb HA2.out.lt)
        have HR := Lib.hid (HR.out.below hb)
        have HK := Lib.hid (HK.out.below hb)
        have HB := Lib.hid (HB.out.trans (hb.mono HB.out.size))
        clear hb
        have HQ1 := Lib.hid HQ1.out
        clear hz hz2
        generalize w6.heap.size = q1 at HQ1 ⊢
        have a0 := HA.out.cell 0
        have a1 := HA.out.cell 1
        have a2 := HA.out.cell 2
        go_wp2_with fail
        refine (rtag_bad c d t r g cap b 4 kT [] w7 HR.out hm).mono ?_
        clear a0 a1 a2
        rintro e w8 ⟨rfl, hb⟩
        have HQ1 := Lib.hid (HQ1.out.below hb HQ1.out.lt)
        have HA := Lib.hid (HA.out.below hb HA.out.lt)
        have HA2 := Lib.hid (HA2.out.below hb HA2.out.lt)
        have HR := Lib.hid (HR.out.below hb)
        have HK := Lib.hid (HK.out.below hb)
        have HB := Lib.hid (HB.out.trans (hb.mono HB.out.size))
        clear hb
        dsimp only
        iterate 13 go_step
        change wpList _ _ _ _ _ (w8.alloc (.cells z32 25))
        have hz := Blk.new w8 25 z32
        refine wpList_store_mid rfl 25 _ _ rfl w8.heap.size 0 z32 rfl rfl (hz.there 0 _ (by rw [z32_size]; exact Nat.le_refl _)) HI.out HON.out ?_
        simp only [Act.put]
        have hz2 := hz.setCells z32.toList 0
        rw [putAll_all _ _ (rfl)] at hz2
        have hb := grown_stored w8 (.cells z32 25) z32.toList
        generalize (w8.alloc (.cells z32 25)).setCells w8.heap.size 0 z32.toList = w9 at hz2 hb ⊢
        have HQ1 := Lib.hid (HQ1.out.below hb HQ1.out.lt)
        have HA := Lib.hid (HA.out.below hb HA.out.lt)
        have HA2 := Lib.hid (HA2.out.below hb HA2.out.lt)
        have HR := Lib.hid (HR.out.below hb)
        have HK := Lib.hid (HK.out.below hb)
        have HB := Lib.hid (HB.out.trans (hb.mono HB.out.size))
        clear hb
        clear hz hz2
        generalize w8.heap.size = q2
        have HSZ := Lib.hid z32_size
        have HZZ := Lib.hid (show z32 = z32 from rfl)
        generalize hX : z32 = X at HQ1 HSZ
        have HX := Lib.hid hX
        clear hX
        go_wp2_with fail
        refine (show Calls Tryd.prog 58 #[.pointer (some ⟨r, 0, none⟩)] w9 fun e w' => e = .returned (.int .i64 0) ∧ w9 = w' from rlen_any r g cap b 4 kT [] w9 HR.out).mono ?_
        rintro e w' ⟨rfl, rfl⟩
        have heq := heqZ X HX.out.symm w9
        go_wp2_with (first
          | (refine wpList_loadG rfl 25 _ rfl (p := .pointer (some ⟨q1, 0, none⟩)) rfl (load25 HQ1.out HSZ.out) ?_; simp only [Act.put, List.setIfInBounds_toArray, List.set_cons_zero, List.set_cons_succ])
          | fail)
        go_ret
        exact ⟨rfl, HB.out⟩
end Go.Proofs.YtkbcilfcfbfiaaaDoor
