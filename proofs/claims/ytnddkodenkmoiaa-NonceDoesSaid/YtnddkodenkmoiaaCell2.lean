/- The cell: slots, last, field, Room. -/
import Derived.Test.YtnddkodenkmoiaaCell1
import Derived.Test.YtnddkodenkmoiaaFork
import Derived.Test.YtnddkodenkmoiaaKeep2
namespace Go.Proofs.Ytnddkodenkmoiaa
open Go.RowKit Go.Proofs
set_option linter.unusedSimpArgs false
set_option linter.unusedVariables false
def CellAt (w : World) (c d : Nat) (first size : Int) : Prop := Blk w c 97 #[.pointer (some ⟨d, 0, none⟩), .int .i64 first, .int .i64 size]
/-- What a slot says. -/
def says (b : List UInt8) (size : Int) : Int × Int :=
  if numI b ≠ numI (b.drop 56) ∨ numI b < 1 ∨ 1099511627776 < numI b ∨ numI (b.drop 8) < 0 ∨ 64 * size < numI (b.drop 8) then (0, 0) else (numI b, numI (b.drop 8))
theorem by_extract (t : ByteArray) (a b : Nat) : by_ (t.extract a b) = ((by_ t).take b).drop a := by
  unfold by_
  rw [ByteArray.data_extract, Array.toList_extract]
  simp [List.extract_eq_take_drop, List.drop_take]
set_option maxRecDepth 100000 in
set_option maxHeartbeats 4000000 in
theorem say_any (q c d : Nat) (first size : Int) (t : ByteArray) (w : World) (hc : CellAt w c d first size) (ht : t.size = 64) (hs1 : 1 ≤ size) (hs2 : size ≤ 255) (hq : Blk w q 48 #[.pointer (some ⟨c, 0, none⟩)]) :
    Calls Try.prog 69 #[.string t, .pointer (some ⟨q, 0, none⟩)] w fun e w' => e = .returned (.agg #[.int .i64 (says (by_ t) size).1, .int .i64 (says (by_ t) size).2]) ∧ Below w.heap.size w w' := by
  have h8 : 8 ≤ t.size := by omega
  have h9 : 8 ≤ (t.extract 8 64).size := by rw [ByteArray.size_extract]; omega
  go_enter Try.func69, Try.ntmps69
  go_upto_region 1 with (fail)
  rename_i Q K hK
  have hend : Exit.then K Q .normal { tmps := #[.string t, .pointer (some ⟨q, 0, none⟩), undef, .pointer (some ⟨w.heap.size, 0, none⟩), .pointer (some ⟨w.heap.size + 1, 0, none⟩), .string t, .int .i64 (numI (by_ t)), .string t, .string (t.extract 8 64), .int .i64 (numI (by_ (t.extract 8 64))), .agg #[.int .i64 (numI (by_ t)), .int .i64 (numI (by_ (t.extract 8 64)))], undef, undef, undef, undef, undef, undef, undef, undef, undef, undef, undef, undef, undef, undef, undef, undef, undef, undef, undef, undef, undef, undef, undef, undef, undef, undef, undef, undef, undef, undef, undef, undef, undef], defers := [] } (((w.alloc (.cells #[.int .i64 0, .int .i64 0] 99)).alloc (.cells #[.int .i64 (numI (by_ t)), .int .i64 (numI (by_ (t.extract 8 64)))] 99)).drew) := by
    have hn3 : ∀ w', Calls Try.prog 70 #[.string (t.extract 56 64)] w' fun e w'' => e = .returned (.int .i64 (numI (by_ (t.extract 56 64)))) ∧ w' = w'' := fun w' => number_any _ _ (by rw [ByteArray.size_extract]; omega)
    have hbl : (by_ t).length = 64 := by rw [← by_size]; exact ht
    have hsay : says (by_ t) size = if numI (by_ t) ≠ numI (by_ (t.extract 56 64)) ∨ numI (by_ t) < 1 ∨ 1099511627776 < numI (by_ t) ∨ numI (by_ (t.extract 8 64)) < 0 ∨ 64 * size < numI (by_ (t.extract 8 64)) then (0, 0) else (numI (by_ t), numI (by_ (t.extract 8 64))) := by
      rw [by_extract, by_extract, List.take_of_length_le (by omega)]; rfl
    generalize numI (by_ t) = A at hsay ⊢
    generalize numI (by_ (t.extract 8 64)) = L at hsay ⊢
    generalize numI (by_ (t.extract 56 64)) = C at hn3 hsay
    have hB : Below w.heap.size w ((w.alloc (.cells #[.int .i64 0, .int .i64 0] 99)).alloc (.cells #[.int .i64 A, .int .i64 L] 99)).drew := ((((Below.refl _ _).alloc (Nat.le_refl _) _).alloc (by simp) _).drew)
    have hR1 : Blk ((w.alloc (.cells #[.int .i64 0, .int .i64 0] 99)).alloc (.cells #[.int .i64 A, .int .i64 L] 99)).drew w.heap.size 99 #[.int .i64 0, .int .i64 0] := (Blk.new w 99 _).alloc _
    have hR2 : Blk ((w.alloc (.cells #[.int .i64 0, .int .i64 0] 99)).alloc (.cells #[.int .i64 A, .int .i64 L] 99)).drew (w.heap.size + 1) 99 #[.int .i64 A, .int .i64 L] := by
      have h1 : Blk ((w.alloc (.cells #[.int .i64 0, .int .i64 0] 99)).alloc (.cells #[.int .i64 A, .int .i64 L] 99)) (w.heap.size + 1) 99 #[.int .i64 A, .int .i64 L] := by simpa using Blk.new (w.alloc (.cells #[.int .i64 0, .int .i64 0] 99)) 99 #[.int .i64 A, .int .i64 L]
      exact h1
    have hC : CellAt ((w.alloc (.cells #[.int .i64 0, .int .i64 0] 99)).alloc (.cells #[.int .i64 A, .int .i64 L] 99)).drew c d first size := (hc.alloc _).alloc _
    have hQ : Blk ((w.alloc (.cells #[.int .i64 0, .int .i64 0] 99)).alloc (.cells #[.int .i64 A, .int .i64 L] 99)).drew q 48 #[.pointer (some ⟨c, 0, none⟩)] := (hq.alloc _).alloc _
    generalize ((w.alloc (.cells #[.int .i64 0, .int .i64 0] 99)).alloc (.cells #[.int .i64 A, .int .i64 L] 99)).drew = w2 at hB hR1 hR2 hC hQ ⊢
    have HN3 := Lib.hid hn3
    have HSAY := Lib.hid hsay
    have HB := Lib.hid hB
    have HR1 := Lib.hid hR1
    have HR2 := Lib.hid hR2
    have hA0 : ∀ w', KeptOn (fun _ => True) w2.drew w' → w'.cell? ⟨w.heap.size + 1, 0, none⟩ = some (.int .i64 A) := fun w' h => h.cell (w := w2.drew) (hR2.cell 0) trivial
    have hL0 : ∀ w', KeptOn (fun _ => True) w2.drew w' → w'.cell? ⟨w.heap.size + 1, 1, none⟩ = some (.int .i64 L) := fun w' h => h.cell (w := w2.drew) (hR2.cell 1) trivial
    have hQ0 : ∀ w', KeptOn (fun _ => True) w2.drew w' → w'.cell? ⟨q, 0, none⟩ = some (.pointer (some ⟨c, 0, none⟩)) := fun w' h => h.cell (w := w2.drew) (hQ.cell 0) trivial
    have hC2 : ∀ w', KeptOn (fun _ => True) w2.drew w' → w'.cell? ⟨c, 2, none⟩ = some (.int .i64 size) := fun w' h => h.cell (w := w2.drew) (Blk.cell hC 2) trivial
    clear hn3 hsay hB hR1 hR2 hC hQ hbl h8 h9 hc hq
    have hs1 : 64 * size ≤ 16320 := by omega
    have hs0 : 64 ≤ 64 * size := by omega
    have hi99 : (Try.prog.info? 99).map (·.size) = some 2 := by kernel_rfl
    have HI := Lib.hid hi99
    clear hi99
    by_cases hAC : A = C
    · by_cases h1 : A < 1
      · have HZ := Lib.hid (show says (by_ t) size = (0, 0) by rw [HSAY.out, if_pos (.inr (.inl h1))])
        have hne : (A != C) = false := by simpa using hAC
        clear hAC
        have g1 : decide (A < 1) = true := by simpa using h1
        have hw : IntKind.i64.wrap (64 * size) = 64 * size := IntWalk.i64_in _ (by omega)
        go_upto_region 2 with (fail)
        refine wp_region_keep2 (KeptOn fun _ => True) (KeptOn.refl _) (KeptOn.trans) [(0, 0), (1, 0), (2, 0), (3, 0), (4, 1), (5, 0), (6, 0), (7, 0), (8, 0), (9, 0), (10, 0), (11, 0), (12, 0), (13, 0), (14, 0), (15, 0), (16, 0), (17, 0), (18, 0), (19, 0), (20, 0), (21, 0), (22, 0), (23, 0), (24, 0), (25, 0), (26, 0), (27, 0), (28, 0), (29, 0), (30, 0)] (by kernel_rfl) (by kernel_rfl) ?_
        iterate 4 (first | (refine keep_skip rfl (fun _ _ _ h => h) (by rfl) ?_; simp only [Act.put, List.setIfInBounds_toArray, List.set_cons_zero, List.set_cons_succ]) | (refine keep_quiet (v := ?_) rfl (fun _ _ _ h => h) (by rfl) (fun w' hR => ?_) ?_; rotate_left; (go_simp; try with_reducible rfl); simp only [Act.put, List.setIfInBounds_toArray, List.set_cons_zero, List.set_cons_succ]))
        refine keep_eff rfl ?_
        go_wp2_with fail
        refine (HN3.out w2.drew).mono ?_
        rintro e w' ⟨rfl, rfl⟩
        go_wp2_with fail
        refine keepPost_need (KeptOn.refl _ _) ?_
        iterate 26 (first | (refine keep_skip rfl (fun _ _ _ h => h) (by rfl) ?_; simp only [Act.put, List.setIfInBounds_toArray, List.set_cons_zero, List.set_cons_succ]) | (refine keep_quiet (v := ?_) rfl (fun _ _ _ h => h) (by rfl) (fun w' hR => ?_) ?_; rotate_left; (go_simp; try with_reducible rfl); simp only [Act.put, List.setIfInBounds_toArray, List.set_cons_zero, List.set_cons_succ]))
        refine keep_done ?_
        clear hA0 hL0 hQ0 hC2
        have r20 := HR2.out.cell 0
        have r21 := HR2.out.cell 1
        have r10 := HR1.out.cell 0
        have r11 := HR1.out.cell 1
        have f10 := HR1.out.frozen 0
        have f11 := HR1.out.frozen 1
        have HZ1 := Lib.hid (((HR1.out).set_ 0 (.int .i64 0)).set_ 1 (.int .i64 0))
        go_wp2_with fail
        refine bodyPost_ret (v := .agg #[.int .i64 0, .int .i64 0]) (results_cell_row rfl _ _ w.heap.size 99 #[.int .i64 0, .int .i64 0] _ _ rfl HZ1.out Try.underlying99 rfl HI.out) rfl ⟨by rw [HZ.out], ((HB.out.setCell (p := ⟨w.heap.size, 0, none⟩) (Nat.le_refl _) _).setCell (p := ⟨w.heap.size, 1, none⟩) (Nat.le_refl _) _).drew⟩
      · by_cases h2 : 1099511627776 < A
        · have HZ := Lib.hid (show says (by_ t) size = (0, 0) by rw [HSAY.out, if_pos (.inr (.inr (.inl h2)))])
          have hne : (A != C) = false := by simpa using hAC
          clear hAC
          have g1 : decide (A < 1) = false := by simpa using h1
          have g2 : decide (1099511627776 < A) = true := by simpa using h2
          have hw : IntKind.i64.wrap (64 * size) = 64 * size := IntWalk.i64_in _ (by omega)
          go_upto_region 2 with (fail)
          refine wp_region_keep2 (KeptOn fun _ => True) (KeptOn.refl _) (KeptOn.trans) [(0, 0), (1, 0), (2, 0), (3, 0), (4, 1), (5, 0), (6, 0), (7, 0), (8, 0), (9, 0), (10, 0), (11, 0), (12, 0), (13, 0), (14, 0), (15, 0), (16, 0), (17, 0), (18, 0), (19, 0), (20, 0), (21, 0), (22, 0), (23, 0), (24, 0), (25, 0), (26, 0), (27, 0), (28, 0), (29, 0), (30, 0)] (by kernel_rfl) (by kernel_rfl) ?_
          iterate 4 (first | (refine keep_skip rfl (fun _ _ _ h => h) (by rfl) ?_; simp only [Act.put, List.setIfInBounds_toArray, List.set_cons_zero, List.set_cons_succ]) | (refine keep_quiet (v := ?_) rfl (fun _ _ _ h => h) (by rfl) (fun w' hR => ?_) ?_; rotate_left; (go_simp; try with_reducible rfl); simp only [Act.put, List.setIfInBounds_toArray, List.set_cons_zero, List.set_cons_succ]))
          refine keep_eff rfl ?_
          go_wp2_with fail
          refine (HN3.out w2.drew).mono ?_
          rintro e w' ⟨rfl, rfl⟩
          go_wp2_with fail
          refine keepPost_need (KeptOn.refl _ _) ?_
          iterate 26 (first | (refine keep_skip rfl (fun _ _ _ h => h) (by rfl) ?_; simp only [Act.put, List.setIfInBounds_toArray, List.set_cons_zero, List.set_cons_succ]) | (refine keep_quiet (v := ?_) rfl (fun _ _ _ h => h) (by rfl) (fun w' hR => ?_) ?_; rotate_left; (go_simp; try with_reducible rfl); simp only [Act.put, List.setIfInBounds_toArray, List.set_cons_zero, List.set_cons_succ]))
          refine keep_done ?_
          clear hA0 hL0 hQ0 hC2
          have r20 := HR2.out.cell 0
          have r21 := HR2.out.cell 1
          have r10 := HR1.out.cell 0
          have r11 := HR1.out.cell 1
          have f10 := HR1.out.frozen 0
          have f11 := HR1.out.frozen 1
          have HZ1 := Lib.hid (((HR1.out).set_ 0 (.int .i64 0)).set_ 1 (.int .i64 0))
          go_wp2_with fail
          refine bodyPost_ret (v := .agg #[.int .i64 0, .int .i64 0]) (results_cell_row rfl _ _ w.heap.size 99 #[.int .i64 0, .int .i64 0] _ _ rfl HZ1.out Try.underlying99 rfl HI.out) rfl ⟨by rw [HZ.out], ((HB.out.setCell (p := ⟨w.heap.size, 0, none⟩) (Nat.le_refl _) _).setCell (p := ⟨w.heap.size, 1, none⟩) (Nat.le_refl _) _).drew⟩
        · by_cases h3 : L < 0
          · have HZ := Lib.hid (show says (by_ t) size = (0, 0) by rw [HSAY.out, if_pos (.inr (.inr (.inr (.inl h3))))])
            have hne : (A != C) = false := by simpa using hAC
            clear hAC
            have g1 : decide (A < 1) = false := by simpa using h1
            have g2 : decide (1099511627776 < A) = false := by simpa using h2
            have g3 : decide (L < 0) = true := by simpa using h3
            have hw : IntKind.i64.wrap (64 * size) = 64 * size := IntWalk.i64_in _ (by omega)
            go_upto_region 2 with (fail)
            refine wp_region_keep2 (KeptOn fun _ => True) (KeptOn.refl _) (KeptOn.trans) [(0, 0), (1, 0), (2, 0), (3, 0), (4, 1), (5, 0), (6, 0), (7, 0), (8, 0), (9, 0), (10, 0), (11, 0), (12, 0), (13, 0), (14, 0), (15, 0), (16, 0), (17, 0), (18, 0), (19, 0), (20, 0), (21, 0), (22, 0), (23, 0), (24, 0), (25, 0), (26, 0), (27, 0), (28, 0), (29, 0), (30, 0)] (by kernel_rfl) (by kernel_rfl) ?_
            iterate 4 (first | (refine keep_skip rfl (fun _ _ _ h => h) (by rfl) ?_; simp only [Act.put, List.setIfInBounds_toArray, List.set_cons_zero, List.set_cons_succ]) | (refine keep_quiet (v := ?_) rfl (fun _ _ _ h => h) (by rfl) (fun w' hR => ?_) ?_; rotate_left; (go_simp; try with_reducible rfl); simp only [Act.put, List.setIfInBounds_toArray, List.set_cons_zero, List.set_cons_succ]))
            refine keep_eff rfl ?_
            go_wp2_with fail
            refine (HN3.out w2.drew).mono ?_
            rintro e w' ⟨rfl, rfl⟩
            go_wp2_with fail
            refine keepPost_need (KeptOn.refl _ _) ?_
            iterate 26 (first | (refine keep_skip rfl (fun _ _ _ h => h) (by rfl) ?_; simp only [Act.put, List.setIfInBounds_toArray, List.set_cons_zero, List.set_cons_succ]) | (refine keep_quiet (v := ?_) rfl (fun _ _ _ h => h) (by rfl) (fun w' hR => ?_) ?_; rotate_left; (go_simp; try with_reducible rfl); simp only [Act.put, List.setIfInBounds_toArray, List.set_cons_zero, List.set_cons_succ]))
            refine keep_done ?_
            clear hA0 hL0 hQ0 hC2
            have r20 := HR2.out.cell 0
            have r21 := HR2.out.cell 1
            have r10 := HR1.out.cell 0
            have r11 := HR1.out.cell 1
            have f10 := HR1.out.frozen 0
            have f11 := HR1.out.frozen 1
            have HZ1 := Lib.hid (((HR1.out).set_ 0 (.int .i64 0)).set_ 1 (.int .i64 0))
            go_wp2_with fail
            refine bodyPost_ret (v := .agg #[.int .i64 0, .int .i64 0]) (results_cell_row rfl _ _ w.heap.size 99 #[.int .i64 0, .int .i64 0] _ _ rfl HZ1.out Try.underlying99 rfl HI.out) rfl ⟨by rw [HZ.out], ((HB.out.setCell (p := ⟨w.heap.size, 0, none⟩) (Nat.le_refl _) _).setCell (p := ⟨w.heap.size, 1, none⟩) (Nat.le_refl _) _).drew⟩
          · by_cases h4 : 64 * size < L
            · have HZ := Lib.hid (show says (by_ t) size = (0, 0) by rw [HSAY.out, if_pos (.inr (.inr (.inr (.inr h4))))])
              have hne : (A != C) = false := by simpa using hAC
              clear hAC
              have g1 : decide (A < 1) = false := by simpa using h1
              have g2 : decide (1099511627776 < A) = false := by simpa using h2
              have g3 : decide (L < 0) = false := by simpa using h3
              have g4 : decide (64 * size < L) = true := by simpa using h4
              have hw : IntKind.i64.wrap (64 * size) = 64 * size := IntWalk.i64_in _ (by omega)
              go_upto_region 2 with (fail)
              refine wp_region_keep2 (KeptOn fun _ => True) (KeptOn.refl _) (KeptOn.trans) [(0, 0), (1, 0), (2, 0), (3, 0), (4, 1), (5, 0), (6, 0), (7, 0), (8, 0), (9, 0), (10, 0), (11, 0), (12, 0), (13, 0), (14, 0), (15, 0), (16, 0), (17, 0), (18, 0), (19, 0), (20, 0), (21, 0), (22, 0), (23, 0), (24, 0), (25, 0), (26, 0), (27, 0), (28, 0), (29, 0), (30, 0)] (by kernel_rfl) (by kernel_rfl) ?_
              iterate 4 (first | (refine keep_skip rfl (fun _ _ _ h => h) (by rfl) ?_; simp only [Act.put, List.setIfInBounds_toArray, List.set_cons_zero, List.set_cons_succ]) | (refine keep_quiet (v := ?_) rfl (fun _ _ _ h => h) (by rfl) (fun w' hR => ?_) ?_; rotate_left; (go_simp; try with_reducible rfl); simp only [Act.put, List.setIfInBounds_toArray, List.set_cons_zero, List.set_cons_succ]))
              refine keep_eff rfl ?_
              go_wp2_with fail
              refine (HN3.out w2.drew).mono ?_
              rintro e w' ⟨rfl, rfl⟩
              go_wp2_with fail
              refine keepPost_need (KeptOn.refl _ _) ?_
              iterate 26 (first | (refine keep_skip rfl (fun _ _ _ h => h) (by rfl) ?_; simp only [Act.put, List.setIfInBounds_toArray, List.set_cons_zero, List.set_cons_succ]) | (refine keep_quiet (v := ?_) rfl (fun _ _ _ h => h) (by rfl) (fun w' hR => ?_) ?_; rotate_left; (go_simp; try with_reducible rfl); simp only [Act.put, List.setIfInBounds_toArray, List.set_cons_zero, List.set_cons_succ]))
              refine keep_done ?_
              clear hA0 hL0 hQ0 hC2
              have r20 := HR2.out.cell 0
              have r21 := HR2.out.cell 1
              have r10 := HR1.out.cell 0
              have r11 := HR1.out.cell 1
              have f10 := HR1.out.frozen 0
              have f11 := HR1.out.frozen 1
              have HZ1 := Lib.hid (((HR1.out).set_ 0 (.int .i64 0)).set_ 1 (.int .i64 0))
              go_wp2_with fail
              refine bodyPost_ret (v := .agg #[.int .i64 0, .int .i64 0]) (results_cell_row rfl _ _ w.heap.size 99 #[.int .i64 0, .int .i64 0] _ _ rfl HZ1.out Try.underlying99 rfl HI.out) rfl ⟨by rw [HZ.out], ((HB.out.setCell (p := ⟨w.heap.size, 0, none⟩) (Nat.le_refl _) _).setCell (p := ⟨w.heap.size, 1, none⟩) (Nat.le_refl _) _).drew⟩
            · have HZ := Lib.hid (show says (by_ t) size = (A, L) by rw [HSAY.out, if_neg (by intro h; rcases h with h | h | h | h | h <;> first | exact h hAC | omega)])
              have hne : (A != C) = false := by simpa using hAC
              clear hAC
              have g1 : decide (A < 1) = false := by simpa using h1
              have g2 : decide (1099511627776 < A) = false := by simpa using h2
              have g3 : decide (L < 0) = false := by simpa using h3
              have g4 : decide (64 * size < L) = false := by simpa using h4
              have hw : IntKind.i64.wrap (64 * size) = 64 * size := IntWalk.i64_in _ (by omega)
              go_upto_region 2 with (fail)
              refine wp_region_keep2 (KeptOn fun _ => True) (KeptOn.refl _) (KeptOn.trans) [(0, 0), (1, 0), (2, 0), (3, 0), (4, 1), (5, 0), (6, 0), (7, 0), (8, 0), (9, 0), (10, 0), (11, 0), (12, 0), (13, 0), (14, 0), (15, 0), (16, 0), (17, 0), (18, 0), (19, 0), (20, 0), (21, 0), (22, 0), (23, 0), (24, 0), (25, 0), (26, 0), (27, 0), (28, 0), (29, 0), (30, 0)] (by kernel_rfl) (by kernel_rfl) ?_
              iterate 4 (first | (refine keep_skip rfl (fun _ _ _ h => h) (by rfl) ?_; simp only [Act.put, List.setIfInBounds_toArray, List.set_cons_zero, List.set_cons_succ]) | (refine keep_quiet (v := ?_) rfl (fun _ _ _ h => h) (by rfl) (fun w' hR => ?_) ?_; rotate_left; (go_simp; try with_reducible rfl); simp only [Act.put, List.setIfInBounds_toArray, List.set_cons_zero, List.set_cons_succ]))
              refine keep_eff rfl ?_
              go_wp2_with fail
              refine (HN3.out w2.drew).mono ?_
              rintro e w' ⟨rfl, rfl⟩
              go_wp2_with fail
              refine keepPost_need (KeptOn.refl _ _) ?_
              iterate 26 (first | (refine keep_skip rfl (fun _ _ _ h => h) (by rfl) ?_; simp only [Act.put, List.setIfInBounds_toArray, List.set_cons_zero, List.set_cons_succ]) | (refine keep_quiet (v := ?_) rfl (fun _ _ _ h => h) (by rfl) (fun w' hR => ?_) ?_; rotate_left; (go_simp; try with_reducible rfl); simp only [Act.put, List.setIfInBounds_toArray, List.set_cons_zero, List.set_cons_succ]))
              refine keep_done ?_
              clear hA0 hL0 hQ0 hC2
              have r20 := HR2.out.cell 0
              have r21 := HR2.out.cell 1
              have r10 := HR1.out.cell 0
              have r11 := HR1.out.cell 1
              have f10 := HR1.out.frozen 0
              have f11 := HR1.out.frozen 1
              have HZ1 := Lib.hid (((HR1.out).set_ 0 (.int .i64 A)).set_ 1 (.int .i64 L))
              go_wp2_with fail
              refine bodyPost_ret (v := .agg #[.int .i64 A, .int .i64 L]) (results_cell_row rfl _ _ w.heap.size 99 #[.int .i64 A, .int .i64 L] _ _ rfl HZ1.out Try.underlying99 rfl HI.out) rfl ⟨by rw [HZ.out], ((HB.out.setCell (p := ⟨w.heap.size, 0, none⟩) (Nat.le_refl _) _).setCell (p := ⟨w.heap.size, 1, none⟩) (Nat.le_refl _) _).drew⟩
    · have HZ := Lib.hid (show says (by_ t) size = (0, 0) by rw [HSAY.out, if_pos (.inl hAC)])
      have hne : (A != C) = true := by simpa using hAC
      go_upto_region 2 with (fail)
      refine wp_region_keep2 (KeptOn fun _ => True) (KeptOn.refl _) (KeptOn.trans) [(0, 0), (1, 0), (2, 0), (3, 0), (4, 1), (5, 0), (6, 0), (7, 0), (8, 0), (9, 0), (10, 0), (11, 0), (12, 0), (13, 0), (14, 0), (15, 0), (16, 0), (17, 0), (18, 0), (19, 0), (20, 0), (21, 0), (22, 0), (23, 0), (24, 0), (25, 0), (26, 0), (27, 0), (28, 0), (29, 0), (30, 0)] (by kernel_rfl) (by kernel_rfl) ?_
      iterate 4 (first | (refine keep_skip rfl (fun _ _ _ h => h) (by rfl) ?_; simp only [Act.put, List.setIfInBounds_toArray, List.set_cons_zero, List.set_cons_succ]) | (refine keep_quiet (v := ?_) rfl (fun _ _ _ h => h) (by rfl) (fun w' hR => ?_) ?_; rotate_left; (go_simp; try with_reducible rfl); simp only [Act.put, List.setIfInBounds_toArray, List.set_cons_zero, List.set_cons_succ]))
      refine keep_eff rfl ?_
      go_wp2_with fail
      refine (HN3.out w2.drew).mono ?_
      rintro e w' ⟨rfl, rfl⟩
      go_wp2_with fail
      refine keepPost_need (KeptOn.refl _ _) ?_
      iterate 26 (first | (refine keep_skip rfl (fun _ _ _ h => h) (by rfl) ?_; simp only [Act.put, List.setIfInBounds_toArray, List.set_cons_zero, List.set_cons_succ]) | (refine keep_quiet (v := ?_) rfl (fun _ _ _ h => h) (by rfl) (fun w' hR => ?_) ?_; rotate_left; (go_simp; try with_reducible rfl); simp only [Act.put, List.setIfInBounds_toArray, List.set_cons_zero, List.set_cons_succ]))
      refine keep_done ?_
      clear hA0 hL0 hQ0 hC2
      have r20 := HR2.out.cell 0
      have r21 := HR2.out.cell 1
      have r10 := HR1.out.cell 0
      have r11 := HR1.out.cell 1
      have f10 := HR1.out.frozen 0
      have f11 := HR1.out.frozen 1
      have HZ1 := Lib.hid (((HR1.out).set_ 0 (.int .i64 0)).set_ 1 (.int .i64 0))
      go_wp2_with fail
      refine bodyPost_ret (v := .agg #[.int .i64 0, .int .i64 0]) (results_cell_row rfl _ _ w.heap.size 99 #[.int .i64 0, .int .i64 0] _ _ rfl HZ1.out Try.underlying99 rfl HI.out) rfl ⟨by rw [HZ.out], ((HB.out.setCell (p := ⟨w.heap.size, 0, none⟩) (Nat.le_refl _) _).setCell (p := ⟨w.heap.size, 1, none⟩) (Nat.le_refl _) _).drew⟩
  refine wp_region_ways (KeptOn fun _ => True) (KeptOn.refl _) (KeptOn.trans) (.quiet 0 (.quiet 2 (.quiet 3 (.fork 1 6 (.fork 4 6 (.quiet 5 (.eff 6 0 (.eff 7 1 .done))) (.eff 4 0 (.quiet 5 (.eff 7 1 .done)))) (.eff 1 0 (.eff 4 0 (.quiet 5 (.eff 7 1 .done)))))))) (by kernel_rfl) (by kernel_rfl) ?_
  iterate 3 (refine ways_quiet (v := ?_) rfl (fun _ _ _ h => h) (by rfl) (fun w' hR => ?_) ?_; rotate_left; (go_simp; try with_reducible rfl); simp only [Act.put, List.setIfInBounds_toArray, List.set_cons_zero, List.set_cons_succ])
  refine ways_fork rfl rfl ?_ ?_
  · go_wp2_with fail
    refine (number_any t _ h8).mono ?_
    rintro e w' ⟨rfl, rfl⟩
    go_wp2_with fail
    refine waysPost_need (KeptOn.refl _ _) ?_
    refine ways_fork rfl rfl ?_ ?_
    · go_wp2_with fail
      refine (number_any _ _ h9).mono ?_
      rintro e w' ⟨rfl, rfl⟩
      go_wp2_with fail
      refine waysPost_need (KeptOn.refl _ _) ?_
      iterate 1 (refine ways_quiet (v := ?_) rfl (fun _ _ _ h => h) (by rfl) (fun w' hR => ?_) ?_; rotate_left; (go_simp; try with_reducible rfl); simp only [Act.put, List.setIfInBounds_toArray, List.set_cons_zero, List.set_cons_succ])
      refine ways_eff rfl ?_
      go_wp2_with fail
      refine waysPost_need (KeptOn.alloc _ _) ?_
      refine ways_eff rfl ?_
      go_wp2_with fail
      refine waysPost_free ?_
      refine ways_done ?_
      exact hend
    · go_wp2_with fail
      refine waysPost_need (KeptOn.alloc _ _) ?_
      refine ways_eff rfl ?_
      go_wp2_with fail
      refine (number_any _ _ h9).mono ?_
      rintro e w' ⟨rfl, rfl⟩
      go_wp2_with fail
      refine waysPost_need (KeptOn.refl _ _) ?_
      iterate 1 (refine ways_quiet (v := ?_) rfl (fun _ _ _ h => h) (by rfl) (fun w' hR => ?_) ?_; rotate_left; (go_simp; try with_reducible rfl); simp only [Act.put, List.setIfInBounds_toArray, List.set_cons_zero, List.set_cons_succ])
      refine ways_eff rfl ?_
      go_wp2_with fail
      refine waysPost_free ?_
      refine ways_done ?_
      exact hend
  · go_wp2_with fail
    refine waysPost_need (KeptOn.alloc _ _) ?_
    refine ways_eff rfl ?_
    go_wp2_with fail
    refine (number_any t _ h8).mono ?_
    rintro e w' ⟨rfl, rfl⟩
    go_wp2_with fail
    refine waysPost_need (KeptOn.refl _ _) ?_
    refine ways_eff rfl ?_
    go_wp2_with fail
    refine (number_any _ _ h9).mono ?_
    rintro e w' ⟨rfl, rfl⟩
    go_wp2_with fail
    refine waysPost_need (KeptOn.refl _ _) ?_
    iterate 1 (refine ways_quiet (v := ?_) rfl (fun _ _ _ h => h) (by rfl) (fun w' hR => ?_) ?_; rotate_left; (go_simp; try with_reducible rfl); simp only [Act.put, List.setIfInBounds_toArray, List.set_cons_zero, List.set_cons_succ])
    refine ways_eff rfl ?_
    go_wp2_with fail
    refine waysPost_free ?_
    refine ways_done ?_
    exact hend
def lastOf (a b c d : Int) : Int := if a = 0 ∧ b = 0 ∧ c = 0 ∧ d = 0 then -1 else if a < c then 1 else 0
theorem last_any (a b c d : Int) (w : World) :
    Calls Try.prog 54 #[.agg #[.int .i64 a, .int .i64 b, .int .i64 c, .int .i64 d]] w fun e w' => e = .returned (.int .i64 (lastOf a b c d)) ∧ Below w.heap.size w w' := by
  go_enter Try.func54, Try.ntmps54
  go_wp2_with fail
  all_goals (go_ret; refine ⟨?_, Below.alloc (Below.refl _ _) (Nat.le_refl _) _⟩)
  all_goals (unfold lastOf; simp; try omega)
end Go.Proofs.Ytnddkodenkmoiaa
