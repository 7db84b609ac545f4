/- A ring: Check. -/
import Derived.Test.YtkbcilfcfbfiaaaDoorRing4
namespace Go.Proofs.YtkbcilfcfbfiaaaDoor
open Go.RowKit Go.Proofs
set_option linter.unusedSimpArgs false
set_option linter.unusedVariables false
set_option maxRecDepth 100000 in
set_option maxHeartbeats 4000000 in
theorem rcheck_no (p : Option Addr) (c d : Int) (t : ByteArray) (X : Array Value) (w : World)
    (hmay : ∀ w', Below w.heap.size w w' → Calls Tryd.prog 75 #[.pointer p, .agg #[.int .i64 c, .int .i64 d, .string t]] w' fun e w'' => e = .returned (.bool false) ∧ Below w'.heap.size w' w'') :
    Calls Tryd.prog 52 #[.pointer p, .int .i64 c, .int .i64 d, .string t, .agg X] w fun e w' => e = .returned (.bool false) ∧ Below w.heap.size w w' := by
  have HM := Lib.hid hmay
  clear hmay
  go_enter Tryd.func52, Tryd.ntmps52
  go_upto_region 2 with (fail)
  change Code.wp _ _ _ _ ((w.alloc (.cells X 25)).alloc (.cells #[.int .i64 c, .int .i64 d, .string t] 110))
  have R2 : Blk ((w.alloc (.cells X 25)).alloc (.cells #[.int .i64 c, .int .i64 d, .string t] 110)) w.heap.size 25 X := (Blk.new w 25 X).alloc _
  have R3 : Blk ((w.alloc (.cells X 25)).alloc (.cells #[.int .i64 c, .int .i64 d, .string t] 110)) (w.heap.size + 1) 110 #[.int .i64 c, .int .i64 d, .string t] := by
    have := Blk.new (w.alloc (.cells X 25)) 110 #[.int .i64 c, .int .i64 d, .string t]
    rwa [World.size_alloc] at this
  have B : Below w.heap.size w ((w.alloc (.cells X 25)).alloc (.cells #[.int .i64 c, .int .i64 d, .string t] 110)) := ((Below.refl _ _).alloc (Nat.le_refl _) _).alloc (by simp) _
  generalize (w.alloc (.cells X 25)).alloc (.cells #[.int .i64 c, .int .i64 d, .string t] 110) = w2 at R2 R3 B ⊢
  have HR2 := Lib.hid R2
  have HR3 := Lib.hid R3
  have HB := Lib.hid B
  have e0 : ∀ w', KeptOn (fun _ => True) w2.drew w' → w'.cell? ⟨w.heap.size + 1, 0, none⟩ = some (.int .i64 c) := fun w' h => h.cell (w := w2.drew) (R3.cell 0) trivial
  have e1 : ∀ w', KeptOn (fun _ => True) w2.drew w' → w'.cell? ⟨w.heap.size + 1, 1, none⟩ = some (.int .i64 d) := fun w' h => h.cell (w := w2.drew) (R3.cell 1) trivial
  have e2 : ∀ w', KeptOn (fun _ => True) w2.drew w' → w'.cell? ⟨w.heap.size + 1, 2, none⟩ = some (.string t) := fun w' h => h.cell (w := w2.drew) (R3.cell 2) trivial
  clear R2 R3 B
  refine wp_region_keep2 (KeptOn fun _ => True) (KeptOn.refl _) (KeptOn.trans) [(0,0),(1,0),(2,1),(3,0),(4,0),(5,0),(7,0),(6,1),(8,0),(9,0),(10,0)] (by kernel_rfl) (by kernel_rfl) ?_
  iterate 2 (refine keep_quiet (v := ?_) rfl (fun _ _ _ h => h) (by rfl) (fun w' hR => ?_) ?_; rotate_left; (go_simp; try with_reducible rfl); simp only [Act.put, List.setIfInBounds_toArray, List.set_cons_zero, List.set_cons_succ])
  clear e0 e1 e2
  refine keep_eff rfl ?_
  go_wp2_with fail
  refine (HM.out w2.drew (HB.out.drewN 1)).mono ?_
  rintro e w3 ⟨rfl, hb⟩
  have HKe := Lib.hid (show KeptOn (fun _ => True) w2.drew w3 from KeptOn.below hb (fun b hb _ => hb))
  have HB := Lib.hid (Below.trans (show Below w.heap.size w w2.drew from HB.out.drewN 1) (hb.mono HB.out.size))
  clear hb
  go_wp2_with fail
  refine keepPost_need HKe.out ?_
  iterate 1 (refine keep_quiet (v := ?_) rfl (fun _ _ _ h => h) (by rfl) (fun w' hR => ?_) ?_; rotate_left; (go_simp; try with_reducible rfl); simp only [Act.put, List.setIfInBounds_toArray, List.set_cons_zero, List.set_cons_succ])
  iterate 3 (refine keep_skip rfl (fun _ _ _ h => h) (by rfl) ?_; simp only [Act.put, List.setIfInBounds_toArray, List.set_cons_zero, List.set_cons_succ])
  refine keep_eff rfl ?_
  go_wp2_with fail
  refine keepPost_need (KeptOn.refl _ _) ?_
  iterate 1 (refine keep_skip rfl (fun _ _ _ h => h) (by rfl) ?_; simp only [Act.put, List.setIfInBounds_toArray, List.set_cons_zero, List.set_cons_succ])
  iterate 2 (refine keep_quiet (v := ?_) rfl (fun _ _ _ h => h) (by rfl) (fun w' hR => ?_) ?_; rotate_left; (go_simp; try with_reducible rfl); simp only [Act.put, List.setIfInBounds_toArray, List.set_cons_zero, List.set_cons_succ])
  refine keep_done ?_
  go_wp2_with fail
  go_ret
  exact ⟨rfl, HB.out⟩
set_option maxRecDepth 100000 in
set_option maxHeartbeats 4000000 in
theorem rcheck_ok (j : Nat) (d : Int) (t : ByteArray) (D : List UInt8) (hD : D.length = 32) (r g cap b N : Nat) (sd : ByteArray) (S : List Ln) (w : World) (hk : Consts w) (hR : RingAt w r g cap b sd N S) (hm : MayB N j d t.size) :
    Calls Tryd.prog 52 #[.pointer (some ⟨r, 0, none⟩), .int .i64 j, .int .i64 d, .string t, .agg (bytesC D)] w fun e w' => e = .returned (.bool (signOf sd j d t == D)) ∧ Below w.heap.size w w' := by
  have hsz : (bytesC D).size = 32 := by rw [bytesC_size, hD]
  have hone := bytesC_one D
  have hl := signOf_length sd j d t
  have HQ := Lib.hid (fun w => eql_digest (signOf sd j d t) D hl hD w)
  have hsg := fun w hk hR => sign_any j d t r g cap b N sd S w hk hR hm
  have hmay := fun w hR => may_any j d t r g cap b N sd S w hR
  rw [decide_eq_true hm] at hmay
  have HSG := Lib.hid hsg
  have HMAY := Lib.hid hmay
  clear hsg hmay hm
  generalize signOf sd j d t = G at HQ HSG ⊢
  generalize bytesC D = X at hsz hone HQ ⊢
  generalize bytesC G = Y at HQ HSG
  generalize (G == D) = z at HQ ⊢
  have HSZ := Lib.hid hsz
  clear hsz hone hl hD
  go_enter Tryd.func52, Tryd.ntmps52
  go_upto_region 2 with (fail)
  change Code.wp _ _ _ _ ((w.alloc (.cells X 25)).alloc (.cells #[.int .i64 j, .int .i64 d, .string t] 110))
  have R2 : Blk ((w.alloc (.cells X 25)).alloc (.cells #[.int .i64 j, .int .i64 d, .string t] 110)) w.heap.size 25 X := (Blk.new w 25 X).alloc _
  have R3 : Blk ((w.alloc (.cells X 25)).alloc (.cells #[.int .i64 j, .int .i64 d, .string t] 110)) (w.heap.size + 1) 110 #[.int .i64 j, .int .i64 d, .string t] := by
    have := Blk.new (w.alloc (.cells X 25)) 110 #[.int .i64 j, .int .i64 d, .string t]
    rwa [World.size_alloc] at this
  have B : Below w.heap.size w ((w.alloc (.cells X 25)).alloc (.cells #[.int .i64 j, .int .i64 d, .string t] 110)) := ((Below.refl _ _).alloc (Nat.le_refl _) _).alloc (by simp) _
  have HRR := Lib.hid ((hR.alloc (.cells X 25)).alloc (.cells #[.int .i64 j, .int .i64 d, .string t] 110))
  have HK := Lib.hid (hk.below B)
  generalize (w.alloc (.cells X 25)).alloc (.cells #[.int .i64 j, .int .i64 d, .string t] 110) = w2 at R2 R3 B HRR HK ⊢
  have HR2 := Lib.hid R2
  have HR3 := Lib.hid R3
  have HB := Lib.hid B
  have e0 : ∀ w', KeptOn (fun _ => True) w2.drew w' → w'.cell? ⟨w.heap.size + 1, 0, none⟩ = some (.int .i64 j) := fun w' h => h.cell (w := w2.drew) (R3.cell 0) trivial
  have e1 : ∀ w', KeptOn (fun _ => True) w2.drew w' → w'.cell? ⟨w.heap.size + 1, 1, none⟩ = some (.int .i64 d) := fun w' h => h.cell (w := w2.drew) (R3.cell 1) trivial
  have e2 : ∀ w', KeptOn (fun _ => True) w2.drew w' → w'.cell? ⟨w.heap.size + 1, 2, none⟩ = some (.string t) := fun w' h => h.cell (w := w2.drew) (R3.cell 2) trivial
  clear R2 R3 B
  clear hk hR
  refine wp_region_keep2 (KeptOn fun _ => True) (KeptOn.refl _) (KeptOn.trans) [(0,0),(1,0),(2,1),(3,0),(4,0),(5,0),(7,0),(6,1),(8,0),(9,0),(10,0)] (by kernel_rfl) (by kernel_rfl) ?_
  iterate 2 (refine keep_quiet (v := ?_) rfl (fun _ _ _ h => h) (by rfl) (fun w' hR => ?_) ?_; rotate_left; (go_simp; try with_reducible rfl); simp only [Act.put, List.setIfInBounds_toArray, List.set_cons_zero, List.set_cons_succ])
  refine keep_eff rfl ?_
  go_wp2_with fail
  refine (HMAY.out w2.drew HRR.out.drew).mono ?_
  rintro e w3 ⟨rfl, hb⟩
  have HKe := Lib.hid (show KeptOn (fun _ => True) w2.drew w3 from KeptOn.below hb (fun b hb _ => hb))
  have HRR := Lib.hid (HRR.out.drew.below hb)
  have HK := Lib.hid (Consts.below (show Consts w2.drew from HK.out) hb)
  have HR2 := Lib.hid (Blk.below (show Blk w2.drew w.heap.size 25 X from HR2.out) hb HR2.out.lt)
  have HR3 := Lib.hid (Blk.below (show Blk w2.drew (w.heap.size + 1) 110 _ from HR3.out) hb HR3.out.lt)
  have HB := Lib.hid (Below.trans (show Below w.heap.size w w2.drew from HB.out.drewN 1) (hb.mono HB.out.size))
  clear hb e0 e1 e2
  go_wp2_with fail
  refine keepPost_need HKe.out ?_
  have e0 : ∀ w', KeptOn (fun _ => True) w3 w' → w'.cell? ⟨w.heap.size + 1, 0, none⟩ = some (.int .i64 j) := fun w' h => h.cell (w := w3) (HR3.out.cell 0) trivial
  have e1 : ∀ w', KeptOn (fun _ => True) w3 w' → w'.cell? ⟨w.heap.size + 1, 1, none⟩ = some (.int .i64 d) := fun w' h => h.cell (w := w3) (HR3.out.cell 1) trivial
  have e2 : ∀ w', KeptOn (fun _ => True) w3 w' → w'.cell? ⟨w.heap.size + 1, 2, none⟩ = some (.string t) := fun w' h => h.cell (w := w3) (HR3.out.cell 2) trivial
  iterate 3 (refine keep_quiet (v := ?_) rfl (fun _ _ _ h => h) (by rfl) (fun w' hR => ?_) ?_; rotate_left; (go_simp; try with_reducible rfl); simp only [Act.put, List.setIfInBounds_toArray, List.set_cons_zero, List.set_cons_succ])
  refine keep_quiet (v := .agg X) rfl (fun _ _ _ h => h) (by rfl) (fun w' hR => execLoad 25 _ rfl (p := .pointer (some ⟨w.heap.size, 0, none⟩)) rfl (load25 (Blk.kept HR2.out hR trivial) HSZ.out)) ?_
  simp only [Act.put, List.setIfInBounds_toArray, List.set_cons_zero, List.set_cons_succ]
  clear e0 e1 e2
  refine keep_eff rfl ?_
  go_wp2_with fail
  refine (HSG.out w3 HK.out HRR.out).mono ?_
  rintro e w4 ⟨rfl, hb⟩
  have HKe := Lib.hid (show KeptOn (fun _ => True) w3 w4 from KeptOn.below hb (fun b hb _ => hb))
  have HB := Lib.hid (HB.out.trans (hb.mono HB.out.size))
  clear hb
  go_wp2_with fail
  refine keepPost_need HKe.out ?_
  have heq := HQ.out
  iterate 3 (refine keep_quiet (v := ?_) rfl (fun _ _ _ h => h) (by rfl) (fun w' hR => ?_) ?_; rotate_left; (go_simp; try with_reducible rfl); simp only [Act.put, List.setIfInBounds_toArray, List.set_cons_zero, List.set_cons_succ])
  refine keep_done ?_
  clear heq
  go_wp2_with fail
  go_ret
  exact ⟨rfl, HB.out⟩
end Go.Proofs.YtkbcilfcfbfiaaaDoor
