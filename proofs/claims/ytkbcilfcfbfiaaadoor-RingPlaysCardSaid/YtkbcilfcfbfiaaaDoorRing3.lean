/- A ring: the tag of a line. -/
import Derived.Test.YtkbcilfcfbfiaaaDoorRing2
namespace Go.Proofs.YtkbcilfcfbfiaaaDoor
open Go.RowKit Go.Proofs
set_option linter.unusedSimpArgs false
set_option linter.unusedVariables false
/-- The tag of a line in the rings of a seed. -/
def signOf (sd : ByteArray) (c d : Int) (t : ByteArray) : List UInt8 := tagOf (madeOf (by_ sd) (by_ clientT) c) (numOf d ++ by_ t)
theorem signOf_length (sd : ByteArray) (c d : Int) (t : ByteArray) : (signOf sd c d t).length = 32 := tagOf_length _ _
theorem by_clientT : (by_ clientT).length = 6 := rfl
theorem keyS_size (sd : ByteArray) (j : Nat) : (keyS sd j).size = 32 := by
  unfold keyS
  rw [strOf_size, madeOf_ok _ _ _ (by rw [by_clientT]; omega), tagOf_length]
set_option maxRecDepth 100000 in
set_option maxHeartbeats 4000000 in
theorem sign_any (j : Nat) (d : Int) (t : ByteArray) (r g cap b N : Nat) (sd : ByteArray) (S : List Ln) (w : World) (hk : Consts w) (hR : RingAt w r g cap b sd N S) (hm : MayB N j d t.size) :
    Calls Tryd.prog 76 #[.pointer (some ⟨r, 0, none⟩), .agg #[.int .i64 j, .int .i64 d, .string t]] w fun e w' => e = .returned (.agg (bytesC (signOf sd j d t))) ∧ Below w.heap.size w w' := by
  obtain ⟨hm1, hm2, hm3, hm4, hm5⟩ := hm
  have hN := hR.eight
  go_enter Tryd.func76, Tryd.ntmps76
  go_upto_region 1 with (fail)
  change Code.wp _ _ _ _ ((w.alloc (.cells #[.int .i64 j, .int .i64 d, .string t] 110)).alloc (.cells z32 25))
  have R1 : Blk ((w.alloc (.cells #[.int .i64 j, .int .i64 d, .string t] 110)).alloc (.cells z32 25)) w.heap.size 110 #[.int .i64 j, .int .i64 d, .string t] := (Blk.new w 110 _).alloc _
  have R2 : Blk ((w.alloc (.cells #[.int .i64 j, .int .i64 d, .string t] 110)).alloc (.cells z32 25)) (w.heap.size + 1) 25 z32 := by
    have := Blk.new (w.alloc (.cells #[.int .i64 j, .int .i64 d, .string t] 110)) 25 z32
    rwa [World.size_alloc] at this
  have B : Below w.heap.size w ((w.alloc (.cells #[.int .i64 j, .int .i64 d, .string t] 110)).alloc (.cells z32 25)) := ((Below.refl _ _).alloc (Nat.le_refl _) _).alloc (by simp) _
  have HRR := Lib.hid ((hR.alloc (.cells #[.int .i64 j, .int .i64 d, .string t] 110)).alloc (.cells z32 25))
  have HK := Lib.hid (hk.below B)
  generalize (w.alloc (.cells #[.int .i64 j, .int .i64 d, .string t] 110)).alloc (.cells z32 25) = w2 at R1 R2 B HRR HK ⊢
  have HR2 := Lib.hid R2
  have HB := Lib.hid B
  have HKS := Lib.hid (keyS_size sd j)
  have HSG := Lib.hid (show tagOf (by_ (keyS sd j)) (numOf d ++ by_ t) = signOf sd j d t by unfold keyS signOf; rw [by_strOf])
  have hjN : j < N := by omega
  have hA0 : ∀ w', KeptOn (fun _ => True) w2.drew w' → w'.cell? ⟨w.heap.size, 0, none⟩ = some (.int .i64 j) := fun w' h => h.cell (w := w2.drew) (R1.cell 0) trivial
  have hA1 : ∀ w', KeptOn (fun _ => True) w2.drew w' → w'.cell? ⟨w.heap.size, 1, none⟩ = some (.int .i64 d) := fun w' h => h.cell (w := w2.drew) (R1.cell 1) trivial
  have hA2 : ∀ w', KeptOn (fun _ => True) w2.drew w' → w'.cell? ⟨w.heap.size, 2, none⟩ = some (.string t) := fun w' h => h.cell (w := w2.drew) (R1.cell 2) trivial
  have hG1 : ∀ w', KeptOn (fun _ => True) w2.drew w' → w'.cell? ⟨r, 1, none⟩ = some (.slice (some ⟨g, 0, none⟩) N cap) := fun w' h => h.cell (w := w2.drew) (HRR.out.ring.cell 1) trivial
  have hKy0 : ∀ w', KeptOn (fun _ => True) w2.drew w' → w'.cell? ⟨g, j, none⟩ = some (.string (keyS sd j)) := fun w' h => h.cell (w := w2.drew) (HRR.out.keys j hjN) trivial
  generalize keyS sd j = K at HKS HSG hKy0
  have i1 : (0 : Int) ≤ (j : Int) := by omega
  have i2 : (j : Int) < (N : Int) := by omega
  clear hk hR R1 R2 B
  refine wp_region_keep (KeptOn fun _ => True) (KeptOn.refl _) (KeptOn.trans) [(0,0),(1,0),(2,0),(3,0),(4,0),(5,0),(6,0),(7,0),(8,0),(9,0),(11,0),(12,0),(10,1),(13,1),(14,2),(15,2)] (by kernel_rfl) (by kernel_rfl) ?_
  iterate 12 (refine keep_quiet (v := ?_) rfl (fun _ _ _ h => h) (by rfl) (fun w' hR => ?_) ?_; rotate_left; (go_simp; try with_reducible rfl); simp only [Act.put, List.setIfInBounds_toArray, List.set_cons_zero, List.set_cons_succ])
  clear hA0 hA1 hA2 hG1 hKy0
  refine keep_eff rfl ?_
  go_wp2_with fail
  refine (number_any d (by omega) (by omega) w2.drew).mono ?_
  rintro e w3 ⟨rfl, hb⟩
  have HKe := Lib.hid (show KeptOn (fun _ => True) w2.drew w3 from KeptOn.below hb (fun b hb _ => hb))
  have HR2 := Lib.hid (Blk.below (show Blk w2.drew (w.heap.size + 1) 25 z32 from HR2.out) hb HR2.out.lt)
  have HK := Lib.hid (Consts.below (show Consts w2.drew from HK.out) hb)
  have HB := Lib.hid (Below.trans (show Below w.heap.size w w2.drew from HB.out.drew) (hb.mono HB.out.size))
  have HNL := Lib.hid (numOf_length d (by omega))
  clear hb
  generalize numOf d = U at HNL HSG ⊢
  generalize hUs : strOf U = Us
  have HUs := Lib.hid hUs
  clear hUs
  go_wp2_with fail
  refine keepPost_need HKe.out ?_
  refine keep_eff rfl ?_
  go_wp2_with fail
  refine keepPost_need (KeptOn.alloc _ _) ?_
  have hRS := RowS.two w3 Us t
  have HB := Lib.hid (HB.out.alloc HB.out.size (.cells #[.string Us, .string t] 9))
  have HR2 := Lib.hid (HR2.out.alloc (.cells #[.string Us, .string t] 9))
  have HK := Lib.hid (HK.out.below ((Below.refl w3.heap.size w3).alloc (Nat.le_refl _) (.cells #[.string Us, .string t] 9)))
  generalize w3.alloc (.cells #[.string Us, .string t] 9) = w4 at hRS HB HR2 HK ⊢
  have hj : joinS [Us, t] = U ++ by_ t := by rw [← HUs.out]; simp [joinS, by_strOf]
  have hc := tag_any K [Us, t] _ w4 HK.out (by rw [HKS.out]; omega) hRS (by rw [hj, List.length_append, ← by_size]; have := HNL.out; omega) (by simp)
  rw [hj, HSG.out] at hc
  have hl := signOf_length sd j d t
  generalize hG : signOf sd j d t = G at hc hl ⊢
  have HG := Lib.hid hG
  clear hG
  refine keep_eff rfl ?_
  clear hRS hj
  go_wp2_with fail
  refine hc.mono ?_
  clear hc
  rintro e w5 ⟨rfl, hb⟩
  have HR2 := Lib.hid (HR2.out.below hb HR2.out.lt)
  have HB := Lib.hid (HB.out.trans (hb.mono HB.out.size))
  clear hb
  have hsz : (bytesC G).size = 32 := by rw [bytesC_size, hl]
  have hone := bytesC_one G
  have hi25 : (Tryd.prog.info? 25).map (·.size) = some (bytesC G).size := by rw [hsz]; kernel_rfl
  generalize hX : bytesC G = X at hsz hone hi25 ⊢
  have HX := Lib.hid hX
  clear hX
  clear hl
  go_wp2_with fail
  refine keepPost_free ?_
  refine keep_eff rfl ?_
  refine wpList_store_mid rfl 25 _ _ rfl (w.heap.size + 1) 0 X rfl rfl (HR2.out.there 0 _ (by rw [hsz, z32_size]; exact Nat.le_refl _)) hi25 hone ?_
  have hz := HR2.out.setCells X.toList 0
  rw [putAll_all _ _ (by rw [hsz, z32_size])] at hz
  have B4 := Below.setCells' X.toList (Nat.le_succ _) 0 HB.out
  simp only [Act.put]
  generalize w5.setCells (w.heap.size + 1) 0 X.toList = w6 at hz B4 ⊢
  have HI := Lib.hid hi25
  have HZ := Lib.hid hz
  have HB := Lib.hid B4
  clear hz B4 hi25 hsz hone
  refine wpList_nil ?_
  refine keepPost_free ?_
  refine keep_done ?_
  go_wp2_with fail
  refine bodyPost_ret (v := .agg X) (results_cell_row rfl _ _ (w.heap.size + 1) 25 X _ _ rfl HZ.out Tryd.underlying25 rfl HI.out) rfl ⟨by rw [HG.out, HX.out], HB.out⟩
end Go.Proofs.YtkbcilfcfbfiaaaDoor
