/- A ring: Tag. -/
import Derived.Test.YtkbcilfcfbfiaaaDoorRing3
namespace Go.Proofs.YtkbcilfcfbfiaaaDoor
open Go.RowKit Go.Proofs
set_option linter.unusedSimpArgs false
set_option linter.unusedVariables false
theorem RingAt.only {w w' : World} {r g cap b N q : Nat} {sd : ByteArray} {S : List Ln} (h : RingAt w r g cap b sd N S) (ho : OnlyAt q w w') (h1 : r ≠ q) (h2 : g ≠ q) (h3 : b ≠ q) : RingAt w' r g cap b sd N S :=
  ⟨h.ring.grown ho (fun e => h1 (Option.some.inj e)), fun j hj => (World.cell?_of_block (ho.block g (World.block_lt_of_cell? w _ (h.keys j hj)) (fun e => h2 (Option.some.inj e)))).trans (h.keys j hj),
   h.book.kept ho (fun e => h3 (Option.some.inj e)), h.two, h.eight⟩
theorem grownBy_only {w w' w'' : World} {q : Nat} {row : Option Nat} (h : w.grownBy w' row) (ho : OnlyAt q w' w'') (hq : w.heap.size ≤ q) : w.grownBy w'' row :=
  ⟨ho.os.trans h.os, ho.tape.trans h.tape, ho.output.trans h.output, Nat.le_trans h.size ho.size, fun i hi hr => (ho.block i (Nat.lt_of_lt_of_le hi h.size) (fun e => by have := Option.some.inj e; omega)).trans (h.block i hi hr)⟩
set_option maxRecDepth 100000 in
set_option maxHeartbeats 4000000 in
theorem rtag_nil (c d : Int) (t : ByteArray) (w : World) :
    Calls Tryd.prog 50 #[.pointer none, .int .i64 c, .int .i64 d, .string t] w fun e w' => e = .returned (.tuple #[.agg z32, .int .i64 1]) ∧ Below w.heap.size w w' := by
  go_enter Tryd.func50, Tryd.ntmps50
  go_upto_region 3 with (fail)
  change Code.wp _ _ _ _ ((w.alloc (.cells z32 25)).alloc (.cells #[.int .i64 c, .int .i64 d, .string t] 110))
  have R2 : Blk ((w.alloc (.cells z32 25)).alloc (.cells #[.int .i64 c, .int .i64 d, .string t] 110)) w.heap.size 25 z32 := (Blk.new w 25 z32).alloc _
  have R3 : Blk ((w.alloc (.cells z32 25)).alloc (.cells #[.int .i64 c, .int .i64 d, .string t] 110)) (w.heap.size + 1) 110 #[.int .i64 c, .int .i64 d, .string t] := by
    have := Blk.new (w.alloc (.cells z32 25)) 110 #[.int .i64 c, .int .i64 d, .string t]
    rwa [World.size_alloc] at this
  have B : Below w.heap.size w ((w.alloc (.cells z32 25)).alloc (.cells #[.int .i64 c, .int .i64 d, .string t] 110)) := ((Below.refl _ _).alloc (Nat.le_refl _) _).alloc (by simp) _
  generalize (w.alloc (.cells z32 25)).alloc (.cells #[.int .i64 c, .int .i64 d, .string t] 110) = w2 at R2 R3 B ⊢
  have HR2 := Lib.hid R2
  have HR3 := Lib.hid R3
  have HB := Lib.hid B
  clear R2 R3 B
  have hsz := z32_size
  have hone : z32.all (·.oneCell') = true := bytesC_one _
  have hi25 : (Tryd.prog.info? 25).map (·.size) = some z32.size := by rw [hsz]; kernel_rfl
  refine wp_region_lit ?_
  iterate 3 go_step
  refine wpList_store_mid rfl 25 _ _ rfl w.heap.size 0 z32 rfl rfl (HR2.out.there 0 _ (by rw [z32_size]; exact Nat.le_refl _)) hi25 hone ?_
  have hz := HR2.out.setCells z32.toList 0
  rw [putAll_all _ _ rfl] at hz
  have B4 := Below.setCells' z32.toList (Nat.le_refl _) 0 HB.out
  simp only [Act.put]
  generalize w2.setCells w.heap.size 0 z32.toList = w4 at hz B4 ⊢
  have HI := Lib.hid hi25
  have HZ := Lib.hid hz
  have HB := Lib.hid B4
  clear hz B4 hi25 hsz hone
  go_wp2_with fail
  refine bodyPost_ret (v := .tuple #[  .agg z32, .int .i64 1]) (results_cell_row_tmp rfl _ _ w.heap.size 25 z32 _ _ rfl HZ.out Tryd.underlying25 rfl HI.out (.int .i64 1) rfl) rfl ⟨rfl, HB.out⟩

set_option maxRecDepth 100000 in
set_option maxHeartbeats 4000000 in
theorem rtag_bad (c d : Int) (t : ByteArray) (r g cap b N : Nat) (sd : ByteArray) (S : List Ln) (w : World) (hR : RingAt w r g cap b sd N S) (hm : ¬ MayB N c d t.size) :
    Calls Tryd.prog 50 #[.pointer (some ⟨r, 0, none⟩), .int .i64 c, .int .i64 d, .string t] w fun e w' => e = .returned (.tuple #[.agg z32, .int .i64 2]) ∧ Below w.heap.size w w' := by
  go_enter Tryd.func50, Tryd.ntmps50
  go_upto_region 4 with (fail)
  change Code.wp _ _ _ _ ((w.alloc (.cells z32 25)).alloc (.cells #[.int .i64 c, .int .i64 d, .string t] 110))
  have R2 : Blk ((w.alloc (.cells z32 25)).alloc (.cells #[.int .i64 c, .int .i64 d, .string t] 110)) w.heap.size 25 z32 := (Blk.new w 25 z32).alloc _
  have R3 : Blk ((w.alloc (.cells z32 25)).alloc (.cells #[.int .i64 c, .int .i64 d, .string t] 110)) (w.heap.size + 1) 110 #[.int .i64 c, .int .i64 d, .string t] := by
    have := Blk.new (w.alloc (.cells z32 25)) 110 #[.int .i64 c, .int .i64 d, .string t]
    rwa [World.size_alloc] at this
  have B : Below w.heap.size w ((w.alloc (.cells z32 25)).alloc (.cells #[.int .i64 c, .int .i64 d, .string t] 110)) := ((Below.refl _ _).alloc (Nat.le_refl _) _).alloc (by simp) _
  have HRR := Lib.hid ((hR.alloc (.cells z32 25)).alloc (.cells #[.int .i64 c, .int .i64 d, .string t] 110))
  generalize (w.alloc (.cells z32 25)).alloc (.cells #[.int .i64 c, .int .i64 d, .string t] 110) = w2 at R2 R3 B HRR ⊢
  have HR2 := Lib.hid R2
  have HR3 := Lib.hid R3
  have HB := Lib.hid B
  clear R2 R3 B
  clear hR
  have r0 := HR3.out.cell 0
  have r1 := HR3.out.cell 1
  have r2 := HR3.out.cell 2
  go_wp2_with fail
  have hmay := may_any c d t r g cap b N sd S w2 HRR.out
  rw [decide_eq_false hm] at hmay
  refine hmay.mono ?_
  clear hmay r0 r1 r2
  rintro e w3 ⟨rfl, hb⟩
  have HR2 := Lib.hid (HR2.out.below hb HR2.out.lt)
  have HB := Lib.hid (HB.out.trans (hb.mono HB.out.size))
  clear hb
  go_upto_region 5 with (fail)
  have hsz := z32_size
  have hone : z32.all (·.oneCell') = true := bytesC_one _
  have hi25 : (Tryd.prog.info? 25).map (·.size) = some z32.size := by rw [hsz]; kernel_rfl
  refine wp_region_lit ?_
  iterate 3 go_step
  refine wpList_store_mid rfl 25 _ _ rfl w.heap.size 0 z32 rfl rfl (HR2.out.there 0 _ (by rw [z32_size]; exact Nat.le_refl _)) hi25 hone ?_
  have hz := HR2.out.setCells z32.toList 0
  rw [putAll_all _ _ rfl] at hz
  have B4 := Below.setCells' z32.toList (Nat.le_refl _) 0 HB.out
  simp only [Act.put]
  generalize w3.setCells w.heap.size 0 z32.toList = w4 at hz B4 ⊢
  have HI := Lib.hid hi25
  have HZ := Lib.hid hz
  have HB := Lib.hid B4
  clear hz B4 hi25 hsz hone
  go_wp2_with fail
  refine bodyPost_ret (v := .tuple #[  .agg z32, .int .i64 2]) (results_cell_row_tmp rfl _ _ w.heap.size 25 z32 _ _ rfl HZ.out Tryd.underlying25 rfl HI.out (.int .i64 2) rfl) rfl ⟨rfl, HB.out⟩

set_option maxRecDepth 100000 in
set_option maxHeartbeats 4000000 in
theorem rtag_ok (j : Nat) (d : Int) (t : ByteArray) (r g cap b N : Nat) (sd : ByteArray) (S : List Ln) (w : World) (hk : Consts w) (hR : RingAt w r g cap b sd N S) (hm : MayB N j d t.size) (hS : S.length < 1000) (hb0 : 0 < b) :
    Calls Tryd.prog 50 #[.pointer (some ⟨r, 0, none⟩), .int .i64 j, .int .i64 d, .string t] w fun e w' => e = .returned (.tuple #[.agg (bytesC (signOf sd j d t)), .int .i64 0]) ∧ RingAt w' r g cap b sd N (addL S (ln j d t)) ∧ w.grownBy w' (some b) := by
  go_enter Tryd.func50, Tryd.ntmps50
  go_upto_region 4 with (fail)
  change Code.wp _ _ _ _ ((w.alloc (.cells z32 25)).alloc (.cells #[.int .i64 j, .int .i64 d, .string t] 110))
  have R2 : Blk ((w.alloc (.cells z32 25)).alloc (.cells #[.int .i64 j, .int .i64 d, .string t] 110)) w.heap.size 25 z32 := (Blk.new w 25 z32).alloc _
  have R3 : Blk ((w.alloc (.cells z32 25)).alloc (.cells #[.int .i64 j, .int .i64 d, .string t] 110)) (w.heap.size + 1) 110 #[.int .i64 j, .int .i64 d, .string t] := by
    have := Blk.new (w.alloc (.cells z32 25)) 110 #[.int .i64 j, .int .i64 d, .string t]
    rwa [World.size_alloc] at this
  have B : Below w.heap.size w ((w.alloc (.cells z32 25)).alloc (.cells #[.int .i64 j, .int .i64 d, .string t] 110)) := ((Below.refl _ _).alloc (Nat.le_refl _) _).alloc (by simp) _
  have HRR := Lib.hid ((hR.alloc (.cells z32 25)).alloc (.cells #[.int .i64 j, .int .i64 d, .string t] 110))
  have HK := Lib.hid (hk.below B)
  generalize (w.alloc (.cells z32 25)).alloc (.cells #[.int .i64 j, .int .i64 d, .string t] 110) = w2 at R2 R3 B HRR HK ⊢
  have HBL := Lib.hid hR.book.lt
  have HRL := Lib.hid hR.lt
  have HGL := Lib.hid (World.block_lt_of_cell? w _ (hR.keys 0 (by have := hR.two; omega)))
  have HR2 := Lib.hid R2
  have HR3 := Lib.hid R3
  have HB := Lib.hid B
  clear R2 R3 B
  clear hR
  have r0 := HR3.out.cell 0
  have r1 := HR3.out.cell 1
  have r2 := HR3.out.cell 2
  go_wp2_with fail
  have hmay := may_any j d t r g cap b N sd S w2 HRR.out
  rw [decide_eq_true hm] at hmay
  refine hmay.mono ?_
  clear hmay r0 r1 r2
  rintro e w3 ⟨rfl, hb⟩
  have HRR := Lib.hid (HRR.out.below hb)
  have HK := Lib.hid (HK.out.below hb)
  have HR3 := Lib.hid (HR3.out.below hb HR3.out.lt)
  have HR2 := Lib.hid (HR2.out.below hb HR2.out.lt)
  have HB := Lib.hid (HB.out.trans (hb.mono HB.out.size))
  clear hb
  go_upto_region 6 with (fail)
  obtain ⟨w4, hrun, hBk, hgr⟩ := BookAt.store (show BookAt w3.drew b S from HRR.out.book) (by unfold maxLen; omega) (c := j) (d := d) (t := t) ⟨by have := hm.1; omega, by have := hm.2.1; have := HRR.out.eight; omega⟩ ⟨by have := hm.2.2.1; omega, by have := hm.2.2.2.1; omega⟩ (by have := hm.2.2.2.2; unfold maxLen; omega)
  have r0 := HR3.out.cell 0
  have r1 := HR3.out.cell 1
  have r2 := HR3.out.cell 2
  have q2 := HRR.out.ring.cell 2
  have e0 : ∀ w', KeptOn (fun _ => True) w3.drew w' → w'.cell? ⟨w.heap.size + 1, 0, none⟩ = some (.int .i64 j) := fun w' h => h.cell (w := w3.drew) r0 trivial
  have e1 : ∀ w', KeptOn (fun _ => True) w3.drew w' → w'.cell? ⟨w.heap.size + 1, 1, none⟩ = some (.int .i64 d) := fun w' h => h.cell (w := w3.drew) r1 trivial
  have e2 : ∀ w', KeptOn (fun _ => True) w3.drew w' → w'.cell? ⟨w.heap.size + 1, 2, none⟩ = some (.string t) := fun w' h => h.cell (w := w3.drew) r2 trivial
  have e3 : ∀ w', KeptOn (fun _ => True) w3.drew w' → w'.cell? ⟨r, 2, none⟩ = some (.map (some b)) := fun w' h => h.cell (w := w3.drew) q2 trivial
  clear r0 r1 r2 q2
  refine wp_region_keep (KeptOn fun _ => True) (KeptOn.refl _) (KeptOn.trans) [(0,0),(1,0),(2,0),(3,0),(4,0),(5,2)] (by kernel_rfl) (by kernel_rfl) ?_
  iterate 5 (refine keep_quiet (v := ?_) rfl (fun _ _ _ h => h) (by rfl) (fun w' hR => ?_) ?_; rotate_left; (go_simp; try with_reducible rfl); simp only [Act.put, List.setIfInBounds_toArray, List.set_cons_zero, List.set_cons_succ])
  clear e0 e1 e2 e3
  refine keep_eff rfl ?_
  go_wp2_with fail
  refine keepPost_free ?_
  refine keep_done ?_
  have HRR4 := Lib.hid (RingAt.stored HRR.out.drew hgr hBk)
  have HK4 := Lib.hid (show Consts w4 from Consts.only (show Consts w3.drew from HK.out) ⟨hgr.os, hgr.tape, hgr.output, hgr.size, hgr.block⟩ hb0)
  have HR24 := Lib.hid (Blk.grown (show Blk w3.drew w.heap.size 25 z32 from HR2.out) hgr (by intro e; have := HBL.out; have := Option.some.inj e; omega))
  have HR34 := Lib.hid (Blk.grown (show Blk w3.drew (w.heap.size + 1) 110 _ from HR3.out) hgr (by intro e; have := HBL.out; have := Option.some.inj e; omega))
  have HB3 := Lib.hid (show Below w.heap.size w w3.drew from HB.out.drewN 1)
  have HGR := Lib.hid hgr
  clear hrun hBk hgr
  have r0 := HR34.out.cell 0
  have r1 := HR34.out.cell 1
  have r2 := HR34.out.cell 2
  go_wp2_with fail
  refine (sign_any j d t r g cap b N sd _ w4 HK4.out HRR4.out hm).mono ?_
  clear r0 r1 r2
  rintro e w5 ⟨rfl, hb⟩
  have HR25 := Lib.hid (HR24.out.below hb HR24.out.lt)
  have HRR5 := Lib.hid (HRR4.out.below hb)
  have hG5 : w.grownBy w5 (some b) := grownBy_trans (grownBy_some (grownBy_of_below HB3.out none) (some b)) (grownBy_trans HGR.out (grownBy_some (grownBy_of_below hb none) (some b)))
  have HG5 := Lib.hid hG5
  have HBS := Lib.hid (show w.heap.size < w5.heap.size from HR25.out.lt)
  clear hb hG5
  have hl := signOf_length sd j d t
  generalize hG : signOf sd j d t = G at hl ⊢
  have HG := Lib.hid hG
  clear hG
  have hsz : (bytesC G).size = 32 := by rw [bytesC_size, hl]
  have hone := bytesC_one G
  have hi25 : (Tryd.prog.info? 25).map (·.size) = some (bytesC G).size := by rw [hsz]; kernel_rfl
  generalize hX : bytesC G = X at hsz hone hi25 ⊢
  have HX := Lib.hid hX
  clear hX hl
  dsimp only
  go_step
  refine wpList_store_mid rfl 25 _ _ rfl w.heap.size 0 X rfl rfl (HR25.out.there 0 _ (by rw [hsz, z32_size]; exact Nat.le_refl _)) hi25 hone ?_
  have hz := HR25.out.setCells X.toList 0
  rw [putAll_all _ _ (by rw [hsz, z32_size])] at hz
  have ho := only_setCells w5 w.heap.size 0 X.toList
  simp only [Act.put]
  generalize w5.setCells w.heap.size 0 X.toList = w6 at hz ho ⊢
  have HI := Lib.hid hi25
  have HZ := Lib.hid hz
  have HO := Lib.hid ho
  clear hz ho hi25 hsz hone
  go_wp2_with fail
  refine bodyPost_ret (v := .tuple #[.agg X, .int .i64 0]) (results_cell_row_tmp rfl _ _ w.heap.size 25 X _ _ rfl HZ.out Tryd.underlying25 rfl HI.out (.int .i64 0) rfl) rfl ⟨by rw [HG.out, HX.out], ?_, ?_⟩
  · exact HRR5.out.only HO.out (by have := HRL.out; omega) (by have := HGL.out; omega) (by have := HBL.out; omega)
  · exact grownBy_only HG5.out HO.out (Nat.le_refl _)
end Go.Proofs.YtkbcilfcfbfiaaaDoor
