/- The sum of a string. -/
import Derived.Test.YtkbcilfcfbfiaaaDoorSumm
namespace Go.Proofs.YtkbcilfcfbfiaaaDoor
open Go.RowKit Go.Proofs
set_option linter.unusedSimpArgs false
set_option linter.unusedVariables false

set_option maxRecDepth 100000 in
set_option maxHeartbeats 2000000 in
theorem sum_any (t : ByteArray) (w : World) (hk : Consts w) (hn : t.size < 150000000000000) :
    Calls Tryd.prog 25 #[.string t] w fun e w' => e = .returned (.agg (bytesC (sumOf (by_ t)))) ∧ Below w.heap.size w w' := by
  have HK := Lib.hid hk
  have HN := Lib.hid hn
  clear hk hn
  go_enter Tryd.func25, Tryd.ntmps25
  go_upto_region 1 with (fail)
  change Code.wp _ _ _ _ (w.alloc (.cells z32 25))
  have R2 : Blk (w.alloc (.cells z32 25)) w.heap.size 25 z32 := Blk.new w 25 z32
  have B : Below w.heap.size w (w.alloc (.cells z32 25)) := (Below.refl _ _).alloc (Nat.le_refl _) _
  have hs2 : (w.alloc (.cells z32 25)).heap.size = w.heap.size + 1 := by simp
  generalize w.alloc (.cells z32 25) = w2 at R2 B hs2 ⊢
  have H2 := Lib.hid R2
  have HB := Lib.hid B
  have HS := Lib.hid hs2
  clear R2 B hs2
  go_wp2_with fail
  refine (new_any w2).mono ?_
  rintro e w3 ⟨rfl, hH, hl, hb⟩
  rw [HS.out] at hH hl hb
  rw [HS.out]
  have HH := Lib.hid hH
  have H2 := Lib.hid (H2.out.below hb (by omega))
  have HB := Lib.hid (HB.out.trans (hb.mono (by omega)))
  clear hH hb hl
  go_wp2_with fail
  refine (add_any (w.heap.size + 1) (by omega) [] t w3 (HK.out.below HB.out) HH.out (by have := HN.out; simp; omega)).mono ?_
  rintro e w4 ⟨rfl, hH, hO⟩
  have HH := Lib.hid (show Holds w4 (w.heap.size + 1) (by_ t) from by simpa using hH)
  have H2 := Lib.hid (H2.out.grown hO (by intro e; have := Option.some.inj e; omega))
  have HB := Lib.hid (HB.out.grown hO HB.out.size (by intro k e; have := Option.some.inj e; omega))
  clear hH hO
  go_upto_region 3 with (fail)
  refine wp_region_lit ?_
  iterate 5 go_step
  refine (summ_any (w.heap.size + 1) (by omega) (by_ t) w4 (HK.out.below HB.out) HH.out (by have := HN.out; rw [by_size] at this; omega)).mono ?_
  rintro e w5 ⟨rfl, hb⟩
  have H2 := Lib.hid (H2.out.below hb H2.out.lt)
  have HB := Lib.hid (HB.out.trans (hb.mono HB.out.size))
  clear hb
  have hD : (bytesC (sumOf (by_ t))).size = 32 := by rw [bytesC_size]; exact dg_length _
  have hDone := bytesC_one (sumOf (by_ t))
  generalize hDD : bytesC (sumOf (by_ t)) = D at hD hDone ⊢
  have HDD := Lib.hid hDD
  clear hDD
  have hi25 : (Tryd.prog.info? 25).map (·.size) = some D.size := by rw [hD]; kernel_rfl
  dsimp only
  go_step
  refine wpList_store_mid rfl 25 _ _ rfl w.heap.size 0 D rfl rfl (H2.out.there 0 _ (by rw [hD, z32_size]; exact Nat.le_refl _)) hi25 hDone ?_
  refine wpList_nil ?_
  simp only [Act.put]
  have hz := H2.out.setCells D.toList 0
  rw [putAll_all _ _ (by rw [hD, z32_size])] at hz
  have B3 := Below.setCells' D.toList (Nat.le_refl _) 0 HB.out
  have HI := Lib.hid hi25
  clear hi25 hDone hD
  generalize w5.setCells w.heap.size 0 D.toList = w9 at hz B3 ⊢
  have HZ := Lib.hid hz
  have HB9 := Lib.hid B3
  clear hz B3
  go_wp2_with fail
  refine bodyPost_ret (v := .agg D) (results_cell_row rfl _ _ w.heap.size 25 D _ _ rfl HZ.out Tryd.underlying25 rfl HI.out) rfl ⟨by rw [HDD.out], HB9.out⟩
end Go.Proofs.YtkbcilfcfbfiaaaDoor
