/- A key is filled up to a block. -/
import Derived.Test.YtkbcilfcfbfiaaaDoorMac1
import Derived.Test.YtkbcilfcfbfiaaaDoorFew
import Derived.Test.YtkbcilfcfbfiaaaDoorTag
import Derived.Laws.Concat
namespace Go.Proofs.YtkbcilfcfbfiaaaDoor
open Go.RowKit Go.Proofs
set_option linter.unusedSimpArgs false
set_option linter.unusedVariables false
def zK : Array Value := bytesC (List.replicate 64 0)
theorem zK_size : zK.size = 64 := by unfold zK; rw [bytesC_size, List.length_replicate]
theorem put_zeros (k : List UInt8) (h : k.length ≤ 64) : putAll zK 0 (k.map bb) = bytesC (k ++ List.replicate (64 - k.length) 0) := by
  have hr : ∀ (l : List UInt8) (i : Nat), (bytesC l)[i]? = (l[i]?).map bb := fun l i => by unfold bytesC; rw [List.getElem?_toArray, List.getElem?_map]
  refine Array.ext_getElem? fun i => ?_
  rw [putAll_get _ _ _ _ (by rw [zK_size, List.length_map]; omega), List.length_map, hr, Nat.zero_add, Nat.sub_zero]
  by_cases hi : i < k.length
  · rw [if_pos ⟨Nat.zero_le _, hi⟩, List.getElem?_append_left hi, List.getElem?_map]
  · rw [if_neg (by omega), List.getElem?_append_right (by omega)]
    unfold zK
    rw [hr, List.getElem?_replicate, List.getElem?_replicate]
    by_cases h64 : i < 64
    · rw [if_pos h64, if_pos (by omega)]
    · rw [if_neg h64, if_neg (by omega)]
set_option maxRecDepth 100000 in
set_option maxHeartbeats 2000000 in
theorem of_any (t : ByteArray) (w : World) (hk : Consts w) (hn : t.size < 150000000000000) :
    Calls Tryd.prog 64 #[.string t] w fun e w' => e = .returned (.agg (bytesC (blockOf (by_ t)))) ∧ Below w.heap.size w w' := by
  have HK := Lib.hid hk
  have HN := Lib.hid hn
  clear hk hn
  go_enter Tryd.func64, Tryd.ntmps64
  go_upto_region 2 with (fail)
  change Code.wp _ _ _ _ ((w.alloc (.cells zK 97)).alloc (.cells zK 97))
  have R2 : Blk ((w.alloc (.cells zK 97)).alloc (.cells zK 97)) w.heap.size 97 zK := (Blk.new w 97 zK).alloc _
  have R3 : Blk ((w.alloc (.cells zK 97)).alloc (.cells zK 97)) (w.heap.size + 1) 97 zK := by
    have := Blk.new (w.alloc (.cells zK 97)) 97 zK
    rwa [World.size_alloc] at this
  have B : Below w.heap.size w ((w.alloc (.cells zK 97)).alloc (.cells zK 97)) := ((Below.refl _ _).alloc (Nat.le_refl _) _).alloc (by simp) _
  generalize (w.alloc (.cells zK 97)).alloc (.cells zK 97) = w2 at R2 R3 B ⊢
  have HR2 := Lib.hid R2
  have HR3 := Lib.hid R3
  have HB := Lib.hid B
  clear R2 R3 B
  by_cases h64 : 64 < t.size
  · go_wp2_with fail
    refine (sum_any t w2 (HK.out.below HB.out) HN.out).mono ?_
    rintro e w3 ⟨rfl, hb⟩
    have HR2 := Lib.hid (HR2.out.below hb HR2.out.lt)
    have HR3 := Lib.hid (HR3.out.below hb HR3.out.lt)
    have HB := Lib.hid (HB.out.trans (hb.mono HB.out.size))
    clear hb
    have hb_ := bytes_any (sumOf (by_ t)) (sumOf_length _) w3
    have hD := sumOf_length (by_ t)
    have he : blockOf (by_ t) = by_ (strOf (sumOf (by_ t))) ++ List.replicate (64 - (by_ (strOf (sumOf (by_ t)))).length) 0 := by
      rw [by_strOf]; unfold blockOf keyOf; rw [by_size] at h64; rw [if_pos h64]
    generalize hkv : strOf (sumOf (by_ t)) = kv at hb_ he ⊢
    generalize bytesC (sumOf (by_ t)) = D at hb_ ⊢
    have hl : (by_ kv).length ≤ 64 := by
      rw [← hkv, by_strOf, hD]; omega
    have HL := Lib.hid hl
    have HE := Lib.hid he
    clear hl he hkv hD
    go_wp2_with fail
    refine hb_.mono ?_
    clear hb_
    rintro e w4 ⟨rfl, hb⟩
    have HR2 := Lib.hid (HR2.out.below hb HR2.out.lt)
    have HR3 := Lib.hid (HR3.out.below hb HR3.out.lt)
    have HB := Lib.hid (HB.out.trans (hb.mono HB.out.size))
    clear hb
    go_upto_region 4 with (fail)
    refine wp_region_lit ?_
    iterate 6 go_step
    have hrun := run_copy_cut (P := Tryd.prog) w4 29 9 3 5 (w.heap.size + 1) 0 64 64 kv.size kv Tryd.underlying29 size5 (Nat.min_eq_left (by rw [by_size]; exact HL.out)).symm (HR3.out.there 0 _ (by rw [zK_size, by_size]; have := HL.out; omega))
    refine wpList_copyIs rfl _ _ 29 9 rfl _ _ rfl rfl hrun ?_
    clear hrun
    change wpList _ _ _ _ _ (w4.setCells (w.heap.size + 1) 0 (((by_ kv).take kv.size).map bb))
    rw [List.take_of_length_le (by rw [by_size]; exact Nat.le_refl _)]
    have h3 := HR3.out.setCells ((by_ kv).map bb) 0
    rw [put_zeros _ HL.out, ← HE.out] at h3
    have h2 := HR2.out.setCells_far (b := w.heap.size + 1) ((by_ kv).map bb) (by omega) 0
    have hB := Below.setCells' (b := w.heap.size + 1) ((by_ kv).map bb) (by omega) 0 HB.out
    generalize w4.setCells (w.heap.size + 1) 0 ((by_ kv).map bb) = w3 at h2 h3 hB ⊢
    have hsz : (bytesC (blockOf (by_ t))).size = 64 := by rw [bytesC_size, blockOf_length]
    have hone := bytesC_one (blockOf (by_ t))
    generalize hX : bytesC (blockOf (by_ t)) = X at h3 hsz hone ⊢
    have HX := Lib.hid hX
    have hi97 : (Tryd.prog.info? 97).map (·.size) = some X.size := by rw [hsz]; kernel_rfl
    clear HR2 HR3 HB HE hX
    refine wpList_nil ?_
    simp only [Act.put]
    go_upto_region 5 with (fail)
    refine wp_region_lit ?_
    refine wpList_load_row rfl 97 _ rfl (w.heap.size + 1) rfl 97 X _ _ h3 Tryd.underlying97 rfl hi97 ?_
    refine wpList_store_mid rfl 97 _ _ rfl w.heap.size 0 X rfl rfl (h2.there 0 _ (by rw [hsz, zK_size]; exact Nat.le_refl _)) hi97 hone ?_
    refine wpList_nil ?_
    simp only [Act.put]
    have hz := h2.setCells X.toList 0
    rw [putAll_all _ _ (by rw [hsz, zK_size])] at hz
    have B4 := Below.setCells' X.toList (Nat.le_refl _) 0 hB
    generalize w3.setCells w.heap.size 0 X.toList = w4 at hz B4 ⊢
    have HI := Lib.hid hi97
    have HZ := Lib.hid hz
    have HB := Lib.hid B4
    clear hz B4 hi97 hsz hone h2 h3 hB
    go_wp2_with fail
    refine bodyPost_ret (v := .agg X) (results_cell_row rfl _ _ w.heap.size 97 X _ _ rfl HZ.out Tryd.underlying97 rfl HI.out) rfl ⟨by rw [HX.out], HB.out⟩
  · have hl : (by_ t).length ≤ 64 := by rw [← by_size]; omega
    have he : blockOf (by_ t) = by_ t ++ List.replicate (64 - (by_ t).length) 0 := by
      unfold blockOf keyOf; rw [if_neg (by omega)]
    have HL := Lib.hid hl
    have HE := Lib.hid he
    clear hl he
    go_upto_region 4 with (fail)
    refine wp_region_lit ?_
    iterate 6 go_step
    have hrun := run_copy_cut (P := Tryd.prog) w2 29 9 3 5 (w.heap.size + 1) 0 64 64 t.size t Tryd.underlying29 size5 (Nat.min_eq_left (by rw [by_size]; exact HL.out)).symm (HR3.out.there 0 _ (by rw [zK_size, by_size]; have := HL.out; omega))
    refine wpList_copyIs rfl _ _ 29 9 rfl _ _ rfl rfl hrun ?_
    clear hrun
    change wpList _ _ _ _ _ (w2.setCells (w.heap.size + 1) 0 (((by_ t).take t.size).map bb))
    rw [List.take_of_length_le (by rw [by_size]; exact Nat.le_refl _)]
    have h3 := HR3.out.setCells ((by_ t).map bb) 0
    rw [put_zeros _ HL.out, ← HE.out] at h3
    have h2 := HR2.out.setCells_far (b := w.heap.size + 1) ((by_ t).map bb) (by omega) 0
    have hB := Below.setCells' (b := w.heap.size + 1) ((by_ t).map bb) (by omega) 0 HB.out
    generalize w2.setCells (w.heap.size + 1) 0 ((by_ t).map bb) = w3 at h2 h3 hB ⊢
    have hsz : (bytesC (blockOf (by_ t))).size = 64 := by rw [bytesC_size, blockOf_length]
    have hone := bytesC_one (blockOf (by_ t))
    generalize hX : bytesC (blockOf (by_ t)) = X at h3 hsz hone ⊢
    have HX := Lib.hid hX
    have hi97 : (Tryd.prog.info? 97).map (·.size) = some X.size := by rw [hsz]; kernel_rfl
    clear HR2 HR3 HB HE hX
    refine wpList_nil ?_
    simp only [Act.put]
    go_upto_region 5 with (fail)
    refine wp_region_lit ?_
    refine wpList_load_row rfl 97 _ rfl (w.heap.size + 1) rfl 97 X _ _ h3 Tryd.underlying97 rfl hi97 ?_
    refine wpList_store_mid rfl 97 _ _ rfl w.heap.size 0 X rfl rfl (h2.there 0 _ (by rw [hsz, zK_size]; exact Nat.le_refl _)) hi97 hone ?_
    refine wpList_nil ?_
    simp only [Act.put]
    have hz := h2.setCells X.toList 0
    rw [putAll_all _ _ (by rw [hsz, zK_size])] at hz
    have B4 := Below.setCells' X.toList (Nat.le_refl _) 0 hB
    generalize w3.setCells w.heap.size 0 X.toList = w4 at hz B4 ⊢
    have HI := Lib.hid hi97
    have HZ := Lib.hid hz
    have HB := Lib.hid B4
    clear hz B4 hi97 hsz hone h2 h3 hB
    go_wp2_with fail
    refine bodyPost_ret (v := .agg X) (results_cell_row rfl _ _ w.heap.size 97 X _ _ rfl HZ.out Tryd.underlying97 rfl HI.out) rfl ⟨by rw [HX.out], HB.out⟩
end Go.Proofs.YtkbcilfcfbfiaaaDoor
