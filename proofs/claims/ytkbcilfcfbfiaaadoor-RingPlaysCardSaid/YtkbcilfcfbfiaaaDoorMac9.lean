/- mac: what must come at any rate; MacTags and MacLabels answer true. -/
import Derived.Test.YtkbcilfcfbfiaaaDoorMac8
import Derived.Test.YtkbcilfcfbfiaaaDoorJefe
namespace Go.Proofs.YtkbcilfcfbfiaaaDoor
open Go.RowKit Go.Proofs
set_option linter.unusedSimpArgs false
set_option linter.unusedVariables false
set_option maxRecDepth 100000 in
set_option maxHeartbeats 2000000 in
theorem awakeM_any (w : World) (hk : Consts w) :
    Calls Tryd.prog 32 #[] w fun e w' => e = .returned (.bool true) ∧ Below w.heap.size w w' := by
  have HK := Lib.hid hk
  clear hk
  go_enter Tryd.func32, Tryd.ntmps32
  go_upto_region 1 with (fail)
  refine wp_region_lit ?_
  iterate 5 go_step
  have hR := RowS.two w (strOf whatW) (strOf forN)
  have HB := Lib.hid ((Below.refl w.heap.size w).alloc (Nat.le_refl _) (.cells #[.string (strOf whatW), .string (strOf forN)] 9))
  change Calls _ _ #[.string (strOf jefe), _] (w.alloc (.cells #[.string (strOf whatW), .string (strOf forN)] 9)) _
  generalize w.alloc (.cells #[.string (strOf whatW), .string (strOf forN)] 9) = w1 at hR HB ⊢
  have hj : joinS [strOf whatW, strOf forN] = whatW ++ forN := by simp [joinS, by_strOf]
  have hc := tag_any (strOf jefe) [strOf whatW, strOf forN] _ w1 (HK.out.below HB.out) (by decide) hR (by rw [hj]; decide) (by simp)
  rw [hj, by_strOf] at hc
  refine hc.mono ?_
  clear hc hj hR
  rintro e w2 ⟨rfl, hb⟩
  have HB := Lib.hid (HB.out.trans (hb.mono HB.out.size))
  clear hb
  have hl := tagOf_length jefe (whatW ++ forN)
  have h3 := jefe_all
  simp only [Prod.mk.injEq] at h3
  obtain ⟨a0, a1, a31⟩ := h3
  generalize tagOf jefe (whatW ++ forN) = D at a0 a1 a31 hl ⊢
  have A0 := Lib.hid a0
  have A1 := Lib.hid a1
  have A31 := Lib.hid a31
  have HL := Lib.hid hl
  clear a0 a1 a31 hl
  dsimp only
  iterate 4 go_step
  change wpList _ _ _ _ _ (w2.alloc (.cells z32 25))
  have hz := Blk.new w2 25 z32
  have hD : (bytesC D).size = 32 := by rw [bytesC_size, HL.out]
  refine wpList_store_mid rfl 25 _ _ rfl w2.heap.size 0 (bytesC D) rfl rfl (hz.there 0 _ (by rw [hD, z32_size]; exact Nat.le_refl _)) (by rw [hD]; kernel_rfl) (bytesC_one _) ?_
  refine wpList_nil ?_
  simp only [Act.put]
  have hz2 := hz.setCells (bytesC D).toList 0
  rw [putAll_all _ _ (by rw [hD, z32_size])] at hz2
  have HB := Lib.hid (Below.setCells' (b := w2.heap.size) (bytesC D).toList HB.out.size 0 (HB.out.alloc HB.out.size (.cells z32 25)))
  clear hz hD
  generalize (w2.alloc (.cells z32 25)).setCells w2.heap.size 0 (bytesC D).toList = w3 at hz2 HB ⊢
  generalize w2.heap.size = g at hz2 ⊢
  have c0 : w3.cell? ⟨g, 0, none⟩ = some (.int .u8 91) := (hz2.cell 0).trans (by unfold bytesC; rw [List.getElem?_toArray, List.getElem?_map, A0.out]; rfl)
  have c1 : w3.cell? ⟨g, 1, none⟩ = some (.int .u8 220) := (hz2.cell 1).trans (by unfold bytesC; rw [List.getElem?_toArray, List.getElem?_map, A1.out]; rfl)
  have c31 : w3.cell? ⟨g, 31, none⟩ = some (.int .u8 67) := (hz2.cell 31).trans (by unfold bytesC; rw [List.getElem?_toArray, List.getElem?_map, A31.out]; rfl)
  clear hz2
  go_wp2_with fail
  clear c0 c1 c31
  have hm := make_any (strOf [107]) (strOf [97]) 1 (by decide) (by decide) w3 (HK.out.below HB.out) (by decide)
  rw [madeOf_ok _ _ _ (by decide)] at hm
  have hl2 : (strOf (tagOf (by_ (strOf [107])) (textOf (by_ (strOf [97])) ++ numOf 1))).size = 32 := by rw [strOf_size, tagOf_length]
  generalize strOf (tagOf (by_ (strOf [107])) (textOf (by_ (strOf [97])) ++ numOf 1)) = S at hm hl2
  refine hm.mono ?_
  clear hm
  rintro e w4 ⟨rfl, hb⟩
  have HB := Lib.hid (HB.out.trans (hb.mono HB.out.size))
  clear hb
  have hl3 : (S.size : Int) = 32 := by omega
  go_wp2_with fail
  go_ret
  exact ⟨rfl, HB.out⟩
set_option maxRecDepth 100000 in
set_option maxHeartbeats 2000000 in
theorem macTags_any (k0 t0 : ByteArray) (n : Int) (h1 : -9223372036854775808 ≤ n) (h2 : n ≤ 9223372036854775807) (w : World) (hk : Consts w) :
    Calls Tryd.prog 8 #[.string k0, .string t0, .int .i64 n] w fun e w' => e = .returned (.bool true) ∧ Below w.heap.size w w' := by
  have HK := Lib.hid hk
  clear hk
  go_enter Tryd.func8, Tryd.ntmps8
  go_wp2_with fail
  refine (few15_any k0 w).mono ?_
  rintro e w1 ⟨rfl, rfl⟩
  have HKS := Lib.hid (few15_size k0)
  generalize few15 k0 = k at HKS ⊢
  go_wp2_with fail
  refine (few15_any t0 w).mono ?_
  rintro e w1 ⟨rfl, rfl⟩
  have HTS := Lib.hid (few15_size t0)
  generalize few15 t0 = t at HTS ⊢
  go_wp2_with fail
  refine (awakeM_any w HK.out).mono ?_
  rintro e w1 ⟨rfl, hb⟩
  have HB := Lib.hid hb
  clear hb
  go_wp2_with fail
  have hR := RowS.one w1 t
  have HB := Lib.hid (HB.out.alloc HB.out.size (.cells #[.string t] 9))
  generalize w1.alloc (.cells #[.string t] 9) = w2 at hR HB ⊢
  have hc := tag_any k [t] _ w2 (HK.out.below HB.out) (by have := HKS.out; omega) hR (by rw [joinS_one, ← by_size]; have := HTS.out; omega) (by simp)
  rw [joinS_one] at hc
  refine hc.mono ?_
  clear hc hR
  rintro e w3 ⟨rfl, hb⟩
  have HB := Lib.hid (HB.out.trans (hb.mono HB.out.size))
  clear hb
  go_wp2_with fail
  refine (rtag_any k t w3 (by have := HKS.out; omega) (by have := HTS.out; omega)).mono ?_
  rintro e w4 ⟨rfl, hb⟩
  have HB := Lib.hid (HB.out.trans (hb.mono HB.out.size))
  clear hb
  have heq := eql_digest (tagOf (by_ k) (by_ t)) (tagOf (by_ k) (by_ t)) (tagOf_length _ _) (tagOf_length _ _) w4
  rw [beq_self_eq_true] at heq
  generalize bytesC (tagOf (by_ k) (by_ t)) = X at heq ⊢
  go_wp2_with fail
  clear heq
  have hm := make_any k t n h1 h2 w4 (HK.out.below HB.out) (by have := HKS.out; omega)
  have HM2 := Lib.hid (fun w => rmake_any k t n h1 h2 w (by have := HKS.out; omega))
  generalize strOf (madeOf (by_ k) (by_ t) n) = S at hm HM2
  refine hm.mono ?_
  clear hm
  rintro e w5 ⟨rfl, hb⟩
  have HB := Lib.hid (HB.out.trans (hb.mono HB.out.size))
  clear hb
  go_wp2_with fail
  refine (HM2.out w5).mono ?_
  rintro e w6 ⟨rfl, hb⟩
  have HB := Lib.hid (HB.out.trans (hb.mono HB.out.size))
  clear hb
  go_wp2_with fail
  go_ret
  exact ⟨rfl, HB.out⟩
set_option maxRecDepth 100000 in
set_option maxHeartbeats 2000000 in
theorem macLabels_any (k0 l : ByteArray) (n : Int) (h1 : -9223372036854775808 ≤ n) (h2 : n ≤ 9223372036854775807) (w : World) (hk : Consts w) :
    Calls Tryd.prog 11 #[.string k0, .string l, .int .i64 n] w fun e w' => e = .returned (.bool true) ∧ Below w.heap.size w w' := by
  have HK := Lib.hid hk
  clear hk
  go_enter Tryd.func11, Tryd.ntmps11
  go_wp2_with fail
  refine (few15_any k0 w).mono ?_
  rintro e w1 ⟨rfl, rfl⟩
  have HKS := Lib.hid (few15_size k0)
  generalize few15 k0 = k at HKS ⊢
  go_wp2_with fail
  have hm := make_any k l n h1 h2 w HK.out (by have := HKS.out; omega)
  by_cases hbig : 16384 < l.size
  · rw [madeOf_big _ _ _ (by rw [← by_size]; exact hbig), show strOf [] = (⟨#[]⟩ : ByteArray) from rfl] at hm
    refine hm.mono ?_
    clear hm
    rintro e w2 ⟨rfl, hb⟩
    have HB := Lib.hid hb
    clear hb
    go_wp2_with fail
    refine (awakeM_any w2 (HK.out.below HB.out)).mono ?_
    rintro e w3 ⟨rfl, hb⟩
    have HB := Lib.hid (HB.out.trans (hb.mono HB.out.size))
    clear hb
    go_wp2_with fail
    go_ret
    exact ⟨rfl, HB.out⟩
  · rw [madeOf_ok _ _ _ (by rw [← by_size]; omega)] at hm
    have hl2 : (strOf (tagOf (by_ k) (textOf (by_ l) ++ numOf n))).size = 32 := by rw [strOf_size, tagOf_length]
    generalize strOf (tagOf (by_ k) (textOf (by_ l) ++ numOf n)) = S at hm hl2
    refine hm.mono ?_
    clear hm
    rintro e w2 ⟨rfl, hb⟩
    have HB := Lib.hid hb
    clear hb
    go_wp2_with fail
    refine (awakeM_any w2 (HK.out.below HB.out)).mono ?_
    rintro e w3 ⟨rfl, hb⟩
    have HB := Lib.hid (HB.out.trans (hb.mono HB.out.size))
    clear hb
    have hl3 : (S.size : Int) = 32 := by omega
    go_wp2_with fail
    go_ret
    exact ⟨rfl, HB.out⟩
end Go.Proofs.YtkbcilfcfbfiaaaDoor
