/- MacLong answers true. -/
import Derived.Test.YtkbcilfcfbfiaaaDoorMac9
namespace Go.Proofs.YtkbcilfcfbfiaaaDoor
open Go.RowKit Go.Proofs
set_option linter.unusedSimpArgs false
set_option linter.unusedVariables false
theorem rep_push (k : List UInt8) (j : Nat) : (k ++ List.replicate j 0).map bb ++ [bb 0] = (k ++ List.replicate (j + 1) 0).map bb := by
  rw [List.replicate_succ', ← List.append_assoc, List.map_append (l₁ := k ++ List.replicate j 0)]; rfl
set_option maxRecDepth 100000 in
set_option maxHeartbeats 4000000 in
theorem macLong_any (k0 t0 : ByteArray) (n : Nat) (hn : n < 256) (w : World) (hk : Consts w) :
    Calls Tryd.prog 10 #[.string k0, .string t0, .int .u8 (n : Int)] w fun e w' => e = .returned (.bool true) ∧ Below w.heap.size w w' := by
  have HK := Lib.hid hk
  clear hk
  go_enter Tryd.func10, Tryd.ntmps10
  go_wp2_with fail
  refine (few15_any k0 w).mono ?_
  rintro e w1 ⟨rfl, rfl⟩
  have HKS := Lib.hid (few15_size k0)
  generalize few15 k0 = k at HKS ⊢
  go_wp2_with fail
  refine (few15_any t0 w).mono ?_
  rintro e w1 ⟨rfl, rfl⟩
  have HTS := Lib.hid (few15_size t0)
  generalize few15 t0 = t at HTS ⊢
  by_cases h64 : 64 < k.size
  · go_wp2_with fail
    refine (awakeM_any w HK.out).mono ?_
    rintro e w1 ⟨rfl, hb⟩
    have HB := Lib.hid hb
    clear hb
    go_wp2_with fail
    have hR := RowS.one w1 t
    have HB := Lib.hid (HB.out.alloc HB.out.size (.cells #[.string t] 9))
    generalize w1.alloc (.cells #[.string t] 9) = w2 at hR HB ⊢
    have hc := tag_any k [t] _ w2 (HK.out.below HB.out) (by have := HKS.out; omega) hR (by rw [joinS_one, ← by_size]; have := HTS.out; omega) (by simp)
    rw [joinS_one] at hc
    refine hc.mono ?_
    clear hc hR
    rintro e w3 ⟨rfl, hb⟩
    have HB := Lib.hid (HB.out.trans (hb.mono HB.out.size))
    clear hb
    go_wp2_with fail
    refine (rsum_any k w3 (by have := HKS.out; omega)).mono ?_
    rintro e w4 ⟨rfl, hb⟩
    have HB := Lib.hid (HB.out.trans (hb.mono HB.out.size))
    clear hb
    have HTL := Lib.hid (tagOf_long (by_ k) (by_ t) (by rw [← by_size]; exact h64))
    have hD := sumOf_length (by_ k)
    generalize sumOf (by_ k) = D at hD HTL ⊢
    have hby := rbytes_any D hD w4
    have HD := Lib.hid hD
    clear hD
    generalize bytesC D = XD at hby ⊢
    generalize hS : strOf D = S at hby
    have HS := Lib.hid hS
    clear hS
    go_wp2_with fail
    refine hby.mono ?_
    clear hby
    rintro e w5 ⟨rfl, hb⟩
    have HB := Lib.hid (HB.out.trans (hb.mono HB.out.size))
    clear hb
    go_wp2_with fail
    have hR := RowS.one w5 t
    have HB := Lib.hid (HB.out.alloc HB.out.size (.cells #[.string t] 9))
    generalize w5.alloc (.cells #[.string t] 9) = w6 at hR HB ⊢
    have hc := tag_any S [t] _ w6 (HK.out.below HB.out) (by rw [← HS.out, strOf_size, HD.out]; decide) hR (by rw [joinS_one, ← by_size]; have := HTS.out; omega) (by simp)
    rw [joinS_one, ← HS.out, by_strOf, HTL.out, HS.out] at hc
    refine hc.mono ?_
    clear hc hR
    rintro e w7 ⟨rfl, hb⟩
    have HB := Lib.hid (HB.out.trans (hb.mono HB.out.size))
    clear hb
    have heq := eql_digest (tagOf (by_ k) (by_ t)) (tagOf (by_ k) (by_ t)) (tagOf_length _ _) (tagOf_length _ _) w7
    rw [beq_self_eq_true] at heq
    generalize bytesC (tagOf (by_ k) (by_ t)) = X at heq ⊢
    go_wp2_with fail
    go_ret
    exact ⟨rfl, HB.out⟩
  · go_upto_region 4 with (fail)
    refine wp_region_lit ?_
    iterate 3 go_step
    obtain ⟨v1, w1, hr, hO, hG⟩ := conv_own w k (by have := HKS.out; simp only [maxLen]; omega)
    refine wpList_runIs rfl v1 w1 (execConvert 9 29 _ rfl (p := .string k) rfl hr) ?_
    clear hr
    have HO := Lib.hid (show Own1 w1 w.heap.size 5 v1 (k.size + 0) ((by_ k ++ List.replicate 0 0).map bb) by simpa using hO)
    have HB := Lib.hid (below_of_grown (B := w.heap.size) hG (Nat.le_refl _))
    clear hO hG
    simp only [Act.put]
    go_wp2_with fail
    have hm : n % 65 ≤ 64 := by omega
    go_loopw [7] (fun v7 wr => ∃ j : Nat, (j = 0 ∨ k.size + j ≤ 64) ∧ j ≤ 64 ∧ Own1 wr w.heap.size 5 v7 (k.size + j) ((by_ k ++ List.replicate j 0).map bb) ∧ Below w.heap.size w wr) (fun v7 _ => 200 - slLen v7)
    case atStart => exact ⟨0, .inl rfl, by omega, HO.out, HB.out⟩
    case round =>
      obtain ⟨j, hj, hj64, hO, hB⟩ := hrel
      clear HO HB
      have HO := Lib.hid hO
      have HB := Lib.hid hB
      have HZ := Lib.hid (tagOf_zeros (by_ k) (by_ t) j (by rw [← by_size]; omega))
      obtain ⟨_, g, cap, cur, fz, rfl, _⟩ := hO
      clear hB
      generalize hN : k.size + j = NN at HO
      by_cases hlt : k.size + j < n % 65
      · have i1 : (NN : Int) < (n : Int) % 65 := by omega
        have HNN := Lib.hid hN
        clear hN
        go_upto_region 6 with (fail)
        refine wp_region_lit ?_
        iterate 6 go_step
        refine wpList_append_byte rfl _ _ rfl w.heap.size (.slice (some ⟨g, 0, none⟩) NN cap) NN _ rfl HO.out (bb 0) rfl rfl (by omega) HB.out.size ?_
        intro v2 w4 hO hG
        have HB := Lib.hid (HB.out.grown hG HB.out.size (fun k hk => (HO.out.lt _ hk).1))
        rw [rep_push] at hO
        have hsl : slLen v2 = NN + 1 := by obtain ⟨_, _, _, _, _, rfl, _⟩ := hO; rfl
        have HO := Lib.hid hO
        clear hO hG
        simp only [Act.put]
        go_wp2_with fail
        go_roundw
        case rel => exact ⟨j + 1, .inr (by have := HNN.out; omega), by have := HNN.out; omega, by rw [show k.size + (j + 1) = NN + 1 by have := HNN.out; omega]; exact HO.out, HB.out⟩
        case measure =>
          show 200 - slLen v2 < 200 - NN
          rw [hsl]; omega
      · have i1 : ¬ ((NN : Int) < (n : Int) % 65) := by omega
        have HNN := Lib.hid hN
        clear hlt hN
        go_wp2_with fail
        refine (awakeM_any wr (HK.out.below HB.out)).mono ?_
        rintro e w1 ⟨rfl, hb⟩
        have HB := Lib.hid (HB.out.trans (hb.mono HB.out.size))
        have hO := HO.out.kept (grownBy_of_below hb none) (.inr rfl)
        clear hb
        have hlen := hO.1
        rw [List.length_map] at hlen
        have hO2 : OwnB w1 w.heap.size (.slice (some ⟨g, 0, none⟩) NN cap) (by_ k ++ List.replicate j 0) := .inr (by rw [hlen]; exact hO)
        have hst := ownB_string hO2
        have hsz : (strOf (by_ k ++ List.replicate j 0)).size < 100000000 := by rw [strOf_size, hlen]; have := HKS.out; have := HNN.out; omega
        change (convert 29 9 _).run _ _ = .ok (.string (strOf (by_ k ++ List.replicate j 0))) _ at hst
        have htg := tag_any (strOf (by_ k ++ List.replicate j 0)) [t]
        rw [by_strOf, joinS_one, HZ.out] at htg
        generalize strOf (by_ k ++ List.replicate j 0) = S at hst hsz htg
        have HSZ := Lib.hid hsz
        have HTG := Lib.hid htg
        clear hO2 hO hlen hsz htg HO HZ
        go_wp2_with fail
        clear hst
        have hR := RowS.one w1 t
        have HB := Lib.hid (HB.out.alloc HB.out.size (.cells #[.string t] 9))
        generalize w1.alloc (.cells #[.string t] 9) = w2 at hR HB ⊢
        refine (HTG.out _ w2 (HK.out.below HB.out) HSZ.out hR (by rw [← by_size]; have := HTS.out; omega) (by simp)).mono ?_
        clear hR
        rintro e w3 ⟨rfl, hb⟩
        have HB := Lib.hid (HB.out.trans (hb.mono HB.out.size))
        clear hb
        go_wp2_with fail
        have hR := RowS.one w3 t
        have HB := Lib.hid (HB.out.alloc HB.out.size (.cells #[.string t] 9))
        generalize w3.alloc (.cells #[.string t] 9) = w4 at hR HB ⊢
        have hc := tag_any k [t] _ w4 (HK.out.below HB.out) (by have := HKS.out; omega) hR (by rw [joinS_one, ← by_size]; have := HTS.out; omega) (by simp)
        rw [joinS_one] at hc
        refine hc.mono ?_
        clear hc hR
        rintro e w5 ⟨rfl, hb⟩
        have HB := Lib.hid (HB.out.trans (hb.mono HB.out.size))
        clear hb
        have heq := eql_digest (tagOf (by_ k) (by_ t)) (tagOf (by_ k) (by_ t)) (tagOf_length _ _) (tagOf_length _ _) w5
        rw [beq_self_eq_true] at heq
        generalize bytesC (tagOf (by_ k) (by_ t)) = X at heq ⊢
        go_wp2_with fail
        go_ret
        exact ⟨rfl, HB.out⟩
end Go.Proofs.YtkbcilfcfbfiaaaDoor
