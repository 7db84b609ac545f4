/- The reference's tag. -/
import Derived.Test.YtkbcilfcfbfiaaaDoorMac4
namespace Go.Proofs.YtkbcilfcfbfiaaaDoor
open Go.RowKit Go.Proofs
set_option linter.unusedSimpArgs false
set_option linter.unusedVariables false
/-- A filled-up key's byte. -/
theorem block_get (kv : ByteArray) (i : Nat) (h : i < 64) (hl : kv.size ≤ 64) : (by_ kv ++ List.replicate (64 - (by_ kv).length) 0).getD i 0 = if i < kv.size then (by_ kv).getD i 0 else 0 := by
  rw [List.getD_eq_getElem?_getD, by_size]
  rw [by_size] at hl
  split
  · rw [List.getElem?_append_left (by assumption), List.getD_eq_getElem?_getD]
  · rw [List.getElem?_append_right (by omega), List.getElem?_replicate, if_pos (by omega)]; rfl
theorem by_at (kv : ByteArray) (i : Nat) (h : i < kv.size) : (by_ kv).getD i 0 = kv[i] := by
  unfold by_
  rw [List.getD_eq_getElem?_getD, Array.getElem?_toList]
  have h2 : i < kv.data.size := h
  rw [Array.getElem?_eq_getElem h2]
  rfl
theorem B_xor0 (x : UInt8) : bits .xor .u8 0 (x.toNat : Int) = ((0 ^^^ x).toNat : Int) := B_xor 0 x
set_option maxRecDepth 100000 in
set_option maxHeartbeats 2000000 in
theorem pad_any (t : ByteArray) (x : UInt8) (w : World) (hn : t.size < 150000000000000) :
    Calls Tryd.prog 66 #[.string t, .int .u8 (x.toNat : Int)] w fun e w' => e = .returned (.string (strOf (padOf (by_ t) x))) ∧ Below w.heap.size w w' := by
  have HN := Lib.hid hn
  clear hn
  go_enter Tryd.func66, Tryd.ntmps66
  have HP := Lib.hid (show (blockOf (by_ t)).map (· ^^^ x) = padOf (by_ t) x from rfl)
  have HBL := Lib.hid (blockOf_length (by_ t))
  by_cases h64 : 64 < t.size
  · go_wp2_with fail
    refine (rsum_any t w HN.out).mono ?_
    rintro e w3 ⟨rfl, hb⟩
    have HB := Lib.hid hb
    clear hb
    have hD := sumOf_length (by_ t)
    have he : blockOf (by_ t) = by_ (strOf (sumOf (by_ t))) ++ List.replicate (64 - (by_ (strOf (sumOf (by_ t)))).length) 0 := by
      rw [by_strOf]; unfold blockOf keyOf; rw [by_size] at h64; rw [if_pos h64]
    have hby := rbytes_any (sumOf (by_ t)) hD w3
    generalize blockOf (by_ t) = BK at HP HBL he
    generalize hkv : strOf (sumOf (by_ t)) = kv at hby he ⊢
    generalize bytesC (sumOf (by_ t)) = D at hby ⊢
    have HL := Lib.hid (show kv.size ≤ 64 by rw [← hkv, strOf_size, hD]; omega)
    have HE := Lib.hid he
    clear he hkv hD
    go_wp2_with fail
    refine hby.mono ?_
    clear hby
    rintro e w4 ⟨rfl, hb⟩
    have HB := Lib.hid (HB.out.trans (hb.mono HB.out.size))
    clear hb
    have hP : (BK.map (· ^^^ x)) = padOf (by_ t) x := HP.out
    go_wp2_with fail
    go_loopw [5, 6, 7] (fun v u u7 wr => ∃ i : Nat, i ≤ 64 ∧ u = .int .i64 (i : Int) ∧ OwnB wr w.heap.size v ((BK.map (· ^^^ x)).take i) ∧ Below w.heap.size w wr) (fun _ u _ _ => 64 - (intOf u).toNat)
    case atStart => exact ⟨0, by omega, rfl, OwnB.nil _ _, HB.out⟩
    case round =>
      obtain ⟨i, hi, rfl, hO, hB⟩ := hrel
      clear HB
      have HO := Lib.hid hO
      have HB := Lib.hid hB
      clear hO hB hP
      have hsz : kv.size ≤ 64 := HL.out
      by_cases hlt : i < 64
      · have i1 : (i : Int) < 64 := by omega
        have hnext : (BK.map (· ^^^ x)).take i ++ [BK.getD i 0 ^^^ x] = (BK.map (· ^^^ x)).take (i + 1) := by
          rw [List.take_add_one, List.getElem?_map, List.getD_eq_getElem?_getD, List.getElem?_eq_getElem (by rw [HBL.out]; omega)]; rfl
        have hlen : ((BK.map (· ^^^ x)).take i).length = i := by rw [List.length_take, List.length_map, HBL.out]; omega
        have hg := block_get kv i hlt hsz
        rw [← HE.out] at hg
        generalize (BK.map (· ^^^ x)).take i = P at *
        rw [hg] at hnext
        clear hg
        by_cases hk : i < kv.size
        · have i2 : (i : Int) < (kv.size : Int) := by omega
          rw [if_pos hk] at hnext
          rw [by_at kv i hk] at hnext
          have HNX := Lib.hid hnext
          clear hnext
          go_upto_region 10 with (fail)
          refine wp_region_lit ?_
          iterate 15 go_step
          refine wpList_ownB_byte rfl _ _ rfl w.heap.size u5 P rfl HO.out _ (kv[i] ^^^ x) (by rw [B_xor]; rfl) rfl (by omega) HB.out.size ?_
          intro v' w' hO hG
          have HB := Lib.hid (HB.out.grown hG HB.out.size (fun k hk => (HO.out.lt k hk).1))
          rw [HNX.out] at hO
          have HO := Lib.hid hO
          clear hO hG
          simp only [Act.put]
          go_wp2_with fail
          go_roundw
          case rel => exact ⟨i + 1, by omega, by go_num, HO.out, HB.out⟩
          case measure => simp [intOf]; omega
        · have i2 : ¬ ((i : Int) < (kv.size : Int)) := by omega
          rw [if_neg hk] at hnext
          have HNX := Lib.hid hnext
          clear hnext
          go_upto_region 10 with (fail)
          refine wp_region_lit ?_
          iterate 15 go_step
          refine wpList_ownB_byte rfl _ _ rfl w.heap.size u5 P rfl HO.out _ (0 ^^^ x) (by rw [B_xor0]; rfl) rfl (by omega) HB.out.size ?_
          intro v' w' hO hG
          have HB := Lib.hid (HB.out.grown hG HB.out.size (fun k hk => (HO.out.lt k hk).1))
          rw [HNX.out] at hO
          have HO := Lib.hid hO
          clear hO hG
          simp only [Act.put]
          go_wp2_with fail
          go_roundw
          case rel => exact ⟨i + 1, by omega, by go_num, HO.out, HB.out⟩
          case measure => simp [intOf]; omega
      · have hi64 : i = 64 := by omega
        subst hi64
        have hO := HO.out
        rw [List.take_of_length_le (by rw [List.length_map, HBL.out]; exact Nat.le_refl _), HP.out] at hO
        have HO := Lib.hid hO
        clear hO
        go_upto_region 11 with (fail)
        refine wp_region_lit ?_
        iterate 3 go_step
        refine wpList_ownB_string rfl _ rfl _ u5 _ rfl HO.out ?_
        simp only [Act.put]
        go_wp2_with fail
        go_ret
        exact ⟨rfl, HB.out⟩
  · have he : blockOf (by_ t) = by_ t ++ List.replicate (64 - (by_ t).length) 0 := by
      unfold blockOf keyOf; rw [if_neg (by rw [← by_size]; omega)]
    have HL := Lib.hid (show t.size ≤ 64 by omega)
    generalize blockOf (by_ t) = BK at HP HBL he
    have HE := Lib.hid he
    have HB := Lib.hid (Below.refl w.heap.size w)
    clear he
    have hP : (BK.map (· ^^^ x)) = padOf (by_ t) x := HP.out
    go_wp2_with fail
    go_loopw [5, 6, 7] (fun v u u7 wr => ∃ i : Nat, i ≤ 64 ∧ u = .int .i64 (i : Int) ∧ OwnB wr w.heap.size v ((BK.map (· ^^^ x)).take i) ∧ Below w.heap.size w wr) (fun _ u _ _ => 64 - (intOf u).toNat)
    case atStart => exact ⟨0, by omega, rfl, OwnB.nil _ _, HB.out⟩
    case round =>
      obtain ⟨i, hi, rfl, hO, hB⟩ := hrel
      clear HB
      have HO := Lib.hid hO
      have HB := Lib.hid hB
      clear hO hB hP
      have hsz : t.size ≤ 64 := HL.out
      by_cases hlt : i < 64
      · have i1 : (i : Int) < 64 := by omega
        have hnext : (BK.map (· ^^^ x)).take i ++ [BK.getD i 0 ^^^ x] = (BK.map (· ^^^ x)).take (i + 1) := by
          rw [List.take_add_one, List.getElem?_map, List.getD_eq_getElem?_getD, List.getElem?_eq_getElem (by rw [HBL.out]; omega)]; rfl
        have hlen : ((BK.map (· ^^^ x)).take i).length = i := by rw [List.length_take, List.length_map, HBL.out]; omega
        have hg := block_get t i hlt hsz
        rw [← HE.out] at hg
        generalize (BK.map (· ^^^ x)).take i = P at *
        rw [hg] at hnext
        clear hg
        by_cases hk : i < t.size
        · have i2 : (i : Int) < (t.size : Int) := by omega
          rw [if_pos hk] at hnext
          rw [by_at t i hk] at hnext
          have HNX := Lib.hid hnext
          clear hnext
          go_upto_region 10 with (fail)
          refine wp_region_lit ?_
          iterate 15 go_step
          refine wpList_ownB_byte rfl _ _ rfl w.heap.size u5 P rfl HO.out _ (t[i] ^^^ x) (by rw [B_xor]; rfl) rfl (by omega) HB.out.size ?_
          intro v' w' hO hG
          have HB := Lib.hid (HB.out.grown hG HB.out.size (fun k hk => (HO.out.lt k hk).1))
          rw [HNX.out] at hO
          have HO := Lib.hid hO
          clear hO hG
          simp only [Act.put]
          go_wp2_with fail
          go_roundw
          case rel => exact ⟨i + 1, by omega, by go_num, HO.out, HB.out⟩
          case measure => simp [intOf]; omega
        · have i2 : ¬ ((i : Int) < (t.size : Int)) := by omega
          rw [if_neg hk] at hnext
          have HNX := Lib.hid hnext
          clear hnext
          go_upto_region 10 with (fail)
          refine wp_region_lit ?_
          iterate 15 go_step
          refine wpList_ownB_byte rfl _ _ rfl w.heap.size u5 P rfl HO.out _ (0 ^^^ x) (by rw [B_xor0]; rfl) rfl (by omega) HB.out.size ?_
          intro v' w' hO hG
          have HB := Lib.hid (HB.out.grown hG HB.out.size (fun k hk => (HO.out.lt k hk).1))
          rw [HNX.out] at hO
          have HO := Lib.hid hO
          clear hO hG
          simp only [Act.put]
          go_wp2_with fail
          go_roundw
          case rel => exact ⟨i + 1, by omega, by go_num, HO.out, HB.out⟩
          case measure => simp [intOf]; omega
      · have hi64 : i = 64 := by omega
        subst hi64
        have hO := HO.out
        rw [List.take_of_length_le (by rw [List.length_map, HBL.out]; exact Nat.le_refl _), HP.out] at hO
        have HO := Lib.hid hO
        clear hO
        go_upto_region 11 with (fail)
        refine wp_region_lit ?_
        iterate 3 go_step
        refine wpList_ownB_string rfl _ rfl _ u5 _ rfl HO.out ?_
        simp only [Act.put]
        go_wp2_with fail
        go_ret
        exact ⟨rfl, HB.out⟩
set_option maxRecDepth 100000 in
set_option maxHeartbeats 2000000 in
theorem rtag_any (k t : ByteArray) (w : World) (hk : k.size < 150000000000000) (hn : t.size < 90000000) :
    Calls Tryd.prog 34 #[.string k, .string t] w fun e w' => e = .returned (.agg (bytesC (tagOf (by_ k) (by_ t)))) ∧ Below w.heap.size w w' := by
  have HK := Lib.hid hk
  have HN := Lib.hid hn
  clear hk hn
  go_enter Tryd.func34, Tryd.ntmps34
  go_upto_region 1 with (fail)
  change Code.wp _ _ _ _ (w.alloc (.cells z32 25))
  have R2 : Blk (w.alloc (.cells z32 25)) w.heap.size 25 z32 := Blk.new w 25 z32
  have B : Below w.heap.size w (w.alloc (.cells z32 25)) := (Below.refl _ _).alloc (Nat.le_refl _) _
  generalize w.alloc (.cells z32 25) = w2 at R2 B ⊢
  have HR := Lib.hid R2
  have HB := Lib.hid B
  clear R2 B
  go_wp2_with fail
  refine (pad_any k 0x36 w2 HK.out).mono ?_
  rintro e w3 ⟨rfl, hb⟩
  have HR := Lib.hid (HR.out.below hb HR.out.lt)
  have HB := Lib.hid (HB.out.trans (hb.mono HB.out.size))
  clear hb
  have HTG := Lib.hid (show sumOf (padOf (by_ k) 0x5c ++ sumOf (padOf (by_ k) 0x36 ++ by_ t)) = tagOf (by_ k) (by_ t) from rfl)
  have HPL := Lib.hid (padOf_length (by_ k) 0x36)
  generalize padOf (by_ k) 0x36 = PO at HPL HTG ⊢
  have hcat : ∀ w', (Op.stringOp .add (strOf PO) t).run Tryd.prog w' = .ok (.string (strOf (PO ++ by_ t))) w' := fun w' => by
    rw [← strOf_append, strOf_by]
    exact run_string_add_sum w' _ _ (by rw [strOf_size, HPL.out]; have := HN.out; omega)
  have hsz2 : (strOf (PO ++ by_ t)).size < 150000000000000 := by rw [strOf_size, List.length_append, HPL.out, ← by_size]; have := HN.out; omega
  have hsum := fun w => rsum_any (strOf (PO ++ by_ t)) w hsz2
  rw [by_strOf] at hsum
  generalize strOf PO = sPO at hcat ⊢
  generalize strOf (PO ++ by_ t) = sPD at hcat hsum
  clear hsz2
  go_wp2_with fail
  refine (hsum _).mono ?_
  clear hsum hcat
  rintro e w4 ⟨rfl, hb⟩
  have HR := Lib.hid (HR.out.below hb HR.out.lt)
  have HB := Lib.hid (HB.out.trans (hb.mono HB.out.size))
  clear hb
  have hD := sumOf_length (PO ++ by_ t)
  generalize sumOf (PO ++ by_ t) = D at hD HTG ⊢
  have hby := rbytes_any D hD w4
  have HD := Lib.hid hD
  clear hD
  generalize bytesC D = XD at hby ⊢
  go_wp2_with fail
  refine hby.mono ?_
  clear hby
  rintro e w5 ⟨rfl, hb⟩
  have HR := Lib.hid (HR.out.below hb HR.out.lt)
  have HB := Lib.hid (HB.out.trans (hb.mono HB.out.size))
  clear hb
  go_upto_region 2 with (fail)
  refine wp_region_lit ?_
  iterate 5 go_step
  refine (pad_any k 0x5c w5 HK.out).mono ?_
  rintro e w6 ⟨rfl, hb⟩
  have HR := Lib.hid (HR.out.below hb HR.out.lt)
  have HB := Lib.hid (HB.out.trans (hb.mono HB.out.size))
  clear hb
  have HQL := Lib.hid (padOf_length (by_ k) 0x5c)
  generalize padOf (by_ k) 0x5c = PI at HQL HTG ⊢
  have hcat : ∀ w', (Op.stringOp .add (strOf PI) (strOf D)).run Tryd.prog w' = .ok (.string (strOf (PI ++ D))) w' := fun w' => by
    rw [← strOf_append]
    exact run_string_add_sum w' _ _ (by rw [strOf_size, strOf_size, HQL.out, HD.out]; decide)
  have hsz2 : (strOf (PI ++ D)).size < 150000000000000 := by rw [strOf_size, List.length_append, HQL.out, HD.out]; decide
  have hsum := rsum_any (strOf (PI ++ D)) w6 hsz2
  rw [by_strOf, HTG.out] at hsum
  generalize strOf PI = sPI at hcat ⊢
  generalize strOf D = sD at hcat ⊢
  generalize strOf (PI ++ D) = sPD at hcat hsum
  clear hsz2
  dsimp only
  iterate 9 go_step
  refine hsum.mono ?_
  clear hsum hcat
  rintro e w10 ⟨rfl, hb⟩
  have HR := Lib.hid (HR.out.below hb HR.out.lt)
  have HB := Lib.hid (HB.out.trans (hb.mono HB.out.size))
  clear hb
  have hsz : (bytesC (tagOf (by_ k) (by_ t))).size = 32 := by rw [bytesC_size, tagOf_length]
  have hone := bytesC_one (tagOf (by_ k) (by_ t))
  generalize hTT : bytesC (tagOf (by_ k) (by_ t)) = TT at hsz hone ⊢
  have HTT := Lib.hid hTT
  clear hTT
  have hi25 : (Tryd.prog.info? 25).map (·.size) = some TT.size := by rw [hsz]; kernel_rfl
  dsimp only
  go_step
  refine wpList_store_mid rfl 25 _ _ rfl w.heap.size 0 TT rfl rfl (HR.out.there 0 _ (by rw [hsz, z32_size]; exact Nat.le_refl _)) hi25 hone ?_
  refine wpList_nil ?_
  simp only [Act.put]
  have hz := HR.out.setCells TT.toList 0
  rw [putAll_all _ _ (by rw [hsz, z32_size])] at hz
  have B3 := Below.setCells' TT.toList (Nat.le_refl _) 0 HB.out
  have HI := Lib.hid hi25
  clear hi25 hone hsz
  generalize w10.setCells w.heap.size 0 TT.toList = w11 at hz B3 ⊢
  have HZ := Lib.hid hz
  have HB9 := Lib.hid B3
  clear hz B3
  go_wp2_with fail
  refine bodyPost_ret (v := .agg TT) (results_cell_row rfl _ _ w.heap.size 25 TT _ _ rfl HZ.out Tryd.underlying25 rfl HI.out) rfl ⟨by rw [HTT.out], HB9.out⟩
end Go.Proofs.YtkbcilfcfbfiaaaDoor
