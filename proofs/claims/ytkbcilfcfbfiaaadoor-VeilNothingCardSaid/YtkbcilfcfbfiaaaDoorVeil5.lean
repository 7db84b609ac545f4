/- veil: the reference's Veil and Byte; what must come at any rate. -/
import Derived.Test.YtkbcilfcfbfiaaaDoorVeil4
namespace Go.Proofs.YtkbcilfcfbfiaaaDoor
open Go.RowKit Go.Proofs
set_option linter.unusedSimpArgs false
set_option linter.unusedVariables false
theorem zw_next (t r : List UInt8) (i : Nat) (h : r.length = t.length) (hi : i < t.length) : (List.zipWith (· ^^^ ·) t r).take i ++ [t.getD i 0 ^^^ r.getD i 0] = (List.zipWith (· ^^^ ·) t r).take (i + 1) := by
  rw [List.take_add_one, List.getElem?_zipWith, List.getElem?_eq_getElem hi, List.getElem?_eq_getElem (by omega : i < r.length), List.getD_eq_getElem?_getD, List.getD_eq_getElem?_getD, List.getElem?_eq_getElem hi, List.getElem?_eq_getElem (by omega : i < r.length)]
  rfl
set_option maxRecDepth 100000 in
set_option maxHeartbeats 4000000 in
theorem rveil_any (k : ByteArray) (hkn : k.size < 150000000000000) (a : Int) (t : ByteArray) (w : World) :
    Calls Tryd.prog 42 #[.string k, .int .i64 a, .string t] w fun e w' => e = .returned (.tuple #[.string (veilS k a t), .int .i64 (wrongOf a (t.size : Int))]) ∧ Below w.heap.size w w' := by
  have hrow := rrow_any k hkn a (t.size : Int) w
  clear hkn
  go_enter Tryd.func42, Tryd.ntmps42
  go_wp2_with fail
  refine hrow.mono ?_
  clear hrow
  rintro e w1 ⟨rfl, hb⟩
  have HB := Lib.hid hb
  clear hb
  by_cases hw : wrongOf a (t.size : Int) = 0
  · have hr := wrongOf_ok hw
    have hS := rowS_ok (k := k) hw
    have hV := veilS_ok (k := k) hw
    have hrl := rowOf_length (by_ k) a t.size
    rw [hS, hw]
    generalize rowOf (by_ k) a t.size = R at hS hV hrl ⊢
    have HV := Lib.hid hV
    have HRL := Lib.hid hrl
    have hts : t.size ≤ 16384 := by omega
    have HW := Lib.hid hw
    generalize hRS : strOf R = RS
    have hRs : RS.size = t.size := by rw [← hRS, strOf_size, hrl]
    have HRS := Lib.hid hRS
    clear hS hV hrl hr hRS hw
    go_wp2_with fail
    go_loopw [10, 11] (fun v10 v11 wr => ∃ i : Nat, i ≤ t.size ∧ v11 = .int .i64 (i : Int) ∧ OwnB wr w.heap.size v10 ((List.zipWith (· ^^^ ·) (by_ t) R).take i) ∧ Below w.heap.size w wr) (fun _ v11 _ => t.size - (intOf v11).toNat)
    case atStart => exact ⟨0, by omega, rfl, OwnB.nil _ _, HB.out⟩
    case round =>
      obtain ⟨i, hi, rfl, hO, hB⟩ := hrel
      clear HB
      have HO := Lib.hid hO
      have HB := Lib.hid hB
      clear hO hB
      by_cases hlt : i < t.size
      · have i1 : (i : Int) < (t.size : Int) := by omega
        have i2 : (i : Int) < (RS.size : Int) := by omega
        have hiR : i < RS.size := by omega
        have hx := zw_next (by_ t) R i (by rw [HRL.out, by_size]) (by rw [← by_size]; exact hlt)
        have hplen : ((List.zipWith (· ^^^ ·) (by_ t) R).take i).length ≤ i := by rw [List.length_take]; omega
        rw [by_at t i hlt] at hx
        have hRat : RS[i] = R.getD i 0 := by simp only [← HRS.out]; exact strOf_at R i (by rw [HRS.out]; exact hiR)
        rw [← hRat] at hx
        generalize (List.zipWith (fun x1 x2 => x1 ^^^ x2) (by_ t) R).take i = P at hx hplen HO
        have HX := Lib.hid hx
        clear hx hRat
        go_upto_region 8 with (fail)
        refine wp_region_keep (KeptOn fun _ => True) (KeptOn.refl _) (KeptOn.trans) [(0,0),(1,0),(2,0),(3,0),(4,0),(5,0),(6,0),(7,0),(8,1),(9,2),(10,2)] (by kernel_rfl) (by kernel_rfl) ?_
        iterate 8 (refine keep_quiet (v := ?_) rfl (fun _ _ _ h => h) (by rfl) (fun w' hR => ?_) ?_; rotate_left; (go_simp; try with_reducible rfl); simp only [Act.put, List.setIfInBounds_toArray, List.set_cons_zero, List.set_cons_succ])
        simp only [B_xor]
        refine keep_eff rfl ?_
        go_wp2_with fail
        refine keepPost_need (KeptOn.alloc _ _) ?_
        refine keep_eff rfl ?_
        refine wpList_ownB_byte (w := wr.drew) rfl _ _ rfl w.heap.size u10 P rfl HO.out _ (t[i] ^^^ RS[i]) (by unfold bb; rw [UInt8.toNat_xor]) rfl (by omega) HB.out.size ?_
        intro v' w' hO hG
        have HB := Lib.hid ((HB.out.drewN 1).grown hG HB.out.size (fun k hk => (HO.out.lt k hk).1))
        rw [HX.out] at hO
        have HO := Lib.hid hO
        clear hO hG
        refine wpList_nil ?_
        simp only [Act.put]
        refine keepPost_free ?_
        refine keep_eff rfl ?_
        go_wp2_with fail
        refine keepPost_free ?_
        refine keep_done ?_
        go_wp2_with fail
        go_roundw
        case rel => exact ⟨i + 1, by omega, by go_num, HO.out, HB.out⟩
        case measure => simp [intOf]; omega
      · have hiN : i = t.size := by omega
        subst hiN
        have hO := HO.out
        rw [List.take_of_length_le (by rw [List.length_zipWith, HRL.out, ← by_size]; omega)] at hO
        have HO2 := Lib.hid hO
        clear hO
        go_upto_region 9 with (fail)
        refine wp_region_lit ?_
        iterate 3 go_step
        refine wpList_ownB_string rfl _ rfl _ _ _ rfl HO2.out ?_
        simp only [Act.put]
        have hT : (⟨(List.zipWith (· ^^^ ·) (by_ t) R).toArray⟩ : ByteArray) = veilS k a t := by rw [HV.out]; rfl
        rw [hT]
        clear hT
        go_wp2_with fail
        go_ret2
        exact ⟨by rw [HW.out]; rfl, HB.out⟩
  · have HV := Lib.hid (veilS_bad (k := k) hw)
    rw [rowS_bad (k := k) hw]
    generalize he : wrongOf a (t.size : Int) = e at hw ⊢
    have HE := Lib.hid he
    clear he
    go_wp2_with fail
    go_ret2
    exact ⟨by rw [HV.out, HE.out]; rfl, HB.out⟩
set_option maxRecDepth 100000 in
set_option maxHeartbeats 4000000 in
theorem rbyte0_any (k : ByteArray) (hkn : k.size < 150000000000000) (a : Int) (ha : 0 ≤ a ∧ a ≤ 1099511627776) (w : World) :
    Calls Tryd.prog 71 #[.string k, .int .i64 a, .int .i64 0] w fun e w' => e = .returned (.int .u8 ((rowAt (by_ k) a 0).toNat : Int)) ∧ Below w.heap.size w w' := by
  have HKN := Lib.hid hkn
  have HA := Lib.hid ha
  clear hkn ha
  go_enter Tryd.func71, Tryd.ntmps71
  go_upto_region 1 with (fail)
  refine wp_region_lit ?_
  iterate 8 go_step
  refine (rnumber_any a (by have := HA.out; omega) (by have := HA.out; omega) w).mono ?_
  rintro e w2 ⟨rfl, hb⟩
  have HB := Lib.hid hb
  clear hb
  dsimp only
  iterate 9 go_step
  refine (rnumber_any (0 : Int) (by omega) (by omega) w2).mono ?_
  rintro e w3 ⟨rfl, hb⟩
  have HB := Lib.hid (HB.out.trans (hb.mono HB.out.size))
  clear hb
  have h1 := numOf_length a (by have := HA.out; omega)
  have h2 := numOf_length (0 : Int) (by omega)
  have HEQ := Lib.hid (show rowB (by_ k) a 0 = tagOf (by_ k) (numOf a ++ numOf (0 : Int)) from rfl)
  have hcat := cat_run (numOf a) (numOf (0 : Int)) (by omega)
  have htg := rtag_any k (strOf (numOf a ++ numOf (0 : Int))) w3 HKN.out (by rw [strOf_size, List.length_append]; omega)
  rw [by_strOf, ← HEQ.out] at htg
  generalize strOf (numOf a ++ numOf (0 : Int)) = S3 at hcat htg
  generalize strOf (numOf a) = S1 at hcat ⊢
  generalize strOf (numOf (0 : Int)) = S2 at hcat ⊢
  clear h1 h2
  dsimp only
  iterate 6 go_step
  refine htg.mono ?_
  clear htg hcat
  rintro e w4 ⟨rfl, hb⟩
  have HB := Lib.hid (HB.out.trans (hb.mono HB.out.size))
  clear hb
  have hl := rowB_length (by_ k) a 0
  have HR := Lib.hid (show rowAt (by_ k) a 0 = (rowB (by_ k) a 0).getD 0 0 from rfl)
  generalize rowB (by_ k) a 0 = RB at hl HR ⊢
  have hsz : (bytesC RB).size = 32 := by rw [bytesC_size, hl]
  have hone := bytesC_one RB
  dsimp only
  iterate 4 go_step
  change wpList _ _ _ _ _ (w4.alloc (.cells z32 25))
  have hz := Blk.new w4 25 z32
  have HBL := Lib.hid HB.out.size
  have HB := Lib.hid (HB.out.alloc HB.out.size (.cells z32 25))
  refine wpList_store_mid rfl 25 _ _ rfl w4.heap.size 0 (bytesC RB) rfl rfl (hz.there 0 _ (by rw [hsz, z32_size]; exact Nat.le_refl _)) (by rw [hsz]; kernel_rfl) hone ?_
  refine wpList_nil ?_
  simp only [Act.put]
  have hz2 := hz.setCells (bytesC RB).toList 0
  rw [putAll_all _ _ (by rw [hsz, z32_size])] at hz2
  have HB := Lib.hid (Below.setCells' (b := w4.heap.size) (bytesC RB).toList HBL.out 0 HB.out)
  clear hz hsz hone
  generalize (w4.alloc (.cells z32 25)).setCells w4.heap.size 0 (bytesC RB).toList = w5 at hz2 HB ⊢
  have c0 : w5.cell? ⟨w4.heap.size, 0, none⟩ = some (.int .u8 ((RB.getD 0 0).toNat : Int)) := (hz2.cell 0).trans (by
    unfold bytesC
    rw [List.getElem?_toArray, List.getElem?_map, List.getD_eq_getElem?_getD, List.getElem?_eq_getElem (by omega)]; rfl)
  clear hz2
  generalize w4.heap.size = d at c0 ⊢
  generalize RB.getD 0 0 = x at c0 HR
  go_wp2_with fail
  go_ret
  exact ⟨by rw [HR.out]; rfl, HB.out⟩
end Go.Proofs.YtkbcilfcfbfiaaaDoor
