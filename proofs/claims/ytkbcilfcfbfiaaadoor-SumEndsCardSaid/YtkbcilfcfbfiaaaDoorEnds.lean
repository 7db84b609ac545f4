/- SumEnds answers true. -/
import Derived.Test.YtkbcilfcfbfiaaaDoorFew
import Derived.Test.YtkbcilfcfbfiaaaDoorBytes
namespace Go.Proofs.YtkbcilfcfbfiaaaDoor
open Go.RowKit Go.Proofs
set_option linter.unusedSimpArgs false
set_option linter.unusedVariables false
theorem replicate_push (c : UInt8) (i : Nat) : List.replicate i c ++ [c] = List.replicate (i + 1) c := by
  rw [List.replicate_succ']
set_option maxRecDepth 100000 in
set_option maxHeartbeats 2000000 in
theorem sumEnds_any (n : Nat) (hn : n < 65536) (c : UInt8) (w : World) (hk : Consts w) :
    Calls Tryd.prog 4 #[.int .u16 (n : Int), .int .u8 (c.toNat : Int)] w fun e w' => e = .returned (.bool true) ∧ Below w.heap.size w w' := by
  have HK := Lib.hid hk
  clear hk
  go_enter Tryd.func4, Tryd.ntmps4
  go_wp2_with fail
  go_loopw [5, 6] (fun v u wr => ∃ i : Nat, i ≤ n % 400 ∧ u = .int .i64 (i : Int) ∧ OwnB wr w.heap.size v (List.replicate i c) ∧ Below w.heap.size w wr) (fun _ u _ => 400 - (intOf u).toNat)
  case atStart => exact ⟨0, by omega, rfl, OwnB.nil _ _, Below.refl _ _⟩
  case round =>
    obtain ⟨i, hi, rfl, hO, hB⟩ := hrel
    have HO := Lib.hid hO
    have HB := Lib.hid hB
    clear hO hB
    by_cases hlt : i < n % 400
    · have i1 : (i : Int) < (n : Int) % 400 := by omega
      go_upto_region 5 with (fail)
      refine wp_region_lit ?_
      iterate 9 go_step
      refine wpList_ownB_byte rfl _ _ rfl w.heap.size u5 (List.replicate i c) rfl HO.out _ c rfl rfl (by rw [List.length_replicate]; omega) HB.out.size ?_
      intro v' w' hO hG
      have HB := Lib.hid (HB.out.grown hG HB.out.size (fun k hk => (HO.out.lt k hk).1))
      rw [replicate_push] at hO
      have HO := Lib.hid hO
      clear hO hG
      simp only [Act.put]
      go_wp2_with fail
      go_roundw
      case rel => exact ⟨i + 1, by omega, by go_num, HO.out, HB.out⟩
      case measure => simp [intOf]; omega
    · have i1 : ¬ ((i : Int) < (n : Int) % 400) := by omega
      have hil : i < 400 := by omega
      clear hlt hi
      generalize hD : List.replicate i c = D at HO
      have HL := Lib.hid (show D.length < 400 by rw [← hD, List.length_replicate]; omega)
      clear hD
      go_upto_region 6 with (fail)
      refine wp_region_keep (KeptOn fun _ => True) (KeptOn.refl _) (KeptOn.trans) [(0,1),(1,0),(2,0),(3,0),(5,0),(6,0),(4,1),(7,1),(8,0),(9,0),(10,0)] (by kernel_rfl) (by kernel_rfl) ?_
      refine keep_eff rfl ?_
      go_wp2_with fail
      refine (awake_any wr.drew (HK.out.below (HB.out.drewN 1))).mono ?_
      rintro e w2 ⟨rfl, hb⟩
      have hK : KeptOn (fun _ => True) wr.drew w2 := KeptOn.below hb (fun b hb _ => hb)
      have HO := Lib.hid (OwnB.keptOn (w := wr.drew) HO.out hK)
      have HB := Lib.hid ((HB.out.drewN 1).trans (hb.mono HB.out.size))
      clear hb
      go_wp2_with fail
      refine keepPost_need hK ?_
      clear hK
      iterate 2 (refine keep_quiet (v := ?_) rfl (fun _ _ _ h => h) (by rfl) (fun w' hR => ?_) ?_; rotate_left; (go_simp; try with_reducible rfl); simp only [Act.put, List.setIfInBounds_toArray, List.set_cons_zero, List.set_cons_succ])
      have HST := Lib.hid (fun (w' : World) (hR : KeptOn (fun _ => True) w2 w') => ownB_string (OwnB.keptOn HO.out hR))
      refine keep_quiet (v := .string ⟨D.toArray⟩) rfl (fun _ _ _ h => h) (by rfl) (fun w' hR => execConvert 29 9 _ rfl (p := u5) rfl (HST.out w' hR)) ?_
      simp only [Act.put, List.setIfInBounds_toArray, List.set_cons_zero, List.set_cons_succ]
      iterate 1 (refine keep_quiet (v := ?_) rfl (fun _ _ _ h => h) (by rfl) (fun w' hR => ?_) ?_; rotate_left; (go_simp; try with_reducible rfl); simp only [Act.put, List.setIfInBounds_toArray, List.set_cons_zero, List.set_cons_succ])
      refine keep_quiet (v := .string ⟨D.toArray⟩) rfl (fun _ _ _ h => h) (by rfl) (fun w' hR => execConvert 29 9 _ rfl (p := u5) rfl (HST.out w' hR)) ?_
      simp only [Act.put, List.setIfInBounds_toArray, List.set_cons_zero, List.set_cons_succ]
      clear HST
      generalize hT : (⟨D.toArray⟩ : ByteArray) = T
      have HT := Lib.hid (show T.size < 100000000 by rw [← hT]; show D.length < _; have := HL.out; omega)
      clear hT
      refine keep_eff rfl ?_
      go_wp2_with fail
      refine (sum_any T w2 (HK.out.below HB.out) HT.out).mono ?_
      rintro e w3 ⟨rfl, hb⟩
      have hK : KeptOn (fun _ => True) w2 w3 := KeptOn.below hb (fun b hb _ => hb)
      have HB := Lib.hid (HB.out.trans (hb.mono HB.out.size))
      clear hb
      go_wp2_with fail
      refine keepPost_need hK ?_
      clear hK
      refine keep_eff rfl ?_
      go_wp2_with fail
      refine (rsum_any T w3 HT.out).mono ?_
      rintro e w4 ⟨rfl, hb⟩
      have hK : KeptOn (fun _ => True) w3 w4 := KeptOn.below hb (fun b hb _ => hb)
      have HB := Lib.hid (HB.out.trans (hb.mono HB.out.size))
      clear hb
      have heq : ∀ w', (Op.equalIn 10000 25 (.agg (bytesC (sumOf (by_ T)))) (.agg (bytesC (sumOf (by_ T))))).run Tryd.prog w' = .ok true w' := fun w' => by
        have h := eql_digest (sumOf (by_ T)) (sumOf (by_ T)) (sumOf_length _) (sumOf_length _) w'
        rw [beq_self_eq_true] at h
        exact h
      generalize bytesC (sumOf (by_ T)) = X at heq ⊢
      go_wp2_with fail
      refine keepPost_need hK ?_
      clear hK
      iterate 3 (refine keep_quiet (v := ?_) rfl (fun _ _ _ h => h) (by rfl) (fun w' hR => ?_) ?_; rotate_left; (go_simp; try with_reducible rfl); simp only [Act.put, List.setIfInBounds_toArray, List.set_cons_zero, List.set_cons_succ])
      clear heq
      refine keep_done ?_
      go_wp2_with fail
      go_ret
      exact ⟨rfl, HB.out⟩
end Go.Proofs.YtkbcilfcfbfiaaaDoor
