/- veil: few, what is wrong, a row's block. -/
import Derived.Test.YtkbcilfcfbfiaaaDoorMac8
import Derived.Test.YtkbcilfcfbfiaaaDoorVeil
namespace Go.Proofs.YtkbcilfcfbfiaaaDoor
open Go.RowKit Go.Proofs
set_option linter.unusedSimpArgs false
set_option linter.unusedVariables false
def few4 (t : ByteArray) : ByteArray := if 400 < t.size ∧ t.size ≤ 16384 then t.extract 0 400 else t
theorem few4_size (t : ByteArray) : (few4 t).size ≤ 400 ∨ (16384 < (few4 t).size ∧ few4 t = t) := by
  unfold few4; split
  · left; rw [ByteArray.size_extract]; omega
  · by_cases h : t.size ≤ 400
    · exact .inl h
    · exact .inr ⟨by omega, rfl⟩
theorem few4_any (t : ByteArray) (w : World) :
    Calls Tryd.prog 40 #[.string t] w fun e w' => e = .returned (.string (few4 t)) ∧ w = w' := by
  go_enter Tryd.func40, Tryd.ntmps40
  by_cases h : 400 < t.size
  · by_cases h2 : t.size ≤ 16384
    · have E := Lib.hid (show few4 t = t.extract 0 400 by unfold few4; rw [if_pos ⟨h, h2⟩])
      go_wp2_with fail
      go_ret
      exact ⟨by rw [E.out]; rfl, rfl⟩
    · have E := Lib.hid (show few4 t = t by unfold few4; rw [if_neg (by omega)])
      go_wp2_with fail
      go_ret
      exact ⟨by rw [E.out]; rfl, rfl⟩
  · have E := Lib.hid (show few4 t = t by unfold few4; rw [if_neg (by omega)])
    go_wp2_with fail
    go_ret
    exact ⟨by rw [E.out]; rfl, rfl⟩
/-- What is wrong with a number and a length. -/
def wrongOf (a n : Int) : Int := if a < 0 ∨ 1099511627776 < a then 3 else if n < 0 then 2 else if 16384 < n then 4 else 0
theorem wrong_any (a n : Int) (w : World) :
    Calls Tryd.prog 72 #[.int .i64 a, .int .i64 n] w fun e w' => e = .returned (.int .i64 (wrongOf a n)) ∧ w = w' := by
  go_enter Tryd.func72, Tryd.ntmps72
  by_cases h1 : a < 0
  · have E := Lib.hid (show wrongOf a n = 3 by unfold wrongOf; rw [if_pos (by omega)])
    go_wp2_with fail
    go_ret
    exact ⟨by rw [E.out]; rfl, rfl⟩
  · by_cases h2 : 1099511627776 < a
    · have E := Lib.hid (show wrongOf a n = 3 by unfold wrongOf; rw [if_pos (by omega)])
      go_wp2_with fail
      go_ret
      exact ⟨by rw [E.out]; rfl, rfl⟩
    · by_cases h3 : n < 0
      · have E := Lib.hid (show wrongOf a n = 2 by unfold wrongOf; rw [if_neg (by omega), if_pos h3])
        go_wp2_with fail
        go_ret
        exact ⟨by rw [E.out]; rfl, rfl⟩
      · by_cases h4 : 16384 < n
        · have E := Lib.hid (show wrongOf a n = 4 by unfold wrongOf; rw [if_neg (by omega), if_neg h3, if_pos h4])
          go_wp2_with fail
          go_ret
          exact ⟨by rw [E.out]; rfl, rfl⟩
        · have E := Lib.hid (show wrongOf a n = 0 by unfold wrongOf; rw [if_neg (by omega), if_neg h3, if_neg h4])
          go_wp2_with fail
          go_ret
          exact ⟨by rw [E.out]; rfl, rfl⟩
theorem wrongOf_ok {a n : Int} (h : wrongOf a n = 0) : 0 ≤ a ∧ a ≤ 1099511627776 ∧ 0 ≤ n ∧ n ≤ 16384 := by
  unfold wrongOf at h
  split at h
  · omega
  · split at h
    · omega
    · split at h <;> omega
set_option maxRecDepth 100000 in
set_option maxHeartbeats 2000000 in
theorem blockC_any (k : ByteArray) (hkn : k.size < 150000000000000) (a : Int) (ha : 0 ≤ a ∧ a ≤ 1099511627776) (i : Nat) (hi : i ≤ 1000) (kb hb : Nat) (w : World) (hk : Consts w)
    (hkb : Blk w kb 9 #[.string k]) (hhb : Blk w hb 9 #[.string (strOf (numOf a))]) :
    Calls Tryd.prog 73 #[.int .i64 (i : Int), .pointer (some ⟨kb, 0, none⟩), .pointer (some ⟨hb, 0, none⟩)] w fun e w' => e = .returned (.agg (bytesC (rowB (by_ k) a i))) ∧ Below w.heap.size w w' := by
  have HK := Lib.hid hk
  have HKN := Lib.hid hkn
  have HKB := Lib.hid hkb
  have HHB := Lib.hid hhb
  clear hk hkn hkb hhb
  go_enter Tryd.func73, Tryd.ntmps73
  go_upto_region 1 with (fail)
  change Code.wp _ _ _ _ (w.alloc (.cells z32 25))
  have HZ := Lib.hid (show Blk (w.alloc (.cells z32 25)) w.heap.size 25 z32 from Blk.new w 25 z32)
  have HKB := Lib.hid (HKB.out.alloc (.cells z32 25))
  have HHB := Lib.hid (HHB.out.alloc (.cells z32 25))
  have HB := Lib.hid ((Below.refl w.heap.size w).alloc (Nat.le_refl _) (.cells z32 25))
  generalize w.alloc (.cells z32 25) = w2 at HZ HKB HHB HB ⊢
  have ck : ∀ w', KeptOn (fun _ => True) w2.drew w' → w'.cell? ⟨kb, 0, none⟩ = some (.string k) := fun w' hR => (Blk.kept (w := w2.drew) HKB.out hR trivial).cell 0
  have ch : ∀ w', KeptOn (fun _ => True) w2.drew w' → w'.cell? ⟨hb, 0, none⟩ = some (.string (strOf (numOf a))) := fun w' hR => (Blk.kept (w := w2.drew) HHB.out hR trivial).cell 0
  have HNL := Lib.hid (numOf_length a (by omega))
  have HEQ := Lib.hid (show rowB (by_ k) a i = tagOf (by_ k) (numOf a ++ numOf (i : Int)) from rfl)
  generalize numOf a = NA at ch HNL HEQ
  generalize hSA : strOf NA = SA at ch
  have HSA := Lib.hid hSA
  clear hSA
  refine wp_region_keep (KeptOn fun _ => True) (KeptOn.refl _) (KeptOn.trans) [(0,0),(1,0),(2,0),(3,1),(4,1),(5,1),(6,2)] (by kernel_rfl) (by kernel_rfl) ?_
  iterate 3 (refine keep_quiet (v := ?_) rfl (fun _ _ _ h => h) (by rfl) (fun w' hR => ?_) ?_; rotate_left; (go_simp; try with_reducible rfl); simp only [Act.put, List.setIfInBounds_toArray, List.set_cons_zero, List.set_cons_succ])
  clear ck ch
  refine keep_eff rfl ?_
  go_wp2_with fail
  refine (number_any (i : Int) (by omega) (by omega) w2.drew).mono ?_
  rintro e w3 ⟨rfl, hb⟩
  have hK : KeptOn (fun _ => True) w2.drew w3 := KeptOn.below hb (fun b hb _ => hb)
  have HZ := Lib.hid (show Blk w3 w.heap.size 25 z32 from Blk.below (w := w2.drew) HZ.out hb HZ.out.lt)
  have HB := Lib.hid ((HB.out.drewN 1).trans (hb.mono HB.out.size))
  clear hb
  have HIL := Lib.hid (numOf_length (i : Int) (by omega))
  generalize numOf (i : Int) = NI at HIL HEQ ⊢
  generalize hSI : strOf NI = SI
  have HSI := Lib.hid hSI
  clear hSI
  go_wp2_with fail
  refine keepPost_need hK ?_
  clear hK
  refine keep_eff rfl ?_
  go_wp2_with fail
  have hK : KeptOn (fun _ => True) w3 (w3.alloc (.cells #[.string SA, .string SI] 9)) := KeptOn.alloc _ _
  have hR := RowS.two w3 SA SI
  have HZ := Lib.hid (HZ.out.alloc (.cells #[.string SA, .string SI] 9))
  have HB := Lib.hid (HB.out.alloc HB.out.size (.cells #[.string SA, .string SI] 9))
  generalize w3.alloc (.cells #[.string SA, .string SI] 9) = w4 at hK hR HZ HB ⊢
  refine keepPost_need hK ?_
  clear hK
  have hj : joinS [SA, SI] = NA ++ NI := by rw [← HSA.out, ← HSI.out]; simp [joinS, by_strOf]
  have hc := tag_any k [SA, SI] _ w4 (HK.out.below HB.out) HKN.out hR (by rw [hj, List.length_append]; have := HNL.out; have := HIL.out; omega) (by simp)
  rw [hj, ← HEQ.out] at hc
  clear hj hR
  refine keep_eff rfl ?_
  go_wp2_with fail
  refine hc.mono ?_
  clear hc
  rintro e w5 ⟨rfl, hb⟩
  have hK : KeptOn (fun _ => True) w4 w5 := KeptOn.below hb (fun b hb _ => hb)
  have HZ := Lib.hid (HZ.out.below hb HZ.out.lt)
  have HB := Lib.hid (HB.out.trans (hb.mono HB.out.size))
  clear hb
  have hsz : (bytesC (rowB (by_ k) a i)).size = 32 := by rw [bytesC_size, rowB_length]
  have hone := bytesC_one (rowB (by_ k) a i)
  generalize hTT : bytesC (rowB (by_ k) a i) = TT at hsz hone ⊢
  have HTT := Lib.hid hTT
  clear hTT
  have hi25 : (Tryd.prog.info? 25).map (·.size) = some TT.size := by rw [hsz]; kernel_rfl
  have HS := Lib.hid hsz
  have HO := Lib.hid hone
  have HI := Lib.hid hi25
  clear hsz hone hi25
  go_wp2_with fail
  refine keepPost_need hK ?_
  clear hK
  refine keep_eff rfl ?_
  refine wpList_store_mid rfl 25 _ _ rfl w.heap.size 0 TT rfl rfl (HZ.out.there 0 _ (by rw [HS.out, z32_size]; exact Nat.le_refl _)) HI.out HO.out ?_
  refine wpList_nil ?_
  simp only [Act.put]
  have hz := HZ.out.setCells TT.toList 0
  rw [putAll_all _ _ (by rw [HS.out, z32_size])] at hz
  have B3 := Below.setCells' TT.toList (Nat.le_refl _) 0 HB.out
  generalize w5.setCells w.heap.size 0 TT.toList = w6 at hz B3 ⊢
  have HZ := Lib.hid hz
  have HB9 := Lib.hid B3
  clear hz B3
  refine keepPost_free ?_
  refine keep_done ?_
  go_wp2_with fail
  refine bodyPost_ret (v := .agg TT) (results_cell_row rfl _ _ w.heap.size 25 TT _ _ rfl HZ.out Tryd.underlying25 rfl HI.out) rfl ⟨by rw [HTT.out], HB9.out⟩
end Go.Proofs.YtkbcilfcfbfiaaaDoor
