/- A tag of texts. -/
import Derived.Test.YtkbcilfcfbfiaaaDoorMac3
namespace Go.Proofs.YtkbcilfcfbfiaaaDoor
open Go.RowKit Go.Proofs
set_option linter.unusedSimpArgs false
set_option linter.unusedVariables false
/-- v is a row of the strings ts. -/
def RowS (w : World) (v : Value) (ts : List ByteArray) : Prop := (v = .slice none 0 0 ∧ ts = []) ∨ ∃ (a : Addr) (cap : Nat), v = .slice (some a) ts.length cap ∧ ∀ (j : Nat) (t : ByteArray), ts[j]? = some t → w.cell? (a.add j) = some (.string t)
theorem RowS.below {w w' : World} {v : Value} {ts : List ByteArray} (h : RowS w v ts) (hb : Below w.heap.size w w') : RowS w' v ts := by
  rcases h with h | ⟨a, cap, h1, h2⟩
  · exact .inl h
  · exact .inr ⟨a, cap, h1, fun j t hj => (hb.cell (World.block_lt_of_cell? w _ (h2 j t hj))).trans (h2 j t hj)⟩
def joinS (ts : List ByteArray) : List UInt8 := (ts.map by_).flatten
theorem joinS_one (t : ByteArray) : joinS [t] = by_ t := by simp [joinS]
theorem joinS_next (ts : List ByteArray) (i : Nat) (t : ByteArray) (h : ts[i]? = some t) : joinS (ts.take (i + 1)) = joinS (ts.take i) ++ by_ t := by
  unfold joinS
  rw [List.take_add_one, h]; simp
theorem joinS_le (ts : List ByteArray) (i : Nat) : (joinS (ts.take i)).length ≤ (joinS ts).length := by
  have e : joinS ts = joinS (ts.take i) ++ joinS (ts.drop i) := by
    unfold joinS; rw [← List.flatten_append, ← List.map_append, List.take_append_drop]
  rw [e, List.length_append]; omega
set_option maxRecDepth 100000 in
set_option maxHeartbeats 4000000 in
theorem tag_any (k : ByteArray) (ts : List ByteArray) (v : Value) (w : World) (hk : Consts w) (hkn : k.size < 150000000000000) (ht : RowS w v ts) (hn : (joinS ts).length < 90000000) (hm : ts.length ≤ 1000) :
    Calls Tryd.prog 33 #[.string k, v] w fun e w' => e = .returned (.agg (bytesC (tagOf (by_ k) (joinS ts)))) ∧ Below w.heap.size w w' := by
  have HK := Lib.hid hk
  have HKN := Lib.hid hkn
  have HT := Lib.hid ht
  have HN := Lib.hid hn
  have HP := Lib.hid hk.lt
  have HM := Lib.hid hm
  clear hk hkn ht hn hm
  go_enter Tryd.func33, Tryd.ntmps33
  go_upto_region 1 with (fail)
  change Code.wp _ _ _ _ (w.alloc (.cells z32 25))
  have R2 : Blk (w.alloc (.cells z32 25)) w.heap.size 25 z32 := Blk.new w 25 z32
  have B : Below w.heap.size w (w.alloc (.cells z32 25)) := (Below.refl _ _).alloc (Nat.le_refl _) _
  have hs2 : (w.alloc (.cells z32 25)).heap.size = w.heap.size + 1 := by simp
  generalize w.alloc (.cells z32 25) = w2 at R2 B hs2 ⊢
  have HR := Lib.hid R2
  have HB := Lib.hid B
  clear R2 B
  clear hs2
  refine wp_region_lit ?_
  iterate 5 go_step
  refine (of_any k w2 (HK.out.below HB.out) HKN.out).mono ?_
  rintro e w3 ⟨rfl, hb⟩
  have HR := Lib.hid (HR.out.below hb HR.out.lt)
  have HB := Lib.hid (HB.out.trans (hb.mono HB.out.size))
  clear hb
  have HLT := Lib.hid (show w.heap.size < w3.heap.size from HR.out.lt)
  have hl := blockOf_length (by_ k)
  have HPO := Lib.hid (show (blockOf (by_ k)).map (· ^^^ 0x36) = padOf (by_ k) 0x36 from rfl)
  have HPI := Lib.hid (show (blockOf (by_ k)).map (· ^^^ 0x5c) = padOf (by_ k) 0x5c from rfl)
  generalize blockOf (by_ k) = BK at hl HPO HPI ⊢
  have hsz : (bytesC BK).size = 64 := by rw [bytesC_size, hl]
  have hone := bytesC_one BK
  have HL := Lib.hid hl
  clear hl
  generalize hX : bytesC BK = X at hsz hone ⊢
  have HX := Lib.hid hX
  clear hX
  dsimp only
  iterate 4 go_step
  change wpList _ _ _ _ _ (w3.alloc (.cells zK 97))
  have hz := Blk.new w3 97 zK
  have HR := Lib.hid (HR.out.alloc (.cells zK 97))
  have HB := Lib.hid (HB.out.alloc HB.out.size (.cells zK 97))
  have HS := Lib.hid (show w.heap.size < w3.heap.size from HLT.out)
  generalize hkb : w3.heap.size = kb at hz HS ⊢
  generalize w3.alloc (.cells zK 97) = w4 at hz HR HB ⊢
  refine wpList_store_mid rfl 97 _ _ rfl kb 0 X rfl rfl (hz.there 0 _ (by rw [hsz, zK_size]; exact Nat.le_refl _)) (by rw [hsz]; kernel_rfl) hone ?_
  refine wpList_nil ?_
  simp only [Act.put]
  have hz2 := hz.setCells X.toList 0
  rw [putAll_all _ _ (by rw [hsz, zK_size])] at hz2
  have HR := Lib.hid (HR.out.setCells_far (b := kb) X.toList (by have := HS.out; omega) 0)
  have HB := Lib.hid (Below.setCells' (b := kb) X.toList (by have := HS.out; omega) 0 HB.out)
  clear hz hkb hsz hone
  generalize w4.setCells kb 0 X.toList = w5 at hz2 HR HB ⊢
  rw [← HX.out] at hz2
  have HKB := Lib.hid hz2
  clear hz2
  go_wp2_with fail
  refine (new_any w5).mono ?_
  rintro e w6 ⟨rfl, hH, hlt, hb⟩
  have HR := Lib.hid (HR.out.below hb HR.out.lt)
  have HKH := Lib.hid (show kb < w5.heap.size from HKB.out.lt)
  have HKB := Lib.hid (HKB.out.below hb HKB.out.lt)
  have HB := Lib.hid (HB.out.trans (hb.mono HB.out.size))
  have HH := Lib.hid hH
  have HWH := Lib.hid (show w.heap.size < w5.heap.size by have := HS.out; have := HKH.out; omega)
  clear hb hH hlt
  generalize w5.heap.size = hh at HH HKH HWH ⊢
  go_wp2_with fail
  refine (turned_any 0x36 kb BK HL.out w6 HKB.out).mono ?_
  rintro e w7 ⟨rfl, hb⟩
  have HR := Lib.hid (HR.out.below hb HR.out.lt)
  have HKB := Lib.hid (HKB.out.below hb HKB.out.lt)
  have HH := Lib.hid (HH.out.below hb HH.out.lt)
  have HB := Lib.hid (HB.out.trans (hb.mono HB.out.size))
  clear hb
  rw [HPO.out]
  have HPL := Lib.hid (padOf_length (by_ k) 0x36)
  have HTG := Lib.hid (show sumOf (padOf (by_ k) 0x5c ++ sumOf (padOf (by_ k) 0x36 ++ joinS ts)) = tagOf (by_ k) (joinS ts) from rfl)
  generalize padOf (by_ k) 0x36 = PO at HPL HTG ⊢
  go_wp2_with fail
  refine (add_any hh (by have := HWH.out; omega) [] (strOf PO) w7 (HK.out.below HB.out) HH.out (by rw [strOf_size, HPL.out]; decide)).mono ?_
  rintro e w8 ⟨rfl, hH, hO⟩
  rw [by_strOf, List.nil_append] at hH
  have HR := Lib.hid (HR.out.grown hO (by intro e; have := Option.some.inj e; have := HWH.out; omega))
  have HKB := Lib.hid (HKB.out.grown hO (by intro e; have := Option.some.inj e; have := HKH.out; omega))
  have HB := Lib.hid (HB.out.grown hO HB.out.size (by intro k e; have := Option.some.inj e; have := HWH.out; omega))
  have HH := Lib.hid hH
  clear hH hO
  obtain ⟨ov, capv, rfl, hcv⟩ : ∃ (o : Option Addr) (c : Nat), v = .slice o ts.length c ∧ ∀ (j : Nat) (t : ByteArray), ts[j]? = some t → ∃ a, o = some a ∧ w.cell? (a.add j) = some (.string t) := by
    rcases HT.out with ⟨rfl, rfl⟩ | ⟨a, c, rfl, h⟩
    · exact ⟨none, 0, rfl, fun j t h => by simp at h⟩
    · exact ⟨some a, c, rfl, fun j t hj => ⟨a, rfl, h j t hj⟩⟩
  have HCV := Lib.hid hcv
  clear hcv
  go_wp2_with fail
  go_loopw [9, 20] (fun v9 v20 wr => ∃ i : Nat, i ≤ ts.length ∧ v20 = .int .i64 (i : Int) ∧ Holds wr hh (PO ++ joinS (ts.take i)) ∧ Blk wr w.heap.size 25 z32 ∧ Blk wr kb 97 (bytesC BK) ∧ Below w.heap.size w wr) (fun _ v20 _ => ts.length - (intOf v20).toNat)
  case atStart => exact ⟨0, by omega, rfl, by simpa [joinS] using HH.out, HR.out, HKB.out, HB.out⟩
  case round =>
    obtain ⟨i, hi, rfl, hH, hR, hKB, hB⟩ := hrel
    clear HH HR HKB HB
    have HH := Lib.hid hH
    have HR := Lib.hid hR
    have HKB := Lib.hid hKB
    have HB := Lib.hid hB
    clear hH hR hKB hB
    have hm1 := HM.out
    by_cases hlt : i < ts.length
    · have i1 : (i : Int) < (ts.length : Int) := by omega
      obtain ⟨t, ht⟩ : ∃ t, ts[i]? = some t := ⟨_, List.getElem?_eq_getElem hlt⟩
      obtain ⟨a, rfl, hc⟩ := HCV.out i t ht
      have hc2 := (HB.out.cell (World.block_lt_of_cell? w _ hc)).trans hc
      have HJ := Lib.hid (joinS_next ts i t ht)
      have HJL := Lib.hid (joinS_le ts (i + 1))
      clear hc ht
      go_wp2_with fail
      have hlen : (PO ++ joinS (ts.take i)).length + t.size < 90000000 + 64 := by
        have h1 := congrArg List.length HJ.out
        have h2 := HJL.out
        have h3 := HN.out
        rw [List.length_append, ← by_size] at h1
        rw [List.length_append, HPL.out]; omega
      refine (add_any hh (by have := HWH.out; omega) (PO ++ joinS (ts.take i)) t wr (HK.out.below HB.out) HH.out (by omega)).mono ?_
      clear hlen
      rintro e w8 ⟨rfl, hH, hO⟩
      rw [List.append_assoc, ← HJ.out] at hH
      have HR := Lib.hid (HR.out.grown hO (by intro e; have := Option.some.inj e; have := HWH.out; omega))
      have HKB := Lib.hid (HKB.out.grown hO (by intro e; have := Option.some.inj e; have := HKH.out; omega))
      have HB := Lib.hid (HB.out.grown hO HB.out.size (by intro k e; have := Option.some.inj e; have := HWH.out; omega))
      have HH := Lib.hid hH
      clear hH hO
      go_wp2_with fail
      go_roundw
      case rel => exact ⟨i + 1, by omega, by go_num, HH.out, HR.out, HKB.out, HB.out⟩
      case measure => simp [intOf]; omega
    · have hiN : i = ts.length := by omega
      subst hiN
      have HH := Lib.hid (show Holds wr hh (PO ++ joinS ts) from by have := HH.out; rwa [List.take_of_length_le (Nat.le_refl _)] at this)
      clear hlt hi
      go_upto_region 10 with (fail)
      refine wp_region_lit ?_
      iterate 5 go_step
      refine (turned_any 0x5c kb BK HL.out wr HKB.out).mono ?_
      rintro e w7 ⟨rfl, hb⟩
      have HR := Lib.hid (HR.out.below hb HR.out.lt)
      have HH := Lib.hid (HH.out.below hb HH.out.lt)
      have HB := Lib.hid (HB.out.trans (hb.mono HB.out.size))
      clear hb
      rw [HPI.out]
      have HQL := Lib.hid (padOf_length (by_ k) 0x5c)
      generalize padOf (by_ k) 0x5c = PI at HQL HTG ⊢
      dsimp only
      iterate 6 go_step
      refine (summ_any hh (by have := HWH.out; omega) (PO ++ joinS ts) w7 (HK.out.below HB.out) HH.out (by rw [List.length_append, HPL.out]; have := HN.out; omega)).mono ?_
      rintro e w8 ⟨rfl, hb⟩
      have HR := Lib.hid (HR.out.below hb HR.out.lt)
      have HB := Lib.hid (HB.out.trans (hb.mono HB.out.size))
      clear hb
      have hD := sumOf_length (PO ++ joinS ts)
      generalize sumOf (PO ++ joinS ts) = D at hD HTG ⊢
      have hby := bytes_any D hD w8
      have HD := Lib.hid hD
      clear hD
      generalize bytesC D = XD at hby ⊢
      dsimp only
      iterate 3 go_step
      refine hby.mono ?_
      clear hby
      rintro e w9 ⟨rfl, hb⟩
      have HR := Lib.hid (HR.out.below hb HR.out.lt)
      have HB := Lib.hid (HB.out.trans (hb.mono HB.out.size))
      clear hb
      have hcat : ∀ w', (Op.stringOp .add (strOf PI) (strOf D)).run Tryd.prog w' = .ok (.string (strOf (PI ++ D))) w' := fun w' => by
        rw [← strOf_append]
        exact run_string_add_sum w' _ _ (by rw [strOf_size, strOf_size, HQL.out, HD.out]; decide)
      have hsz2 : (strOf (PI ++ D)).size < 150000000000000 := by rw [strOf_size, List.length_append, HQL.out, HD.out]; decide
      have hsum := sum_any (strOf (PI ++ D)) w9 (HK.out.below HB.out) hsz2
      rw [by_strOf, HTG.out] at hsum
      generalize strOf PI = sPI at hcat ⊢
      generalize strOf D = sD at hcat ⊢
      generalize strOf (PI ++ D) = sPD at hcat hsum
      clear hsz2
      dsimp only
      iterate 6 go_step
      refine hsum.mono ?_
      clear hsum hcat
      rintro e w10 ⟨rfl, hb⟩
      have HR := Lib.hid (HR.out.below hb HR.out.lt)
      have HB := Lib.hid (HB.out.trans (hb.mono HB.out.size))
      clear hb
      have hsz : (bytesC (tagOf (by_ k) (joinS ts))).size = 32 := by rw [bytesC_size, tagOf_length]
      have hone := bytesC_one (tagOf (by_ k) (joinS ts))
      generalize hTT : bytesC (tagOf (by_ k) (joinS ts)) = TT at hsz hone ⊢
      have HTT := Lib.hid hTT
      clear hTT
      have hi25 : (Tryd.prog.info? 25).map (·.size) = some TT.size := by rw [hsz]; kernel_rfl
      dsimp only
      go_step
      refine wpList_store_mid rfl 25 _ _ rfl w.heap.size 0 TT rfl rfl (HR.out.there 0 _ (by rw [hsz, z32_size]; exact Nat.le_refl _)) hi25 hone ?_
      refine wpList_nil ?_
      simp only [Act.put]
      have hz := HR.out.setCells TT.toList 0
      rw [putAll_all _ _ (by rw [hsz, z32_size])] at hz
      have B3 := Below.setCells' TT.toList (Nat.le_refl _) 0 HB.out
      have HI := Lib.hid hi25
      clear hi25 hone hsz
      generalize w10.setCells w.heap.size 0 TT.toList = w11 at hz B3 ⊢
      have HZ := Lib.hid hz
      have HB9 := Lib.hid B3
      clear hz B3
      go_wp2_with fail
      refine bodyPost_ret (v := .agg TT) (results_cell_row rfl _ _ w.heap.size 25 TT _ _ rfl HZ.out Tryd.underlying25 rfl HI.out) rfl ⟨by rw [HTT.out], HB9.out⟩
end Go.Proofs.YtkbcilfcfbfiaaaDoor
