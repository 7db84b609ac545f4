/- RingTurned: the walk. -/
import Derived.Test.YtkbcilfcfbfiaaaDoorRing10
namespace Go.Proofs.YtkbcilfcfbfiaaaDoor
open Go.RowKit Go.Proofs
set_option linter.unusedSimpArgs false
set_option linter.unusedVariables false
theorem z32_at {m : Nat} (h : m < 32) : z32[m]? = some (.int .u8 0) := by
  unfold z32 bytesC
  simp only [List.getElem?_toArray, List.getElem?_map, List.getElem?_replicate, if_pos h]
  rfl
theorem pow_u8 (k : Nat) (h : k < 8) : ∃ y : UInt8, ((2 : Int) ^ k % 256) = (y.toNat : Int) ∧ y ≠ 0 := by
  match k, h with
  | 0, _ => exact ⟨1, by decide, by decide⟩
  | 1, _ => exact ⟨2, by decide, by decide⟩
  | 2, _ => exact ⟨4, by decide, by decide⟩
  | 3, _ => exact ⟨8, by decide, by decide⟩
  | 4, _ => exact ⟨16, by decide, by decide⟩
  | 5, _ => exact ⟨32, by decide, by decide⟩
  | 6, _ => exact ⟨64, by decide, by decide⟩
  | 7, _ => exact ⟨128, by decide, by decide⟩
theorem turned_ne (D : List UInt8) (m : Nat) (h : m < D.length) (y : UInt8) (hy : y ≠ 0) : (D == D.set m (D.getD m 0 ^^^ y)) = false := by
  rw [beq_eq_false_iff_ne]
  intro e
  have e2 : D[m]? = (D.set m (D.getD m 0 ^^^ y))[m]? := by rw [← e]
  rw [List.getElem?_set_self h, List.getElem?_eq_getElem h] at e2
  have e3 : D[m] = D.getD m 0 ^^^ y := Option.some.inj e2
  rw [List.getD_eq_getElem?_getD, List.getElem?_eq_getElem h, Option.getD_some] at e3
  apply hy
  generalize D[m] = x at e3
  calc y = (x ^^^ x) ^^^ y := by simp
    _ = x ^^^ (x ^^^ y) := UInt8.xor_assoc _ _ _
    _ = x ^^^ x := by rw [← e3]
    _ = 0 := by simp
def kT : ByteArray := { data := #[107] }
set_option maxRecDepth 100000 in
set_option maxHeartbeats 4000000 in
theorem ringTurned_any (c d : Int) (t : ByteArray) (hc : In64 c) (hd : In64 d) (ht : t.size ≤ maxLen) (bit : Int) (hb0 : 0 ≤ bit) (hb1 : bit ≤ 255) (w : World) (hk : Consts w) :
    Calls Tryd.prog 20 #[.agg #[.int .i64 c, .int .i64 d, .string t], .int .u8 bit] w fun e w' => e = .returned (.bool true) ∧ Below w.heap.size w w' := by
  have HP := Lib.hid hk.lt
  go_enter Tryd.func20, Tryd.ntmps20
  go_upto_region 1 with (fail)
  change Code.wp _ _ _ _ (w.alloc (.cells #[.int .i64 c, .int .i64 d, .string t] 68))
  have hA : Blk (w.alloc (.cells #[.int .i64 c, .int .i64 d, .string t] 68)) w.heap.size 68 #[.int .i64 c, .int .i64 d, .string t] := Blk.new w 68 _
  have hB : Below w.heap.size w (w.alloc (.cells #[.int .i64 c, .int .i64 d, .string t] 68)) := (Below.refl _ _).alloc (Nat.le_refl _) _
  have HK := Lib.hid (hk.below hB)
  generalize w.alloc (.cells #[.int .i64 c, .int .i64 d, .string t] 68) = w1 at hA hB HK ⊢
  have HA := Lib.hid hA
  have HB := Lib.hid hB
  clear hA hB hk
  go_wp2_with fail
  refine (ring_new kT 4 w1 HK.out (by omega) (by omega) (by decide)).mono ?_
  rintro e w2 ⟨r, g, cap, b, rfl, hR, hB, hb⟩
  have HBB := Lib.hid (Nat.lt_of_lt_of_le HA.out.lt hb)
  have HA := Lib.hid (HA.out.below hB HA.out.lt)
  have HR := Lib.hid hR
  have HK := Lib.hid (HK.out.below hB)
  have HB := Lib.hid (HB.out.trans (hB.mono HB.out.size))
  clear hR hB hb
  go_wp2_with fail
  refine (awakeR_any w2 HK.out).mono ?_
  rintro e w3 ⟨rfl, hb⟩
  have HA := Lib.hid (HA.out.below hb HA.out.lt)
  have HR := Lib.hid (HR.out.below hb)
  have HK := Lib.hid (HK.out.below hb)
  have HB := Lib.hid (HB.out.trans (hb.mono HB.out.size))
  clear hb
  have a0 := HA.out.cell 0
  have a1 := HA.out.cell 1
  have a2 := HA.out.cell 2
  go_wp2_with fail
  refine (light_any c d t w3).mono ?_
  clear a0 a1 a2
  rintro e w4 ⟨rfl, hb⟩
  have HA := Lib.hid (HA.out.below hb HA.out.lt)
  have HR := Lib.hid (HR.out.below hb)
  have HK := Lib.hid (HK.out.below hb)
  have HB := Lib.hid (HB.out.trans (hb.mono HB.out.size))
  clear hb
  have a0 := HA.out.cell 0
  have a1 := HA.out.cell 1
  have a2 := HA.out.cell 2
  cases hli : lightB t.size
  · clear hli
    go_wp2_with fail
    refine (awakeR_any w4 HK.out).mono ?_
    clear a0 a1 a2
    rintro e w5 ⟨rfl, hb⟩
    have HB := Lib.hid (HB.out.trans (hb.mono HB.out.size))
    clear hb
    go_wp2_with fail
    go_ret
    exact ⟨rfl, HB.out⟩
  · clear hli
    go_wp2_with fail
    clear a0 a1 a2
    by_cases hm : MayB 4 c d t.size
    · obtain ⟨j, rfl⟩ : ∃ j : Nat, c = (j : Int) := ⟨c.toNat, by have := hm.1; omega⟩
      have hb0' : 0 < b := by have := HBB.out; have := HP.out; omega
      refine (rtag_ok j d t r g cap b 4 kT [] w4 HK.out HR.out hm (by decide) hb0').mono ?_
      rintro e w5 ⟨rfl, hR, hG⟩
      have HA := Lib.hid (HA.out.grown hG (fun e => by have := Option.some.inj e; have := HBB.out; omega))
      have HK := Lib.hid (HK.out.only hG hb0')
      have HB := Lib.hid (HB.out.grown hG HB.out.size (fun k e => by have := Option.some.inj e; have := HBB.out; omega))
      have HR := Lib.hid hR
      clear hR hG hb0'
      dsimp only
      have hD := signOf_length kT j d t
      have HC := Lib.hid (fun (D : List UInt8) (hD : D.length = 32) w hk hR => rcheck_ok j d t D hD r g cap b 4 kT (addL [] (ln j d t)) w hk hR hm)
      generalize signOf kT j d t = D at hD HC ⊢
      have hsz : (bytesC D).size = 32 := by rw [bytesC_size, hD]
      have hone := bytesC_one D
      have HXD := Lib.hid (fun (m : Nat) (h : m < 32) => show (bytesC D)[m]? = some (bb (D.getD m 0)) by
        unfold bytesC
        rw [List.getElem?_toArray, List.getElem?_map, List.getElem?_eq_getElem (by omega), List.getD_eq_getElem?_getD, List.getElem?_eq_getElem (by omega)]; rfl)
      generalize hX : bytesC D = X at hsz hone HXD ⊢
      have HX := Lib.hid hX
      clear hX
      iterate 13 go_step
      change wpList _ _ _ _ _ (w5.alloc (.cells z32 25))
      have hz := Blk.new w5 25 z32
      have hi25 : (Tryd.prog.info? 25).map (·.size) = some X.size := by rw [hsz]; kernel_rfl
      refine wpList_store_mid rfl 25 _ _ rfl w5.heap.size 0 X rfl rfl (hz.there 0 _ (by rw [hsz, z32_size]; exact Nat.le_refl _)) hi25 hone ?_
      simp only [Act.put]
      have hz2 := hz.setCells X.toList 0
      rw [putAll_all _ _ (by rw [hsz, z32_size])] at hz2
      have hO := grown_stored w5 (.cells z32 25) X.toList
      have HQL := Lib.hid HB.out.size
      have HQG := Lib.hid (show r ≠ w5.heap.size ∧ g ≠ w5.heap.size ∧ b ≠ w5.heap.size ∧ w.heap.size ≠ w5.heap.size from ⟨Nat.ne_of_lt HR.out.lt, Nat.ne_of_lt (World.block_lt_of_cell? w5 _ (HR.out.keys 0 (by decide))), Nat.ne_of_lt HR.out.book.lt, Nat.ne_of_lt HA.out.lt⟩)
      generalize (w5.alloc (.cells z32 25)).setCells w5.heap.size 0 X.toList = w6 at hz2 hO ⊢
      have HA := Lib.hid (HA.out.below hO HA.out.lt)
      have HK := Lib.hid (HK.out.below hO)
      have HR := Lib.hid (HR.out.below hO)
      have HB := Lib.hid (HB.out.trans (hO.mono HB.out.size))
      clear hz hO hi25 hone
      generalize w5.heap.size = q at hz2 HQL HQG ⊢
      have HQ := Lib.hid hz2
      clear hz2
      obtain ⟨m, k, hm32, hk8, hbit⟩ : ∃ m k : Nat, m < 32 ∧ k < 8 ∧ bit = 8 * (m : Int) + (k : Int) := ⟨bit.toNat / 8, bit.toNat % 8, by omega, by omega, by omega⟩
      have e1 : bit / 8 = (m : Int) := by omega
      have e2 : bit % 8 = (k : Int) := by omega
      clear hbit
      have i1 : (0 : Int) ≤ (m : Int) := by omega
      have i2 : (m : Int) < 32 := by omega
      obtain ⟨y, hy1, hy2⟩ := pow_u8 k hk8
      have HNE := Lib.hid (turned_ne D m (by omega) y hy2)
      have hxy := B_xor (D.getD m 0) y
      have hcell : w6.cell? ⟨q, m, none⟩ = some (.int .u8 ((D.getD m 0).toNat : Int)) := (HQ.out.cell m).trans (HXD.out m hm32)
      have hset : X.setIfInBounds m (bb (D.getD m 0 ^^^ y)) = bytesC (D.set m (D.getD m 0 ^^^ y)) := by
        rw [← HX.out]; unfold bytesC
        rw [List.setIfInBounds_toArray, List.map_set]
      have hl2 : (D.set m (D.getD m 0 ^^^ y)).length = 32 := by rw [List.length_set, hD]
      generalize D.getD m 0 = x at HNE hxy hcell hset hl2
      have HZ := Lib.hid (HQ.out.set_ m (bb (x ^^^ y)))
      rw [hset] at HZ
      have hfz := HQ.out.frozen m
      go_upto_region 6 with (fail)
      rw [← UInt8.toNat_xor]
      change Code.wp _ _ _ _ (w6.setCell ⟨q, m, none⟩ (bb (x ^^^ y)))
      have hO : OnlyAt q w6 (w6.setCell ⟨q, m, none⟩ (bb (x ^^^ y))) := grownBy_setCell ⟨rfl, rfl, rfl, Nat.le_refl _, fun _ _ _ => rfl⟩ rfl _
      have HR := Lib.hid (HR.out.only hO HQG.out.1 HQG.out.2.1 HQG.out.2.2.1)
      have HK := Lib.hid (HK.out.only hO (by have := HQL.out; have := HP.out; omega))
      have HA := Lib.hid (HA.out.grown hO (fun e => HQG.out.2.2.2 (Option.some.inj e)))
      have HB := Lib.hid (HB.out.setCell (p := ⟨q, m, none⟩) HQL.out (bb (x ^^^ y)))
      clear hcell hfz hset hxy hO e1 e2 i1 i2 hy1
      generalize w6.setCell ⟨q, m, none⟩ (bb (x ^^^ y)) = w7 at HR HK HA HB HZ ⊢
      have hc2 := HC.out _ hl2 w7 HK.out HR.out
      rw [HNE.out] at hc2
      have hs2 : (bytesC (D.set m (x ^^^ y))).size = 32 := by rw [bytesC_size, hl2]
      generalize bytesC (D.set m (x ^^^ y)) = Y at HZ hc2 hs2
      have HC2 := Lib.hid hc2
      have HS2 := Lib.hid hs2
      clear hc2 hs2 hl2
      have a0 := HA.out.cell 0
      have a1 := HA.out.cell 1
      have a2 := HA.out.cell 2
      go_wp2_with (first
        | (refine wpList_loadG rfl 25 _ rfl (p := .pointer (some ⟨q, 0, none⟩)) rfl (load25 HZ.out HS2.out) ?_; simp only [Act.put, List.setIfInBounds_toArray, List.set_cons_zero, List.set_cons_succ])
        | fail)
      refine HC2.out.mono ?_
      clear a0 a1 a2
      rintro e w8 ⟨rfl, hb⟩
      have HB := Lib.hid (HB.out.trans (hb.mono HB.out.size))
      clear hb
      go_wp2_with fail
      go_ret
      exact ⟨rfl, HB.out⟩
    · refine (rtag_bad c d t r g cap b 4 kT [] w4 HR.out hm).mono ?_
      rintro e w5 ⟨rfl, hb⟩
      have HB := Lib.hid (HB.out.trans (hb.mono HB.out.size))
      clear hb
      dsimp only
      have hsz := z32_size
      have hone : z32.all (·.oneCell') = true := bytesC_one _
      iterate 13 go_step
      change wpList _ _ _ _ _ (w5.alloc (.cells z32 25))
      have hz := Blk.new w5 25 z32
      have hi25 : (Tryd.prog.info? 25).map (·.size) = some z32.size := by rw [hsz]; kernel_rfl
      refine wpList_store_mid rfl 25 _ _ rfl w5.heap.size 0 z32 rfl rfl (hz.there 0 _ (by rw [z32_size]; exact Nat.le_refl _)) hi25 hone ?_
      simp only [Act.put]
      have hz2 := hz.setCells z32.toList 0
      rw [putAll_all _ _ rfl] at hz2
      have hO := grown_stored w5 (.cells z32 25) z32.toList
      have HQL := Lib.hid HB.out.size
      generalize (w5.alloc (.cells z32 25)).setCells w5.heap.size 0 z32.toList = w6 at hz2 hO ⊢
      have HB := Lib.hid (HB.out.trans (hO.mono HB.out.size))
      clear hz hO hi25 hone
      generalize w5.heap.size = q at hz2 HQL ⊢
      have HQ := Lib.hid hz2
      clear hz2 hsz
      go_upto_region 5 with (fail)
      obtain ⟨m, k, hm32, hk8, hbit⟩ : ∃ m k : Nat, m < 32 ∧ k < 8 ∧ bit = 8 * (m : Int) + (k : Int) := ⟨bit.toNat / 8, bit.toNat % 8, by omega, by omega, by omega⟩
      have e1 : bit / 8 = (m : Int) := by omega
      have e2 : bit % 8 = (k : Int) := by omega
      have HBIT := Lib.hid hbit
      clear hbit
      have i1 : (0 : Int) ≤ (m : Int) := by omega
      have i2 : (m : Int) < 32 := by omega
      have hcell : w6.cell? ⟨q, m, none⟩ = some (.int .u8 0) := (HQ.out.cell m).trans (z32_at hm32)
      have hfz := HQ.out.frozen m
      go_wp2_with fail
      go_ret
      exact ⟨rfl, HB.out.setCell (p := ⟨q, m, none⟩) HQL.out _⟩
end Go.Proofs.YtkbcilfcfbfiaaaDoor
