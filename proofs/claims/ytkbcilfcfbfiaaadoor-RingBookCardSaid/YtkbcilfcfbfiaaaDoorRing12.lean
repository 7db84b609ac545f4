/- RingSame: the walk. -/
import Derived.Test.YtkbcilfcfbfiaaaDoorRing11
namespace Go.Proofs.YtkbcilfcfbfiaaaDoor
open Go.RowKit Go.Proofs
set_option linter.unusedSimpArgs false
set_option linter.unusedVariables false
theorem RingAt.beside {w w' : World} {r g cap b N s gs caps bs M : Nat} {sd sd' : ByteArray} {S S' : List Ln} (h : RingAt w r g cap b sd N S) (k : RingAt w s gs caps bs sd' M S') (hg : w.grownBy w' (some b)) (hne : bs ≠ b) : RingAt w' s gs caps bs sd' M S' :=
  k.only hg (fun e => h.book.ne_ k.ring e.symm) (fun e => by
    obtain ⟨es, clock, hm⟩ := h.book.map
    have hk := k.keys 0 (by have := k.two; omega)
    subst e
    simp [World.cell?, hm] at hk) hne
theorem made_empty (c d : Int) (t : ByteArray) (hc : In64 c) (hd : In64 d) (ht : t.size ≤ maxLen) (r g cap b N : Nat) (sd : ByteArray) (w : World) (hR : RingAt w r g cap b sd N []) :
    Calls Tryd.prog 56 #[.pointer (some ⟨r, 0, none⟩), .int .i64 c, .int .i64 d, .string t] w fun e w' => e = .returned (.bool false) ∧ w = w' := by
  have h := made_any c d t hc hd ht r g cap b N sd [] w hR
  rw [decide_eq_false (show ¬ ln c d t ∈ ([] : List Ln) by simp)] at h
  exact h
theorem may_not (c d : Int) (t : ByteArray) (r g cap b N : Nat) (sd : ByteArray) (S : List Ln) (w : World) (hR : RingAt w r g cap b sd N S) (hm : ¬ MayB N c d t.size) :
    Calls Tryd.prog 75 #[.pointer (some ⟨r, 0, none⟩), .agg #[.int .i64 c, .int .i64 d, .string t]] w fun e w' => e = .returned (.bool false) ∧ Below w.heap.size w w' := by
  have h := may_any c d t r g cap b N sd S w hR
  rw [decide_eq_false hm] at h
  exact h
set_option maxRecDepth 100000 in
set_option maxHeartbeats 4000000 in
theorem ringSame_big (sd : ByteArray) (c d : Int) (t : ByteArray) (hc : In64 c) (hd : In64 d) (ht : t.size ≤ maxLen) (hs64 : 64 < sd.size) (w : World) (hk : Consts w) :
    Calls Tryd.prog 21 #[.string sd, .agg #[.int .i64 c, .int .i64 d, .string t]] w fun e w' => e = .returned (.bool true) ∧ Below w.heap.size w w' := by
  have HP := Lib.hid hk.lt
  go_enter Tryd.func21, Tryd.ntmps21
  go_upto_region 1 with (fail)
  change Code.wp _ _ _ _ (w.alloc (.cells #[.int .i64 c, .int .i64 d, .string t] 68))
  have hA : Blk (w.alloc (.cells #[.int .i64 c, .int .i64 d, .string t] 68)) w.heap.size 68 #[.int .i64 c, .int .i64 d, .string t] := Blk.new w 68 _
  have hB : Below w.heap.size w (w.alloc (.cells #[.int .i64 c, .int .i64 d, .string t] 68)) := (Below.refl _ _).alloc (Nat.le_refl _) _
  have HK := Lib.hid (hk.below hB)
  generalize w.alloc (.cells #[.int .i64 c, .int .i64 d, .string t] 68) = w1 at hA hB HK ⊢
  have HA := Lib.hid hA
  have HB := Lib.hid hB
  clear hA hB hk
  go_wp2_with fail
  refine (new_bad sd 4 w1 (by omega)).mono ?_
  rintro e w2 ⟨rfl, hb⟩
  have HA := Lib.hid (HA.out.below hb HA.out.lt)
  have HK := Lib.hid (HK.out.below hb)
  have HB := Lib.hid (HB.out.trans (hb.mono HB.out.size))
  clear hb
  go_wp2_with fail
  refine (new_bad sd 4 w2 (by omega)).mono ?_
  rintro e w3 ⟨rfl, hb⟩
  have HA := Lib.hid (HA.out.below hb HA.out.lt)
  have HK := Lib.hid (HK.out.below hb)
  have HB := Lib.hid (HB.out.trans (hb.mono HB.out.size))
  clear hb
  go_wp2_with fail
  refine (awakeR_any w3 HK.out).mono ?_
  rintro e w4 ⟨rfl, hb⟩
  have HA := Lib.hid (HA.out.below hb HA.out.lt)
  have HK := Lib.hid (HK.out.below hb)
  have HB := Lib.hid (HB.out.trans (hb.mono HB.out.size))
  clear hb
  have a0 := HA.out.cell 0
  have a1 := HA.out.cell 1
  have a2 := HA.out.cell 2
  go_wp2_with fail
  refine (light_any c d t w4).mono ?_
  clear a0 a1 a2
  rintro e w5 ⟨rfl, hb⟩
  have HA := Lib.hid (HA.out.below hb HA.out.lt)
  have HK := Lib.hid (HK.out.below hb)
  have HB := Lib.hid (HB.out.trans (hb.mono HB.out.size))
  clear hb
  cases hli : lightB t.size
  · clear hli
    go_wp2_with fail
    refine (awakeR_any w5 HK.out).mono ?_
    rintro e w6 ⟨rfl, hb⟩
    have HB := Lib.hid (HB.out.trans (hb.mono HB.out.size))
    clear hb
    go_wp2_with fail
    go_ret
    exact ⟨rfl, HB.out⟩
  · clear hli
    have hq : decide ((64 : Int) < (sd.size : Int)) = true := decide_eq_true (by omega)
    go_wp2_with fail
    go_ret
    exact ⟨rfl, HB.out⟩
set_option maxRecDepth 100000 in
set_option maxHeartbeats 4000000 in
theorem ringSame_ok (sd : ByteArray) (c d : Int) (t : ByteArray) (hc : In64 c) (hd : In64 d) (ht : t.size ≤ maxLen) (hs64 : sd.size ≤ 64) (w : World) (hk : Consts w) :
    Calls Tryd.prog 21 #[.string sd, .agg #[.int .i64 c, .int .i64 d, .string t]] w fun e w' => e = .returned (.bool true) ∧ Below w.heap.size w w' := by
  have HP := Lib.hid hk.lt
  go_enter Tryd.func21, Tryd.ntmps21
  go_upto_region 1 with (fail)
  change Code.wp _ _ _ _ (w.alloc (.cells #[.int .i64 c, .int .i64 d, .string t] 68))
  have hA : Blk (w.alloc (.cells #[.int .i64 c, .int .i64 d, .string t] 68)) w.heap.size 68 #[.int .i64 c, .int .i64 d, .string t] := Blk.new w 68 _
  have hB : Below w.heap.size w (w.alloc (.cells #[.int .i64 c, .int .i64 d, .string t] 68)) := (Below.refl _ _).alloc (Nat.le_refl _) _
  have HK := Lib.hid (hk.below hB)
  generalize w.alloc (.cells #[.int .i64 c, .int .i64 d, .string t] 68) = w1 at hA hB HK ⊢
  have HA := Lib.hid hA
  have HB := Lib.hid hB
  clear hA hB hk
  go_wp2_with fail
  refine (ring_new sd 4 w1 HK.out (by omega) (by omega) hs64).mono ?_
  rintro e w2 ⟨r, g, cap, b, rfl, hR, hB, hb⟩
  have HBB := Lib.hid (Nat.lt_of_lt_of_le HA.out.lt hb)
  have HA := Lib.hid (HA.out.below hB HA.out.lt)
  have HR := Lib.hid hR
  have HK := Lib.hid (HK.out.below hB)
  have HB := Lib.hid (HB.out.trans (hB.mono HB.out.size))
  clear hR hB hb
  go_wp2_with fail
  refine (ring_new sd 4 w2 HK.out (by omega) (by omega) hs64).mono ?_
  rintro e w3 ⟨s, gs, caps, bs, rfl, hS, hB, hb⟩
  have HNE := Lib.hid (show bs ≠ b from fun e => by have := HR.out.book.lt; omega)
  have HA := Lib.hid (HA.out.below hB HA.out.lt)
  have HR := Lib.hid (HR.out.below hB)
  have HS := Lib.hid hS
  have HK := Lib.hid (HK.out.below hB)
  have HB := Lib.hid (HB.out.trans (hB.mono HB.out.size))
  clear hS hB hb
  go_wp2_with fail
  refine (awakeR_any w3 HK.out).mono ?_
  rintro e w4 ⟨rfl, hb⟩
  have HA := Lib.hid (HA.out.below hb HA.out.lt)
  have HR := Lib.hid (HR.out.below hb)
  have HS := Lib.hid (HS.out.below hb)
  have HK := Lib.hid (HK.out.below hb)
  have HB := Lib.hid (HB.out.trans (hb.mono HB.out.size))
  clear hb
  have a0 := HA.out.cell 0
  have a1 := HA.out.cell 1
  have a2 := HA.out.cell 2
  go_wp2_with fail
  refine (light_any c d t w4).mono ?_
  clear a0 a1 a2
  rintro e w5 ⟨rfl, hb⟩
  have HA := Lib.hid (HA.out.below hb HA.out.lt)
  have HR := Lib.hid (HR.out.below hb)
  have HS := Lib.hid (HS.out.below hb)
  have HK := Lib.hid (HK.out.below hb)
  have HB := Lib.hid (HB.out.trans (hb.mono HB.out.size))
  clear hb
  have a0 := HA.out.cell 0
  have a1 := HA.out.cell 1
  have a2 := HA.out.cell 2
  cases hli : lightB t.size
  · clear hli
    go_wp2_with fail
    refine (awakeR_any w5 HK.out).mono ?_
    clear a0 a1 a2
    rintro e w6 ⟨rfl, hb⟩
    have HB := Lib.hid (HB.out.trans (hb.mono HB.out.size))
    clear hb
    go_wp2_with fail
    go_ret
    exact ⟨rfl, HB.out⟩
  · clear hli
    go_wp2_with fail
    clear a0 a1 a2
    by_cases hm : MayB 4 c d t.size
    · obtain ⟨j, rfl⟩ : ∃ j : Nat, c = (j : Int) := ⟨c.toNat, by have := hm.1; omega⟩
      have hb0' : 0 < b := by have := HBB.out; have := HP.out; omega
      refine (rtag_ok j d t r g cap b 4 sd [] w5 HK.out HR.out hm (by decide) hb0').mono ?_
      rintro e w6 ⟨rfl, hR, hG⟩
      rename_i w5'
      have HA := Lib.hid (HA.out.grown hG (fun e => by have := Option.some.inj e; have := HBB.out; omega))
      have HK := Lib.hid (HK.out.only hG hb0')
      have HB := Lib.hid (HB.out.grown hG HB.out.size (fun k e => by have := Option.some.inj e; have := HBB.out; omega))
      have HS := Lib.hid (HR.out.beside HS.out hG HNE.out)
      have HR := Lib.hid hR
      clear hR hG hb0'
      have hD := signOf_length sd j d t
      have hcc := fun w hk hR => rcheck_ok j d t (signOf sd j d t) hD s gs caps bs 4 sd [] w hk hR hm
      rw [beq_self_eq_true] at hcc
      have HC := Lib.hid hcc
      clear hcc
      generalize signOf sd j d t = D at hD HC ⊢
      have hsz : (bytesC D).size = 32 := by rw [bytesC_size, hD]
      have hone := bytesC_one D
      generalize bytesC D = X at hsz hone HC ⊢
      clear hD
      dsimp only


      iterate 13 go_step
      change wpList _ _ _ _ _ (w6.alloc (.cells z32 25))
      have hz := Blk.new w6 25 z32
      have hi25 : (Tryd.prog.info? 25).map (·.size) = some X.size := by rw [hsz]; kernel_rfl
      refine wpList_store_mid rfl 25 _ _ rfl w6.heap.size 0 X rfl rfl (hz.there 0 _ (by rw [hsz, z32_size]; exact Nat.le_refl _)) hi25 hone ?_
      simp only [Act.put]
      have hz2 := hz.setCells X.toList 0
      rw [putAll_all _ _ (by rw [hsz, z32_size])] at hz2
      have hb := grown_stored w6 (.cells z32 25) X.toList
      generalize (w6.alloc (.cells z32 25)).setCells w6.heap.size 0 X.toList = w7x at hz2 hb ⊢
      have HA := Lib.hid (HA.out.below hb HA.out.lt)
      have HR := Lib.hid (HR.out.below hb)
      have HS := Lib.hid (HS.out.below hb)
      have HK := Lib.hid (HK.out.below hb)
      have HB := Lib.hid (HB.out.trans (hb.mono HB.out.size))
      clear hb
      clear hz hi25 hone
      generalize w6.heap.size = q at hz2 ⊢
      have HQ := Lib.hid hz2


      have HSZ := Lib.hid hsz
      clear hz2 hsz 
      have a0 := HA.out.cell 0
      have a1 := HA.out.cell 1
      have a2 := HA.out.cell 2
      go_wp2_with (first
        | (refine wpList_loadG rfl 25 _ rfl (p := .pointer (some ⟨q, 0, none⟩)) rfl (load25 HQ.out HSZ.out) ?_; simp only [Act.put, List.setIfInBounds_toArray, List.set_cons_zero, List.set_cons_succ])
        | fail)
      refine (HC.out w7x HK.out HS.out).mono ?_
      clear a0 a1 a2
      rintro e w8x ⟨rfl, hb⟩
      have HA := Lib.hid (HA.out.below hb HA.out.lt)
      have HR := Lib.hid (HR.out.below hb)
      have HS := Lib.hid (HS.out.below hb)
      have HK := Lib.hid (HK.out.below hb)
      have HB := Lib.hid (HB.out.trans (hb.mono HB.out.size))
      clear hb
      go_wp2_with fail
      refine (show Calls Tryd.prog 58 #[.pointer (some ⟨s, 0, none⟩)] w8x fun e w' => e = .returned (.int .i64 0) ∧ w8x = w' from rlen_any s gs caps bs 4 sd [] w8x HS.out).mono ?_
      rintro e w' ⟨rfl, rfl⟩
      have a0 := HA.out.cell 0
      have a1 := HA.out.cell 1
      have a2 := HA.out.cell 2
      go_wp2_with fail
      refine (made_empty j d t hc hd ht s gs caps bs 4 sd w8x HS.out).mono ?_
      clear a0 a1 a2
      rintro e w' ⟨rfl, rfl⟩
      go_wp2_with fail
      refine (secret_any r g cap b 4 sd _ w8x HK.out HR.out hs64).mono ?_
      rintro e w9x ⟨rfl, hb⟩
      have HA := Lib.hid (HA.out.below hb HA.out.lt)
      have HR := Lib.hid (HR.out.below hb)
      have HS := Lib.hid (HS.out.below hb)
      have HK := Lib.hid (HK.out.below hb)
      have HB := Lib.hid (HB.out.trans (hb.mono HB.out.size))
      clear hb
      have hse := secret_any s gs caps bs 4 sd [] w9x HK.out HS.out hs64
      generalize strOf (madeOf (by_ sd) (by_ secretT) 0) = SE at hse ⊢
      go_wp2_with fail
      refine hse.mono ?_
      clear hse
      rintro e w10x ⟨rfl, hb⟩
      have HB := Lib.hid (HB.out.trans (hb.mono HB.out.size))
      clear hb
      go_wp2_with fail
      go_ret
      exact ⟨rfl, HB.out⟩
    · refine (rtag_bad c d t r g cap b 4 sd [] w5 HR.out hm).mono ?_
      rintro e w6 ⟨rfl, hb⟩
      have HA := Lib.hid (HA.out.below hb HA.out.lt)
      have HR := Lib.hid (HR.out.below hb)
      have HS := Lib.hid (HS.out.below hb)
      have HK := Lib.hid (HK.out.below hb)
      have HB := Lib.hid (HB.out.trans (hb.mono HB.out.size))
      clear hb
      have HC := Lib.hid (fun w (hk : Consts w) (hS : RingAt w s gs caps bs sd 4 []) => rcheck_no (some ⟨s, 0, none⟩) c d t z32 w (fun w' hb => may_not c d t s gs caps bs 4 sd [] w' (hS.below hb) hm))
      dsimp only
      have hsz := z32_size
      have hone : z32.all (·.oneCell') = true := bytesC_one _
      iterate 13 go_step
      change wpList _ _ _ _ _ (w6.alloc (.cells z32 25))
      have hz := Blk.new w6 25 z32
      have hi25 : (Tryd.prog.info? 25).map (·.size) = some z32.size := by rw [hsz]; kernel_rfl
      refine wpList_store_mid rfl 25 _ _ rfl w6.heap.size 0 z32 rfl rfl (hz.there 0 _ (by rw [z32_size]; exact Nat.le_refl _)) hi25 hone ?_
      simp only [Act.put]
      have hz2 := hz.setCells z32.toList 0
      rw [putAll_all _ _ (rfl)] at hz2
      have hb := grown_stored w6 (.cells z32 25) z32.toList
      generalize (w6.alloc (.cells z32 25)).setCells w6.heap.size 0 z32.toList = w7x at hz2 hb ⊢
      have HA := Lib.hid (HA.out.below hb HA.out.lt)
      have HR := Lib.hid (HR.out.below hb)
      have HS := Lib.hid (HS.out.below hb)
      have HK := Lib.hid (HK.out.below hb)
      have HB := Lib.hid (HB.out.trans (hb.mono HB.out.size))
      clear hb
      clear hz hi25 hone
      generalize w6.heap.size = q at hz2 ⊢
      have HQ := Lib.hid hz2
      have hzz := z32_size
      generalize z32 = X at HQ hzz HC ⊢
      have HSZ := Lib.hid hzz
      clear hz2 hsz hzz
      have a0 := HA.out.cell 0
      have a1 := HA.out.cell 1
      have a2 := HA.out.cell 2
      go_wp2_with (first
        | (refine wpList_loadG rfl 25 _ rfl (p := .pointer (some ⟨q, 0, none⟩)) rfl (load25 HQ.out HSZ.out) ?_; simp only [Act.put, List.setIfInBounds_toArray, List.set_cons_zero, List.set_cons_succ])
        | fail)
      refine (HC.out w7x HK.out HS.out).mono ?_
      clear a0 a1 a2
      rintro e w8x ⟨rfl, hb⟩
      have HA := Lib.hid (HA.out.below hb HA.out.lt)
      have HR := Lib.hid (HR.out.below hb)
      have HS := Lib.hid (HS.out.below hb)
      have HK := Lib.hid (HK.out.below hb)
      have HB := Lib.hid (HB.out.trans (hb.mono HB.out.size))
      clear hb
      go_wp2_with fail
      refine (show Calls Tryd.prog 58 #[.pointer (some ⟨s, 0, none⟩)] w8x fun e w' => e = .returned (.int .i64 0) ∧ w8x = w' from rlen_any s gs caps bs 4 sd [] w8x HS.out).mono ?_
      rintro e w' ⟨rfl, rfl⟩
      have a0 := HA.out.cell 0
      have a1 := HA.out.cell 1
      have a2 := HA.out.cell 2
      go_wp2_with fail
      refine (made_empty c d t hc hd ht s gs caps bs 4 sd w8x HS.out).mono ?_
      clear a0 a1 a2
      rintro e w' ⟨rfl, rfl⟩
      go_wp2_with fail
      refine (secret_any r g cap b 4 sd _ w8x HK.out HR.out hs64).mono ?_
      rintro e w9x ⟨rfl, hb⟩
      have HA := Lib.hid (HA.out.below hb HA.out.lt)
      have HR := Lib.hid (HR.out.below hb)
      have HS := Lib.hid (HS.out.below hb)
      have HK := Lib.hid (HK.out.below hb)
      have HB := Lib.hid (HB.out.trans (hb.mono HB.out.size))
      clear hb
      have hse := secret_any s gs caps bs 4 sd [] w9x HK.out HS.out hs64
      generalize strOf (madeOf (by_ sd) (by_ secretT) 0) = SE at hse ⊢
      go_wp2_with fail
      refine hse.mono ?_
      clear hse
      rintro e w10x ⟨rfl, hb⟩
      have HB := Lib.hid (HB.out.trans (hb.mono HB.out.size))
      clear hb
      go_wp2_with fail
      go_ret
      exact ⟨rfl, HB.out⟩
theorem ringSame_any (sd : ByteArray) (c d : Int) (t : ByteArray) (hc : In64 c) (hd : In64 d) (ht : t.size ≤ maxLen) (w : World) (hk : Consts w) :
    Calls Tryd.prog 21 #[.string sd, .agg #[.int .i64 c, .int .i64 d, .string t]] w fun e w' => e = .returned (.bool true) ∧ Below w.heap.size w w' := by
  by_cases h : sd.size ≤ 64
  · exact ringSame_ok sd c d t hc hd ht h w hk
  · exact ringSame_big sd c d t hc hd ht (by omega) w hk
end Go.Proofs.YtkbcilfcfbfiaaaDoor
