/- The cell: Save. -/
import Derived.Test.YtnddkodenkmoiaaCell4
import Derived.Test.YtnddkodenkmoiaaCelq
import Derived.Deep.DeepCutAuto
import Derived.Laws.Concat
namespace Go.Proofs.Ytnddkodenkmoiaa
open Go.RowKit Go.Proofs
set_option linter.unusedSimpArgs false
set_option linter.unusedVariables false
theorem slotS_bd (x : Dk) (i : Nat) (size : Int) (h : 0 ≤ size) : 0 ≤ (slotS x i size).1 ∧ (slotS x i size).1 ≤ 1099511627776 ∧ 0 ≤ (slotS x i size).2 ∧ (slotS x i size).2 ≤ 64 * size := by
  rw [slotS_B]
  unfold says
  split
  · simp only; omega
  · simp only; omega
theorem lastOf_cases (a b c d : Int) : lastOf a b c d = -1 ∨ lastOf a b c d = 0 ∨ lastOf a b c d = 1 := by 
  unfold lastOf
  split
  · exact .inl rfl
  · split
    · exact .inr (.inr rfl)
    · exact .inr (.inl rfl)
theorem DiskAt.only2_blk {w w' : World} {d g r : Nat} {t : TypeId} {cs : Array Value} {x : Dk} (hD : DiskAt w d g x) (h : Blk w r t cs) (hO : Only2 d g w w') (h1 : t ≠ 89) (h2 : t ≠ 93) : Blk w' r t cs :=
  (hO.block r h.lt (h.ne_ hD.1 h1) (h.ne_ hD.2.1 h2)).trans h
theorem fieldN_any (c d : Nat) (f size tn base : Nat) (w : World) (hc : CellAt w c d (f : Int) (size : Int)) (h2 : size ≤ 255) (hf : f ≤ 512) (ht : tn ≤ 1) (hb : f + 2 + tn * size = base) :
    Calls Try.prog 55 #[.pointer (some ⟨c, 0, none⟩), .int .i64 (tn : Int)] w fun e w' => e = .returned (.int .i64 (base : Int)) ∧ w.drew = w' := by
  rcases (show tn = 0 ∨ tn = 1 by omega) with rfl | rfl
  · refine (field0_any c d f size w hc h2 hf).mono ?_
    rintro e w' ⟨rfl, rfl⟩
    exact ⟨by rw [← hb]; simp, rfl⟩
  · refine (field1_any c d f size w hc h2 hf).mono ?_
    rintro e w' ⟨rfl, rfl⟩
    exact ⟨by rw [← hb]; simp, rfl⟩
theorem cat_run (a b : List UInt8) (h : a.length + b.length < 1000000000000) (w : World) : (Op.stringOp .add (strOf a) (strOf b)).run Try.prog w = .ok (.string (strOf (a ++ b))) w := by
  rw [show strOf (a ++ b) = strOf a ++ strOf b by unfold strOf; ext1; simp]
  exact run_string_add_sum _ _ (by rw [strOf_size, strOf_size]; omega) (w := w)
abbrev zs40 : Array Value := #[.int .u8 0, .int .u8 0, .int .u8 0, .int .u8 0, .int .u8 0, .int .u8 0, .int .u8 0, .int .u8 0, .int .u8 0, .int .u8 0, .int .u8 0, .int .u8 0, .int .u8 0, .int .u8 0, .int .u8 0, .int .u8 0, .int .u8 0, .int .u8 0, .int .u8 0, .int .u8 0, .int .u8 0, .int .u8 0, .int .u8 0, .int .u8 0, .int .u8 0, .int .u8 0, .int .u8 0, .int .u8 0, .int .u8 0, .int .u8 0, .int .u8 0, .int .u8 0, .int .u8 0, .int .u8 0, .int .u8 0, .int .u8 0, .int .u8 0, .int .u8 0, .int .u8 0, .int .u8 0]
theorem make40 (w : World) : (Instr.makeSlice 94 (.int .i64 40) (.int .i64 40)).run Try.prog w = .ok (.slice (some ⟨w.heap.size, 0, none⟩) 40 40) (w.alloc (.cells zs40 5)) := by kernel_rfl
theorem convert_zeros (w : World) (b : Nat) (h : Blk w b 5 zs40) : (convert 94 9 (.slice (some ⟨b, 0, none⟩) 40 40)).run Try.prog w = .ok (.string (strOf (List.replicate 40 0))) w := by
  have := run_convert_bytes_back (P := Try.prog) w 94 9 5 ⟨b, 0, none⟩ 40 (List.replicate 40 0) Try.underlying94 Try.underlying5 Try.underlying9 (fun k hk => by
    rw [List.length_replicate] at hk
    rw [Addr.add_mid, Nat.zero_add, h.cell, show zs40 = (List.replicate 40 (Value.int .u8 0)).toArray from rfl, List.getElem?_toArray, List.getElem?_replicate, if_pos hk, List.getElem_replicate]; rfl)
  rw [List.length_replicate] at this
  exact this
theorem part_spell (t : ByteArray) (cc : Nat) : t.extract (cc * 64) (if (t.size : Int) < ((cc : Int) + 1) * 64 then (t.size : Int) else ((cc : Int) + 1) * 64).toNat = partOf t cc := by
  unfold partOf
  congr 1
  · omega
  · split <;> omega
theorem write_armed (x : Dk) (i : Int) (t : ByteArray) (h : x.armed ≤ 9223372036854775807) : (x.write i t).armed ≤ 9223372036854775807 := by
  have hg : ∀ y : Dk, y.armed ≤ 9223372036854775807 → y.goes.armed ≤ 9223372036854775807 := by
    intro y hy; unfold Dk.goes; split
    · show y.armed - 1 ≤ _; omega
    · exact hy
  unfold Dk.write
  split
  · exact h
  · split
    · exact h
    · split
      · exact h
      · apply hg; unfold Dk.putAt; split <;> exact h
theorem sync_armed (x : Dk) (h : x.armed ≤ 9223372036854775807) : x.sync.armed ≤ 9223372036854775807 := by
  have hg : x.goes.armed ≤ 9223372036854775807 := by
    unfold Dk.goes; split
    · show x.armed - 1 ≤ _; omega
    · exact h
  unfold Dk.sync
  split
  · exact h
  · split <;> exact hg
theorem write_len (x : Dk) (i : Int) (t : ByteArray) : (x.write i t).L.length = x.L.length := by
  unfold Dk.write
  split
  · rfl
  · split
    · rfl
    · split
      · rfl
      · rw [goes_L]; unfold Dk.putAt; split
        · exact List.length_set
        · rfl
theorem sync_len (x : Dk) : x.sync.L.length = x.L.length := by
  unfold Dk.sync
  split
  · rfl
  · split
    · rw [goes_L]
    · exact List.length_map _
set_option maxRecDepth 100000 in
set_option maxHeartbeats 4000000 in
theorem save_any (c d g f size : Nat) (x : Dk) (t : ByteArray) (w : World) (hc : CellAt w c d (f : Int) (size : Int)) (hD : DiskAt w d g x) (ha : x.armed ≤ 9223372036854775807) (h1 : 1 ≤ size) (h2 : size ≤ 255) (hf : f + 2 + 2 * size ≤ x.L.length) :
    Calls Try.prog 29 #[.pointer (some ⟨c, 0, none⟩), .string t] w fun e w' => e = .returned (.int .i64 (x.saveF f size t).2) ∧ DiskAt w' d g (x.saveF f size t).1 ∧ Only2 d g w w' := by
  have hlen := hD.2.2.2.2
  have c2 := Blk.cell hc 2
  have c2 : w.cell? ⟨c, 2, none⟩ = some (.int .i64 (size : Int)) := Blk.cell hc 2
  have HC := Lib.hid hc
  have HD := Lib.hid hD
  clear hc hD
  go_enter Try.func29, Try.ntmps29
  by_cases hb : 64 * size < t.size
  · have HS := Lib.hid (show x.saveF f size t = (x, 4) by unfold Dk.saveF; rw [if_pos hb])
    have hb' : 64 * (size : Int) < (t.size : Int) := by omega
    go_wp2_with fail
    go_ret
    exact ⟨by rw [HS.out]; rfl, by rw [HS.out]; exact HD.out, Only2.refl _ _ _⟩
  · have hb' : ¬ 64 * (size : Int) < (t.size : Int) := by omega
    have HN := Lib.hid hb
    clear hb
    go_wp2_with fail
    refine (slots_any c d g f (size : Int) x w HC.out HD.out (by omega) (by omega) (by omega)).mono ?_
    rintro e w1 ⟨rfl, hb1⟩
    by_cases hdn : x.down = true
    · rw [show slotsV x f size = .tuple #[.agg #[.int .i64 0, .int .i64 0, .int .i64 0, .int .i64 0], .int .i64 12] by unfold slotsV; rw [if_pos hdn]]
      have HS := Lib.hid (show x.saveF f size t = (x, 12) by unfold Dk.saveF; rw [if_neg HN.out, if_pos hdn])
      have HB := Lib.hid hb1
      clear hb1
      go_wp2_with fail
      go_ret
      exact ⟨by rw [HS.out]; rfl, by rw [HS.out]; exact HD.out.below (HB.out.alloc HB.out.size _), Only2.of_below (HB.out.alloc HB.out.size _)⟩
    · have hdn : x.down = false := by simpa using hdn
      rw [show slotsV x f size = .tuple #[.agg #[.int .i64 (slotS x f size).1, .int .i64 (slotS x f size).2, .int .i64 (slotS x (f + 1) size).1, .int .i64 (slotS x (f + 1) size).2], .int .i64 0] by unfold slotsV; rw [if_neg (by rw [hdn]; decide)]]
      have hp := slotS_bd x f (size : Int) (by omega)
      have hq := slotS_bd x (f + 1) (size : Int) (by omega)
      have hl3 := lastOf_cases (slotS x f size).1 (slotS x f size).2 (slotS x (f + 1) size).1 (slotS x (f + 1) size).2
      have hk : x.kOf f size = lastOf (slotS x f size).1 (slotS x f size).2 (slotS x (f + 1) size).1 (slotS x (f + 1) size).2 := rfl
      have hcnt : x.cnt f size = (if x.kOf f size < 0 then 1 else if x.kOf f size = 0 then (slotS x f size).1 + 1 else (slotS x (f + 1) size).1 + 1).toNat := rfl
      have hton : x.toN f size = if x.kOf f size = 0 then 1 else 0 := rfl
      have HSV := Lib.hid (show x.saveF f size t = if 1099511627776 < x.cnt f size then (x, 3) else headF (f + x.toN f size) (x.cnt f size) t.size (partsF (f + 2 + x.toN f size * size) t size 0 x) by
        unfold Dk.saveF; rw [if_neg HN.out, if_neg (by rw [hdn]; decide)])
      generalize slotS x f size = p at hp hk hcnt hl3 ⊢
      generalize slotS x (f + 1) size = q at hq hk hcnt hl3 ⊢
      obtain ⟨p1, p2⟩ := p
      obtain ⟨q1, q2⟩ := q
      simp only at hp hq hk hcnt hl3 ⊢
      generalize x.kOf f size = k at hk hcnt hton
      generalize x.cnt f size = n at hcnt HSV
      generalize x.toN f size = tn at hton HSV
      have HK := Lib.hid hk
      have HT := Lib.hid hton
      have HCN := Lib.hid hcnt
      have HL3 := Lib.hid hl3
      have HB := Lib.hid hb1
      have HDN := Lib.hid hdn
      clear hb1 hk hton hcnt hl3 hdn c2
      have HR := Lib.hid (show Blk (w1.alloc (.cells #[.int .i64 p1, .int .i64 p2, .int .i64 q1, .int .i64 q2] 100)) w1.heap.size 100 #[.int .i64 p1, .int .i64 p2, .int .i64 q1, .int .i64 q2] from Blk.new w1 100 _)
      have HBB := Lib.hid (show Below w.heap.size w (w1.alloc (.cells #[.int .i64 p1, .int .i64 p2, .int .i64 q1, .int .i64 q2] 100)) from HB.out.alloc HB.out.size _)
      go_wp2_with fail
      refine (last_any p1 p2 q1 q2 _).mono ?_
      rintro e w2 ⟨rfl, hb2⟩
      have HB2 := Lib.hid (HBB.out.trans (hb2.mono HBB.out.size))
      have HR2 := Lib.hid (HR.out.below hb2 HR.out.lt)
      clear hb2 HR HBB
      obtain ⟨lk, hlk⟩ : ∃ lk, lastOf p1 p2 q1 q2 = lk := ⟨_, rfl⟩
      rw [hlk]
      have HLK := Lib.hid hlk
      clear hlk
      go_upto_if 39 with fail
      go_cut [7, 8] (fun s7 s8 wx => s7 = .int .i64 (tn : Int) ∧ s8 = .int .i64 (n : Int) ∧ Below w.heap.size w wx)
      case first =>
        rcases HL3.out with h3 | h3 | h3
        · obtain rfl : lk = -1 := HLK.out.symm.trans h3
          clear h3
          have HK0 := Lib.hid (HK.out.trans HLK.out)
          go_wp2_with fail
          go_meet
          have e1 : tn = 0 := by rw [HT.out, HK0.out]; rfl
          have e2 : n = 1 := by rw [HCN.out, HK0.out]; rfl
          exact ⟨by rw [e1]; rfl, by rw [e2]; rfl, HB2.out⟩
        · obtain rfl : lk = 0 := HLK.out.symm.trans h3
          clear h3
          have HK0 := Lib.hid (HK.out.trans HLK.out)
          have hA : ∀ w', KeptOn (fun _ => True) w2.drew w' → w'.cell? ⟨w1.heap.size, 0, none⟩ = some (.int .i64 p1) := fun w' h => h.cell (w := w2.drew) (HR2.out.cell 0) trivial
          have hw1 : IntKind.i64.wrap (p1 + 1) = p1 + 1 := IntWalk.i64_in _ (by omega)
          go_upto_region 11 with (fail)
          refine wp_region_keep2 (KeptOn fun _ => True) (KeptOn.refl _) (KeptOn.trans) [(0,0),(1,0),(2,0),(3,0),(4,0),(5,0),(6,0),(7,0),(8,0)] (by kernel_rfl) (by kernel_rfl) ?_
          iterate 9 (refine keep_quiet (v := ?_) rfl (fun _ _ _ h => h) (by rfl) (fun w' hR => ?_) ?_; rotate_left; (go_simp; try with_reducible rfl); simp only [Act.put, List.setIfInBounds_toArray, List.set_cons_zero, List.set_cons_succ])
          refine keep_done ?_
          clear hA hw1
          go_wp2_with fail
          go_meet
          have e1 : tn = 1 := by rw [HT.out, HK0.out]; rfl
          have e2 : (n : Int) = p1 + 1 := by rw [HCN.out, HK0.out]; rw [if_neg (by decide), if_pos rfl]; omega
          exact ⟨by rw [e1]; rfl, by rw [e2], HB2.out.drew⟩
        · obtain rfl : lk = 1 := HLK.out.symm.trans h3
          clear h3
          have HK0 := Lib.hid (HK.out.trans HLK.out)
          have hA : ∀ w', KeptOn (fun _ => True) w2.drew w' → w'.cell? ⟨w1.heap.size, 2, none⟩ = some (.int .i64 q1) := fun w' h => h.cell (w := w2.drew) (HR2.out.cell 2) trivial
          have hw1 : IntKind.i64.wrap (q1 + 1) = q1 + 1 := IntWalk.i64_in _ (by omega)
          go_upto_region 11 with (fail)
          refine wp_region_keep2 (KeptOn fun _ => True) (KeptOn.refl _) (KeptOn.trans) [(0,0),(1,0),(2,0),(3,0),(4,0),(5,0),(6,0),(7,0),(8,0)] (by kernel_rfl) (by kernel_rfl) ?_
          iterate 9 (refine keep_quiet (v := ?_) rfl (fun _ _ _ h => h) (by rfl) (fun w' hR => ?_) ?_; rotate_left; (go_simp; try with_reducible rfl); simp only [Act.put, List.setIfInBounds_toArray, List.set_cons_zero, List.set_cons_succ])
          refine keep_done ?_
          clear hA hw1
          go_wp2_with fail
          go_meet
          have e1 : tn = 0 := by rw [HT.out, HK0.out]; rfl
          have e2 : (n : Int) = q1 + 1 := by rw [HCN.out, HK0.out]; rw [if_neg (by decide), if_neg (by decide)]; omega
          exact ⟨by rw [e1]; rfl, by rw [e2], HB2.out.drew⟩
      case rest =>
        obtain ⟨rfl, rfl, hbx⟩ := hcut
        have hD := HD.out.below hbx
        have hC : CellAt wc c d (f : Int) (size : Int) := HC.out.below hbx HC.out.lt
        have htn : tn ≤ 1 := by rw [HT.out]; split <;> omega
        have hn1 : 1 ≤ n ∧ n ≤ 1099511627777 := by
          rw [HCN.out]; rcases HL3.out with h3 | h3 | h3 <;> rw [HK.out, h3]
          · simp
          · rw [if_neg (by decide), if_pos rfl]; omega
          · rw [if_neg (by decide), if_neg (by decide)]; omega
        have HTN := Lib.hid htn
        have HN1 := Lib.hid hn1.1
        have hn2 := hn1.2
        have HBX := Lib.hid hbx
        clear HC HD hbx htn hn1 HK HT HCN HL3 HB HB2 HR2 HLK hp hq
        have HC := Lib.hid hC
        have HD := Lib.hid hD
        clear hC hD
        by_cases hcm : 1099511627776 < n
        · have HS := Lib.hid (show x.saveF f size t = (x, 3) by rw [HSV.out, if_pos hcm])
          have hcm' : (1099511627776 : Int) < (n : Int) := by omega
          go_wp2_with fail
          go_ret
          exact ⟨by rw [HS.out]; rfl, by rw [HS.out]; exact HD.out, Only2.of_below HBX.out⟩
        · have HS := Lib.hid (show x.saveF f size t = headF (f + tn) n t.size (partsF (f + 2 + tn * size) t size 0 x) by rw [HSV.out, if_neg hcm])
          have hcm' : ¬ (1099511627776 : Int) < (n : Int) := by omega
          clear HSV
          have hbd : f + 2 + tn * size ≤ 511 := by have := HTN.out; rcases (show tn = 0 ∨ tn = 1 by omega) with rfl | rfl <;> omega
          obtain ⟨base, hbase⟩ : ∃ b, f + 2 + tn * size = b := ⟨_, rfl⟩
          rw [hbase] at hbd HS
          have HBS := Lib.hid hbase
          clear hbase
          go_wp2_with fail
          go_loopw [10, 11, 12] (fun v10 _ _ wr => ∃ (cc : Nat) (xc : Dk), v10 = .int .i64 (cc : Int) ∧ cc ≤ size ∧ DiskAt wr d g xc ∧ CellAt wr c d (f : Int) (size : Int) ∧ xc.L.length = x.L.length ∧ xc.armed ≤ 9223372036854775807 ∧ Only2 d g w wr ∧ partsF base t size 0 x = partsF base t (size - cc) cc xc) (fun v10 _ _ _ => size - (intOf v10).toNat)
          case atStart => exact ⟨0, x, rfl, by omega, HD.out, HC.out, rfl, ha, Only2.of_below HBX.out, rfl⟩
          case round =>
            obtain ⟨cc, xc, rfl, hcc, hD, hC, hxl, hxa, hO, hpf⟩ := hrel
            clear HD HC
            have HD := Lib.hid hD
            have HC := Lib.hid hC
            have HO := Lib.hid hO
            have HXL := Lib.hid hxl
            clear hD hC hO hxl
            by_cases hlt : 64 * cc < t.size
            · have hcc2 : cc < size := by omega
              have hstep : partsF base t (size - cc) cc xc = if xc.writeR ((base : Int) + (cc : Int)) (partOf t cc) = 0 then partsF base t (size - (cc + 1)) (cc + 1) (xc.write ((base : Int) + (cc : Int)) (partOf t cc)) else (xc.write ((base : Int) + (cc : Int)) (partOf t cc), xc.writeR ((base : Int) + (cc : Int)) (partOf t cc)) := by
                rw [show size - cc = (size - (cc + 1)) + 1 by omega]
                conv => lhs; unfold partsF
                rw [if_pos hlt, Int.natCast_add]
              have HPF := Lib.hid (hpf.trans hstep)
              clear hpf hstep
              have hlt' : 64 * (cc : Int) < (t.size : Int) := by omega
              have hK1 : ∀ w', KeptOn (fun _ => True) wr.drew w' → w'.cell? ⟨c, 0, none⟩ = some (.pointer (some ⟨d, 0, none⟩)) := fun w' h => h.cell (w := wr.drew) (Blk.cell HC.out 0) trivial
              have hw1 : IntKind.i64.wrap ((base : Int) + (cc : Int)) = (base : Int) + (cc : Int) := IntWalk.i64_in _ (by omega)
              go_upto_region 18 with fail
              rw [part_spell]
              generalize (if (t.size : Int) < ((cc : Int) + 1) * 64 then (t.size : Int) else ((cc : Int) + 1) * 64) = mn
              refine wp_region_keep2 (KeptOn fun _ => True) (KeptOn.refl _) (KeptOn.trans) [(0,0),(1,0),(2,0),(3,0),(4,0),(5,0),(7,0),(9,0),(6,1),(8,0),(10,2),(11,2)] (by kernel_rfl) (by kernel_rfl) ?_
              iterate 8 (refine keep_quiet (v := ?_) rfl (fun _ _ _ h => h) (by rfl) (fun w' hR => ?_) ?_; rotate_left; (go_simp; try with_reducible rfl); simp only [Act.put, List.setIfInBounds_toArray, List.set_cons_zero, List.set_cons_succ])
              refine keep_eff rfl ?_
              go_wp2_with fail
              refine (fieldN_any c d f size tn base wr.drew HC.out.drew h2 (by omega) HTN.out HBS.out).mono ?_
              rintro e w' ⟨rfl, rfl⟩
              go_wp2_with fail
              refine keepPost_need (KeptOn.drew _) ?_
              refine keep_quiet (v := ?_) rfl (fun _ _ _ h => h) (by rfl) (fun w' hR => ?_) ?_; rotate_left; (go_simp; try with_reducible rfl); simp only [Act.put, List.setIfInBounds_toArray, List.set_cons_zero, List.set_cons_succ]
              refine keep_eff rfl ?_
              clear hK1
              go_wp2_with fail
              refine (write_any d g xc ((base : Int) + (cc : Int)) (partOf t cc) wr.drew.drew HD.out.drew.drew hxa).mono ?_
              rintro e w' ⟨rfl, hD2, hO2⟩
              have HD2 := Lib.hid hD2
              have HC2 := Lib.hid (show CellAt w' c d (f : Int) (size : Int) from HD.out.drew.drew.only2_blk HC.out.drew.drew hO2 (by decide) (by decide))
              have HO2 := Lib.hid (HO.out.drew.drew.trans hO2)
              clear hD2 hO2
              go_wp2_with fail
              refine keepPost_free ?_
              refine keep_eff rfl ?_
              go_wp2_with fail
              refine keepPost_free ?_
              refine keep_done ?_
              clear hw1
              have hxa2 := write_armed xc ((base : Int) + (cc : Int)) (partOf t cc) hxa
              have HL2 := Lib.hid ((write_len xc ((base : Int) + (cc : Int)) (partOf t cc)).trans HXL.out)
              generalize xc.write ((base : Int) + (cc : Int)) (partOf t cc) = x2 at HPF HD2 hxa2 HL2
              obtain ⟨r, hr⟩ : ∃ r, xc.writeR ((base : Int) + (cc : Int)) (partOf t cc) = r := ⟨_, rfl⟩
              rw [hr] at HPF ⊢
              clear hr
              by_cases hr0 : r = 0
              · subst hr0
                have HPF2 := Lib.hid (HPF.out.trans (if_pos rfl))
                go_wp2_with fail
                go_roundw
                case rel => exact ⟨cc + 1, x2, by go_num, by omega, HD2.out, HC2.out, HL2.out, hxa2, HO2.out, HPF2.out⟩
                case measure => simp [intOf]; omega
              · have HS2 := Lib.hid (show x.saveF f size t = (x2, r) by
                  rw [HS.out, HPF.out, if_neg hr0]; unfold headF; rw [if_neg hr0])
                go_wp2_with fail
                go_ret
                exact ⟨by rw [HS2.out]; rfl, by rw [HS2.out]; exact HD2.out, HO2.out⟩
            · have hpf2 : partsF base t size 0 x = (xc, 0) := by
                rw [hpf]; cases size - cc with
                | zero => rfl
                | succ m => unfold partsF; rw [if_neg hlt]
              have HS2 := Lib.hid (show x.saveF f size t = headF (f + tn) n t.size (xc, 0) by rw [HS.out, hpf2])
              clear hpf hpf2 HS
              have hlt' : ¬ 64 * (cc : Int) < (t.size : Int) := by omega
              have hK1 : wr.cell? ⟨c, 0, none⟩ = some (.pointer (some ⟨d, 0, none⟩)) := Blk.cell HC.out 0
              go_wp2_with fail
              refine (sync_any d g xc wr HD.out hxa).mono ?_
              rintro e w2 ⟨rfl, hD2, hO2⟩
              have HD2 := Lib.hid hD2
              have HC2 := Lib.hid (show CellAt w2 c d (f : Int) (size : Int) from HD.out.only2_blk HC.out hO2 (by decide) (by decide))
              have HO2 := Lib.hid (HO.out.trans hO2)
              have hxa2 := sync_armed xc hxa
              have HL2 := Lib.hid ((sync_len xc).trans HXL.out)
              clear hD2 hO2 hK1 HD HC HO HXL hxa
              have HH := Lib.hid (show headF (f + tn) n t.size (xc, 0) = if xc.syncR = 0 then
                  (if xc.sync.writeR ((f + tn : Nat) : Int) (headOf n t.size) = 0 then ((xc.sync.write ((f + tn : Nat) : Int) (headOf n t.size)).sync, (xc.sync.write ((f + tn : Nat) : Int) (headOf n t.size)).syncR)
                   else (xc.sync.write ((f + tn : Nat) : Int) (headOf n t.size), xc.sync.writeR ((f + tn : Nat) : Int) (headOf n t.size))) else (xc.sync, xc.syncR) by unfold headF; rw [if_pos rfl])
              generalize xc.sync = x3 at HD2 hxa2 HL2 HH
              generalize xc.syncR = r3 at HH ⊢
              by_cases hr3 : r3 = 0
              · subst hr3
                have HS3 := Lib.hid (HS2.out.trans (HH.out.trans (if_pos rfl)))
                clear HH HS2
                have hts : t.size < 9223372036854775808 := by omega
                have he1 : ∀ w', Calls Try.prog 56 #[.int .i64 (n : Int)] w' fun e w'' => e = .returned (.string (strOf (beOf n))) ∧ Below w'.heap.size w' w'' := fun w' => eight_any n w' (by omega)
                have he2 : ∀ w', Calls Try.prog 56 #[.int .i64 (t.size : Int)] w' fun e w'' => e = .returned (.string (strOf (beOf t.size))) ∧ Below w'.heap.size w' w'' := fun w' => eight_any t.size w' hts
                have hc1 := cat_run (beOf n) (beOf t.size) (by rw [beOf_length, beOf_length]; omega)
                have hc2 := cat_run (beOf n ++ beOf t.size) (List.replicate 40 0) (by rw [List.length_append, beOf_length, beOf_length, List.length_replicate]; omega)
                have hc3 := cat_run (beOf n ++ beOf t.size ++ List.replicate 40 0) (beOf n) (by simp [beOf_length])
                rw [show strOf (beOf n ++ beOf t.size ++ List.replicate 40 0 ++ beOf n) = headOf n t.size by unfold headOf headL; simp] at hc3
                have hcv := convert_zeros
                generalize strOf (beOf n ++ beOf t.size ++ List.replicate 40 0) = S2 at hc2 hc3
                generalize strOf (beOf n ++ beOf t.size) = S1 at hc1 hc2
                generalize strOf (List.replicate 40 0) = ZZ at hc2 hcv
                generalize strOf (beOf n) = E1 at he1 hc1 hc3
                generalize strOf (beOf t.size) = E2 at he2 hc1
                generalize headOf n t.size = S3 at hc3 HS3
                have HE1 := Lib.hid he1
                have HE2 := Lib.hid he2
                have HC1 := Lib.hid hc1
                have HC2' := Lib.hid hc2
                have HC3 := Lib.hid hc3
                have HCV := Lib.hid hcv
                clear he1 he2 hc1 hc2 hc3 hcv hts
                go_upto_region 24 with fail
                go_cut [14] (fun s14 wx => s14 = .string S3 ∧ DiskAt wx d g x3 ∧ CellAt wx c d (f : Int) (size : Int) ∧ Only2 d g w wx)
                case first =>
                  have hb0 := Lib.hid (show Below w2.heap.size w2 w2.drew from (Below.refl _ _).drew)
                  refine wp_region_ways (KeptOn fun _ => True) (KeptOn.refl _) (KeptOn.trans) (.quiet 0 (.quiet 2 (.quiet 3 (.quiet 9 (.fork 1 6 (.fork 4 6 (.quiet 5 (.fork 6 10 (.quiet 7 (.quiet 8 (.eff 10 0 (.quiet 11 (.eff 12 1 .done))))) (.eff 6 0 (.quiet 7 (.quiet 8 (.quiet 11 (.eff 12 1 .done))))))) (.quiet 7 (.eff 4 0 (.quiet 5 (.quiet 8 (.eff 10 0 (.quiet 11 (.eff 12 1 .done)))))))) (.quiet 7 (.eff 1 0 (.eff 4 0 (.quiet 5 (.quiet 8 (.eff 10 0 (.quiet 11 (.eff 12 1 .done))))))))))))) (by kernel_rfl) (by kernel_rfl) ?_
                  iterate 4 (refine ways_quiet (v := ?_) rfl (fun _ _ _ h => h) (by rfl) (fun w' hR => ?_) ?_; rotate_left; (go_simp; try with_reducible rfl); simp only [Act.put, List.setIfInBounds_toArray, List.set_cons_zero, List.set_cons_succ])
                  refine ways_fork rfl rfl ?_ ?_
                  · go_wp2_with fail
                    refine (HE1.out _).mono ?_
                    rintro e v1 ⟨rfl, hbx⟩
                    have hb1 := Lib.hid (hb0.out.trans (hbx.mono hb0.out.size))
                    have HKhb1 := Lib.hid (KeptOn.below (D := fun _ => True) hbx (fun b hb' _ => hb'))
                    clear hbx
                    go_wp2_with fail
                    refine waysPost_need HKhb1.out ?_
                    refine ways_fork rfl rfl ?_ ?_
                    · go_wp2_with fail
                      refine (HE2.out _).mono ?_
                      rintro e v2 ⟨rfl, hbx⟩
                      have hb2 := Lib.hid (hb1.out.trans (hbx.mono hb1.out.size))
                      have HKhb2 := Lib.hid (KeptOn.below (D := fun _ => True) hbx (fun b hb' _ => hb'))
                      clear hbx
                      go_wp2_with fail
                      refine waysPost_need HKhb2.out ?_
                      have hcat := HC1.out
                      iterate 1 (refine ways_quiet (v := ?_) rfl (fun _ _ _ h => h) (by rfl) (fun w' hR => ?_) ?_; rotate_left; (go_simp; try with_reducible rfl); simp only [Act.put, List.setIfInBounds_toArray, List.set_cons_zero, List.set_cons_succ])
                      clear hcat
                      refine ways_fork rfl rfl ?_ ?_
                      · have hmk := make40
                        go_wp2_with fail
                        clear hmk
                        have HZZhb3 := Lib.hid (fun w' (hR : KeptOn (fun _ => True) (v2.alloc (.cells zs40 5)) w') => (HCV.out w' v2.heap.size ((Blk.new v2 5 _).kept hR trivial)))
                        have hb3 := Lib.hid (hb2.out.alloc hb2.out.size (.cells zs40 5))
                        refine waysPost_need (KeptOn.alloc _ _) ?_
                        refine ways_quiet (v := .string ZZ) rfl (fun _ _ _ h => h) (by rfl) (fun w' hR => execConvert 94 9 _ rfl (p := .slice (some ⟨v2.heap.size, 0, none⟩) 40 40) rfl (HZZhb3.out w' hR)) ?_; simp only [Act.put, List.setIfInBounds_toArray, List.set_cons_zero, List.set_cons_succ]
                        have hcat := HC2'.out
                        iterate 1 (refine ways_quiet (v := ?_) rfl (fun _ _ _ h => h) (by rfl) (fun w' hR => ?_) ?_; rotate_left; (go_simp; try with_reducible rfl); simp only [Act.put, List.setIfInBounds_toArray, List.set_cons_zero, List.set_cons_succ])
                        clear hcat
                        refine ways_eff rfl ?_
                        go_wp2_with fail
                        refine (HE1.out _).mono ?_
                        rintro e v5 ⟨rfl, hbx⟩
                        have hb5 := Lib.hid (hb3.out.trans (hbx.mono hb3.out.size))
                        have HKhb5 := Lib.hid (KeptOn.below (D := fun _ => True) hbx (fun b hb' _ => hb'))
                        clear hbx
                        go_wp2_with fail
                        refine waysPost_need HKhb5.out ?_
                        have hcat := HC3.out
                        iterate 1 (refine ways_quiet (v := ?_) rfl (fun _ _ _ h => h) (by rfl) (fun w' hR => ?_) ?_; rotate_left; (go_simp; try with_reducible rfl); simp only [Act.put, List.setIfInBounds_toArray, List.set_cons_zero, List.set_cons_succ])
                        clear hcat
                        refine ways_eff rfl ?_
                        go_wp2_with fail
                        refine waysPost_free ?_
                        refine ways_done ?_
                        go_wp2_with fail
                        go_meet
                        exact ⟨rfl, HD2.out.below hb5.out, HC2.out.below hb5.out HC2.out.lt, HO2.out.trans (Only2.of_below hb5.out)⟩
                      · go_wp2_with fail
                        refine (HE1.out _).mono ?_
                        rintro e v6 ⟨rfl, hbx⟩
                        have hb6 := Lib.hid (hb2.out.trans (hbx.mono hb2.out.size))
                        have HKhb6 := Lib.hid (KeptOn.below (D := fun _ => True) hbx (fun b hb' _ => hb'))
                        clear hbx
                        go_wp2_with fail
                        refine waysPost_need HKhb6.out ?_
                        refine ways_eff rfl ?_
                        have hmk := make40
                        go_wp2_with fail
                        clear hmk
                        have HZZhb7 := Lib.hid (fun w' (hR : KeptOn (fun _ => True) (v6.alloc (.cells zs40 5)) w') => (HCV.out w' v6.heap.size ((Blk.new v6 5 _).kept hR trivial)))
                        have hb7 := Lib.hid (hb6.out.alloc hb6.out.size (.cells zs40 5))
                        refine waysPost_need (KeptOn.alloc _ _) ?_
                        refine ways_quiet (v := .string ZZ) rfl (fun _ _ _ h => h) (by rfl) (fun w' hR => execConvert 94 9 _ rfl (p := .slice (some ⟨v6.heap.size, 0, none⟩) 40 40) rfl (HZZhb7.out w' hR)) ?_; simp only [Act.put, List.setIfInBounds_toArray, List.set_cons_zero, List.set_cons_succ]
                        have hcat := HC2'.out
                        iterate 1 (refine ways_quiet (v := ?_) rfl (fun _ _ _ h => h) (by rfl) (fun w' hR => ?_) ?_; rotate_left; (go_simp; try with_reducible rfl); simp only [Act.put, List.setIfInBounds_toArray, List.set_cons_zero, List.set_cons_succ])
                        clear hcat
                        have hcat := HC3.out
                        iterate 1 (refine ways_quiet (v := ?_) rfl (fun _ _ _ h => h) (by rfl) (fun w' hR => ?_) ?_; rotate_left; (go_simp; try with_reducible rfl); simp only [Act.put, List.setIfInBounds_toArray, List.set_cons_zero, List.set_cons_succ])
                        clear hcat
                        refine ways_eff rfl ?_
                        go_wp2_with fail
                        refine waysPost_free ?_
                        refine ways_done ?_
                        go_wp2_with fail
                        go_meet
                        exact ⟨rfl, HD2.out.below hb7.out, HC2.out.below hb7.out HC2.out.lt, HO2.out.trans (Only2.of_below hb7.out)⟩
                    · have hmk := make40
                      go_wp2_with fail
                      clear hmk
                      have HZZhb9 := Lib.hid (fun w' (hR : KeptOn (fun _ => True) (v1.alloc (.cells zs40 5)) w') => (HCV.out w' v1.heap.size ((Blk.new v1 5 _).kept hR trivial)))
                      have hb9 := Lib.hid (hb1.out.alloc hb1.out.size (.cells zs40 5))
                      refine waysPost_need (KeptOn.alloc _ _) ?_
                      refine ways_quiet (v := .string ZZ) rfl (fun _ _ _ h => h) (by rfl) (fun w' hR => execConvert 94 9 _ rfl (p := .slice (some ⟨v1.heap.size, 0, none⟩) 40 40) rfl (HZZhb9.out w' hR)) ?_; simp only [Act.put, List.setIfInBounds_toArray, List.set_cons_zero, List.set_cons_succ]
                      refine ways_eff rfl ?_
                      go_wp2_with fail
                      refine (HE2.out _).mono ?_
                      rintro e v11 ⟨rfl, hbx⟩
                      have hb11 := Lib.hid (hb9.out.trans (hbx.mono hb9.out.size))
                      have HKhb11 := Lib.hid (KeptOn.below (D := fun _ => True) hbx (fun b hb' _ => hb'))
                      clear hbx
                      go_wp2_with fail
                      refine waysPost_need HKhb11.out ?_
                      have hcat := HC1.out
                      iterate 1 (refine ways_quiet (v := ?_) rfl (fun _ _ _ h => h) (by rfl) (fun w' hR => ?_) ?_; rotate_left; (go_simp; try with_reducible rfl); simp only [Act.put, List.setIfInBounds_toArray, List.set_cons_zero, List.set_cons_succ])
                      clear hcat
                      have hcat := HC2'.out
                      iterate 1 (refine ways_quiet (v := ?_) rfl (fun _ _ _ h => h) (by rfl) (fun w' hR => ?_) ?_; rotate_left; (go_simp; try with_reducible rfl); simp only [Act.put, List.setIfInBounds_toArray, List.set_cons_zero, List.set_cons_succ])
                      clear hcat
                      refine ways_eff rfl ?_
                      go_wp2_with fail
                      refine (HE1.out _).mono ?_
                      rintro e v12 ⟨rfl, hbx⟩
                      have hb12 := Lib.hid (hb11.out.trans (hbx.mono hb11.out.size))
                      have HKhb12 := Lib.hid (KeptOn.below (D := fun _ => True) hbx (fun b hb' _ => hb'))
                      clear hbx
                      go_wp2_with fail
                      refine waysPost_need HKhb12.out ?_
                      have hcat := HC3.out
                      iterate 1 (refine ways_quiet (v := ?_) rfl (fun _ _ _ h => h) (by rfl) (fun w' hR => ?_) ?_; rotate_left; (go_simp; try with_reducible rfl); simp only [Act.put, List.setIfInBounds_toArray, List.set_cons_zero, List.set_cons_succ])
                      clear hcat
                      refine ways_eff rfl ?_
                      go_wp2_with fail
                      refine waysPost_free ?_
                      refine ways_done ?_
                      go_wp2_with fail
                      go_meet
                      exact ⟨rfl, HD2.out.below hb12.out, HC2.out.below hb12.out HC2.out.lt, HO2.out.trans (Only2.of_below hb12.out)⟩
                  · have hmk := make40
                    go_wp2_with fail
                    clear hmk
                    have HZZhb13 := Lib.hid (fun w' (hR : KeptOn (fun _ => True) (w2.drew.alloc (.cells zs40 5)) w') => (HCV.out w' w2.drew.heap.size ((Blk.new w2.drew 5 _).kept hR trivial)))
                    have hb13 := Lib.hid (hb0.out.alloc hb0.out.size (.cells zs40 5))
                    refine waysPost_need (KeptOn.alloc _ _) ?_
                    refine ways_quiet (v := .string ZZ) rfl (fun _ _ _ h => h) (by rfl) (fun w' hR => execConvert 94 9 _ rfl (p := .slice (some ⟨w2.drew.heap.size, 0, none⟩) 40 40) rfl (HZZhb13.out w' hR)) ?_; simp only [Act.put, List.setIfInBounds_toArray, List.set_cons_zero, List.set_cons_succ]
                    refine ways_eff rfl ?_
                    go_wp2_with fail
                    refine (HE1.out _).mono ?_
                    rintro e v15 ⟨rfl, hbx⟩
                    have hb15 := Lib.hid (hb13.out.trans (hbx.mono hb13.out.size))
                    have HKhb15 := Lib.hid (KeptOn.below (D := fun _ => True) hbx (fun b hb' _ => hb'))
                    clear hbx
                    go_wp2_with fail
                    refine waysPost_need HKhb15.out ?_
                    refine ways_eff rfl ?_
                    go_wp2_with fail
                    refine (HE2.out _).mono ?_
                    rintro e v16 ⟨rfl, hbx⟩
                    have hb16 := Lib.hid (hb15.out.trans (hbx.mono hb15.out.size))
                    have HKhb16 := Lib.hid (KeptOn.below (D := fun _ => True) hbx (fun b hb' _ => hb'))
                    clear hbx
                    go_wp2_with fail
                    refine waysPost_need HKhb16.out ?_
                    have hcat := HC1.out
                    iterate 1 (refine ways_quiet (v := ?_) rfl (fun _ _ _ h => h) (by rfl) (fun w' hR => ?_) ?_; rotate_left; (go_simp; try with_reducible rfl); simp only [Act.put, List.setIfInBounds_toArray, List.set_cons_zero, List.set_cons_succ])
                    clear hcat
                    have hcat := HC2'.out
                    iterate 1 (refine ways_quiet (v := ?_) rfl (fun _ _ _ h => h) (by rfl) (fun w' hR => ?_) ?_; rotate_left; (go_simp; try with_reducible rfl); simp only [Act.put, List.setIfInBounds_toArray, List.set_cons_zero, List.set_cons_succ])
                    clear hcat
                    refine ways_eff rfl ?_
                    go_wp2_with fail
                    refine (HE1.out _).mono ?_
                    rintro e v17 ⟨rfl, hbx⟩
                    have hb17 := Lib.hid (hb16.out.trans (hbx.mono hb16.out.size))
                    have HKhb17 := Lib.hid (KeptOn.below (D := fun _ => True) hbx (fun b hb' _ => hb'))
                    clear hbx
                    go_wp2_with fail
                    refine waysPost_need HKhb17.out ?_
                    have hcat := HC3.out
                    iterate 1 (refine ways_quiet (v := ?_) rfl (fun _ _ _ h => h) (by rfl) (fun w' hR => ?_) ?_; rotate_left; (go_simp; try with_reducible rfl); simp only [Act.put, List.setIfInBounds_toArray, List.set_cons_zero, List.set_cons_succ])
                    clear hcat
                    refine ways_eff rfl ?_
                    go_wp2_with fail
                    refine waysPost_free ?_
                    refine ways_done ?_
                    go_wp2_with fail
                    go_meet
                    exact ⟨rfl, HD2.out.below hb17.out, HC2.out.below hb17.out HC2.out.lt, HO2.out.trans (Only2.of_below hb17.out)⟩
                case rest =>
                  obtain ⟨rfl, hD, hC, hO⟩ := hcut
                  clear HD2 HC2 HO2 HE1 HE2 HC1 HC2' HC3 HCV
                  have hS3 := HS3.out
                  rw [Int.natCast_add] at hS3
                  have HS4 := Lib.hid hS3
                  have HD := Lib.hid hD
                  have HC := Lib.hid hC
                  have HO := Lib.hid hO
                  clear hS3 HS3 hD hC hO
                  have hf2 : (f : Int) + (tn : Int) ≤ 512 := by have := HTN.out; omega
                  have hK1 : ∀ w', KeptOn (fun _ => True) wc.drew w' → w'.cell? ⟨c, 0, none⟩ = some (.pointer (some ⟨d, 0, none⟩)) := fun w' h => h.cell (w := wc.drew) (Blk.cell HC.out 0) trivial
                  have hK2 : ∀ w', KeptOn (fun _ => True) wc.drew w' → w'.cell? ⟨c, 1, none⟩ = some (.int .i64 (f : Int)) := fun w' h => h.cell (w := wc.drew) (Blk.cell HC.out 1) trivial
                  have hw1 : IntKind.i64.wrap ((f : Int) + (tn : Int)) = (f : Int) + (tn : Int) := IntWalk.i64_in _ (by omega)
                  go_upto_region 25 with fail
                  refine wp_region_keep2 (KeptOn fun _ => True) (KeptOn.refl _) (KeptOn.trans) [(0,0),(1,0),(2,0),(3,0),(4,0),(5,0),(6,0),(7,0),(8,0),(9,0),(10,0),(11,2),(12,2)] (by kernel_rfl) (by kernel_rfl) ?_
                  iterate 11 (refine keep_quiet (v := ?_) rfl (fun _ _ _ h => h) (by rfl) (fun w' hR => ?_) ?_; rotate_left; (go_simp; try with_reducible rfl); simp only [Act.put, List.setIfInBounds_toArray, List.set_cons_zero, List.set_cons_succ])
                  refine keep_eff rfl ?_
                  clear hK1 hK2 hw1
                  go_wp2_with fail
                  refine (write_any d g x3 ((f : Int) + (tn : Int)) S3 wc.drew HD.out.drew hxa2).mono ?_
                  rintro e w4 ⟨rfl, hD2, hO2⟩
                  have HD2 := Lib.hid hD2
                  have HC2 := Lib.hid (show CellAt w4 c d (f : Int) (size : Int) from HD.out.drew.only2_blk HC.out.drew hO2 (by decide) (by decide))
                  have HO2 := Lib.hid (HO.out.drew.trans hO2)
                  clear hD2 hO2 HD HC HO
                  go_wp2_with fail
                  refine keepPost_free ?_
                  refine keep_eff rfl ?_
                  go_wp2_with fail
                  refine keepPost_free ?_
                  refine keep_done ?_
                  have hxa3 := write_armed x3 ((f : Int) + (tn : Int)) S3 hxa2
                  generalize x3.write ((f : Int) + (tn : Int)) S3 = x4 at HS4 HD2 hxa3
                  generalize x3.writeR ((f : Int) + (tn : Int)) S3 = r4 at HS4 ⊢
                  by_cases hr4 : r4 = 0
                  · subst hr4
                    have HS5 := Lib.hid (HS4.out.trans (if_pos rfl))
                    clear HS4
                    have hK1 : w4.cell? ⟨c, 0, none⟩ = some (.pointer (some ⟨d, 0, none⟩)) := Blk.cell HC2.out 0
                    go_wp2_with fail
                    refine (sync_any d g x4 w4 HD2.out hxa3).mono ?_
                    rintro e w5 ⟨rfl, hD3, hO3⟩
                    have HD3 := Lib.hid hD3
                    have HO3 := Lib.hid (HO2.out.trans hO3)
                    clear hD3 hO3 hK1
                    go_wp2_with fail
                    go_ret
                    exact ⟨by rw [HS5.out]; rfl, by rw [HS5.out]; exact HD3.out, HO3.out⟩
                  · have HS5 := Lib.hid (HS4.out.trans (if_neg hr4))
                    clear HS4
                    go_wp2_with fail
                    go_ret
                    exact ⟨by rw [HS5.out]; rfl, by rw [HS5.out]; exact HD2.out, HO2.out⟩
              · have HS3 := Lib.hid (HS2.out.trans (HH.out.trans (if_neg hr3)))
                clear HH HS2
                go_wp2_with fail
                go_ret
                exact ⟨by rw [HS3.out]; rfl, by rw [HS3.out]; exact HD2.out, HO2.out⟩
end Go.Proofs.Ytnddkodenkmoiaa
