/- The cell: Load. -/
import Derived.Test.YtnddkodenkmoiaaCell5
import Derived.Lib.AppendStr
namespace Go.Proofs.Ytnddkodenkmoiaa
open Go.RowKit Go.Proofs
set_option linter.unusedSimpArgs false
set_option linter.unusedVariables false
theorem hown_drew {w : World} {base n : Nat} {e : TypeId} {v : Value} {xs : List Value} (h : w.ownsRow base e 1 v n xs) : w.drew.drew.ownsRow base e 1 v n xs := h
theorem fieldB_length {x : Dk} {base n : Nat} (h : okL x.L) (hn : base + n ≤ x.L.length) : (fieldB x base n).length = 64 * n := by
  induction n with
  | zero => rfl
  | succ n ih =>
    unfold fieldB at ih ⊢
    rw [List.range_succ, List.flatMap_append, List.length_append, ih (by omega)]
    have hg : x.L[base + n]? = some x.L[base + n] := List.getElem?_eq_getElem (by omega)
    have := (h _ (mem_of_get hg)).1
    simp [B_of hg, this]; omega
theorem fieldB_take {x : Dk} {base size lg cc : Nat} (h : okL x.L) (hn : base + size ≤ x.L.length) (hl : lg ≤ 64 * cc) (hc : cc ≤ size) : (fieldB x base size).take lg = (fieldB x base cc).take lg := by
  have hr : fieldB x base size = fieldB x base cc ++ ((List.range size).drop cc).flatMap (fun c => x.B (base + c)) := by
    unfold fieldB
    conv => lhs; rw [← List.take_append_drop cc (List.range size), List.flatMap_append]
    rw [List.take_range, Nat.min_eq_left hc]
  rw [hr, List.take_append_of_le_length (by rw [fieldB_length h (by omega)]; exact hl)]
theorem convert_nil (w : World) (l : List UInt8) : (convert 94 9 (.slice none 0 0)).run Try.prog w = .ok (.string (strOf (l.take 0))) w := by
  rw [List.take_zero]
  rw [run_convert_bytes_string w 94 9 5 none 0 0 Try.underlying94 Try.underlying5 Try.underlying9]; rfl
theorem convert_own {w w' : World} {base n g cap lg : Nat} {bs : List UInt8} (hO : w.ownsRow base 5 1 (.slice (some ⟨g, 0, none⟩) n cap) n (bs.map bb)) (hk : KeptOn (fun _ => True) w.drew w') (hl : lg ≤ n) (hb : lg ≤ bs.length) :
    (convert 94 9 (.slice (some ⟨g, 0, none⟩) lg cap)).run Try.prog w' = .ok (.string (strOf (bs.take lg))) w' := by
  have hlen : (bs.take lg).length = lg := by rw [List.length_take]; omega
  obtain ⟨h1, h | ⟨g', cap', cur, hv, h2, h3, h4, h5, h6, h7⟩⟩ := hO
  · cases h.1
  · simp only [Value.slice.injEq, Option.some.injEq, Addr.mk.injEq] at hv
    obtain ⟨⟨rfl, _⟩, _, rfl⟩ := hv
    have hg : Blk w' g 5 cur := (show Blk w.drew g 5 cur from h3).kept hk trivial
    have := run_convert_bytes_back (P := Try.prog) w' 94 9 5 ⟨g, 0, none⟩ cap (bs.take lg) Try.underlying94 Try.underlying5 Try.underlying9 (fun k hk => by
      rw [hlen] at hk
      rw [Addr.add_mid, Nat.zero_add, hg.cell]
      have e : (cur.toList.take (n * 1))[k]? = (bs.map bb)[k]? := by rw [h7]
      rw [List.getElem?_take, if_pos (by omega), Array.getElem?_toList] at e
      rw [e, List.getElem?_map, List.getElem?_eq_getElem (by omega)]
      simp; rfl)
    rw [hlen] at this
    exact this
theorem below_of_own {w1 w2 : World} {base n : Nat} {v : Value} {xs : List Value} (hg : w1.grownBy w2 v.ownBlock) (ho : w1.ownsRow base 5 1 v n xs) (hb : base ≤ w1.heap.size) : Below base w1 w2 := by
  refine ⟨hg.os, hg.tape, hg.output, hg.size, fun k hk => hg.block k (by omega) (fun e => ?_)⟩
  rcases ho.2 with ⟨rfl, _⟩ | ⟨g, cap, cur, rfl, h1, _⟩
  · cases e
  · simp [Value.ownBlock] at e; omega
theorem own_ne {C1 : Array Value} {w1 w2 : World} {base n n' r : Nat} {v v' : Value} {xs xs' : List Value} (ho' : w2.ownsRow base 5 1 v' n' xs') (hg : w1.grownBy w2 v.ownBlock) (hne : v.ownBlock ≠ some r) (ho : w1.ownsRow base 5 1 v n xs) (hr : r < w1.heap.size) (hbl : Blk w1 r 100 C1) : v'.ownBlock ≠ some r := by
  intro e
  rcases ho'.2 with ⟨rfl, _⟩ | ⟨g, cap, cur, rfl, h1, h2, _⟩
  · cases e
  · obtain rfl : g = r := by simpa [Value.ownBlock] using e
    have := hg.block g hr (fun e => hne e.symm)
    rw [h2] at this
    unfold Blk at hbl
    rw [hbl] at this
    cases this
set_option maxRecDepth 100000 in
set_option maxHeartbeats 4000000 in
theorem load_any (c d g f size : Nat) (x : Dk) (w : World) (hc : CellAt w c d (f : Int) (size : Int)) (hD : DiskAt w d g x) (h1 : 1 ≤ size) (h2 : size ≤ 255) (hf : f + 2 + 2 * size ≤ x.L.length) :
    Calls Try.prog 30 #[.pointer (some ⟨c, 0, none⟩)] w fun e w' => e = .returned (.tuple #[.string (x.loadF f size).1, .int .i64 (x.loadF f size).2.1, .int .i64 (x.loadF f size).2.2]) ∧ Below w.heap.size w w' := by
  have hlen := hD.2.2.2.2
  have HOK := Lib.hid hD.2.2.1
  have HC := Lib.hid hc
  have HD := Lib.hid hD
  clear hc hD
  go_enter Try.func30, Try.ntmps30
  go_wp2_with fail
  refine (slots_any c d g f (size : Int) x w HC.out HD.out (by omega) (by omega) (by omega)).mono ?_
  rintro e w1 ⟨rfl, hb1⟩
  by_cases hdn : x.down = true
  · rw [show slotsV x f size = .tuple #[.agg #[.int .i64 0, .int .i64 0, .int .i64 0, .int .i64 0], .int .i64 12] by unfold slotsV; rw [if_pos hdn]]
    have HS := Lib.hid (show x.loadF f size = (⟨#[]⟩, 0, 12) by unfold Dk.loadF; rw [if_pos hdn])
    have HB := Lib.hid hb1
    clear hb1
    go_wp2_with fail
    go_ret3
    exact ⟨by rw [HS.out]; rfl, HB.out.alloc HB.out.size _⟩
  · have hdn : x.down = false := by simpa using hdn
    rw [show slotsV x f size = .tuple #[.agg #[.int .i64 (slotS x f size).1, .int .i64 (slotS x f size).2, .int .i64 (slotS x (f + 1) size).1, .int .i64 (slotS x (f + 1) size).2], .int .i64 0] by unfold slotsV; rw [if_neg (by rw [hdn]; decide)]]
    have hp := slotS_bd x f (size : Int) (by omega)
    have hq := slotS_bd x (f + 1) (size : Int) (by omega)
    have hl3 := lastOf_cases (slotS x f size).1 (slotS x f size).2 (slotS x (f + 1) size).1 (slotS x (f + 1) size).2
    have hk : x.kOf f size = lastOf (slotS x f size).1 (slotS x f size).2 (slotS x (f + 1) size).1 (slotS x (f + 1) size).2 := rfl
    have hlv : x.loadF f size = if x.kOf f size < 0 then (⟨#[]⟩, 0, 9) else if x.kOf f size = 0 then (strOf ((fieldB x (f + 2) size).take (slotS x f size).2.toNat), (slotS x f size).1, 0) else (strOf ((fieldB x (f + 2 + size) size).take (slotS x (f + 1) size).2.toNat), (slotS x (f + 1) size).1, 0) := by
      unfold Dk.loadF; rw [if_neg (by rw [hdn]; decide)]
    generalize slotS x f size = p at hp hk hl3 hlv ⊢
    generalize slotS x (f + 1) size = q at hq hk hl3 hlv ⊢
    obtain ⟨p1, p2⟩ := p
    obtain ⟨q1, q2⟩ := q
    simp only at hp hq hk hl3 hlv ⊢
    generalize x.kOf f size = k at hk hlv
    have HK := Lib.hid hk
    have HLV := Lib.hid hlv
    have HL3 := Lib.hid hl3
    have HB := Lib.hid hb1
    have HDN := Lib.hid hdn
    clear hb1 hk hl3 hdn hlv
    have HR := Lib.hid (show Blk (w1.alloc (.cells #[.int .i64 p1, .int .i64 p2, .int .i64 q1, .int .i64 q2] 100)) w1.heap.size 100 #[.int .i64 p1, .int .i64 p2, .int .i64 q1, .int .i64 q2] from Blk.new w1 100 _)
    have HBB := Lib.hid (show Below w.heap.size w (w1.alloc (.cells #[.int .i64 p1, .int .i64 p2, .int .i64 q1, .int .i64 q2] 100)) from HB.out.alloc HB.out.size _)
    go_wp2_with fail
    refine (last_any p1 p2 q1 q2 _).mono ?_
    rintro e w2 ⟨rfl, hb2⟩
    have HB2 := Lib.hid (HBB.out.trans (hb2.mono HBB.out.size))
    have HR2 := Lib.hid (HR.out.below hb2 HR.out.lt)
    clear hb2 HR HBB
    obtain ⟨lk, hlk⟩ : ∃ lk, lastOf p1 p2 q1 q2 = lk := ⟨_, rfl⟩
    rw [hlk]
    have HLK := Lib.hid hlk
    clear hlk
    rcases HL3.out with h3 | h3 | h3
    · obtain rfl : lk = -1 := HLK.out.symm.trans h3
      clear h3
      have HK0 := Lib.hid (HK.out.trans HLK.out)
      have HTV := Lib.hid (show x.loadF f size = (⟨#[]⟩, 0, 9) by rw [HLV.out, if_pos (by rw [HK0.out]; decide)])
      go_wp2_with fail
      go_ret3
      exact ⟨by rw [HTV.out]; rfl, HB2.out⟩
    · obtain rfl : lk = 0 := HLK.out.symm.trans h3
      clear h3
      have HK0 := Lib.hid (HK.out.trans HLK.out)
      obtain ⟨lg, hlg⟩ : ∃ m : Nat, p2 = (m : Int) := ⟨p2.toNat, by omega⟩
      subst hlg
      have hlg2 : lg ≤ 64 * size := by omega
      obtain ⟨base, hbase⟩ : ∃ b, f + 2 = b := ⟨_, rfl⟩
      have HTV := Lib.hid (show x.loadF f size = (strOf ((fieldB x base size).take lg), p1, 0) by
        rw [HLV.out]
        rw [if_neg (by rw [HK0.out]; decide), if_pos (by rw [HK0.out]), hbase]; rfl)
      have hbd : base + size ≤ x.L.length := by omega
      have HBS := Lib.hid hbase
      clear hbase
      go_wp2_with fail
      have HB2' := Lib.hid HB2.out
      go_loopw [8, 9, 10, 11] (fun v8 v9 _ _ wr => ∃ cc : Nat, v9 = .int .i64 (cc : Int) ∧ cc ≤ size ∧ wr.ownsRow w.heap.size 5 1 v8 (64 * cc) ((fieldB x base cc).map bb) ∧ Below w.heap.size w wr ∧ Blk wr w1.heap.size 100 #[.int .i64 p1, .int .i64 (lg : Int), .int .i64 q1, .int .i64 q2] ∧ w.heap.size ≤ w1.heap.size ∧ v8.ownBlock ≠ some w1.heap.size) (fun _ v9 _ _ _ => size - (intOf v9).toNat)
      case atStart => exact ⟨0, rfl, by omega, ⟨rfl, .inl ⟨rfl, rfl⟩⟩, HB2.out, HR2.out, HB.out.size, (by simp [Value.ownBlock])⟩
      case round =>
        obtain ⟨cc, rfl, hcc, hown, hbr, hbl, hsz1, hne⟩ := hrel
        clear HB2 HR2 HB2'
        have HOW := Lib.hid hown
        have HB := Lib.hid hbr
        have HR := Lib.hid hbl
        have HNE := Lib.hid hne
        have HZ1 := Lib.hid hsz1
        have HD := Lib.hid (HD.out.below hbr)
        have HC := Lib.hid (show CellAt wr c d (f : Int) (size : Int) from HC.out.below hbr HC.out.lt)
        clear hown hbr hbl hsz1 hne
        have HFL := Lib.hid (fieldB_length (x := x) (base := base) (n := cc) HOK.out (by omega))
        by_cases hlt : 64 * cc < lg
        · have hcc2 : cc < size := by omega
          have hlt' : 64 * (cc : Int) < (lg : Int) := by omega
          have cL : wr.cell? ⟨w1.heap.size, 1, none⟩ = some (.int .i64 (lg : Int)) := HR.out.cell 1
          obtain ⟨s, hs⟩ : ∃ s, x.L[base + cc]? = some s := ⟨_, List.getElem?_eq_getElem (by omega)⟩
          have hread := readR_in HDN.out hs
          rw [Int.natCast_add] at hread
          have HRD := Lib.hid hread
          have hbB : x.B (base + cc) = s.b := B_of hs
          have hso := HOK.out s (mem_of_get hs)
          have HNX := Lib.hid (show fieldB x base (cc + 1) = fieldB x base cc ++ s.b by unfold fieldB; rw [List.range_succ, List.flatMap_append]; simp [hbB])
          have HSO := Lib.hid hso
          clear hread hbB hso hs
          have hK1 : ∀ w', KeptOn (fun _ => True) wr.drew w' → w'.cell? ⟨c, 0, none⟩ = some (.pointer (some ⟨d, 0, none⟩)) := fun w' h => h.cell (w := wr.drew) (Blk.cell HC.out 0) trivial
          have hw1 : IntKind.i64.wrap ((base : Int) + (cc : Int)) = (base : Int) + (cc : Int) := IntWalk.i64_in _ (by omega)
          go_upto_region 13 with fail
          clear cL
          refine wp_region_keep2 (KeptOn fun _ => True) (KeptOn.refl _) (KeptOn.trans) [(0,0),(1,0),(2,0),(3,0),(4,0),(5,0),(7,0),(6,1),(8,0),(9,1),(10,0),(11,0),(12,0),(13,0),(14,0)] (by kernel_rfl) (by kernel_rfl) ?_
          iterate 7 (refine keep_quiet (v := ?_) rfl (fun _ _ _ h => h) (by rfl) (fun w' hR => ?_) ?_; rotate_left; (go_simp; try with_reducible rfl); simp only [Act.put, List.setIfInBounds_toArray, List.set_cons_zero, List.set_cons_succ])
          refine keep_eff rfl ?_
          clear hK1
          go_wp2_with fail
          refine (fieldN_any c d f size 0 base wr.drew HC.out.drew h2 (by omega) (by omega) (by rw [← HBS.out]; omega)).mono ?_
          rintro e w' ⟨rfl, rfl⟩
          go_wp2_with fail
          refine keepPost_need (KeptOn.drew _) ?_
          iterate 1 (refine keep_quiet (v := ?_) rfl (fun _ _ _ h => h) (by rfl) (fun w' hR => ?_) ?_; rotate_left; (go_simp; try with_reducible rfl); simp only [Act.put, List.setIfInBounds_toArray, List.set_cons_zero, List.set_cons_succ])
          refine keep_eff rfl ?_
          go_wp2_with fail
          refine (read_any d g x ((base : Int) + (cc : Int)) wr.drew.drew HD.out.drew.drew).mono ?_
          rintro e w' ⟨rfl, rfl⟩
          rw [HRD.out]
          go_wp2_with fail
          refine keepPost_need (KeptOn.refl _ _) ?_
          iterate 5 (refine keep_quiet (v := ?_) rfl (fun _ _ _ h => h) (by rfl) (fun w' hR => ?_) ?_; rotate_left; (go_simp; try with_reducible rfl); simp only [Act.put, List.setIfInBounds_toArray, List.set_cons_zero, List.set_cons_succ])
          refine keep_done ?_
          clear hw1
          go_upto_region 16 with fail
          refine wp_region_lit ?_
          iterate 6 go_step
          have hs5 : (Try.prog.info? 5).map (fun i => (i.size, i.bytes, i.zero)) = some (1, 1, some (.int .u8 0)) := by kernel_rfl
          obtain ⟨i5, hi5, hi52⟩ := Option.map_eq_some_iff.1 hs5
          simp only [Prod.mk.injEq] at hi52
          obtain ⟨e1, e2, e3⟩ := hi52
          have hss : (strOf s.b).size = 64 := by rw [strOf_size]; exact HSO.out.1
          refine Lib.wpList_append_own_string _ rfl _ _ 94 9 rfl w.heap.size 5 i5 Try.underlying94 Try.underlying9 hi5 e3 e1 e2 u8 (64 * cc) ((fieldB x base cc).map bb) rfl (hown_drew HOW.out) (strOf s.b) rfl (by rw [hss]; simp only [maxLen]; omega) (by rw [hss]; omega) HB.out.size ?_
          intro v' w' hown2 hgr _
          rw [hss] at hown2
          rw [show (fieldB x base cc).map bb ++ Lib.strCells (strOf s.b) = (fieldB x base (cc + 1)).map bb by rw [HNX.out, List.map_append]; rfl] at hown2
          have HO2 := Lib.hid hown2
          have HG := Lib.hid hgr
          clear hown2 hgr hs5 hi5 e1 e2 e3 hss
          simp only [Act.put]
          go_wp2_with fail
          go_roundw
          case rel =>
            refine ⟨cc + 1, by go_num, by omega, HO2.out, ?_, ?_, HZ1.out, ?_⟩
            · exact HB.out.drew.drew.trans (below_of_own HG.out (hown_drew HOW.out) (show w.heap.size ≤ wr.drew.drew.heap.size from HB.out.size))
            · exact (HR.out.drew.drew).grown HG.out (fun e => HNE.out e.symm)
            · exact own_ne HO2.out HG.out HNE.out (hown_drew HOW.out) HR.out.lt HR.out.drew.drew
          case measure => simp [intOf]; omega
        · have hlt' : ¬ 64 * (cc : Int) < (lg : Int) := by omega
          have hTT : strOf ((fieldB x base size).take lg) = strOf ((fieldB x base cc).take lg) := by rw [fieldB_take HOK.out (by omega) (by omega) (show cc ≤ size from hcc)]
          rw [hTT] at HTV
          have hA : ∀ w', KeptOn (fun _ => True) wr.drew w' → w'.cell? ⟨w1.heap.size, 0, none⟩ = some (.int .i64 p1) := fun w' h => h.cell (w := wr.drew) (HR.out.cell 0) trivial
          have hL : ∀ w', KeptOn (fun _ => True) wr.drew w' → w'.cell? ⟨w1.heap.size, 1, none⟩ = some (.int .i64 (lg : Int)) := fun w' h => h.cell (w := wr.drew) (HR.out.cell 1) trivial
          have cL : wr.cell? ⟨w1.heap.size, 1, none⟩ = some (.int .i64 (lg : Int)) := HR.out.cell 1
          rcases HOW.out.2 with ⟨rfl, h0⟩ | ⟨g9, cap, cur, rfl, hb9, hg9, hn9, hc9, hs9, ht9⟩
          · have hl0 : lg = 0 := by omega
            subst hl0
            have hcv : ∀ w', KeptOn (fun _ => True) wr.drew w' → (convert 94 9 (.slice none 0 0)).run Try.prog w' = .ok (.string (strOf ((fieldB x base cc).take 0))) w' := fun w' _ => convert_nil w' _
            generalize strOf ((fieldB x base cc).take 0) = TT at hcv HTV
            have HCV := Lib.hid hcv
            clear hcv hTT
            go_upto_region 17 with (fail)
            refine wp_region_keep2 (KeptOn fun _ => True) (KeptOn.refl _) (KeptOn.trans) [(0,0),(1,0),(2,0),(3,0),(4,0),(5,0),(6,0),(7,0),(8,0),(9,0),(10,0),(11,0),(12,0),(13,0)] (by kernel_rfl) (by kernel_rfl) ?_
            iterate 6 (refine keep_quiet (v := ?_) rfl (fun _ _ _ h => h) (by rfl) (fun w' hR => ?_) ?_; rotate_left; (go_simp; try with_reducible rfl); simp only [Act.put, List.setIfInBounds_toArray, List.set_cons_zero, List.set_cons_succ])
            refine keep_quiet (v := .string TT) rfl (fun _ _ _ h => h) (by rfl) (fun w' hR => execConvert 94 9 _ rfl (p := .slice none 0 0) rfl (HCV.out w' hR)) ?_; simp only [Act.put, List.setIfInBounds_toArray, List.set_cons_zero, List.set_cons_succ]
            iterate 7 (refine keep_quiet (v := ?_) rfl (fun _ _ _ h => h) (by rfl) (fun w' hR => ?_) ?_; rotate_left; (go_simp; try with_reducible rfl); simp only [Act.put, List.setIfInBounds_toArray, List.set_cons_zero, List.set_cons_succ])
            refine keep_done ?_
            clear hA hL
            go_wp2_with fail
            go_ret3
            exact ⟨by rw [HTV.out]; rfl, HB.out.drew⟩
          · have hlc : lg ≤ cap := by omega
            have hcv : ∀ w', KeptOn (fun _ => True) wr.drew w' → (convert 94 9 (.slice (some ⟨g9, 0, none⟩) lg cap)).run Try.prog w' = .ok (.string (strOf ((fieldB x base cc).take lg))) w' := fun w' hk => convert_own HOW.out hk (by omega) (by rw [HFL.out]; omega)
            generalize strOf ((fieldB x base cc).take lg) = TT at hcv HTV
            have HCV := Lib.hid hcv
            clear hcv hTT ht9 hs9 hg9 hb9
            have hcm : cap ≤ 9223372036854775807 := by simp only [maxLen] at hc9; omega
            go_upto_region 17 with (fail)
            refine wp_region_keep2 (KeptOn fun _ => True) (KeptOn.refl _) (KeptOn.trans) [(0,0),(1,0),(2,0),(3,0),(4,0),(5,0),(6,0),(7,0),(8,0),(9,0),(10,0),(11,0),(12,0),(13,0)] (by kernel_rfl) (by kernel_rfl) ?_
            iterate 6 (refine keep_quiet (v := ?_) rfl (fun _ _ _ h => h) (by rfl) (fun w' hR => ?_) ?_; rotate_left; (go_simp; try with_reducible rfl); simp only [Act.put, List.setIfInBounds_toArray, List.set_cons_zero, List.set_cons_succ])
            refine keep_quiet (v := .string TT) rfl (fun _ _ _ h => h) (by rfl) (fun w' hR => execConvert 94 9 _ rfl (p := .slice (some ⟨g9, 0, none⟩) lg cap) rfl (HCV.out w' hR)) ?_; simp only [Act.put, List.setIfInBounds_toArray, List.set_cons_zero, List.set_cons_succ]
            iterate 7 (refine keep_quiet (v := ?_) rfl (fun _ _ _ h => h) (by rfl) (fun w' hR => ?_) ?_; rotate_left; (go_simp; try with_reducible rfl); simp only [Act.put, List.setIfInBounds_toArray, List.set_cons_zero, List.set_cons_succ])
            refine keep_done ?_
            clear hA hL
            go_wp2_with fail
            go_ret3
            exact ⟨by rw [HTV.out]; rfl, HB.out.drew⟩
    · obtain rfl : lk = 1 := HLK.out.symm.trans h3
      clear h3
      have HK0 := Lib.hid (HK.out.trans HLK.out)
      obtain ⟨lg, hlg⟩ : ∃ m : Nat, q2 = (m : Int) := ⟨q2.toNat, by omega⟩
      subst hlg
      have hlg2 : lg ≤ 64 * size := by omega
      obtain ⟨base, hbase⟩ : ∃ b, f + 2 + size = b := ⟨_, rfl⟩
      have HTV := Lib.hid (show x.loadF f size = (strOf ((fieldB x base size).take lg), q1, 0) by
        rw [HLV.out]
        rw [if_neg (by rw [HK0.out]; decide), if_neg (by rw [HK0.out]; decide), hbase]; rfl)
      have hbd : base + size ≤ x.L.length := by omega
      have HBS := Lib.hid hbase
      clear hbase
      go_wp2_with fail
      have HB2' := Lib.hid HB2.out
      go_loopw [8, 9, 10, 11] (fun v8 v9 _ _ wr => ∃ cc : Nat, v9 = .int .i64 (cc : Int) ∧ cc ≤ size ∧ wr.ownsRow w.heap.size 5 1 v8 (64 * cc) ((fieldB x base cc).map bb) ∧ Below w.heap.size w wr ∧ Blk wr w1.heap.size 100 #[.int .i64 p1, .int .i64 p2, .int .i64 q1, .int .i64 (lg : Int)] ∧ w.heap.size ≤ w1.heap.size ∧ v8.ownBlock ≠ some w1.heap.size) (fun _ v9 _ _ _ => size - (intOf v9).toNat)
      case atStart => exact ⟨0, rfl, by omega, ⟨rfl, .inl ⟨rfl, rfl⟩⟩, HB2.out, HR2.out, HB.out.size, (by simp [Value.ownBlock])⟩
      case round =>
        obtain ⟨cc, rfl, hcc, hown, hbr, hbl, hsz1, hne⟩ := hrel
        clear HB2 HR2 HB2'
        have HOW := Lib.hid hown
        have HB := Lib.hid hbr
        have HR := Lib.hid hbl
        have HNE := Lib.hid hne
        have HZ1 := Lib.hid hsz1
        have HD := Lib.hid (HD.out.below hbr)
        have HC := Lib.hid (show CellAt wr c d (f : Int) (size : Int) from HC.out.below hbr HC.out.lt)
        clear hown hbr hbl hsz1 hne
        have HFL := Lib.hid (fieldB_length (x := x) (base := base) (n := cc) HOK.out (by omega))
        by_cases hlt : 64 * cc < lg
        · have hcc2 : cc < size := by omega
          have hlt' : 64 * (cc : Int) < (lg : Int) := by omega
          have cL : wr.cell? ⟨w1.heap.size, 3, none⟩ = some (.int .i64 (lg : Int)) := HR.out.cell 3
          obtain ⟨s, hs⟩ : ∃ s, x.L[base + cc]? = some s := ⟨_, List.getElem?_eq_getElem (by omega)⟩
          have hread := readR_in HDN.out hs
          rw [Int.natCast_add] at hread
          have HRD := Lib.hid hread
          have hbB : x.B (base + cc) = s.b := B_of hs
          have hso := HOK.out s (mem_of_get hs)
          have HNX := Lib.hid (show fieldB x base (cc + 1) = fieldB x base cc ++ s.b by unfold fieldB; rw [List.range_succ, List.flatMap_append]; simp [hbB])
          have HSO := Lib.hid hso
          clear hread hbB hso hs
          have hK1 : ∀ w', KeptOn (fun _ => True) wr.drew w' → w'.cell? ⟨c, 0, none⟩ = some (.pointer (some ⟨d, 0, none⟩)) := fun w' h => h.cell (w := wr.drew) (Blk.cell HC.out 0) trivial
          have hw1 : IntKind.i64.wrap ((base : Int) + (cc : Int)) = (base : Int) + (cc : Int) := IntWalk.i64_in _ (by omega)
          go_upto_region 13 with fail
          clear cL
          refine wp_region_keep2 (KeptOn fun _ => True) (KeptOn.refl _) (KeptOn.trans) [(0,0),(1,0),(2,0),(3,0),(4,0),(5,0),(7,0),(6,1),(8,0),(9,1),(10,0),(11,0),(12,0),(13,0),(14,0)] (by kernel_rfl) (by kernel_rfl) ?_
          iterate 7 (refine keep_quiet (v := ?_) rfl (fun _ _ _ h => h) (by rfl) (fun w' hR => ?_) ?_; rotate_left; (go_simp; try with_reducible rfl); simp only [Act.put, List.setIfInBounds_toArray, List.set_cons_zero, List.set_cons_succ])
          refine keep_eff rfl ?_
          clear hK1
          go_wp2_with fail
          refine (fieldN_any c d f size 1 base wr.drew HC.out.drew h2 (by omega) (by omega) (by rw [← HBS.out]; omega)).mono ?_
          rintro e w' ⟨rfl, rfl⟩
          go_wp2_with fail
          refine keepPost_need (KeptOn.drew _) ?_
          iterate 1 (refine keep_quiet (v := ?_) rfl (fun _ _ _ h => h) (by rfl) (fun w' hR => ?_) ?_; rotate_left; (go_simp; try with_reducible rfl); simp only [Act.put, List.setIfInBounds_toArray, List.set_cons_zero, List.set_cons_succ])
          refine keep_eff rfl ?_
          go_wp2_with fail
          refine (read_any d g x ((base : Int) + (cc : Int)) wr.drew.drew HD.out.drew.drew).mono ?_
          rintro e w' ⟨rfl, rfl⟩
          rw [HRD.out]
          go_wp2_with fail
          refine keepPost_need (KeptOn.refl _ _) ?_
          iterate 5 (refine keep_quiet (v := ?_) rfl (fun _ _ _ h => h) (by rfl) (fun w' hR => ?_) ?_; rotate_left; (go_simp; try with_reducible rfl); simp only [Act.put, List.setIfInBounds_toArray, List.set_cons_zero, List.set_cons_succ])
          refine keep_done ?_
          clear hw1
          go_upto_region 16 with fail
          refine wp_region_lit ?_
          iterate 6 go_step
          have hs5 : (Try.prog.info? 5).map (fun i => (i.size, i.bytes, i.zero)) = some (1, 1, some (.int .u8 0)) := by kernel_rfl
          obtain ⟨i5, hi5, hi52⟩ := Option.map_eq_some_iff.1 hs5
          simp only [Prod.mk.injEq] at hi52
          obtain ⟨e1, e2, e3⟩ := hi52
          have hss : (strOf s.b).size = 64 := by rw [strOf_size]; exact HSO.out.1
          refine Lib.wpList_append_own_string _ rfl _ _ 94 9 rfl w.heap.size 5 i5 Try.underlying94 Try.underlying9 hi5 e3 e1 e2 u8 (64 * cc) ((fieldB x base cc).map bb) rfl (hown_drew HOW.out) (strOf s.b) rfl (by rw [hss]; simp only [maxLen]; omega) (by rw [hss]; omega) HB.out.size ?_
          intro v' w' hown2 hgr _
          rw [hss] at hown2
          rw [show (fieldB x base cc).map bb ++ Lib.strCells (strOf s.b) = (fieldB x base (cc + 1)).map bb by rw [HNX.out, List.map_append]; rfl] at hown2
          have HO2 := Lib.hid hown2
          have HG := Lib.hid hgr
          clear hown2 hgr hs5 hi5 e1 e2 e3 hss
          simp only [Act.put]
          go_wp2_with fail
          go_roundw
          case rel =>
            refine ⟨cc + 1, by go_num, by omega, HO2.out, ?_, ?_, HZ1.out, ?_⟩
            · exact HB.out.drew.drew.trans (below_of_own HG.out (hown_drew HOW.out) (show w.heap.size ≤ wr.drew.drew.heap.size from HB.out.size))
            · exact (HR.out.drew.drew).grown HG.out (fun e => HNE.out e.symm)
            · exact own_ne HO2.out HG.out HNE.out (hown_drew HOW.out) HR.out.lt HR.out.drew.drew
          case measure => simp [intOf]; omega
        · have hlt' : ¬ 64 * (cc : Int) < (lg : Int) := by omega
          have hTT : strOf ((fieldB x base size).take lg) = strOf ((fieldB x base cc).take lg) := by rw [fieldB_take HOK.out (by omega) (by omega) (show cc ≤ size from hcc)]
          rw [hTT] at HTV
          have hA : ∀ w', KeptOn (fun _ => True) wr.drew w' → w'.cell? ⟨w1.heap.size, 2, none⟩ = some (.int .i64 q1) := fun w' h => h.cell (w := wr.drew) (HR.out.cell 2) trivial
          have hL : ∀ w', KeptOn (fun _ => True) wr.drew w' → w'.cell? ⟨w1.heap.size, 3, none⟩ = some (.int .i64 (lg : Int)) := fun w' h => h.cell (w := wr.drew) (HR.out.cell 3) trivial
          have cL : wr.cell? ⟨w1.heap.size, 3, none⟩ = some (.int .i64 (lg : Int)) := HR.out.cell 3
          rcases HOW.out.2 with ⟨rfl, h0⟩ | ⟨g9, cap, cur, rfl, hb9, hg9, hn9, hc9, hs9, ht9⟩
          · have hl0 : lg = 0 := by omega
            subst hl0
            have hcv : ∀ w', KeptOn (fun _ => True) wr.drew w' → (convert 94 9 (.slice none 0 0)).run Try.prog w' = .ok (.string (strOf ((fieldB x base cc).take 0))) w' := fun w' _ => convert_nil w' _
            generalize strOf ((fieldB x base cc).take 0) = TT at hcv HTV
            have HCV := Lib.hid hcv
            clear hcv hTT
            go_upto_region 17 with (fail)
            refine wp_region_keep2 (KeptOn fun _ => True) (KeptOn.refl _) (KeptOn.trans) [(0,0),(1,0),(2,0),(3,0),(4,0),(5,0),(6,0),(7,0),(8,0),(9,0),(10,0),(11,0),(12,0),(13,0)] (by kernel_rfl) (by kernel_rfl) ?_
            iterate 6 (refine keep_quiet (v := ?_) rfl (fun _ _ _ h => h) (by rfl) (fun w' hR => ?_) ?_; rotate_left; (go_simp; try with_reducible rfl); simp only [Act.put, List.setIfInBounds_toArray, List.set_cons_zero, List.set_cons_succ])
            refine keep_quiet (v := .string TT) rfl (fun _ _ _ h => h) (by rfl) (fun w' hR => execConvert 94 9 _ rfl (p := .slice none 0 0) rfl (HCV.out w' hR)) ?_; simp only [Act.put, List.setIfInBounds_toArray, List.set_cons_zero, List.set_cons_succ]
            iterate 7 (refine keep_quiet (v := ?_) rfl (fun _ _ _ h => h) (by rfl) (fun w' hR => ?_) ?_; rotate_left; (go_simp; try with_reducible rfl); simp only [Act.put, List.setIfInBounds_toArray, List.set_cons_zero, List.set_cons_succ])
            refine keep_done ?_
            clear hA hL
            go_wp2_with fail
            go_ret3
            exact ⟨by rw [HTV.out]; rfl, HB.out.drew⟩
          · have hlc : lg ≤ cap := by omega
            have hcv : ∀ w', KeptOn (fun _ => True) wr.drew w' → (convert 94 9 (.slice (some ⟨g9, 0, none⟩) lg cap)).run Try.prog w' = .ok (.string (strOf ((fieldB x base cc).take lg))) w' := fun w' hk => convert_own HOW.out hk (by omega) (by rw [HFL.out]; omega)
            generalize strOf ((fieldB x base cc).take lg) = TT at hcv HTV
            have HCV := Lib.hid hcv
            clear hcv hTT ht9 hs9 hg9 hb9
            have hcm : cap ≤ 9223372036854775807 := by simp only [maxLen] at hc9; omega
            go_upto_region 17 with (fail)
            refine wp_region_keep2 (KeptOn fun _ => True) (KeptOn.refl _) (KeptOn.trans) [(0,0),(1,0),(2,0),(3,0),(4,0),(5,0),(6,0),(7,0),(8,0),(9,0),(10,0),(11,0),(12,0),(13,0)] (by kernel_rfl) (by kernel_rfl) ?_
            iterate 6 (refine keep_quiet (v := ?_) rfl (fun _ _ _ h => h) (by rfl) (fun w' hR => ?_) ?_; rotate_left; (go_simp; try with_reducible rfl); simp only [Act.put, List.setIfInBounds_toArray, List.set_cons_zero, List.set_cons_succ])
            refine keep_quiet (v := .string TT) rfl (fun _ _ _ h => h) (by rfl) (fun w' hR => execConvert 94 9 _ rfl (p := .slice (some ⟨g9, 0, none⟩) lg cap) rfl (HCV.out w' hR)) ?_; simp only [Act.put, List.setIfInBounds_toArray, List.set_cons_zero, List.set_cons_succ]
            iterate 7 (refine keep_quiet (v := ?_) rfl (fun _ _ _ h => h) (by rfl) (fun w' hR => ?_) ?_; rotate_left; (go_simp; try with_reducible rfl); simp only [Act.put, List.setIfInBounds_toArray, List.set_cons_zero, List.set_cons_succ])
            refine keep_done ?_
            clear hA hL
            go_wp2_with fail
            go_ret3
            exact ⟨by rw [HTV.out]; rfl, HB.out.drew⟩

end Go.Proofs.Ytnddkodenkmoiaa
