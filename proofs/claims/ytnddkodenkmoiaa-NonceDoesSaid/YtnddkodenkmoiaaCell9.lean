/- CellApart answers true. -/
import Derived.Test.YtnddkodenkmoiaaCell8
namespace Go.Proofs.Ytnddkodenkmoiaa
open Go.RowKit Go.Proofs
set_option linter.unusedSimpArgs false
set_option linter.unusedVariables false
theorem load_u (c d g f size n : Nat) (x : Dk) (t : ByteArray) (w : World) (hc : CellAt w c d (f : Int) (size : Int)) (hD : DiskAt w d g x) (hd : x.down = false) (hK : Content x.B f size n t) (h0 : n = 0 → t = ⟨#[]⟩) (h1 : 1 ≤ size) (h2 : size ≤ 255) (hf : f + 2 + 2 * size ≤ x.L.length)
    (hn : n ≤ 1099511627776) :
    Calls Try.prog 30 #[.pointer (some ⟨c, 0, none⟩)] w fun e w' => ∃ r : Int, e = .returned (.tuple #[.string t, .int .i64 (n : Int), .int .i64 r]) ∧ Below w.heap.size w w' := by
  by_cases hz : n = 0
  · subst hz
    obtain rfl := h0 rfl
    exact (load_ok0 c d g f size x _ w hc hD hd hK h1 h2 hf).mono fun e w' h => ⟨9, h⟩
  · exact (load_ok c d g f size n x t w hc hD hd hK h1 h2 hf hn (by omega)).mono fun e w' h => ⟨0, h⟩
set_option maxRecDepth 100000 in
set_option maxHeartbeats 8000000 in
theorem cellApart_any (oa ob : Option Addr) (ca cb : Nat) (lA lB : List ByteArray) (w : World) (hca : lA.length ≤ ca) (hcb : lB.length ≤ cb) (hla : lA.length ≤ 9223372036854775807) (hlb : lB.length ≤ 9223372036854775807)
    (hsa : ∀ j s, lA[j]? = some s → ∃ a, oa = some a ∧ w.cell? (a.add j) = some (.string s)) (hsb : ∀ j s, lB[j]? = some s → ∃ a, ob = some a ∧ w.cell? (a.add j) = some (.string s)) :
    Calls Try.prog 6 #[.slice oa lA.length ca, .slice ob lB.length cb] w fun e w' => e = .returned (.bool true) ∧ Below w.heap.size w w' := by
  have HSa := Lib.hid hsa
  have HSb := Lib.hid hsb
  clear hsa hsb
  go_enter Try.func6, Try.ntmps6
  go_wp2_with fail
  refine (new_n 40 w (by omega) (by omega)).mono ?_
  rintro e w1 ⟨d, g, hd, hg, rfl, hD, hB⟩
  have HD := Lib.hid hD
  have HB := Lib.hid hB
  clear hD hB
  go_wp2_with fail
  refine (open_any d g 0 3 (dk0 40) w1 HD.out rfl (by omega) (by omega) (by rw [dk0_len]; omega)).mono ?_
  rintro e w2 ⟨rfl, hC, hB⟩
  have HD := Lib.hid (HD.out.below hB)
  have HCa := Lib.hid hC
  have HB := Lib.hid (HB.out.trans (hB.mono HB.out.size))
  clear hC hB
  generalize w1.heap.size = c1 at HCa ⊢
  go_wp2_with fail
  refine (open_any d g 8 5 (dk0 40) w2 HD.out rfl (by omega) (by omega) (by rw [dk0_len]; omega)).mono ?_
  rintro e w3 ⟨rfl, hC, hB⟩
  have HD := Lib.hid (HD.out.below hB)
  have HCa := Lib.hid (show CellAt w3 c1 d ((0 : Nat) : Int) ((3 : Nat) : Int) from HCa.out.below hB HCa.out.lt)
  have HCb := Lib.hid hC
  have HB := Lib.hid (HB.out.trans (hB.mono HB.out.size))
  clear hC hB
  generalize w2.heap.size = c2 at HCb ⊢
  go_wp2_with fail
  refine (awakeC_any w3).mono ?_
  rintro e w4 ⟨rfl, hB⟩
  have HD := Lib.hid (HD.out.below hB)
  have HCa := Lib.hid (show CellAt w4 c1 d ((0 : Nat) : Int) ((3 : Nat) : Int) from HCa.out.below hB HCa.out.lt)
  have HCb := Lib.hid (show CellAt w4 c2 d ((8 : Nat) : Int) ((5 : Nat) : Int) from HCb.out.below hB HCb.out.lt)
  have HB := Lib.hid (HB.out.trans (hB.mono HB.out.size))
  clear hB
  go_wp2_with fail
  go_loopw [11, 12, 13, 14, 15, 16, 17, 18, 19] (fun v11 v12 v13 _ _ _ _ _ _ wr => ∃ (i na nb : Nat) (x : Dk) (ta tb : ByteArray), v13 = .int .i64 (i : Int) ∧ v11 = .string ta ∧ v12 = .string tb ∧ na ≤ i ∧ nb ≤ i ∧ i ≤ 12 ∧ DiskAt wr d g x ∧ CellAt wr c1 d ((0 : Nat) : Int) ((3 : Nat) : Int) ∧ CellAt wr c2 d ((8 : Nat) : Int) ((5 : Nat) : Int) ∧ CellOk x 0 3 na ta ∧ CellOk x 8 5 nb tb ∧ (na = 0 → ta = ⟨#[]⟩) ∧ (nb = 0 → tb = ⟨#[]⟩) ∧ x.L.length = 40 ∧ Below w.heap.size w wr) (fun _ _ v13 _ _ _ _ _ _ _ => 12 - (intOf v13).toNat)
  case atStart => exact ⟨0, 0, 0, dk0 40, none_, none_, rfl, rfl, rfl, by omega, by omega, by omega, HD.out, HCa.out, HCb.out, dk0_ok 40 0 3 (by omega), dk0_ok 40 8 5 (by omega), fun _ => rfl, fun _ => rfl, dk0_len 40, HB.out⟩
  case round =>
    obtain ⟨i, na, nb, x, ta, tb, rfl, rfl, rfl, hna, hnb, hi12, hD, hCa, hCb, hKa, hKb, hNa, hNb, hL, hB⟩ := hrel
    clear HD HCa HCb HB
    have HD := Lib.hid hD
    have HCa := Lib.hid hCa
    have HCb := Lib.hid hCb
    have HKa := Lib.hid hKa
    have HKb := Lib.hid hKb
    have HNa := Lib.hid hNa
    have HNb := Lib.hid hNb
    have HL := Lib.hid hL
    have HB := Lib.hid hB
    clear hD hCa hCb hKa hKb hNa hNb hL hB
    by_cases h12 : i < 12
    · have h12' : (i : Int) < 12 := by omega
      by_cases hla : i < lA.length
      · obtain ⟨sa, hs⟩ : ∃ s, lA[i]? = some s := ⟨_, List.getElem?_eq_getElem hla⟩
        obtain ⟨qa, rfl, hcell⟩ := HSa.out i sa hs
        have hlt := World.block_lt_of_cell? w _ hcell
        have HLTa := Lib.hid hlt
        have HCELLa := Lib.hid hcell
        have hca := (HB.out.cell hlt).trans hcell
        have hl' : (i : Int) < (lA.length : Int) := by omega
        clear hs hlt hcell
        go_wp2_with fail
        by_cases hbig : 64 * 3 < sa.size
        · refine (save_big c1 d g 0 3 x sa _ HCa.out HD.out (by have := HKa.out.calm.2; omega) (by omega) (by omega) (by rw [HL.out]; omega) hbig).mono ?_
          rintro e w5 ⟨rfl, hD, hC, hO⟩
          have HCb := Lib.hid (show CellAt w5 c2 d ((8 : Nat) : Int) ((5 : Nat) : Int) from HD.out.only2_blk HCb.out hO (by decide) (by decide))
          have HD := Lib.hid hD
          have HCa := Lib.hid hC
          have HB := Lib.hid (HB.out.trans (hO.below HB.out.size hd hg))
          clear hD hC hO hl' hbig
          by_cases hlb : i < lB.length
          · obtain ⟨sb, hs⟩ : ∃ s, lB[i]? = some s := ⟨_, List.getElem?_eq_getElem hlb⟩
            obtain ⟨qb, rfl, hcell⟩ := HSb.out i sb hs
            have hlt := World.block_lt_of_cell? w _ hcell
            have HLTb := Lib.hid hlt
            have HCELLb := Lib.hid hcell
            have hcb := (HB.out.cell hlt).trans hcell
            have hl' : (i : Int) < (lB.length : Int) := by omega
            clear hs hlt hcell
            go_wp2_with fail
            by_cases hbig : 64 * 5 < sb.size
            · refine (save_big c2 d g 8 5 x sb _ HCb.out HD.out (by have := HKa.out.calm.2; omega) (by omega) (by omega) (by rw [HL.out]; omega) hbig).mono ?_
              rintro e w5 ⟨rfl, hD, hC, hO⟩
              have HCa := Lib.hid (show CellAt w5 c1 d ((0 : Nat) : Int) ((3 : Nat) : Int) from HD.out.only2_blk HCa.out hO (by decide) (by decide))
              have HD := Lib.hid hD
              have HCb := Lib.hid hC
              have HB := Lib.hid (HB.out.trans (hO.below HB.out.size hd hg))
              clear hD hC hO hl' hbig
              go_wp2_with fail
              refine (load_u c1 d g 0 3 (na) _ ta _ HCa.out HD.out HKa.out.up.up HKa.out.has HNa.out (by omega) (by omega) (by rw [HL.out]; omega) (by omega)).mono ?_
              rintro e w7 ⟨ra, rfl, hB⟩
              have HD := Lib.hid (HD.out.below hB)
              have HCa := Lib.hid (show CellAt w7 c1 d ((0 : Nat) : Int) ((3 : Nat) : Int) from HCa.out.below hB HCa.out.lt)
              have HCb := Lib.hid (show CellAt w7 c2 d ((8 : Nat) : Int) ((5 : Nat) : Int) from HCb.out.below hB HCb.out.lt)
              have HB := Lib.hid (HB.out.trans (hB.mono HB.out.size))
              clear hB
              go_wp2_with fail
              refine (load_u c2 d g 8 5 (nb) _ tb _ HCb.out HD.out HKb.out.up.up HKb.out.has HNb.out (by omega) (by omega) (by rw [HL.out]; omega) (by omega)).mono ?_
              rintro e w8 ⟨rb, rfl, hB⟩
              have HD := Lib.hid (HD.out.below hB)
              have HCa := Lib.hid (show CellAt w8 c1 d ((0 : Nat) : Int) ((3 : Nat) : Int) from HCa.out.below hB HCa.out.lt)
              have HCb := Lib.hid (show CellAt w8 c2 d ((8 : Nat) : Int) ((5 : Nat) : Int) from HCb.out.below hB HCb.out.lt)
              have HB := Lib.hid (HB.out.trans (hB.mono HB.out.size))
              clear hB
              go_wp2_with fail
              go_roundw
              case rel => exact ⟨i + 1, na, nb, _, ta, tb, by go_num, rfl, rfl, by omega, by omega, by omega, HD.out, HCa.out, HCb.out, HKa.out, HKb.out, HNa.out, HNb.out, HL.out, HB.out⟩
              case measure => simp [intOf]; omega
            · refine (save_ok c2 d g 8 5 nb x tb sb _ HCb.out HD.out HKb.out (by omega) (by omega) (by rw [HL.out]; omega) (by omega) (by omega)).mono ?_
              rintro e w5 ⟨rfl, ⟨x2, hD, hK, hl2, hfar⟩, hC, hO⟩
              have HCa := Lib.hid (show CellAt w5 c1 d ((0 : Nat) : Int) ((3 : Nat) : Int) from HD.out.only2_blk HCa.out hO (by decide) (by decide))
              have HKa := Lib.hid (show CellOk x2 0 3 na ta from ⟨hK.calm, hK.up, HKa.out.has.congr (by omega) (fun k h1 h2 => hfar k (by omega))⟩)
              have HD := Lib.hid hD
              have HCb := Lib.hid hC
              have HKb := Lib.hid hK
              have HL := Lib.hid (hl2.trans HL.out)
              have HB := Lib.hid (HB.out.trans (hO.below HB.out.size hd hg))
              have HNb := Lib.hid (show nb + 1 = 0 → sb = ⟨#[]⟩ from fun h => by omega)
              have hnb : nb + 1 ≤ i + 1 := by omega
              clear hD hC hO hK hl2 hfar hl' hbig
              clear hcb
              have hcb := (HB.out.cell HLTb.out).trans HCELLb.out
              skip
              go_wp2_with fail
              refine (load_u c1 d g 0 3 (na) _ ta _ HCa.out HD.out HKa.out.up.up HKa.out.has HNa.out (by omega) (by omega) (by rw [HL.out]; omega) (by omega)).mono ?_
              rintro e w7 ⟨ra, rfl, hB⟩
              have HD := Lib.hid (HD.out.below hB)
              have HCa := Lib.hid (show CellAt w7 c1 d ((0 : Nat) : Int) ((3 : Nat) : Int) from HCa.out.below hB HCa.out.lt)
              have HCb := Lib.hid (show CellAt w7 c2 d ((8 : Nat) : Int) ((5 : Nat) : Int) from HCb.out.below hB HCb.out.lt)
              have HB := Lib.hid (HB.out.trans (hB.mono HB.out.size))
              clear hB
              go_wp2_with fail
              refine (load_u c2 d g 8 5 (nb + 1) _ sb _ HCb.out HD.out HKb.out.up.up HKb.out.has HNb.out (by omega) (by omega) (by rw [HL.out]; omega) (by omega)).mono ?_
              rintro e w8 ⟨rb, rfl, hB⟩
              have HD := Lib.hid (HD.out.below hB)
              have HCa := Lib.hid (show CellAt w8 c1 d ((0 : Nat) : Int) ((3 : Nat) : Int) from HCa.out.below hB HCa.out.lt)
              have HCb := Lib.hid (show CellAt w8 c2 d ((8 : Nat) : Int) ((5 : Nat) : Int) from HCb.out.below hB HCb.out.lt)
              have HB := Lib.hid (HB.out.trans (hB.mono HB.out.size))
              clear hB
              go_wp2_with fail
              go_roundw
              case rel => exact ⟨i + 1, na, nb + 1, _, ta, sb, by go_num, rfl, rfl, by omega, by omega, by omega, HD.out, HCa.out, HCb.out, HKa.out, HKb.out, HNa.out, HNb.out, HL.out, HB.out⟩
              case measure => simp [intOf]; omega
          · have hl' : ¬ (i : Int) < (lB.length : Int) := by omega
            go_wp2_with fail
            refine (load_u c1 d g 0 3 (na) _ ta _ HCa.out HD.out HKa.out.up.up HKa.out.has HNa.out (by omega) (by omega) (by rw [HL.out]; omega) (by omega)).mono ?_
            rintro e w7 ⟨ra, rfl, hB⟩
            have HD := Lib.hid (HD.out.below hB)
            have HCa := Lib.hid (show CellAt w7 c1 d ((0 : Nat) : Int) ((3 : Nat) : Int) from HCa.out.below hB HCa.out.lt)
            have HCb := Lib.hid (show CellAt w7 c2 d ((8 : Nat) : Int) ((5 : Nat) : Int) from HCb.out.below hB HCb.out.lt)
            have HB := Lib.hid (HB.out.trans (hB.mono HB.out.size))
            clear hB
            go_wp2_with fail
            refine (load_u c2 d g 8 5 (nb) _ tb _ HCb.out HD.out HKb.out.up.up HKb.out.has HNb.out (by omega) (by omega) (by rw [HL.out]; omega) (by omega)).mono ?_
            rintro e w8 ⟨rb, rfl, hB⟩
            have HD := Lib.hid (HD.out.below hB)
            have HCa := Lib.hid (show CellAt w8 c1 d ((0 : Nat) : Int) ((3 : Nat) : Int) from HCa.out.below hB HCa.out.lt)
            have HCb := Lib.hid (show CellAt w8 c2 d ((8 : Nat) : Int) ((5 : Nat) : Int) from HCb.out.below hB HCb.out.lt)
            have HB := Lib.hid (HB.out.trans (hB.mono HB.out.size))
            clear hB
            go_wp2_with fail
            go_roundw
            case rel => exact ⟨i + 1, na, nb, _, ta, tb, by go_num, rfl, rfl, by omega, by omega, by omega, HD.out, HCa.out, HCb.out, HKa.out, HKb.out, HNa.out, HNb.out, HL.out, HB.out⟩
            case measure => simp [intOf]; omega
        · refine (save_ok c1 d g 0 3 na x ta sa _ HCa.out HD.out HKa.out (by omega) (by omega) (by rw [HL.out]; omega) (by omega) (by omega)).mono ?_
          rintro e w5 ⟨rfl, ⟨x2, hD, hK, hl2, hfar⟩, hC, hO⟩
          have HCb := Lib.hid (show CellAt w5 c2 d ((8 : Nat) : Int) ((5 : Nat) : Int) from HD.out.only2_blk HCb.out hO (by decide) (by decide))
          have HKb := Lib.hid (show CellOk x2 8 5 nb tb from ⟨hK.calm, hK.up, HKb.out.has.congr (by omega) (fun k h1 h2 => hfar k (by omega))⟩)
          have HD := Lib.hid hD
          have HCa := Lib.hid hC
          have HKa := Lib.hid hK
          have HL := Lib.hid (hl2.trans HL.out)
          have HB := Lib.hid (HB.out.trans (hO.below HB.out.size hd hg))
          have HNa := Lib.hid (show na + 1 = 0 → sa = ⟨#[]⟩ from fun h => by omega)
          have hna : na + 1 ≤ i + 1 := by omega
          clear hD hC hO hK hl2 hfar hl' hbig
          clear hca
          have hca := (HB.out.cell HLTa.out).trans HCELLa.out
          skip
          by_cases hlb : i < lB.length
          · obtain ⟨sb, hs⟩ : ∃ s, lB[i]? = some s := ⟨_, List.getElem?_eq_getElem hlb⟩
            obtain ⟨qb, rfl, hcell⟩ := HSb.out i sb hs
            have hlt := World.block_lt_of_cell? w _ hcell
            have HLTb := Lib.hid hlt
            have HCELLb := Lib.hid hcell
            have hcb := (HB.out.cell hlt).trans hcell
            have hl' : (i : Int) < (lB.length : Int) := by omega
            clear hs hlt hcell
            go_wp2_with fail
            by_cases hbig : 64 * 5 < sb.size
            · refine (save_big c2 d g 8 5 _ sb _ HCb.out HD.out (by have := HKa.out.calm.2; omega) (by omega) (by omega) (by rw [HL.out]; omega) hbig).mono ?_
              rintro e w5 ⟨rfl, hD, hC, hO⟩
              have HCa := Lib.hid (show CellAt w5 c1 d ((0 : Nat) : Int) ((3 : Nat) : Int) from HD.out.only2_blk HCa.out hO (by decide) (by decide))
              have HD := Lib.hid hD
              have HCb := Lib.hid hC
              have HB := Lib.hid (HB.out.trans (hO.below HB.out.size hd hg))
              clear hD hC hO hl' hbig
              go_wp2_with fail
              refine (load_u c1 d g 0 3 (na + 1) _ sa _ HCa.out HD.out HKa.out.up.up HKa.out.has HNa.out (by omega) (by omega) (by rw [HL.out]; omega) (by omega)).mono ?_
              rintro e w7 ⟨ra, rfl, hB⟩
              have HD := Lib.hid (HD.out.below hB)
              have HCa := Lib.hid (show CellAt w7 c1 d ((0 : Nat) : Int) ((3 : Nat) : Int) from HCa.out.below hB HCa.out.lt)
              have HCb := Lib.hid (show CellAt w7 c2 d ((8 : Nat) : Int) ((5 : Nat) : Int) from HCb.out.below hB HCb.out.lt)
              have HB := Lib.hid (HB.out.trans (hB.mono HB.out.size))
              clear hB
              go_wp2_with fail
              refine (load_u c2 d g 8 5 (nb) _ tb _ HCb.out HD.out HKb.out.up.up HKb.out.has HNb.out (by omega) (by omega) (by rw [HL.out]; omega) (by omega)).mono ?_
              rintro e w8 ⟨rb, rfl, hB⟩
              have HD := Lib.hid (HD.out.below hB)
              have HCa := Lib.hid (show CellAt w8 c1 d ((0 : Nat) : Int) ((3 : Nat) : Int) from HCa.out.below hB HCa.out.lt)
              have HCb := Lib.hid (show CellAt w8 c2 d ((8 : Nat) : Int) ((5 : Nat) : Int) from HCb.out.below hB HCb.out.lt)
              have HB := Lib.hid (HB.out.trans (hB.mono HB.out.size))
              clear hB
              go_wp2_with fail
              go_roundw
              case rel => exact ⟨i + 1, na + 1, nb, _, sa, tb, by go_num, rfl, rfl, by omega, by omega, by omega, HD.out, HCa.out, HCb.out, HKa.out, HKb.out, HNa.out, HNb.out, HL.out, HB.out⟩
              case measure => simp [intOf]; omega
            · refine (save_ok c2 d g 8 5 nb _ tb sb _ HCb.out HD.out HKb.out (by omega) (by omega) (by rw [HL.out]; omega) (by omega) (by omega)).mono ?_
              rintro e w5 ⟨rfl, ⟨x3, hD, hK, hl2, hfar⟩, hC, hO⟩
              have HCa := Lib.hid (show CellAt w5 c1 d ((0 : Nat) : Int) ((3 : Nat) : Int) from HD.out.only2_blk HCa.out hO (by decide) (by decide))
              have HKa := Lib.hid (show CellOk x3 0 3 (na + 1) sa from ⟨hK.calm, hK.up, HKa.out.has.congr (by omega) (fun k h1 h2 => hfar k (by omega))⟩)
              have HD := Lib.hid hD
              have HCb := Lib.hid hC
              have HKb := Lib.hid hK
              have HL := Lib.hid (hl2.trans HL.out)
              have HB := Lib.hid (HB.out.trans (hO.below HB.out.size hd hg))
              have HNb := Lib.hid (show nb + 1 = 0 → sb = ⟨#[]⟩ from fun h => by omega)
              have hnb : nb + 1 ≤ i + 1 := by omega
              clear hD hC hO hK hl2 hfar hl' hbig
              clear hcb
              have hcb := (HB.out.cell HLTb.out).trans HCELLb.out
              skip
              go_wp2_with fail
              refine (load_u c1 d g 0 3 (na + 1) _ sa _ HCa.out HD.out HKa.out.up.up HKa.out.has HNa.out (by omega) (by omega) (by rw [HL.out]; omega) (by omega)).mono ?_
              rintro e w7 ⟨ra, rfl, hB⟩
              have HD := Lib.hid (HD.out.below hB)
              have HCa := Lib.hid (show CellAt w7 c1 d ((0 : Nat) : Int) ((3 : Nat) : Int) from HCa.out.below hB HCa.out.lt)
              have HCb := Lib.hid (show CellAt w7 c2 d ((8 : Nat) : Int) ((5 : Nat) : Int) from HCb.out.below hB HCb.out.lt)
              have HB := Lib.hid (HB.out.trans (hB.mono HB.out.size))
              clear hB
              go_wp2_with fail
              refine (load_u c2 d g 8 5 (nb + 1) _ sb _ HCb.out HD.out HKb.out.up.up HKb.out.has HNb.out (by omega) (by omega) (by rw [HL.out]; omega) (by omega)).mono ?_
              rintro e w8 ⟨rb, rfl, hB⟩
              have HD := Lib.hid (HD.out.below hB)
              have HCa := Lib.hid (show CellAt w8 c1 d ((0 : Nat) : Int) ((3 : Nat) : Int) from HCa.out.below hB HCa.out.lt)
              have HCb := Lib.hid (show CellAt w8 c2 d ((8 : Nat) : Int) ((5 : Nat) : Int) from HCb.out.below hB HCb.out.lt)
              have HB := Lib.hid (HB.out.trans (hB.mono HB.out.size))
              clear hB
              go_wp2_with fail
              go_roundw
              case rel => exact ⟨i + 1, na + 1, nb + 1, _, sa, sb, by go_num, rfl, rfl, by omega, by omega, by omega, HD.out, HCa.out, HCb.out, HKa.out, HKb.out, HNa.out, HNb.out, HL.out, HB.out⟩
              case measure => simp [intOf]; omega
          · have hl' : ¬ (i : Int) < (lB.length : Int) := by omega
            go_wp2_with fail
            refine (load_u c1 d g 0 3 (na + 1) _ sa _ HCa.out HD.out HKa.out.up.up HKa.out.has HNa.out (by omega) (by omega) (by rw [HL.out]; omega) (by omega)).mono ?_
            rintro e w7 ⟨ra, rfl, hB⟩
            have HD := Lib.hid (HD.out.below hB)
            have HCa := Lib.hid (show CellAt w7 c1 d ((0 : Nat) : Int) ((3 : Nat) : Int) from HCa.out.below hB HCa.out.lt)
            have HCb := Lib.hid (show CellAt w7 c2 d ((8 : Nat) : Int) ((5 : Nat) : Int) from HCb.out.below hB HCb.out.lt)
            have HB := Lib.hid (HB.out.trans (hB.mono HB.out.size))
            clear hB
            go_wp2_with fail
            refine (load_u c2 d g 8 5 (nb) _ tb _ HCb.out HD.out HKb.out.up.up HKb.out.has HNb.out (by omega) (by omega) (by rw [HL.out]; omega) (by omega)).mono ?_
            rintro e w8 ⟨rb, rfl, hB⟩
            have HD := Lib.hid (HD.out.below hB)
            have HCa := Lib.hid (show CellAt w8 c1 d ((0 : Nat) : Int) ((3 : Nat) : Int) from HCa.out.below hB HCa.out.lt)
            have HCb := Lib.hid (show CellAt w8 c2 d ((8 : Nat) : Int) ((5 : Nat) : Int) from HCb.out.below hB HCb.out.lt)
            have HB := Lib.hid (HB.out.trans (hB.mono HB.out.size))
            clear hB
            go_wp2_with fail
            go_roundw
            case rel => exact ⟨i + 1, na + 1, nb, _, sa, tb, by go_num, rfl, rfl, by omega, by omega, by omega, HD.out, HCa.out, HCb.out, HKa.out, HKb.out, HNa.out, HNb.out, HL.out, HB.out⟩
            case measure => simp [intOf]; omega
      · have hl' : ¬ (i : Int) < (lA.length : Int) := by omega
        by_cases hlb : i < lB.length
        · obtain ⟨sb, hs⟩ : ∃ s, lB[i]? = some s := ⟨_, List.getElem?_eq_getElem hlb⟩
          obtain ⟨qb, rfl, hcell⟩ := HSb.out i sb hs
          have hlt := World.block_lt_of_cell? w _ hcell
          have HLTb := Lib.hid hlt
          have HCELLb := Lib.hid hcell
          have hcb := (HB.out.cell hlt).trans hcell
          have hl' : (i : Int) < (lB.length : Int) := by omega
          clear hs hlt hcell
          go_wp2_with fail
          by_cases hbig : 64 * 5 < sb.size
          · refine (save_big c2 d g 8 5 x sb _ HCb.out HD.out (by have := HKa.out.calm.2; omega) (by omega) (by omega) (by rw [HL.out]; omega) hbig).mono ?_
            rintro e w5 ⟨rfl, hD, hC, hO⟩
            have HCa := Lib.hid (show CellAt w5 c1 d ((0 : Nat) : Int) ((3 : Nat) : Int) from HD.out.only2_blk HCa.out hO (by decide) (by decide))
            have HD := Lib.hid hD
            have HCb := Lib.hid hC
            have HB := Lib.hid (HB.out.trans (hO.below HB.out.size hd hg))
            clear hD hC hO hl' hbig
            go_wp2_with fail
            refine (load_u c1 d g 0 3 (na) _ ta _ HCa.out HD.out HKa.out.up.up HKa.out.has HNa.out (by omega) (by omega) (by rw [HL.out]; omega) (by omega)).mono ?_
            rintro e w7 ⟨ra, rfl, hB⟩
            have HD := Lib.hid (HD.out.below hB)
            have HCa := Lib.hid (show CellAt w7 c1 d ((0 : Nat) : Int) ((3 : Nat) : Int) from HCa.out.below hB HCa.out.lt)
            have HCb := Lib.hid (show CellAt w7 c2 d ((8 : Nat) : Int) ((5 : Nat) : Int) from HCb.out.below hB HCb.out.lt)
            have HB := Lib.hid (HB.out.trans (hB.mono HB.out.size))
            clear hB
            go_wp2_with fail
            refine (load_u c2 d g 8 5 (nb) _ tb _ HCb.out HD.out HKb.out.up.up HKb.out.has HNb.out (by omega) (by omega) (by rw [HL.out]; omega) (by omega)).mono ?_
            rintro e w8 ⟨rb, rfl, hB⟩
            have HD := Lib.hid (HD.out.below hB)
            have HCa := Lib.hid (show CellAt w8 c1 d ((0 : Nat) : Int) ((3 : Nat) : Int) from HCa.out.below hB HCa.out.lt)
            have HCb := Lib.hid (show CellAt w8 c2 d ((8 : Nat) : Int) ((5 : Nat) : Int) from HCb.out.below hB HCb.out.lt)
            have HB := Lib.hid (HB.out.trans (hB.mono HB.out.size))
            clear hB
            go_wp2_with fail
            go_roundw
            case rel => exact ⟨i + 1, na, nb, _, ta, tb, by go_num, rfl, rfl, by omega, by omega, by omega, HD.out, HCa.out, HCb.out, HKa.out, HKb.out, HNa.out, HNb.out, HL.out, HB.out⟩
            case measure => simp [intOf]; omega
          · refine (save_ok c2 d g 8 5 nb x tb sb _ HCb.out HD.out HKb.out (by omega) (by omega) (by rw [HL.out]; omega) (by omega) (by omega)).mono ?_
            rintro e w5 ⟨rfl, ⟨x2, hD, hK, hl2, hfar⟩, hC, hO⟩
            have HCa := Lib.hid (show CellAt w5 c1 d ((0 : Nat) : Int) ((3 : Nat) : Int) from HD.out.only2_blk HCa.out hO (by decide) (by decide))
            have HKa := Lib.hid (show CellOk x2 0 3 na ta from ⟨hK.calm, hK.up, HKa.out.has.congr (by omega) (fun k h1 h2 => hfar k (by omega))⟩)
            have HD := Lib.hid hD
            have HCb := Lib.hid hC
            have HKb := Lib.hid hK
            have HL := Lib.hid (hl2.trans HL.out)
            have HB := Lib.hid (HB.out.trans (hO.below HB.out.size hd hg))
            have HNb := Lib.hid (show nb + 1 = 0 → sb = ⟨#[]⟩ from fun h => by omega)
            have hnb : nb + 1 ≤ i + 1 := by omega
            clear hD hC hO hK hl2 hfar hl' hbig
            clear hcb
            have hcb := (HB.out.cell HLTb.out).trans HCELLb.out
            skip
            go_wp2_with fail
            refine (load_u c1 d g 0 3 (na) _ ta _ HCa.out HD.out HKa.out.up.up HKa.out.has HNa.out (by omega) (by omega) (by rw [HL.out]; omega) (by omega)).mono ?_
            rintro e w7 ⟨ra, rfl, hB⟩
            have HD := Lib.hid (HD.out.below hB)
            have HCa := Lib.hid (show CellAt w7 c1 d ((0 : Nat) : Int) ((3 : Nat) : Int) from HCa.out.below hB HCa.out.lt)
            have HCb := Lib.hid (show CellAt w7 c2 d ((8 : Nat) : Int) ((5 : Nat) : Int) from HCb.out.below hB HCb.out.lt)
            have HB := Lib.hid (HB.out.trans (hB.mono HB.out.size))
            clear hB
            go_wp2_with fail
            refine (load_u c2 d g 8 5 (nb + 1) _ sb _ HCb.out HD.out HKb.out.up.up HKb.out.has HNb.out (by omega) (by omega) (by rw [HL.out]; omega) (by omega)).mono ?_
            rintro e w8 ⟨rb, rfl, hB⟩
            have HD := Lib.hid (HD.out.below hB)
            have HCa := Lib.hid (show CellAt w8 c1 d ((0 : Nat) : Int) ((3 : Nat) : Int) from HCa.out.below hB HCa.out.lt)
            have HCb := Lib.hid (show CellAt w8 c2 d ((8 : Nat) : Int) ((5 : Nat) : Int) from HCb.out.below hB HCb.out.lt)
            have HB := Lib.hid (HB.out.trans (hB.mono HB.out.size))
            clear hB
            go_wp2_with fail
            go_roundw
            case rel => exact ⟨i + 1, na, nb + 1, _, ta, sb, by go_num, rfl, rfl, by omega, by omega, by omega, HD.out, HCa.out, HCb.out, HKa.out, HKb.out, HNa.out, HNb.out, HL.out, HB.out⟩
            case measure => simp [intOf]; omega
        · have hl' : ¬ (i : Int) < (lB.length : Int) := by omega
          go_wp2_with fail
          refine (load_u c1 d g 0 3 (na) _ ta _ HCa.out HD.out HKa.out.up.up HKa.out.has HNa.out (by omega) (by omega) (by rw [HL.out]; omega) (by omega)).mono ?_
          rintro e w7 ⟨ra, rfl, hB⟩
          have HD := Lib.hid (HD.out.below hB)
          have HCa := Lib.hid (show CellAt w7 c1 d ((0 : Nat) : Int) ((3 : Nat) : Int) from HCa.out.below hB HCa.out.lt)
          have HCb := Lib.hid (show CellAt w7 c2 d ((8 : Nat) : Int) ((5 : Nat) : Int) from HCb.out.below hB HCb.out.lt)
          have HB := Lib.hid (HB.out.trans (hB.mono HB.out.size))
          clear hB
          go_wp2_with fail
          refine (load_u c2 d g 8 5 (nb) _ tb _ HCb.out HD.out HKb.out.up.up HKb.out.has HNb.out (by omega) (by omega) (by rw [HL.out]; omega) (by omega)).mono ?_
          rintro e w8 ⟨rb, rfl, hB⟩
          have HD := Lib.hid (HD.out.below hB)
          have HCa := Lib.hid (show CellAt w8 c1 d ((0 : Nat) : Int) ((3 : Nat) : Int) from HCa.out.below hB HCa.out.lt)
          have HCb := Lib.hid (show CellAt w8 c2 d ((8 : Nat) : Int) ((5 : Nat) : Int) from HCb.out.below hB HCb.out.lt)
          have HB := Lib.hid (HB.out.trans (hB.mono HB.out.size))
          clear hB
          go_wp2_with fail
          go_roundw
          case rel => exact ⟨i + 1, na, nb, _, ta, tb, by go_num, rfl, rfl, by omega, by omega, by omega, HD.out, HCa.out, HCb.out, HKa.out, HKb.out, HNa.out, HNb.out, HL.out, HB.out⟩
          case measure => simp [intOf]; omega
    · have h12' : ¬ (i : Int) < 12 := by omega
      go_wp2_with fail
      go_ret
      exact ⟨rfl, HB.out⟩
end Go.Proofs.Ytnddkodenkmoiaa
