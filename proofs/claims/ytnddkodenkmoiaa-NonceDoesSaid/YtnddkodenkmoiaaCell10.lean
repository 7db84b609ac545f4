/- CellWhole answers true. -/
import Derived.Test.YtnddkodenkmoiaaCell9
namespace Go.Proofs.Ytnddkodenkmoiaa
open Go.RowKit Go.Proofs
set_option linter.unusedSimpArgs false
set_option linter.unusedVariables false
theorem partsF_armed (base : Nat) (t : ByteArray) : ∀ (m c : Nat) (x : Dk), x.armed ≤ 9223372036854775807 → (partsF base t m c x).1.armed ≤ 9223372036854775807
  | 0, c, x, h => h
  | m + 1, c, x, h => by
    unfold partsF
    split
    · split
      · exact partsF_armed base t m (c + 1) _ (write_armed _ _ _ h)
      · exact write_armed _ _ _ h
    · exact h
theorem headF_armed (i n l : Nat) (p : Dk × Int) (h : p.1.armed ≤ 9223372036854775807) : (headF i n l p).1.armed ≤ 9223372036854775807 := by
  unfold headF
  split
  · split
    · split
      · exact sync_armed _ (write_armed _ _ _ (sync_armed _ h))
      · exact write_armed _ _ _ (sync_armed _ h)
    · exact sync_armed _ h
  · exact h
theorem saveF_armed (x : Dk) (f size : Nat) (t : ByteArray) (h : x.armed ≤ 9223372036854775807) : (x.saveF f size t).1.armed ≤ 9223372036854775807 := by
  unfold Dk.saveF
  split
  · exact h
  · split
    · exact h
    · split
      · exact h
      · exact headF_armed _ _ _ _ (partsF_armed _ _ _ _ _ h)
theorem save_go (c d g f size n : Nat) (x : Dk) (t s : ByteArray) (w : World) (hc : CellAt w c d (f : Int) (size : Int)) (hD : DiskAt w d g x) (hU : Up x) (ha : x.armed ≤ 9223372036854775807) (hK : Content x.B f size n t) (h1 : 1 ≤ size) (h2 : size ≤ 255) (hf : f + 2 + 2 * size ≤ x.L.length)
    (hn : n + 1 ≤ 1099511627776) (hs : s.size ≤ 64 * size) :
    Calls Try.prog 29 #[.pointer (some ⟨c, 0, none⟩), .string s] w fun e w' => ∃ x' : Dk, DiskAt w' d g x' ∧ x'.L.length = x.L.length ∧ x'.armed ≤ 9223372036854775807 ∧ CellAt w' c d (f : Int) (size : Int) ∧ Only2 d g w w' ∧ okL x'.L ∧
      ((e = .returned (.int .i64 0) ∧ Up x' ∧ Content x'.B f size (n + 1) s) ∨ (e = .returned (.int .i64 12) ∧ x'.down = true ∧ ∀ ks, Content (x'.crash ks).B f size n t ∨ Content (x'.crash ks).B f size (n + 1) s)) := by
  refine (save_any c d g f size x s w hc hD ha h1 h2 hf).mono ?_
  rintro e w' ⟨rfl, hD', hO⟩
  obtain ⟨hl, hr⟩ := save_law hU hK hf h1 h2 hn hs
  refine ⟨_, hD', hl, saveF_armed x f size s ha, hD.only2_blk hc hO (by decide) (by decide), hO, ?_⟩
  rcases hr with ⟨r0, r1, r2, r3⟩ | ⟨r0, r1, r2, r3⟩
  · exact ⟨r1.ok, .inl ⟨by rw [r0], r1, r2⟩⟩
  · exact ⟨r2, .inr ⟨by rw [r0], r1, r3⟩⟩
theorem Content.crash_up {x : Dk} {f size n : Nat} {t : ByteArray} (h : Content x.B f size n t) (hU : Up x) (ks : List Int) : Content (x.crash ks).B f size n t := by
  have hB : ∀ i, (x.crash ks).B i = x.B i := fun i => crash_B_safe x ks i (fun s hs => hU.safe s (mem_of_get hs))
  have : (x.crash ks).B = x.B := funext hB
  rw [this]; exact h
set_option maxRecDepth 100000 in
set_option maxHeartbeats 8000000 in
theorem cellWhole_any (ar : Int) (v2 : Value) (o : Option Addr) (cp : Nat) (ss : List ByteArray) (ks : List Int) (w : World) (h0 : 0 ≤ ar) (h255 : ar ≤ 255) (hcp : ss.length ≤ cp) (hsl : ss.length ≤ 9223372036854775807) (hss : ∀ j s, ss[j]? = some s → ∃ a, o = some a ∧ w.cell? (a.add j) = some (.string s))
    (hks : IntsAt w v2 ks) (hkl : ks.length ≤ 9223372036854775807) :
    Calls Try.prog 9 #[.slice o ss.length cp, .int .u8 ar, v2] w fun e w' => e = .returned (.bool true) ∧ Below w.heap.size w w' := by
  have HSS := Lib.hid hss
  have HKS := Lib.hid hks
  clear hss hks
  go_enter Try.func9, Try.ntmps9
  go_wp2_with fail
  refine (new_n 40 w (by omega) (by omega)).mono ?_
  rintro e w1 ⟨d, g, hd, hg, rfl, hD, hB⟩
  have HD := Lib.hid hD
  have HB := Lib.hid hB
  clear hD hB
  go_wp2_with fail
  refine (open_any d g 3 8 (dk0 40) w1 HD.out rfl (by omega) (by omega) (by rw [dk0_len]; omega)).mono ?_
  rintro e w2 ⟨rfl, hC, hB⟩
  have HD := Lib.hid (HD.out.below hB)
  have HC := Lib.hid hC
  have HB := Lib.hid (HB.out.trans (hB.mono HB.out.size))
  clear hC hB
  generalize w1.heap.size = c at HC ⊢
  go_wp2_with fail
  refine (awakeC_any w2).mono ?_
  rintro e w3 ⟨rfl, hB⟩
  have HD := Lib.hid (HD.out.below hB)
  have HC := Lib.hid (show CellAt w3 c d ((3 : Nat) : Int) ((8 : Nat) : Int) from HC.out.below hB HC.out.lt)
  have HB := Lib.hid (HB.out.trans (hB.mono HB.out.size))
  clear hB
  have hz0 := dk0_ok 40 3 8 (by omega)
  have HK := Lib.hid hz0.has
  have HU := Lib.hid hz0.up
  have HL := Lib.hid (dk0_len 40)
  clear hz0
  by_cases har : 0 < ar
  · go_wp2_with fail
    refine (arm_any d g (dk0 40) ar w3 HD.out).mono ?_
    rintro e w4 ⟨rfl, hD, hO⟩
    have hx : (dk0 40).arm ar = { dk0 40 with armed := ar } := by
      have hr : (dk0 40).armR ar = 0 := by unfold Dk.armR; rw [if_neg (by decide), if_neg (by omega)]
      unfold Dk.arm; rw [if_pos hr]
    rw [hx] at hD
    have HC := Lib.hid (show CellAt w4 c d ((3 : Nat) : Int) ((8 : Nat) : Int) from HD.out.only2_blk HC.out hO (by decide) (by decide))
    have HD := Lib.hid hD
    have HB := Lib.hid (HB.out.trans (hO.below HB.out.size hd hg))
    have HAR := Lib.hid (show ({ dk0 40 with armed := ar } : Dk).armed ≤ 9223372036854775807 by show ar ≤ _; omega)
    have HU := Lib.hid (show Up { dk0 40 with armed := ar } from ⟨HU.out.up, HU.out.safe, HU.out.ok⟩)
    have HK := Lib.hid (show Content ({ dk0 40 with armed := ar } : Dk).B 3 8 0 none_ from HK.out)
    have HL := Lib.hid (show ({ dk0 40 with armed := ar } : Dk).L.length = 40 from HL.out)
    clear hD hO hx
    go_wp2_with fail
    go_loopw [11, 12, 13, 14, 15] (fun v11 v12 v13 v14 _ wr => ∃ (i n : Nat) (x : Dk) (t nx : ByteArray), v14 = .int .i64 (i : Int) ∧ v11 = .string t ∧ v12 = .string nx ∧ v13 = .int .i64 (n : Int) ∧ n ≤ i ∧ i ≤ 12 ∧ i ≤ ss.length ∧ DiskAt wr d g x ∧ CellAt wr c d ((3 : Nat) : Int) ((8 : Nat) : Int) ∧ Up x ∧ x.armed ≤ 9223372036854775807 ∧ Content x.B 3 8 n t ∧ (n = 0 → t = ⟨#[]⟩) ∧ x.L.length = 40 ∧ Below w.heap.size w wr) (fun _ _ _ v14 _ _ => 12 - (intOf v14).toNat)
    case atStart => exact ⟨0, 0, { dk0 40 with armed := ar }, none_, none_, rfl, rfl, rfl, rfl, by omega, by omega, by omega, HD.out, HC.out, HU.out, HAR.out, HK.out, fun _ => rfl, HL.out, HB.out⟩
    case round =>
      clear HD HC HU HAR HK HL HB
      obtain ⟨i, n, x, t, nx, rfl, rfl, rfl, rfl, hni, hi12, hil, hD, hC, hU, har, hK, hT0, hL, hB⟩ := hrel
      have HD := Lib.hid hD
      have HC := Lib.hid hC
      have HU := Lib.hid hU
      have HK := Lib.hid hK
      have HT0 := Lib.hid hT0
      have HL := Lib.hid hL
      have HB := Lib.hid hB
      clear hD hC hU hK hT0 hL hB
      by_cases hl : i < ss.length
      · have hl' : (i : Int) < (ss.length : Int) := by omega
        by_cases h12 : i < 12
        · have h12' : (i : Int) < 12 := by omega
          obtain ⟨s, hs⟩ : ∃ s, ss[i]? = some s := ⟨_, List.getElem?_eq_getElem hl⟩
          obtain ⟨a, rfl, hcell⟩ := HSS.out i s hs
          have hlt := World.block_lt_of_cell? w _ hcell
          have HLT := Lib.hid hlt
          have HCELL := Lib.hid hcell
          have hc1 := (HB.out.cell hlt).trans hcell
          clear hs hlt hcell
          go_wp2_with fail
          by_cases hbig : 64 * 8 < s.size
          · refine (save_big c d g 3 8 x s wr HC.out HD.out har (by omega) (by omega) (by rw [HL.out]; omega) hbig).mono ?_
            rintro e w5 ⟨rfl, hD, hC, hO⟩
            have HD := Lib.hid hD
            have HC := Lib.hid hC
            have HB := Lib.hid (HB.out.trans (hO.below HB.out.size hd hg))
            clear hD hC hO hc1
            have hc1 := (HB.out.cell HLT.out).trans HCELL.out
            go_wp2_with fail
            go_roundw
            case rel => exact ⟨i + 1, n, x, t, t, by go_num, rfl, rfl, rfl, by omega, by omega, by omega, HD.out, HC.out, HU.out, har, HK.out, HT0.out, HL.out, HB.out⟩
            case measure => simp [intOf]; omega
          · refine (save_go c d g 3 8 n x t s wr HC.out HD.out HU.out har HK.out (by omega) (by omega) (by rw [HL.out]; omega) (by omega) (by omega)).mono ?_
            rintro e w5 ⟨x5, hD, hl5, ha5, hC, hO, hok5, ⟨rfl, hU5, hK5⟩ | ⟨rfl, hdn5, hcr5⟩⟩
            · have HD := Lib.hid hD
              have HC := Lib.hid hC
              have HU := Lib.hid hU5
              have HK := Lib.hid hK5
              have HL := Lib.hid (hl5.trans HL.out)
              have HB := Lib.hid (HB.out.trans (hO.below HB.out.size hd hg))
              clear hD hC hO hc1 hU5 hK5 hl5 hok5
              have hc1 := (HB.out.cell HLT.out).trans HCELL.out
              go_wp2_with fail
              go_roundw
              case rel => exact ⟨i + 1, n + 1, x5, s, s, by go_num, rfl, rfl, by go_num, by omega, by omega, by omega, HD.out, HC.out, HU.out, ha5, HK.out, fun h => by omega, HL.out, HB.out⟩
              case measure => simp [intOf]; omega
            · have HD := Lib.hid hD
              have HOK := Lib.hid hok5
              have HCR := Lib.hid hcr5
              have HL := Lib.hid (hl5.trans HL.out)
              have HB := Lib.hid (HB.out.trans (hO.below HB.out.size hd hg))
              clear hD hC hO hc1 hcr5 hl5 hok5 hdn5
              have hc1 := (HB.out.cell HLT.out).trans HCELL.out
              obtain ⟨nx, rfl⟩ : ∃ q, q = s := ⟨_, rfl⟩
              go_wp2_with fail
              refine (crash_any d g x5 _ ks _ HD.out (HKS.out.keep HB.out hd hg) hkl).mono ?_
              rintro e w6 ⟨rfl, hD, hO⟩
              have HU2 := Lib.hid (crash_up x5 ks HOK.out)
              have HL2 := Lib.hid ((crash_length x5 ks).trans HL.out)
              have hcr := HCR.out ks
              generalize x5.crash ks = xc at hD HU2 HL2 hcr
              have HD := Lib.hid hD
              have HB := Lib.hid (HB.out.trans (hO.below HB.out.size hd hg))
              have HCRS := Lib.hid hcr
              clear hD hO hcr
              go_wp2_with fail
              refine (open_any d g 3 8 xc w6 HD.out HU2.out.up (by omega) (by omega) (by rw [HL2.out]; omega)).mono ?_
              rintro e w7 ⟨rfl, hC, hB⟩
              have HD := Lib.hid (HD.out.below hB)
              have HC := Lib.hid hC
              have HB := Lib.hid (HB.out.trans (hB.mono HB.out.size))
              clear hC hB
              generalize w6.heap.size = c9 at HC ⊢
              go_wp2_with fail
              rcases HCRS.out with hcr | hcr
              · have HCR2 := Lib.hid hcr
                clear hcr
                by_cases hn0 : n = 0
                · subst hn0
                  obtain rfl := HT0.out rfl
                  refine (load_ok0 c9 d g 3 8 xc _ w7 HC.out HD.out HU2.out.up HCR2.out (by omega) (by omega) (by rw [HL2.out]; omega)).mono ?_
                  rintro e w8 ⟨rfl, hB⟩
                  have HB := Lib.hid (HB.out.trans (hB.mono HB.out.size))
                  clear hB
                  go_wp2_with fail
                  go_ret
                  exact ⟨rfl, HB.out⟩
                · refine (load_ok c9 d g 3 8 n xc _ w7 HC.out HD.out HU2.out.up HCR2.out (by omega) (by omega) (by rw [HL2.out]; omega) (by omega) (by omega)).mono ?_
                  rintro e w8 ⟨rfl, hB⟩
                  have HB := Lib.hid (HB.out.trans (hB.mono HB.out.size))
                  have hn1 : 0 < (n : Int) := by omega
                  clear hB
                  go_wp2_with fail
                  go_ret
                  exact ⟨rfl, HB.out⟩
              · have HCR2 := Lib.hid hcr
                clear hcr
                refine (load_ok c9 d g 3 8 (n + 1) xc _ w7 HC.out HD.out HU2.out.up HCR2.out (by omega) (by omega) (by rw [HL2.out]; omega) (by omega) (by omega)).mono ?_
                rintro e w8 ⟨rfl, hB⟩
                have HB := Lib.hid (HB.out.trans (hB.mono HB.out.size))
                clear hB
                have hnn : (((n + 1 : Nat) : Int) == (n : Int)) = false := by simp; omega
                by_cases hnt : nx.toList = t.toList
                · go_wp2_with fail
                  go_ret
                  exact ⟨rfl, HB.out⟩
                · go_wp2_with fail
                  go_ret
                  exact ⟨rfl, HB.out⟩
        · have h12' : ¬ (i : Int) < 12 := by omega
          have HOK := Lib.hid HU.out.ok
          have HCR := Lib.hid (fun ks => (Or.inl (HK.out.crash_up HU.out ks) : Content (x.crash ks).B 3 8 n t ∨ Content (x.crash ks).B 3 8 (n + 1) nx))
          go_wp2_with fail
          refine (crash_any d g x _ ks _ HD.out (HKS.out.keep HB.out hd hg) hkl).mono ?_
          rintro e w6 ⟨rfl, hD, hO⟩
          have HU2 := Lib.hid (crash_up x ks HOK.out)
          have HL2 := Lib.hid ((crash_length x ks).trans HL.out)
          have hcr := HCR.out ks
          generalize x.crash ks = xc at hD HU2 HL2 hcr
          have HD := Lib.hid hD
          have HB := Lib.hid (HB.out.trans (hO.below HB.out.size hd hg))
          have HCRS := Lib.hid hcr
          clear hD hO hcr
          go_wp2_with fail
          refine (open_any d g 3 8 xc w6 HD.out HU2.out.up (by omega) (by omega) (by rw [HL2.out]; omega)).mono ?_
          rintro e w7 ⟨rfl, hC, hB⟩
          have HD := Lib.hid (HD.out.below hB)
          have HC := Lib.hid hC
          have HB := Lib.hid (HB.out.trans (hB.mono HB.out.size))
          clear hC hB
          generalize w6.heap.size = c9 at HC ⊢
          go_wp2_with fail
          rcases HCRS.out with hcr | hcr
          · have HCR2 := Lib.hid hcr
            clear hcr
            by_cases hn0 : n = 0
            · subst hn0
              obtain rfl := HT0.out rfl
              refine (load_ok0 c9 d g 3 8 xc _ w7 HC.out HD.out HU2.out.up HCR2.out (by omega) (by omega) (by rw [HL2.out]; omega)).mono ?_
              rintro e w8 ⟨rfl, hB⟩
              have HB := Lib.hid (HB.out.trans (hB.mono HB.out.size))
              clear hB
              go_wp2_with fail
              go_ret
              exact ⟨rfl, HB.out⟩
            · refine (load_ok c9 d g 3 8 n xc _ w7 HC.out HD.out HU2.out.up HCR2.out (by omega) (by omega) (by rw [HL2.out]; omega) (by omega) (by omega)).mono ?_
              rintro e w8 ⟨rfl, hB⟩
              have HB := Lib.hid (HB.out.trans (hB.mono HB.out.size))
              have hn1 : 0 < (n : Int) := by omega
              clear hB
              go_wp2_with fail
              go_ret
              exact ⟨rfl, HB.out⟩
          · have HCR2 := Lib.hid hcr
            clear hcr
            refine (load_ok c9 d g 3 8 (n + 1) xc _ w7 HC.out HD.out HU2.out.up HCR2.out (by omega) (by omega) (by rw [HL2.out]; omega) (by omega) (by omega)).mono ?_
            rintro e w8 ⟨rfl, hB⟩
            have HB := Lib.hid (HB.out.trans (hB.mono HB.out.size))
            clear hB
            have hnn : (((n + 1 : Nat) : Int) == (n : Int)) = false := by simp; omega
            by_cases hnt : nx.toList = t.toList
            · go_wp2_with fail
              go_ret
              exact ⟨rfl, HB.out⟩
            · go_wp2_with fail
              go_ret
              exact ⟨rfl, HB.out⟩
      · have hl' : ¬ (i : Int) < (ss.length : Int) := by omega
        have HOK := Lib.hid HU.out.ok
        have HCR := Lib.hid (fun ks => (Or.inl (HK.out.crash_up HU.out ks) : Content (x.crash ks).B 3 8 n t ∨ Content (x.crash ks).B 3 8 (n + 1) nx))
        go_wp2_with fail
        refine (crash_any d g x _ ks _ HD.out (HKS.out.keep HB.out hd hg) hkl).mono ?_
        rintro e w6 ⟨rfl, hD, hO⟩
        have HU2 := Lib.hid (crash_up x ks HOK.out)
        have HL2 := Lib.hid ((crash_length x ks).trans HL.out)
        have hcr := HCR.out ks
        generalize x.crash ks = xc at hD HU2 HL2 hcr
        have HD := Lib.hid hD
        have HB := Lib.hid (HB.out.trans (hO.below HB.out.size hd hg))
        have HCRS := Lib.hid hcr
        clear hD hO hcr
        go_wp2_with fail
        refine (open_any d g 3 8 xc w6 HD.out HU2.out.up (by omega) (by omega) (by rw [HL2.out]; omega)).mono ?_
        rintro e w7 ⟨rfl, hC, hB⟩
        have HD := Lib.hid (HD.out.below hB)
        have HC := Lib.hid hC
        have HB := Lib.hid (HB.out.trans (hB.mono HB.out.size))
        clear hC hB
        generalize w6.heap.size = c9 at HC ⊢
        go_wp2_with fail
        rcases HCRS.out with hcr | hcr
        · have HCR2 := Lib.hid hcr
          clear hcr
          by_cases hn0 : n = 0
          · subst hn0
            obtain rfl := HT0.out rfl
            refine (load_ok0 c9 d g 3 8 xc _ w7 HC.out HD.out HU2.out.up HCR2.out (by omega) (by omega) (by rw [HL2.out]; omega)).mono ?_
            rintro e w8 ⟨rfl, hB⟩
            have HB := Lib.hid (HB.out.trans (hB.mono HB.out.size))
            clear hB
            go_wp2_with fail
            go_ret
            exact ⟨rfl, HB.out⟩
          · refine (load_ok c9 d g 3 8 n xc _ w7 HC.out HD.out HU2.out.up HCR2.out (by omega) (by omega) (by rw [HL2.out]; omega) (by omega) (by omega)).mono ?_
            rintro e w8 ⟨rfl, hB⟩
            have HB := Lib.hid (HB.out.trans (hB.mono HB.out.size))
            have hn1 : 0 < (n : Int) := by omega
            clear hB
            go_wp2_with fail
            go_ret
            exact ⟨rfl, HB.out⟩
        · have HCR2 := Lib.hid hcr
          clear hcr
          refine (load_ok c9 d g 3 8 (n + 1) xc _ w7 HC.out HD.out HU2.out.up HCR2.out (by omega) (by omega) (by rw [HL2.out]; omega) (by omega) (by omega)).mono ?_
          rintro e w8 ⟨rfl, hB⟩
          have HB := Lib.hid (HB.out.trans (hB.mono HB.out.size))
          clear hB
          have hnn : (((n + 1 : Nat) : Int) == (n : Int)) = false := by simp; omega
          by_cases hnt : nx.toList = t.toList
          · go_wp2_with fail
            go_ret
            exact ⟨rfl, HB.out⟩
          · go_wp2_with fail
            go_ret
            exact ⟨rfl, HB.out⟩
  · have har' : ¬ (0 < ar) := har
    have HAR := Lib.hid (show (dk0 40).armed ≤ 9223372036854775807 from by decide +kernel)
    go_wp2_with fail
    go_loopw [11, 12, 13, 14, 15] (fun v11 v12 v13 v14 _ wr => ∃ (i n : Nat) (x : Dk) (t nx : ByteArray), v14 = .int .i64 (i : Int) ∧ v11 = .string t ∧ v12 = .string nx ∧ v13 = .int .i64 (n : Int) ∧ n ≤ i ∧ i ≤ 12 ∧ i ≤ ss.length ∧ DiskAt wr d g x ∧ CellAt wr c d ((3 : Nat) : Int) ((8 : Nat) : Int) ∧ Up x ∧ x.armed ≤ 9223372036854775807 ∧ Content x.B 3 8 n t ∧ (n = 0 → t = ⟨#[]⟩) ∧ x.L.length = 40 ∧ Below w.heap.size w wr) (fun _ _ _ v14 _ _ => 12 - (intOf v14).toNat)
    case atStart => exact ⟨0, 0, dk0 40, none_, none_, rfl, rfl, rfl, rfl, by omega, by omega, by omega, HD.out, HC.out, HU.out, HAR.out, HK.out, fun _ => rfl, HL.out, HB.out⟩
    case round =>
      clear HD HC HU HAR HK HL HB
      obtain ⟨i, n, x, t, nx, rfl, rfl, rfl, rfl, hni, hi12, hil, hD, hC, hU, har, hK, hT0, hL, hB⟩ := hrel
      have HD := Lib.hid hD
      have HC := Lib.hid hC
      have HU := Lib.hid hU
      have HK := Lib.hid hK
      have HT0 := Lib.hid hT0
      have HL := Lib.hid hL
      have HB := Lib.hid hB
      clear hD hC hU hK hT0 hL hB
      by_cases hl : i < ss.length
      · have hl' : (i : Int) < (ss.length : Int) := by omega
        by_cases h12 : i < 12
        · have h12' : (i : Int) < 12 := by omega
          obtain ⟨s, hs⟩ : ∃ s, ss[i]? = some s := ⟨_, List.getElem?_eq_getElem hl⟩
          obtain ⟨a, rfl, hcell⟩ := HSS.out i s hs
          have hlt := World.block_lt_of_cell? w _ hcell
          have HLT := Lib.hid hlt
          have HCELL := Lib.hid hcell
          have hc1 := (HB.out.cell hlt).trans hcell
          clear hs hlt hcell
          go_wp2_with fail
          by_cases hbig : 64 * 8 < s.size
          · refine (save_big c d g 3 8 x s wr HC.out HD.out har (by omega) (by omega) (by rw [HL.out]; omega) hbig).mono ?_
            rintro e w5 ⟨rfl, hD, hC, hO⟩
            have HD := Lib.hid hD
            have HC := Lib.hid hC
            have HB := Lib.hid (HB.out.trans (hO.below HB.out.size hd hg))
            clear hD hC hO hc1
            have hc1 := (HB.out.cell HLT.out).trans HCELL.out
            go_wp2_with fail
            go_roundw
            case rel => exact ⟨i + 1, n, x, t, t, by go_num, rfl, rfl, rfl, by omega, by omega, by omega, HD.out, HC.out, HU.out, har, HK.out, HT0.out, HL.out, HB.out⟩
            case measure => simp [intOf]; omega
          · refine (save_go c d g 3 8 n x t s wr HC.out HD.out HU.out har HK.out (by omega) (by omega) (by rw [HL.out]; omega) (by omega) (by omega)).mono ?_
            rintro e w5 ⟨x5, hD, hl5, ha5, hC, hO, hok5, ⟨rfl, hU5, hK5⟩ | ⟨rfl, hdn5, hcr5⟩⟩
            · have HD := Lib.hid hD
              have HC := Lib.hid hC
              have HU := Lib.hid hU5
              have HK := Lib.hid hK5
              have HL := Lib.hid (hl5.trans HL.out)
              have HB := Lib.hid (HB.out.trans (hO.below HB.out.size hd hg))
              clear hD hC hO hc1 hU5 hK5 hl5 hok5
              have hc1 := (HB.out.cell HLT.out).trans HCELL.out
              go_wp2_with fail
              go_roundw
              case rel => exact ⟨i + 1, n + 1, x5, s, s, by go_num, rfl, rfl, by go_num, by omega, by omega, by omega, HD.out, HC.out, HU.out, ha5, HK.out, fun h => by omega, HL.out, HB.out⟩
              case measure => simp [intOf]; omega
            · have HD := Lib.hid hD
              have HOK := Lib.hid hok5
              have HCR := Lib.hid hcr5
              have HL := Lib.hid (hl5.trans HL.out)
              have HB := Lib.hid (HB.out.trans (hO.below HB.out.size hd hg))
              clear hD hC hO hc1 hcr5 hl5 hok5 hdn5
              have hc1 := (HB.out.cell HLT.out).trans HCELL.out
              obtain ⟨nx, rfl⟩ : ∃ q, q = s := ⟨_, rfl⟩
              go_wp2_with fail
              refine (crash_any d g x5 _ ks _ HD.out (HKS.out.keep HB.out hd hg) hkl).mono ?_
              rintro e w6 ⟨rfl, hD, hO⟩
              have HU2 := Lib.hid (crash_up x5 ks HOK.out)
              have HL2 := Lib.hid ((crash_length x5 ks).trans HL.out)
              have hcr := HCR.out ks
              generalize x5.crash ks = xc at hD HU2 HL2 hcr
              have HD := Lib.hid hD
              have HB := Lib.hid (HB.out.trans (hO.below HB.out.size hd hg))
              have HCRS := Lib.hid hcr
              clear hD hO hcr
              go_wp2_with fail
              refine (open_any d g 3 8 xc w6 HD.out HU2.out.up (by omega) (by omega) (by rw [HL2.out]; omega)).mono ?_
              rintro e w7 ⟨rfl, hC, hB⟩
              have HD := Lib.hid (HD.out.below hB)
              have HC := Lib.hid hC
              have HB := Lib.hid (HB.out.trans (hB.mono HB.out.size))
              clear hC hB
              generalize w6.heap.size = c9 at HC ⊢
              go_wp2_with fail
              rcases HCRS.out with hcr | hcr
              · have HCR2 := Lib.hid hcr
                clear hcr
                by_cases hn0 : n = 0
                · subst hn0
                  obtain rfl := HT0.out rfl
                  refine (load_ok0 c9 d g 3 8 xc _ w7 HC.out HD.out HU2.out.up HCR2.out (by omega) (by omega) (by rw [HL2.out]; omega)).mono ?_
                  rintro e w8 ⟨rfl, hB⟩
                  have HB := Lib.hid (HB.out.trans (hB.mono HB.out.size))
                  clear hB
                  go_wp2_with fail
                  go_ret
                  exact ⟨rfl, HB.out⟩
                · refine (load_ok c9 d g 3 8 n xc _ w7 HC.out HD.out HU2.out.up HCR2.out (by omega) (by omega) (by rw [HL2.out]; omega) (by omega) (by omega)).mono ?_
                  rintro e w8 ⟨rfl, hB⟩
                  have HB := Lib.hid (HB.out.trans (hB.mono HB.out.size))
                  have hn1 : 0 < (n : Int) := by omega
                  clear hB
                  go_wp2_with fail
                  go_ret
                  exact ⟨rfl, HB.out⟩
              · have HCR2 := Lib.hid hcr
                clear hcr
                refine (load_ok c9 d g 3 8 (n + 1) xc _ w7 HC.out HD.out HU2.out.up HCR2.out (by omega) (by omega) (by rw [HL2.out]; omega) (by omega) (by omega)).mono ?_
                rintro e w8 ⟨rfl, hB⟩
                have HB := Lib.hid (HB.out.trans (hB.mono HB.out.size))
                clear hB
                have hnn : (((n + 1 : Nat) : Int) == (n : Int)) = false := by simp; omega
                by_cases hnt : nx.toList = t.toList
                · go_wp2_with fail
                  go_ret
                  exact ⟨rfl, HB.out⟩
                · go_wp2_with fail
                  go_ret
                  exact ⟨rfl, HB.out⟩
        · have h12' : ¬ (i : Int) < 12 := by omega
          have HOK := Lib.hid HU.out.ok
          have HCR := Lib.hid (fun ks => (Or.inl (HK.out.crash_up HU.out ks) : Content (x.crash ks).B 3 8 n t ∨ Content (x.crash ks).B 3 8 (n + 1) nx))
          go_wp2_with fail
          refine (crash_any d g x _ ks _ HD.out (HKS.out.keep HB.out hd hg) hkl).mono ?_
          rintro e w6 ⟨rfl, hD, hO⟩
          have HU2 := Lib.hid (crash_up x ks HOK.out)
          have HL2 := Lib.hid ((crash_length x ks).trans HL.out)
          have hcr := HCR.out ks
          generalize x.crash ks = xc at hD HU2 HL2 hcr
          have HD := Lib.hid hD
          have HB := Lib.hid (HB.out.trans (hO.below HB.out.size hd hg))
          have HCRS := Lib.hid hcr
          clear hD hO hcr
          go_wp2_with fail
          refine (open_any d g 3 8 xc w6 HD.out HU2.out.up (by omega) (by omega) (by rw [HL2.out]; omega)).mono ?_
          rintro e w7 ⟨rfl, hC, hB⟩
          have HD := Lib.hid (HD.out.below hB)
          have HC := Lib.hid hC
          have HB := Lib.hid (HB.out.trans (hB.mono HB.out.size))
          clear hC hB
          generalize w6.heap.size = c9 at HC ⊢
          go_wp2_with fail
          rcases HCRS.out with hcr | hcr
          · have HCR2 := Lib.hid hcr
            clear hcr
            by_cases hn0 : n = 0
            · subst hn0
              obtain rfl := HT0.out rfl
              refine (load_ok0 c9 d g 3 8 xc _ w7 HC.out HD.out HU2.out.up HCR2.out (by omega) (by omega) (by rw [HL2.out]; omega)).mono ?_
              rintro e w8 ⟨rfl, hB⟩
              have HB := Lib.hid (HB.out.trans (hB.mono HB.out.size))
              clear hB
              go_wp2_with fail
              go_ret
              exact ⟨rfl, HB.out⟩
            · refine (load_ok c9 d g 3 8 n xc _ w7 HC.out HD.out HU2.out.up HCR2.out (by omega) (by omega) (by rw [HL2.out]; omega) (by omega) (by omega)).mono ?_
              rintro e w8 ⟨rfl, hB⟩
              have HB := Lib.hid (HB.out.trans (hB.mono HB.out.size))
              have hn1 : 0 < (n : Int) := by omega
              clear hB
              go_wp2_with fail
              go_ret
              exact ⟨rfl, HB.out⟩
          · have HCR2 := Lib.hid hcr
            clear hcr
            refine (load_ok c9 d g 3 8 (n + 1) xc _ w7 HC.out HD.out HU2.out.up HCR2.out (by omega) (by omega) (by rw [HL2.out]; omega) (by omega) (by omega)).mono ?_
            rintro e w8 ⟨rfl, hB⟩
            have HB := Lib.hid (HB.out.trans (hB.mono HB.out.size))
            clear hB
            have hnn : (((n + 1 : Nat) : Int) == (n : Int)) = false := by simp; omega
            by_cases hnt : nx.toList = t.toList
            · go_wp2_with fail
              go_ret
              exact ⟨rfl, HB.out⟩
            · go_wp2_with fail
              go_ret
              exact ⟨rfl, HB.out⟩
      · have hl' : ¬ (i : Int) < (ss.length : Int) := by omega
        have HOK := Lib.hid HU.out.ok
        have HCR := Lib.hid (fun ks => (Or.inl (HK.out.crash_up HU.out ks) : Content (x.crash ks).B 3 8 n t ∨ Content (x.crash ks).B 3 8 (n + 1) nx))
        go_wp2_with fail
        refine (crash_any d g x _ ks _ HD.out (HKS.out.keep HB.out hd hg) hkl).mono ?_
        rintro e w6 ⟨rfl, hD, hO⟩
        have HU2 := Lib.hid (crash_up x ks HOK.out)
        have HL2 := Lib.hid ((crash_length x ks).trans HL.out)
        have hcr := HCR.out ks
        generalize x.crash ks = xc at hD HU2 HL2 hcr
        have HD := Lib.hid hD
        have HB := Lib.hid (HB.out.trans (hO.below HB.out.size hd hg))
        have HCRS := Lib.hid hcr
        clear hD hO hcr
        go_wp2_with fail
        refine (open_any d g 3 8 xc w6 HD.out HU2.out.up (by omega) (by omega) (by rw [HL2.out]; omega)).mono ?_
        rintro e w7 ⟨rfl, hC, hB⟩
        have HD := Lib.hid (HD.out.below hB)
        have HC := Lib.hid hC
        have HB := Lib.hid (HB.out.trans (hB.mono HB.out.size))
        clear hC hB
        generalize w6.heap.size = c9 at HC ⊢
        go_wp2_with fail
        rcases HCRS.out with hcr | hcr
        · have HCR2 := Lib.hid hcr
          clear hcr
          by_cases hn0 : n = 0
          · subst hn0
            obtain rfl := HT0.out rfl
            refine (load_ok0 c9 d g 3 8 xc _ w7 HC.out HD.out HU2.out.up HCR2.out (by omega) (by omega) (by rw [HL2.out]; omega)).mono ?_
            rintro e w8 ⟨rfl, hB⟩
            have HB := Lib.hid (HB.out.trans (hB.mono HB.out.size))
            clear hB
            go_wp2_with fail
            go_ret
            exact ⟨rfl, HB.out⟩
          · refine (load_ok c9 d g 3 8 n xc _ w7 HC.out HD.out HU2.out.up HCR2.out (by omega) (by omega) (by rw [HL2.out]; omega) (by omega) (by omega)).mono ?_
            rintro e w8 ⟨rfl, hB⟩
            have HB := Lib.hid (HB.out.trans (hB.mono HB.out.size))
            have hn1 : 0 < (n : Int) := by omega
            clear hB
            go_wp2_with fail
            go_ret
            exact ⟨rfl, HB.out⟩
        · have HCR2 := Lib.hid hcr
          clear hcr
          refine (load_ok c9 d g 3 8 (n + 1) xc _ w7 HC.out HD.out HU2.out.up HCR2.out (by omega) (by omega) (by rw [HL2.out]; omega) (by omega) (by omega)).mono ?_
          rintro e w8 ⟨rfl, hB⟩
          have HB := Lib.hid (HB.out.trans (hB.mono HB.out.size))
          clear hB
          have hnn : (((n + 1 : Nat) : Int) == (n : Int)) = false := by simp; omega
          by_cases hnt : nx.toList = t.toList
          · go_wp2_with fail
            go_ret
            exact ⟨rfl, HB.out⟩
          · go_wp2_with fail
            go_ret
            exact ⟨rfl, HB.out⟩
end Go.Proofs.Ytnddkodenkmoiaa
