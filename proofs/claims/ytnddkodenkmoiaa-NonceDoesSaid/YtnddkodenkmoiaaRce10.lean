/- NonceDoes: the walk. -/
import Derived.Test.YtnddkodenkmoiaaRceB
import Derived.Test.YtnddkodenkmoiaaActs4
import Derived.BigQuiet
import Derived.Deep.QuietTactic
namespace Go.Proofs.Ytnddkodenkmoiaa
open Go.RowKit Go.Proofs
set_option linter.unusedSimpArgs false
set_option linter.unusedVariables false
theorem Sys2.drewN {w : World} {c d g y x gl go cl co : Nat} {X Y : Dk} (h : Sys2 w c d g y x gl go cl co X Y) (n : Nat) : Sys2 (w.drewN n) c d g y x gl go cl co X Y :=
  ⟨h.pc, h.pd, h.rc, { h.rd with head := h.rd.head, now := h.rd.now, old := h.rd.old }⟩
theorem next_q (a c : Nat) (n l : Int) (w : World) (h : AllocAt w a c n l) (q : Nat) :
    Calls Try.prog 35 #[.pointer (some ⟨a, 0, none⟩)] (w.drewN q) fun e w'' => e = .returned (.int .i64 n) ∧ ∃ m, w'' = w.drewN m :=
  Calls.quiet_of_same ((next_any a c n l (w.drewN q) h).mono fun _ _ h => ⟨h.1, h.2.symm⟩)
theorem limit_q (a c : Nat) (n l : Int) (w : World) (h : AllocAt w a c n l) (q : Nat) :
    Calls Try.prog 37 #[.pointer (some ⟨a, 0, none⟩)] (w.drewN q) fun e w'' => e = .returned (.int .i64 l) ∧ ∃ m, w'' = w.drewN m :=
  Calls.quiet_of_same ((limit_any a c n l (w.drewN q) h).mono fun _ _ h => ⟨h.1, h.2.symm⟩)
set_option maxRecDepth 100000 in
set_option maxHeartbeats 16000000 in
theorem nonceDoes_any (v : Value) (acts : List Act4) (hle : acts.length ≤ 9223372036854775807) (w : World) (hacts : ActsAt4 w v acts) :
    Calls Try.prog 13 #[v] w fun e w' => e = .returned (.bool true) ∧ Below w.heap.size w w' := by
  obtain ⟨ao, cp, rfl, _⟩ := id hacts
  have hlen : ∃ len, Hid (len = acts.length) := ⟨_, rfl⟩
  obtain ⟨len, hl⟩ := hlen
  have hle' : len ≤ 9223372036854775807 := by rw [hl.out]; exact hle
  have HAC : Hid (ActsAt4 w (.slice ao acts.length cp) acts) := hacts
  rw [← hl.out]
  clear hacts hle
  go_enter Try.func13, Try.ntmps13
  go_wp2_with fail
  refine (new_n 6 w (by omega) (by omega)).mono ?_
  rintro e w1 ⟨d, g, hd, hg, rfl, hD, hB⟩
  have HD := Lib.hid hD
  have HB := Lib.hid hB
  clear hD hB
  go_wp2_with fail
  refine (newRD_any 6 w1 (by omega) (by omega)).mono ?_
  rintro e w2 ⟨x, gl, go, cl, co, rfl, hR, hx, hgl, hgo, hb⟩
  have HD := Lib.hid (HD.out.below hb)
  have HR := Lib.hid (show RD w2 x gl go cl co (dk0 6) from hR)
  have hx : w.heap.size ≤ x := Nat.le_trans HB.out.size hx
  have hgl : w.heap.size ≤ gl := Nat.le_trans HB.out.size hgl
  have hgo : w.heap.size ≤ go := Nat.le_trans HB.out.size hgo
  have HGE := Lib.hid (show w.heap.size ≤ d ∧ w.heap.size ≤ g ∧ w.heap.size ≤ x ∧ w.heap.size ≤ gl ∧ w.heap.size ≤ go from ⟨hd, hg, hx, hgl, hgo⟩)
  have HB := Lib.hid (HB.out.trans (hb.mono HB.out.size))
  clear hR hb hd hg hx hgl hgo
  go_wp2_with fail
  refine (open_any d g 1 1 (dk0 6) w2 HD.out rfl (by omega) (by omega) (by rw [dk0_len]; omega)).mono ?_
  rintro e w3 ⟨rfl, hC, hb⟩
  have HD := Lib.hid (HD.out.below hb)
  have HR := Lib.hid (HR.out.below hb)
  have HC := Lib.hid hC
  have HB := Lib.hid (HB.out.trans (hb.mono HB.out.size))
  clear hC hb
  generalize w2.heap.size = c at HC ⊢
  go_wp2_with fail
  refine (openR_any x gl go cl co (dk0 6) w3 HR.out (dk0_len 6) rfl).mono ?_
  rintro e w4 ⟨rfl, hC2, hb⟩
  have HS := Lib.hid (show Sys2 w4 c d g w3.heap.size x gl go cl co (dk0 6) (dk0 6) from ⟨HC.out.below hb HC.out.lt, HD.out.below hb, hC2, HR.out.below hb⟩)
  have HB := Lib.hid (HB.out.trans (hb.mono HB.out.size))
  clear hC2 hb HC HD HR
  generalize w3.heap.size = y at HS ⊢
  go_wp2_with fail
  refine (awakeN_any w4).mono ?_
  rintro e w5 ⟨rfl, hb⟩
  have HS := Lib.hid (HS.out.below hb)
  have HB := Lib.hid (HB.out.trans (hb.mono HB.out.size))
  clear hb
  have HK0 := Lib.hid (dk0_ok 6 1 1 (by omega))
  have HOF := Lib.hid (open_fresh HK0.out.up.up HK0.out.has (by omega))
  have HX6 := Lib.hid (dk0_len 6)
  generalize dk0 6 = X0 at HS HOF HX6
  clear HK0
  go_wp2_with fail
  refine (openA_any c d g 1 1 X0 w5 HS.out.pc HS.out.pd (by omega) (by omega) (by rw [HX6.out]; omega)).mono ?_
  rintro e w6 ⟨hcA, hb⟩
  rcases hcA with ⟨_, a, haw, rfl, hA⟩ | ⟨h0, _⟩
  rotate_left
  · exact absurd HOF.out.1 h0
  have haw : w.heap.size ≤ a := Nat.le_trans HB.out.size haw
  rw [HOF.out.2] at hA
  have HA := Lib.hid hA
  have HS := Lib.hid (HS.out.below hb)
  have HB := Lib.hid (HB.out.trans (hb.mono HB.out.size))
  clear hA hb
  go_wp2_with fail
  refine (openAR_any y x gl go cl co X0 w6 HS.out.rc HS.out.rd HX6.out).mono ?_
  rintro e w7 ⟨hcB, hb⟩
  rcases hcB with ⟨_, b, hbw, rfl, hBr⟩ | ⟨h0, _⟩
  rotate_left
  · exact absurd HOF.out.1 h0
  have hbw : w.heap.size ≤ b := Nat.le_trans HB.out.size hbw
  rw [HOF.out.2] at hBr
  have HS := Lib.hid (HS.out.below hb)
  have HB := Lib.hid (HB.out.trans (hb.mono HB.out.size))
  have HAL := Lib.hid (show Al2 w7 c y (.pointer (some ⟨a, 0, none⟩)) (.pointer (some ⟨b, 0, none⟩)) 0 0 0 w.heap.size from .inl ⟨rfl, a, b, rfl, rfl, HA.out.below hb HA.out.lt, hBr, haw, hbw⟩)
  clear hBr hb HA HOF haw hbw
  go_wp2_with fail
  go_loopw [8, 10, 11, 12, 13, 14, 15, 16, 17, 18, 19, 20, 21, 22] (fun v8 v10 v11 v12 v13 _ _ _ _ _ _ _ _ _ wr => ∃ (i : Nat) (E n l : Int) (X : Dk), v8 = .int .i64 E ∧ v10 = .int .i64 E ∧ v13 = .int .i64 (i : Int) ∧ i ≤ 40 ∧ Al2 wr c y v11 v12 E n l w.heap.size ∧ Sys2 wr c d g y x gl go cl co X X ∧ X.L.length = 6 ∧ (0 ≤ n ∧ n ≤ 1099511627776 ∧ 0 ≤ l ∧ l ≤ 1099511627776) ∧ Below w.heap.size w wr) (fun _ _ _ _ v13 _ _ _ _ _ _ _ _ _ _ => 40 - (intOf v13).toNat)
  case atStart => exact ⟨0, 0, 0, 0, X0, rfl, rfl, rfl, by omega, HAL.out, HS.out, HX6.out, ⟨by omega, by omega, by omega, by omega⟩, HB.out⟩
  case round =>
    clear HS HB HAL HX6
    obtain ⟨i, E, n, l, X, rfl, rfl, rfl, hi40, hAL, hS, hX6, hbd, hB⟩ := hrel
    have HS := Lib.hid hS
    have HX6 := Lib.hid hX6
    have HBD := Lib.hid hbd
    have HB := Lib.hid hB
    clear hS hX6 hbd hB
    by_cases hin : i < len ∧ i < 40
    · obtain ⟨hin1, hin2⟩ := hin
      obtain ⟨b0, o, cp', hv, hbl, c0, c1, c2, c3, hks, hkl, hnb, hsb⟩ := HAC.out.get HB.out i (by have := hl.out; omega)
      injection hv with hv1 hv2 hv3
      subst hv1
      clear hv2 hv3 hbl
      generalize acts[i]'(by have := hl.out; omega) = act at c0 c1 c2 c3 hks hkl hnb hsb
      obtain ⟨k, m, s, vk, ks⟩ := act
      dsimp only at c0 c1 c2 c3 hks hkl hnb hsb
      obtain ⟨ko, kc, hvk, _⟩ := id hks
      subst hvk
      have HKS := Lib.hid hks
      have HKL := Lib.hid hkl
      have HM := Lib.hid hnb
      have HSZ := Lib.hid (show s.size ≤ 9223372036854775807 by unfold maxLen at hsb; omega)
      obtain ⟨kl, hkld⟩ : ∃ kl, kl = ks.length := ⟨_, rfl⟩
      rw [← hkld] at HKS hkl c3
      clear hks hnb hsb hkld
      rcases hAL with ⟨rfl, a, b, rfl, rfl, hA, hBr, haw, hbw⟩ | ⟨hE, rfl, rfl⟩
      · have HAW := Lib.hid (show w.heap.size ≤ a ∧ w.heap.size ≤ b from ⟨haw, hbw⟩)
        clear haw hbw
        go_upto_region 19 with fail
        have hbx := Blk.new wr 63 #[.int .i64 k, .int .i64 m, .string s, .slice ko kl kc]
        have hbel : Below wr.heap.size wr (wr.alloc (.cells #[.int .i64 k, .int .i64 m, .string s, .slice ko kl kc] 63)) := (Below.refl _ _).alloc (Nat.le_refl _) _
        have HS := Lib.hid (HS.out.below hbel)
        have HA := Lib.hid (show AllocAt _ a c n l from hA.below hbel hA.lt)
        have HBr := Lib.hid (show AllocR _ b y n l from hBr.below hbel hBr.lt)
        clear hA hBr
        have HB := Lib.hid (HB.out.alloc HB.out.size (.cells #[.int .i64 k, .int .i64 m, .string s, .slice ko kl kc] 63))
        have HK := Lib.hid (HKS.out.keepBR HB.out HGE.out.1 HGE.out.2.1 HGE.out.2.2.1 HGE.out.2.2.2.1 HGE.out.2.2.2.2)
        clear c0 c1 c2 c3 hbel HKS
        generalize wr.alloc (.cells #[.int .i64 k, .int .i64 m, .string s, .slice ko kl kc] 63) = w4 at hbx HS HB HK HA HBr ⊢
        generalize wr.heap.size = bx at hbx ⊢
        have HBX := Lib.hid hbx
        clear hbx
        have x0 := HBX.out.cell 0
        have x1 := HBX.out.cell 1
        have x2 := HBX.out.cell 2
        have x3 := HBX.out.cell 3
        by_cases hk4 : k = 4
        · as_aux_lemma =>
            subst hk4
            go_upto_region 20 with (fail)
            clear x0 x1 x2 x3
            have HBX := Lib.hid (show Blk w4.drew bx 63 _ from HBX.out)
            have HS := Lib.hid HS.out.drew
            have HB := Lib.hid HB.out.drew
            have HA := Lib.hid (show AllocAt w4.drew a c n l from HA.out)
            have HBr := Lib.hid (show AllocR w4.drew b y n l from HBr.out)
            generalize hw5 : w4.drew = w5 at HBX HS HB HA HBr
            have e1 : ∀ w', KeptOn (fun q => q = bx) w5 w' → w'.cell? ⟨bx, 1, none⟩ = some (.int .i64 m) := fun w' h => h.cell (w := w5) (HBX.out.cell 1) rfl
            refine wp_region_pure (KeptOn fun q => q = bx) (KeptOn.refl _) (KeptOn.trans) [(0,3),(1,3),(2,0),(4,3),(5,3),(6,0),(3,1),(7,1),(8,3)] (by kernel_rfl) (by kernel_rfl) ?_
            rw [hw5]
            clear hw5
            iterate 2 (refine pure_pure (v := ?_) rfl (fun _ _ _ h => h) (by rfl) (fun w' => ?_) ?_; rotate_left; (go_simp; try with_reducible rfl); simp only [Act.put, List.setIfInBounds_toArray, List.set_cons_zero, List.set_cons_succ])
            iterate 1 (refine pure_quiet (v := ?_) rfl (fun _ _ _ h => h) (by rfl) (fun w' hR => ?_) ?_; rotate_left; (go_simp; try with_reducible rfl); simp only [Act.put, List.setIfInBounds_toArray, List.set_cons_zero, List.set_cons_succ])
            iterate 2 (refine pure_pure (v := ?_) rfl (fun _ _ _ h => h) (by rfl) (fun w' => ?_) ?_; rotate_left; (go_simp; try with_reducible rfl); simp only [Act.put, List.setIfInBounds_toArray, List.set_cons_zero, List.set_cons_succ])
            iterate 1 (refine pure_quiet (v := ?_) rfl (fun _ _ _ h => h) (by rfl) (fun w' hR => ?_) ?_; rotate_left; (go_simp; try with_reducible rfl); simp only [Act.put, List.setIfInBounds_toArray, List.set_cons_zero, List.set_cons_succ])
            clear e1
            refine pure_eff rfl ?_
            go_wp2_with fail
            refine (arm_any d g X m w5 HS.out.pd).mono ?_
            rintro e w6 ⟨rfl, hD, hO⟩
            have HKe := Lib.hid (show KeptOn (fun q => q = bx) w5 w6 from ⟨hO.size, fun q hq e => by subst e; exact hO.block q hq (HBX.out.ne_ HS.out.pd.1 (by decide)) (HBX.out.ne_ HS.out.pd.2.1 (by decide))⟩)
            have HS0 := HS
            have HA := Lib.hid (hO.blk HS0.out.pd HA.out (by decide) (by decide))
            have HBr := Lib.hid (hO.blk HS0.out.pd HBr.out (by decide) (by decide))
            have HBX := Lib.hid (hO.blk HS0.out.pd HBX.out (by decide) (by decide))
            have HS := Lib.hid (HS0.out.prog2 hO hD)
            have HB := Lib.hid (HB.out.trans (hO.below HB.out.size HGE.out.1 HGE.out.2.1))
            clear hD hO HS0
            generalize hY : X.armR m = r
            have HY := Lib.hid hY
            clear hY
            go_wp2_with fail
            refine purePost_need HKe.out ?_
            refine pure_eff rfl ?_
            go_wp2_with fail
            refine (armR_any x gl go cl co X m HM.out w6 HS.out.rd).mono ?_
            rintro e wE ⟨rfl, hD, hO⟩
            have HKe := Lib.hid (show KeptOn (fun q => q = bx) w6 wE from hO.keptT HS.out.rd HBX.out (by decide) (by decide))
            have HS0 := HS
            have HA := Lib.hid (hO.blk HS0.out.rd HA.out (by decide) (by decide))
            have HBr := Lib.hid (hO.blk HS0.out.rd HBr.out (by decide) (by decide))
            have HS := Lib.hid (HS0.out.ref3 hO hD)
            have HB := Lib.hid (HB.out.trans (hO.below HB.out.size HGE.out.2.2.1 HGE.out.2.2.2.1 HGE.out.2.2.2.2))
            clear hD hO HS0
            rw [HY.out]
            go_wp2_with fail
            refine purePost_need HKe.out ?_
            have hrr : ((r : Int) != r) = false := by simp
            iterate 1 (refine pure_pure (v := ?_) rfl (fun _ _ _ h => h) (by rfl) (fun w' => ?_) ?_; rotate_left; (go_simp; try with_reducible rfl); simp only [Act.put, List.setIfInBounds_toArray, List.set_cons_zero, List.set_cons_succ])
            refine pure_done ?_
            clear hrr
            have HX6 := Lib.hid ((arm_lenR X m).trans HX6.out)
            generalize X.arm m = X' at HS HX6
            go_upto_region 36 with (fail)
            have cn := HBr.out.cell 1
            have cl2 := HBr.out.cell 2
            have cn : wE.cell? ⟨b, 1, none⟩ = some (.int .i64 n) := cn
            have cl2 : wE.cell? ⟨b, 2, none⟩ = some (.int .i64 l) := cl2
            have hnn : ((n : Int) != n) = false := by simp
            have hll : ((l : Int) != l) = false := by simp
            go_quiet ((first | (go_at_call 35; exact next_q a c n l _ HA.out _) | (go_at_call 37; exact limit_q a c n l _ HA.out _)))
            clear cn cl2 hnn hll
            go_wp2_with fail
            go_roundw
            case rel => exact ⟨i + 1, 0, n, l, X', rfl, rfl, by go_num, by omega, .inl ⟨rfl, a, b, rfl, rfl, HA.out, HBr.out, HAW.out.1, HAW.out.2⟩, HS.out.drewN _, HX6.out, HBD.out, HB.out.drewN _⟩
            case measure => simp [intOf]; omega
        have k4 : (k == 4) = false := beq_eq_false_iff_ne.2 hk4
        by_cases hk5 : k = 5
        · subst hk5
          go_wp2_with fail
          clear x0
          refine (crash_any d g X _ ks w4 HS.out.pd HK.out.keep HKL.out).mono ?_
          rintro e w5 ⟨rfl, hD, hO⟩
          have HBX := Lib.hid (hO.blk HS.out.pd HBX.out (by decide) (by decide))
          have HK := Lib.hid (HK.out.only (Only5.of2 hO))
          have HB := Lib.hid (HB.out.trans (hO.below HB.out.size HGE.out.1 HGE.out.2.1))
          have HS := Lib.hid (HS.out.prog2 hO hD)
          clear hD hO x1 x2 x3
          have x3 := HBX.out.cell 3
          go_wp2_with fail
          refine (crashR_any x gl go cl co X _ ks w5 HS.out.rd HK.out.keepR HKL.out).mono ?_
          rintro e w6 ⟨rfl, hD, hO⟩
          have HB := Lib.hid (HB.out.trans (hO.below HB.out.size HGE.out.2.2.1 HGE.out.2.2.2.1 HGE.out.2.2.2.2))
          have HS := Lib.hid (HS.out.ref3 hO hD)
          have HX6 := Lib.hid ((crash_length X ks).trans HX6.out)
          clear hD hO x3
          generalize X.crash ks = X' at HS HX6
          go_wp2_with fail
          refine (openA_any c d g 1 1 X' w6 HS.out.pc HS.out.pd (by omega) (by omega) (by rw [HX6.out]; omega)).mono ?_
          rintro e w7 ⟨hcA, hb⟩
          have hsz6 : w.heap.size ≤ w6.heap.size := HB.out.size
          have HS := Lib.hid (HS.out.below hb)
          have HB := Lib.hid (HB.out.trans (hb.mono HB.out.size))
          have hsz7 : w.heap.size ≤ w7.heap.size := HB.out.size
          clear hb
          rcases hcA with ⟨h0, a, haw, rfl, hA⟩ | ⟨h0, rfl⟩
          · as_aux_lemma =>
              have HA := Lib.hid hA
              have H0 := Lib.hid h0
              clear hA h0
              go_wp2_with fail
              refine (openAR_any y x gl go cl co X' w7 HS.out.rc HS.out.rd HX6.out).mono ?_
              rintro e wE ⟨hcB, hb⟩
              have HS := Lib.hid (HS.out.below hb)
              have HB := Lib.hid (HB.out.trans (hb.mono HB.out.size))
              have HA := Lib.hid (show AllocAt wE a c _ _ from HA.out.below hb HA.out.lt)
              clear hb
              rcases hcB with ⟨_, b, hbw, rfl, hBr⟩ | ⟨h1, _⟩
              · have HBr := Lib.hid hBr
                have HAW := Lib.hid (show w.heap.size ≤ a ∧ w.heap.size ≤ b from ⟨Nat.le_trans hsz6 haw, Nat.le_trans hsz7 hbw⟩)
                have hbd := openN_bd _ H0.out
                generalize openN (X'.loadF 1 1) = n2 at HA HBr hbd
                have HBD := Lib.hid (show 0 ≤ n2 ∧ n2 ≤ 1099511627776 ∧ 0 ≤ n2 ∧ n2 ≤ 1099511627776 from ⟨hbd.1, hbd.2, hbd.1, hbd.2⟩)
                clear hBr hbd hbw haw hsz6 hsz7
                go_upto_region 36 with (fail)
                have cn := HBr.out.cell 1
                have cl2 := HBr.out.cell 2
                have cn : wE.cell? ⟨b, 1, none⟩ = some (.int .i64 n2) := cn
                have cl2 : wE.cell? ⟨b, 2, none⟩ = some (.int .i64 n2) := cl2
                have hnn : ((n2 : Int) != n2) = false := by simp
                have hll : ((n2 : Int) != n2) = false := by simp
                go_quiet ((first | (go_at_call 35; exact next_q a c n2 n2 _ HA.out _) | (go_at_call 37; exact limit_q a c n2 n2 _ HA.out _)))
                clear cn cl2 hnn hll
                go_wp2_with fail
                go_roundw
                case rel => exact ⟨i + 1, 0, n2, n2, X', rfl, rfl, by go_num, by omega, .inl ⟨rfl, a, b, rfl, rfl, HA.out, HBr.out, HAW.out.1, HAW.out.2⟩, HS.out.drewN _, HX6.out, HBD.out, HB.out.drewN _⟩
                case measure => simp [intOf]; omega
              · exact absurd H0.out h1
          · as_aux_lemma =>
              have HE := Lib.hid h0
              go_wp2_with fail
              refine (openAR_any y x gl go cl co X' w7 HS.out.rc HS.out.rd HX6.out).mono ?_
              rintro e wE ⟨hcB, hb⟩
              have HS := Lib.hid (HS.out.below hb)
              have HB := Lib.hid (HB.out.trans (hb.mono HB.out.size))
              clear hb
              rcases hcB with ⟨h1, _⟩ | ⟨_, rfl⟩
              · exact absurd h1 HE.out
              · clear h0
                generalize openE (X'.loadF 1 1) = E2 at HE ⊢
                go_upto_region 36 with (fail)
                go_quiet (fail)
                go_wp2_with fail
                go_roundw
                case rel => exact ⟨i + 1, E2, 0, 0, X', rfl, rfl, by go_num, by omega, .inr ⟨HE.out, rfl, rfl⟩, HS.out.drewN _, HX6.out, ⟨by omega, by omega, by omega, by omega⟩, HB.out.drewN _⟩
                case measure => simp [intOf]; omega
        have k5 : (k == 5) = false := beq_eq_false_iff_ne.2 hk5
        by_cases hk6 : k = 6
        · as_aux_lemma =>
            subst hk6
            go_upto_region 28 with (fail)
            clear x0 x1 x2 x3
            have HBX := Lib.hid (show Blk w4.drew bx 63 _ from HBX.out)
            have HS := Lib.hid HS.out.drew
            have HB := Lib.hid HB.out.drew
            have HA := Lib.hid (show AllocAt w4.drew a c n l from HA.out)
            have HBr := Lib.hid (show AllocR w4.drew b y n l from HBr.out)
            generalize hw5 : w4.drew = w5 at HBX HS HB HA HBr
            have e1 : ∀ w', KeptOn (fun q => q = bx) w5 w' → w'.cell? ⟨bx, 2, none⟩ = some (.string s) := fun w' h => h.cell (w := w5) (HBX.out.cell 2) rfl
            refine wp_region_pure (KeptOn fun q => q = bx) (KeptOn.refl _) (KeptOn.trans) [(0,3),(1,3),(2,0),(4,3),(5,3),(6,0),(3,1),(7,1),(8,3)] (by kernel_rfl) (by kernel_rfl) ?_
            rw [hw5]
            clear hw5
            iterate 2 (refine pure_pure (v := ?_) rfl (fun _ _ _ h => h) (by rfl) (fun w' => ?_) ?_; rotate_left; (go_simp; try with_reducible rfl); simp only [Act.put, List.setIfInBounds_toArray, List.set_cons_zero, List.set_cons_succ])
            iterate 1 (refine pure_quiet (v := ?_) rfl (fun _ _ _ h => h) (by rfl) (fun w' hR => ?_) ?_; rotate_left; (go_simp; try with_reducible rfl); simp only [Act.put, List.setIfInBounds_toArray, List.set_cons_zero, List.set_cons_succ])
            iterate 2 (refine pure_pure (v := ?_) rfl (fun _ _ _ h => h) (by rfl) (fun w' => ?_) ?_; rotate_left; (go_simp; try with_reducible rfl); simp only [Act.put, List.setIfInBounds_toArray, List.set_cons_zero, List.set_cons_succ])
            iterate 1 (refine pure_quiet (v := ?_) rfl (fun _ _ _ h => h) (by rfl) (fun w' hR => ?_) ?_; rotate_left; (go_simp; try with_reducible rfl); simp only [Act.put, List.setIfInBounds_toArray, List.set_cons_zero, List.set_cons_succ])
            clear e1
            refine pure_eff rfl ?_
            go_wp2_with fail
            refine (save_any c d g 1 1 X s w5 HS.out.pc HS.out.pd HS.out.rd.arm1 (by omega) (by omega) (by rw [HX6.out]; omega)).mono ?_
            rintro e w6 ⟨rfl, hD, hO⟩
            have HKe := Lib.hid (show KeptOn (fun q => q = bx) w5 w6 from ⟨hO.size, fun q hq e => by subst e; exact hO.block q hq (HBX.out.ne_ HS.out.pd.1 (by decide)) (HBX.out.ne_ HS.out.pd.2.1 (by decide))⟩)
            have HS0 := HS
            have HA := Lib.hid (hO.blk HS0.out.pd HA.out (by decide) (by decide))
            have HBr := Lib.hid (hO.blk HS0.out.pd HBr.out (by decide) (by decide))
            have HBX := Lib.hid (hO.blk HS0.out.pd HBX.out (by decide) (by decide))
            have HS := Lib.hid (HS0.out.prog2 hO hD)
            have HB := Lib.hid (HB.out.trans (hO.below HB.out.size HGE.out.1 HGE.out.2.1))
            clear hD hO HS0
            generalize hY : (X.saveF 1 1 s).2 = r
            have HY := Lib.hid hY
            clear hY
            go_wp2_with fail
            refine purePost_need HKe.out ?_
            refine pure_eff rfl ?_
            go_wp2_with fail
            refine (saveR_any y x gl go cl co X s w6 HS.out.rc HS.out.rd HX6.out HSZ.out).mono ?_
            rintro e wE ⟨rfl, hD, hO⟩
            have HKe := Lib.hid (show KeptOn (fun q => q = bx) w6 wE from hO.keptT HS.out.rd HBX.out (by decide) (by decide))
            have HS0 := HS
            have HA := Lib.hid (hO.blk HS0.out.rd HA.out (by decide) (by decide))
            have HBr := Lib.hid (hO.blk HS0.out.rd HBr.out (by decide) (by decide))
            have HS := Lib.hid (HS0.out.ref3 hO hD)
            have HB := Lib.hid (HB.out.trans (hO.below HB.out.size HGE.out.2.2.1 HGE.out.2.2.2.1 HGE.out.2.2.2.2))
            clear hD hO HS0
            rw [HY.out]
            go_wp2_with fail
            refine purePost_need HKe.out ?_
            have hrr : ((r : Int) != r) = false := by simp
            iterate 1 (refine pure_pure (v := ?_) rfl (fun _ _ _ h => h) (by rfl) (fun w' => ?_) ?_; rotate_left; (go_simp; try with_reducible rfl); simp only [Act.put, List.setIfInBounds_toArray, List.set_cons_zero, List.set_cons_succ])
            refine pure_done ?_
            clear hrr
            have HX6 := Lib.hid ((saveF_lenR X 1 1 s).trans HX6.out)
            generalize (X.saveF 1 1 s).1 = X' at HS HX6
            go_upto_region 36 with (fail)
            have cn := HBr.out.cell 1
            have cl2 := HBr.out.cell 2
            have cn : wE.cell? ⟨b, 1, none⟩ = some (.int .i64 n) := cn
            have cl2 : wE.cell? ⟨b, 2, none⟩ = some (.int .i64 l) := cl2
            have hnn : ((n : Int) != n) = false := by simp
            have hll : ((l : Int) != l) = false := by simp
            go_quiet ((first | (go_at_call 35; exact next_q a c n l _ HA.out _) | (go_at_call 37; exact limit_q a c n l _ HA.out _)))
            clear cn cl2 hnn hll
            go_wp2_with fail
            go_roundw
            case rel => exact ⟨i + 1, 0, n, l, X', rfl, rfl, by go_num, by omega, .inl ⟨rfl, a, b, rfl, rfl, HA.out, HBr.out, HAW.out.1, HAW.out.2⟩, HS.out.drewN _, HX6.out, HBD.out, HB.out.drewN _⟩
            case measure => simp [intOf]; omega
        have k6 : (k == 6) = false := beq_eq_false_iff_ne.2 hk6
        by_cases hk3 : k = 3
        · subst hk3
          go_wp2_with fail
          clear x0 x1 x2 x3
          refine (take_any a c d g 1 1 X n l w4 ⟨HA.out, HS.out.pc, HS.out.pd⟩ HS.out.rd.arm1 (by omega) (by omega) (by rw [HX6.out]; omega) HBD.out.1 HBD.out.2.1 HBD.out.2.2.1 (by have := HBD.out.2.2.2; omega)).mono ?_
          rintro e w5 ⟨r, hr, hcase, hO⟩
          have HBr := Lib.hid (show AllocR w5 b y n l from S3.blk hO HS.out.pd HA.out HBr.out (by decide) (by decide) (by decide))
          have HB := Lib.hid (HB.out.trans (hO.below HB.out.size (by rintro q (rfl | rfl | rfl) <;> first | exact HGE.out.1 | exact HGE.out.2.1 | exact HAW.out.1)))
          have hsx := (someX_lenR X 1 1 n l 1).trans HX6.out
          have hsb := fun h => some_bd (X := X) (m := 1) h HBD.out.1 HBD.out.2.1 HBD.out.2.2.1 HBD.out.2.2.2
          have hR := fun w h => someR_any b y x gl go cl co X n l 1 w h HX6.out HBD.out.1 HBD.out.2.1 HBD.out.2.2.1 (by have := HBD.out.2.2.2; omega)
          unfold SomeRP at hR
          rw [← hr] at hR hsb
          rcases hcase with ⟨hr0, rfl, hSy⟩ | ⟨rfl, rfl, hSy⟩
          · as_aux_lemma =>
              have HS := Lib.hid (HS.out.progS HA.out hO hSy)
              have HA := Lib.hid hSy.alloc
              have hR := hR w5 ⟨HBr.out, HS.out.rc, HS.out.rd⟩
              clear hO hSy hr hsb
              generalize someX X 1 1 n l 1 = X' at hR HS hsx
              have HRR := Lib.hid hR
              have HX6 := Lib.hid hsx
              clear hR hsx
              have hrb : (r == 0) = false := beq_eq_false_iff_ne.2 hr0
              have hrr : (r != r) = false := by simp
              go_wp2_with fail
              refine HRR.out.mono ?_
              rintro e wE ⟨v, r', rfl, rfl, ⟨_, rfl, hRf⟩ | ⟨h0, _⟩, hO⟩
              · have HA := Lib.hid (show AllocAt wE a c n l from S4.blk hO HS.out.rd HBr.out HA.out (by decide) (by decide) (by decide))
                have HB := Lib.hid (HB.out.trans (hO.below HB.out.size (by rintro q (rfl | rfl | rfl | rfl) <;> first | exact HGE.out.2.2.1 | exact HGE.out.2.2.2.1 | exact HGE.out.2.2.2.2 | exact HAW.out.2)))
                have HS := Lib.hid (HS.out.refS HBr.out hO hRf)
                have HBr := Lib.hid hRf.alloc
                clear hO hRf HRR
                go_upto_region 36 with (fail)
                clear hrb hrr
                go_upto_region 36 with (fail)
                have cn := HBr.out.cell 1
                have cl2 := HBr.out.cell 2
                have cn : wE.cell? ⟨b, 1, none⟩ = some (.int .i64 n) := cn
                have cl2 : wE.cell? ⟨b, 2, none⟩ = some (.int .i64 l) := cl2
                have hnn : ((n : Int) != n) = false := by simp
                have hll : ((l : Int) != l) = false := by simp
                go_quiet ((first | (go_at_call 35; exact next_q a c n l _ HA.out _) | (go_at_call 37; exact limit_q a c n l _ HA.out _)))
                clear cn cl2 hnn hll
                go_wp2_with fail
                go_roundw
                case rel => exact ⟨i + 1, 0, n, l, X', rfl, rfl, by go_num, by omega, .inl ⟨rfl, a, b, rfl, rfl, HA.out, HBr.out, HAW.out.1, HAW.out.2⟩, HS.out.drewN _, HX6.out, HBD.out, HB.out.drewN _⟩
                case measure => simp [intOf]; omega
              · exact absurd h0 hr0
          · as_aux_lemma =>
              have HS := Lib.hid (HS.out.progS HA.out hO hSy)
              have HA := Lib.hid hSy.alloc
              have hR := hR w5 ⟨HBr.out, HS.out.rc, HS.out.rd⟩
              have hsb := hsb rfl
              have HBD := Lib.hid (show 0 ≤ n + 1 ∧ n + 1 ≤ 1099511627776 ∧ 0 ≤ someL n l 1 ∧ someL n l 1 ≤ 1099511627776 from ⟨hsb.1, hsb.2.1, hsb.2.2.1, hsb.2.2.2.1⟩)
              clear hO hSy hr hsb
              generalize someX X 1 1 n l 1 = X' at hR HS hsx
              generalize someL n l 1 = l2 at hR HA HBD
              have HRR := Lib.hid hR
              have HX6 := Lib.hid hsx
              clear hR hsx
              go_wp2_with fail
              refine HRR.out.mono ?_
              rintro e wE ⟨v, r', rfl, rfl, ⟨h0, _⟩ | ⟨_, hOw, hRf⟩, hO⟩
              · exact absurd rfl h0
              · have HA := Lib.hid (show AllocAt wE a c (n + 1) l2 from S4.blk hO HS.out.rd HBr.out HA.out (by decide) (by decide) (by decide))
                have HB := Lib.hid (HB.out.trans (hO.below HB.out.size (by rintro q (rfl | rfl | rfl | rfl) <;> first | exact HGE.out.2.2.1 | exact HGE.out.2.2.2.1 | exact HGE.out.2.2.2.2 | exact HAW.out.2)))
                have HS := Lib.hid (HS.out.refS HBr.out hO hRf)
                have HBr := Lib.hid hRf.alloc
                obtain ⟨q0, capq, rfl, hcq⟩ := own_zero hOw
                have hnn0 : ((n : Int) != n) = false := by simp
                clear hO hRf HRR hOw
                go_upto_region 36 with (fail)
                clear hnn0 hcq
                generalize n + 1 = n2 at HA HBr HBD
                go_upto_region 36 with (fail)
                have cn := HBr.out.cell 1
                have cl2 := HBr.out.cell 2
                have cn : wE.cell? ⟨b, 1, none⟩ = some (.int .i64 n2) := cn
                have cl2 : wE.cell? ⟨b, 2, none⟩ = some (.int .i64 l2) := cl2
                have hnn : ((n2 : Int) != n2) = false := by simp
                have hll : ((l2 : Int) != l2) = false := by simp
                go_quiet ((first | (go_at_call 35; exact next_q a c n2 l2 _ HA.out _) | (go_at_call 37; exact limit_q a c n2 l2 _ HA.out _)))
                clear cn cl2 hnn hll
                go_wp2_with fail
                go_roundw
                case rel => exact ⟨i + 1, 0, n2, l2, X', rfl, rfl, by go_num, by omega, .inl ⟨rfl, a, b, rfl, rfl, HA.out, HBr.out, HAW.out.1, HAW.out.2⟩, HS.out.drewN _, HX6.out, HBD.out, HB.out.drewN _⟩
                case measure => simp [intOf]; omega
        have k3 : (k == 3) = false := beq_eq_false_iff_ne.2 hk3
        go_wp2_with fail
        clear x0 x2 x3
        refine (some_any a c d g 1 1 X n l m w4 ⟨HA.out, HS.out.pc, HS.out.pd⟩ HS.out.rd.arm1 (by omega) (by omega) (by rw [HX6.out]; omega) HBD.out.1 HBD.out.2.1 HBD.out.2.2.1 (by have := HBD.out.2.2.2; omega)).mono ?_
        rintro e w5 ⟨v1, r, rfl, hr, hcase, hO⟩
        have HBr := Lib.hid (show AllocR w5 b y n l from S3.blk hO HS.out.pd HA.out HBr.out (by decide) (by decide) (by decide))
        have HBX := Lib.hid (S3.blk hO HS.out.pd HA.out HBX.out (by decide) (by decide) (by decide))
        have HB := Lib.hid (HB.out.trans (hO.below HB.out.size (by rintro q (rfl | rfl | rfl) <;> first | exact HGE.out.1 | exact HGE.out.2.1 | exact HAW.out.1)))
        have hsx := (someX_lenR X 1 1 n l m).trans HX6.out
        have hsb := fun h => some_bd (X := X) (m := m) h HBD.out.1 HBD.out.2.1 HBD.out.2.2.1 HBD.out.2.2.2
        have hR := fun w h => someR_any b y x gl go cl co X n l m w h HX6.out HBD.out.1 HBD.out.2.1 HBD.out.2.2.1 (by have := HBD.out.2.2.2; omega)
        unfold SomeRP at hR
        rw [← hr] at hR hsb
        clear x1
        have x1 := HBX.out.cell 1
        rcases hcase with ⟨hr0, rfl, hSy⟩ | ⟨rfl, hOw1, hSy⟩
        · as_aux_lemma =>
            have HS := Lib.hid (HS.out.progS HA.out hO hSy)
            have HA := Lib.hid hSy.alloc
            have hR := hR w5 ⟨HBr.out, HS.out.rc, HS.out.rd⟩
            clear hO hSy hr hsb
            generalize someX X 1 1 n l m = X' at hR HS hsx
            have HRR := Lib.hid hR
            have HX6 := Lib.hid hsx
            clear hR hsx
            have hrb : (r == 0) = false := beq_eq_false_iff_ne.2 hr0
            have hrr : (r != r) = false := by simp
            go_wp2_with fail
            clear x1
            refine HRR.out.mono ?_
            rintro e w6 ⟨v, r', rfl, rfl, ⟨_, rfl, hRf⟩ | ⟨h0, _⟩, hO⟩
            · have HA := Lib.hid (show AllocAt w6 a c n l from S4.blk hO HS.out.rd HBr.out HA.out (by decide) (by decide) (by decide))
              have HB := Lib.hid (HB.out.trans (hO.below HB.out.size (by rintro q (rfl | rfl | rfl | rfl) <;> first | exact HGE.out.2.2.1 | exact HGE.out.2.2.2.1 | exact HGE.out.2.2.2.2 | exact HAW.out.2)))
              have HS := Lib.hid (HS.out.refS HBr.out hO hRf)
              have HBr := Lib.hid hRf.alloc
              clear hO hRf HRR
              go_wp2_with fail
              refine (ints_any (.slice none 0 0) (.slice none 0 0) [] w6 (.inl ⟨rfl, rfl⟩) (.inl ⟨rfl, rfl⟩) (by simp)).mono ?_
              rintro e wE ⟨rfl, hb⟩
              have HA := Lib.hid (show AllocAt wE a c n l from HA.out.below hb HA.out.lt)
              have HBr := Lib.hid (show AllocR wE b y n l from HBr.out.below hb HBr.out.lt)
              have HS := Lib.hid (HS.out.below hb)
              have HB := Lib.hid (HB.out.trans (hb.mono HB.out.size))
              clear hb
              go_upto_region 36 with (fail)
              clear hrb hrr
              go_upto_region 36 with (fail)
              have cn := HBr.out.cell 1
              have cl2 := HBr.out.cell 2
              have cn : wE.cell? ⟨b, 1, none⟩ = some (.int .i64 n) := cn
              have cl2 : wE.cell? ⟨b, 2, none⟩ = some (.int .i64 l) := cl2
              have hnn : ((n : Int) != n) = false := by simp
              have hll : ((l : Int) != l) = false := by simp
              go_quiet ((first | (go_at_call 35; exact next_q a c n l _ HA.out _) | (go_at_call 37; exact limit_q a c n l _ HA.out _)))
              clear cn cl2 hnn hll
              go_wp2_with fail
              go_roundw
              case rel => exact ⟨i + 1, 0, n, l, X', rfl, rfl, by go_num, by omega, .inl ⟨rfl, a, b, rfl, rfl, HA.out, HBr.out, HAW.out.1, HAW.out.2⟩, HS.out.drewN _, HX6.out, HBD.out, HB.out.drewN _⟩
              case measure => simp [intOf]; omega
            · exact absurd h0 hr0
        · as_aux_lemma =>
            have HS := Lib.hid (HS.out.progS HA.out hO hSy)
            have HA := Lib.hid hSy.alloc
            have hR := hR w5 ⟨HBr.out, HS.out.rc, HS.out.rd⟩
            have hsb := hsb rfl
            have HBD := Lib.hid (show 0 ≤ n + m ∧ n + m ≤ 1099511627776 ∧ 0 ≤ someL n l m ∧ someL n l m ≤ 1099511627776 from ⟨hsb.1, hsb.2.1, hsb.2.2.1, hsb.2.2.2.1⟩)
            have HLN := Lib.hid (show (listN n m.toNat).length ≤ 1000000 by rw [listN_length]; have := hsb.2.2.2.2; omega)
            have HOW1 := Lib.hid hOw1
            clear hO hSy hr hsb hOw1
            generalize someX X 1 1 n l m = X' at hR HS hsx
            generalize someL n l m = l2 at hR HA HBD
            generalize listN n m.toNat = xs at hR HOW1 HLN
            have HRR := Lib.hid hR
            have HX6 := Lib.hid hsx
            clear hR hsx
            obtain ⟨o1, cap1, rfl⟩ := own_lenR HOW1.out
            go_wp2_with fail
            clear x1
            refine HRR.out.mono ?_
            rintro e w6 ⟨v2, r', rfl, rfl, ⟨h0, _⟩ | ⟨_, hOw2, hRf⟩, hO⟩
            · exact absurd rfl h0
            · have HA := Lib.hid (show AllocAt w6 a c (n + m) l2 from S4.blk hO HS.out.rd HBr.out HA.out (by decide) (by decide) (by decide))
              have HOW1 := Lib.hid (HOW1.out.refS HS.out.rd HBr.out hO)
              have HB := Lib.hid (HB.out.trans (hO.below HB.out.size (by rintro q (rfl | rfl | rfl | rfl) <;> first | exact HGE.out.2.2.1 | exact HGE.out.2.2.2.1 | exact HGE.out.2.2.2.2 | exact HAW.out.2)))
              have HS := Lib.hid (HS.out.refS HBr.out hO hRf)
              have HBr := Lib.hid hRf.alloc
              have HOW2 := Lib.hid hOw2
              obtain ⟨o2, cap2, rfl⟩ := own_lenR hOw2
              clear hO hRf HRR hOw2
              go_wp2_with fail
              refine (ints_any _ _ xs w6 HOW1.out.row HOW2.out.row HLN.out).mono ?_
              rintro e wE ⟨rfl, hb⟩
              have HA := Lib.hid (show AllocAt wE a c (n + m) l2 from HA.out.below hb HA.out.lt)
              have HBr := Lib.hid (show AllocR wE b y (n + m) l2 from HBr.out.below hb HBr.out.lt)
              have HS := Lib.hid (HS.out.below hb)
              have HB := Lib.hid (HB.out.trans (hb.mono HB.out.size))
              clear hb
              generalize n + m = n2 at HA HBr HBD
              go_upto_region 36 with (fail)
              go_upto_region 36 with (fail)
              have cn := HBr.out.cell 1
              have cl2 := HBr.out.cell 2
              have cn : wE.cell? ⟨b, 1, none⟩ = some (.int .i64 n2) := cn
              have cl2 : wE.cell? ⟨b, 2, none⟩ = some (.int .i64 l2) := cl2
              have hnn : ((n2 : Int) != n2) = false := by simp
              have hll : ((l2 : Int) != l2) = false := by simp
              go_quiet ((first | (go_at_call 35; exact next_q a c n2 l2 _ HA.out _) | (go_at_call 37; exact limit_q a c n2 l2 _ HA.out _)))
              clear cn cl2 hnn hll
              go_wp2_with fail
              go_roundw
              case rel => exact ⟨i + 1, 0, n2, l2, X', rfl, rfl, by go_num, by omega, .inl ⟨rfl, a, b, rfl, rfl, HA.out, HBr.out, HAW.out.1, HAW.out.2⟩, HS.out.drewN _, HX6.out, HBD.out, HB.out.drewN _⟩
              case measure => simp [intOf]; omega
      · have HE := Lib.hid hE
        clear hE
        have hee : ((E : Int) != E) = false := by simp
        go_upto_region 19 with fail
        clear hee
        have hbx := Blk.new wr 63 #[.int .i64 k, .int .i64 m, .string s, .slice ko kl kc]
        have hbel : Below wr.heap.size wr (wr.alloc (.cells #[.int .i64 k, .int .i64 m, .string s, .slice ko kl kc] 63)) := (Below.refl _ _).alloc (Nat.le_refl _) _
        have HS := Lib.hid (HS.out.below hbel)
        have HB := Lib.hid (HB.out.alloc HB.out.size (.cells #[.int .i64 k, .int .i64 m, .string s, .slice ko kl kc] 63))
        have HK := Lib.hid (HKS.out.keepBR HB.out HGE.out.1 HGE.out.2.1 HGE.out.2.2.1 HGE.out.2.2.2.1 HGE.out.2.2.2.2)
        clear c0 c1 c2 c3 hbel HKS
        generalize wr.alloc (.cells #[.int .i64 k, .int .i64 m, .string s, .slice ko kl kc] 63) = w4 at hbx HS HB HK ⊢
        generalize wr.heap.size = bx at hbx ⊢
        have HBX := Lib.hid hbx
        clear hbx
        have x0 := HBX.out.cell 0
        have x1 := HBX.out.cell 1
        have x2 := HBX.out.cell 2
        have x3 := HBX.out.cell 3
        by_cases hk4 : k = 4
        · as_aux_lemma =>
            subst hk4
            go_upto_region 20 with (fail)
            clear x0 x1 x2 x3
            have HBX := Lib.hid (show Blk w4.drew bx 63 _ from HBX.out)
            have HS := Lib.hid HS.out.drew
            have HB := Lib.hid HB.out.drew
            generalize hw5 : w4.drew = w5 at HBX HS HB
            have e1 : ∀ w', KeptOn (fun q => q = bx) w5 w' → w'.cell? ⟨bx, 1, none⟩ = some (.int .i64 m) := fun w' h => h.cell (w := w5) (HBX.out.cell 1) rfl
            refine wp_region_pure (KeptOn fun q => q = bx) (KeptOn.refl _) (KeptOn.trans) [(0,3),(1,3),(2,0),(4,3),(5,3),(6,0),(3,1),(7,1),(8,3)] (by kernel_rfl) (by kernel_rfl) ?_
            rw [hw5]
            clear hw5
            iterate 2 (refine pure_pure (v := ?_) rfl (fun _ _ _ h => h) (by rfl) (fun w' => ?_) ?_; rotate_left; (go_simp; try with_reducible rfl); simp only [Act.put, List.setIfInBounds_toArray, List.set_cons_zero, List.set_cons_succ])
            iterate 1 (refine pure_quiet (v := ?_) rfl (fun _ _ _ h => h) (by rfl) (fun w' hR => ?_) ?_; rotate_left; (go_simp; try with_reducible rfl); simp only [Act.put, List.setIfInBounds_toArray, List.set_cons_zero, List.set_cons_succ])
            iterate 2 (refine pure_pure (v := ?_) rfl (fun _ _ _ h => h) (by rfl) (fun w' => ?_) ?_; rotate_left; (go_simp; try with_reducible rfl); simp only [Act.put, List.setIfInBounds_toArray, List.set_cons_zero, List.set_cons_succ])
            iterate 1 (refine pure_quiet (v := ?_) rfl (fun _ _ _ h => h) (by rfl) (fun w' hR => ?_) ?_; rotate_left; (go_simp; try with_reducible rfl); simp only [Act.put, List.setIfInBounds_toArray, List.set_cons_zero, List.set_cons_succ])
            clear e1
            refine pure_eff rfl ?_
            go_wp2_with fail
            refine (arm_any d g X m w5 HS.out.pd).mono ?_
            rintro e w6 ⟨rfl, hD, hO⟩
            have HKe := Lib.hid (show KeptOn (fun q => q = bx) w5 w6 from ⟨hO.size, fun q hq e => by subst e; exact hO.block q hq (HBX.out.ne_ HS.out.pd.1 (by decide)) (HBX.out.ne_ HS.out.pd.2.1 (by decide))⟩)
            have HS0 := HS
            have HBX := Lib.hid (hO.blk HS0.out.pd HBX.out (by decide) (by decide))
            have HS := Lib.hid (HS0.out.prog2 hO hD)
            have HB := Lib.hid (HB.out.trans (hO.below HB.out.size HGE.out.1 HGE.out.2.1))
            clear hD hO HS0
            generalize hY : X.armR m = r
            have HY := Lib.hid hY
            clear hY
            go_wp2_with fail
            refine purePost_need HKe.out ?_
            refine pure_eff rfl ?_
            go_wp2_with fail
            refine (armR_any x gl go cl co X m HM.out w6 HS.out.rd).mono ?_
            rintro e wE ⟨rfl, hD, hO⟩
            have HKe := Lib.hid (show KeptOn (fun q => q = bx) w6 wE from hO.keptT HS.out.rd HBX.out (by decide) (by decide))
            have HS0 := HS
            have HS := Lib.hid (HS0.out.ref3 hO hD)
            have HB := Lib.hid (HB.out.trans (hO.below HB.out.size HGE.out.2.2.1 HGE.out.2.2.2.1 HGE.out.2.2.2.2))
            clear hD hO HS0
            rw [HY.out]
            go_wp2_with fail
            refine purePost_need HKe.out ?_
            have hrr : ((r : Int) != r) = false := by simp
            iterate 1 (refine pure_pure (v := ?_) rfl (fun _ _ _ h => h) (by rfl) (fun w' => ?_) ?_; rotate_left; (go_simp; try with_reducible rfl); simp only [Act.put, List.setIfInBounds_toArray, List.set_cons_zero, List.set_cons_succ])
            refine pure_done ?_
            clear hrr
            have HX6 := Lib.hid ((arm_lenR X m).trans HX6.out)
            generalize X.arm m = X' at HS HX6
            go_upto_region 36 with (fail)
            go_quiet (fail)
            go_wp2_with fail
            go_roundw
            case rel => exact ⟨i + 1, E, 0, 0, X', rfl, rfl, by go_num, by omega, .inr ⟨HE.out, rfl, rfl⟩, HS.out.drewN _, HX6.out, ⟨by omega, by omega, by omega, by omega⟩, HB.out.drewN _⟩
            case measure => simp [intOf]; omega
        have k4 : (k == 4) = false := beq_eq_false_iff_ne.2 hk4
        by_cases hk5 : k = 5
        · subst hk5
          go_wp2_with fail
          clear x0
          refine (crash_any d g X _ ks w4 HS.out.pd HK.out.keep HKL.out).mono ?_
          rintro e w5 ⟨rfl, hD, hO⟩
          have HBX := Lib.hid (hO.blk HS.out.pd HBX.out (by decide) (by decide))
          have HK := Lib.hid (HK.out.only (Only5.of2 hO))
          have HB := Lib.hid (HB.out.trans (hO.below HB.out.size HGE.out.1 HGE.out.2.1))
          have HS := Lib.hid (HS.out.prog2 hO hD)
          clear hD hO x1 x2 x3
          have x3 := HBX.out.cell 3
          go_wp2_with fail
          refine (crashR_any x gl go cl co X _ ks w5 HS.out.rd HK.out.keepR HKL.out).mono ?_
          rintro e w6 ⟨rfl, hD, hO⟩
          have HB := Lib.hid (HB.out.trans (hO.below HB.out.size HGE.out.2.2.1 HGE.out.2.2.2.1 HGE.out.2.2.2.2))
          have HS := Lib.hid (HS.out.ref3 hO hD)
          have HX6 := Lib.hid ((crash_length X ks).trans HX6.out)
          clear hD hO x3
          generalize X.crash ks = X' at HS HX6
          go_wp2_with fail
          refine (openA_any c d g 1 1 X' w6 HS.out.pc HS.out.pd (by omega) (by omega) (by rw [HX6.out]; omega)).mono ?_
          rintro e w7 ⟨hcA, hb⟩
          have hsz6 : w.heap.size ≤ w6.heap.size := HB.out.size
          have HS := Lib.hid (HS.out.below hb)
          have HB := Lib.hid (HB.out.trans (hb.mono HB.out.size))
          have hsz7 : w.heap.size ≤ w7.heap.size := HB.out.size
          clear hb
          rcases hcA with ⟨h0, a, haw, rfl, hA⟩ | ⟨h0, rfl⟩
          · as_aux_lemma =>
              have HA := Lib.hid hA
              have H0 := Lib.hid h0
              clear hA h0
              go_wp2_with fail
              refine (openAR_any y x gl go cl co X' w7 HS.out.rc HS.out.rd HX6.out).mono ?_
              rintro e wE ⟨hcB, hb⟩
              have HS := Lib.hid (HS.out.below hb)
              have HB := Lib.hid (HB.out.trans (hb.mono HB.out.size))
              have HA := Lib.hid (show AllocAt wE a c _ _ from HA.out.below hb HA.out.lt)
              clear hb
              rcases hcB with ⟨_, b, hbw, rfl, hBr⟩ | ⟨h1, _⟩
              · have HBr := Lib.hid hBr
                have HAW := Lib.hid (show w.heap.size ≤ a ∧ w.heap.size ≤ b from ⟨Nat.le_trans hsz6 haw, Nat.le_trans hsz7 hbw⟩)
                have hbd := openN_bd _ H0.out
                generalize openN (X'.loadF 1 1) = n2 at HA HBr hbd
                have HBD := Lib.hid (show 0 ≤ n2 ∧ n2 ≤ 1099511627776 ∧ 0 ≤ n2 ∧ n2 ≤ 1099511627776 from ⟨hbd.1, hbd.2, hbd.1, hbd.2⟩)
                clear hBr hbd hbw haw hsz6 hsz7
                go_upto_region 36 with (fail)
                have cn := HBr.out.cell 1
                have cl2 := HBr.out.cell 2
                have cn : wE.cell? ⟨b, 1, none⟩ = some (.int .i64 n2) := cn
                have cl2 : wE.cell? ⟨b, 2, none⟩ = some (.int .i64 n2) := cl2
                have hnn : ((n2 : Int) != n2) = false := by simp
                have hll : ((n2 : Int) != n2) = false := by simp
                go_quiet ((first | (go_at_call 35; exact next_q a c n2 n2 _ HA.out _) | (go_at_call 37; exact limit_q a c n2 n2 _ HA.out _)))
                clear cn cl2 hnn hll
                go_wp2_with fail
                go_roundw
                case rel => exact ⟨i + 1, 0, n2, n2, X', rfl, rfl, by go_num, by omega, .inl ⟨rfl, a, b, rfl, rfl, HA.out, HBr.out, HAW.out.1, HAW.out.2⟩, HS.out.drewN _, HX6.out, HBD.out, HB.out.drewN _⟩
                case measure => simp [intOf]; omega
              · exact absurd H0.out h1
          · as_aux_lemma =>
              have HE := Lib.hid h0
              go_wp2_with fail
              refine (openAR_any y x gl go cl co X' w7 HS.out.rc HS.out.rd HX6.out).mono ?_
              rintro e wE ⟨hcB, hb⟩
              have HS := Lib.hid (HS.out.below hb)
              have HB := Lib.hid (HB.out.trans (hb.mono HB.out.size))
              clear hb
              rcases hcB with ⟨h1, _⟩ | ⟨_, rfl⟩
              · exact absurd h1 HE.out
              · clear h0
                generalize openE (X'.loadF 1 1) = E2 at HE ⊢
                go_upto_region 36 with (fail)
                go_quiet (fail)
                go_wp2_with fail
                go_roundw
                case rel => exact ⟨i + 1, E2, 0, 0, X', rfl, rfl, by go_num, by omega, .inr ⟨HE.out, rfl, rfl⟩, HS.out.drewN _, HX6.out, ⟨by omega, by omega, by omega, by omega⟩, HB.out.drewN _⟩
                case measure => simp [intOf]; omega
        have k5 : (k == 5) = false := beq_eq_false_iff_ne.2 hk5
        by_cases hk6 : k = 6
        · as_aux_lemma =>
            subst hk6
            go_upto_region 28 with (fail)
            clear x0 x1 x2 x3
            have HBX := Lib.hid (show Blk w4.drew bx 63 _ from HBX.out)
            have HS := Lib.hid HS.out.drew
            have HB := Lib.hid HB.out.drew
            generalize hw5 : w4.drew = w5 at HBX HS HB
            have e1 : ∀ w', KeptOn (fun q => q = bx) w5 w' → w'.cell? ⟨bx, 2, none⟩ = some (.string s) := fun w' h => h.cell (w := w5) (HBX.out.cell 2) rfl
            refine wp_region_pure (KeptOn fun q => q = bx) (KeptOn.refl _) (KeptOn.trans) [(0,3),(1,3),(2,0),(4,3),(5,3),(6,0),(3,1),(7,1),(8,3)] (by kernel_rfl) (by kernel_rfl) ?_
            rw [hw5]
            clear hw5
            iterate 2 (refine pure_pure (v := ?_) rfl (fun _ _ _ h => h) (by rfl) (fun w' => ?_) ?_; rotate_left; (go_simp; try with_reducible rfl); simp only [Act.put, List.setIfInBounds_toArray, List.set_cons_zero, List.set_cons_succ])
            iterate 1 (refine pure_quiet (v := ?_) rfl (fun _ _ _ h => h) (by rfl) (fun w' hR => ?_) ?_; rotate_left; (go_simp; try with_reducible rfl); simp only [Act.put, List.setIfInBounds_toArray, List.set_cons_zero, List.set_cons_succ])
            iterate 2 (refine pure_pure (v := ?_) rfl (fun _ _ _ h => h) (by rfl) (fun w' => ?_) ?_; rotate_left; (go_simp; try with_reducible rfl); simp only [Act.put, List.setIfInBounds_toArray, List.set_cons_zero, List.set_cons_succ])
            iterate 1 (refine pure_quiet (v := ?_) rfl (fun _ _ _ h => h) (by rfl) (fun w' hR => ?_) ?_; rotate_left; (go_simp; try with_reducible rfl); simp only [Act.put, List.setIfInBounds_toArray, List.set_cons_zero, List.set_cons_succ])
            clear e1
            refine pure_eff rfl ?_
            go_wp2_with fail
            refine (save_any c d g 1 1 X s w5 HS.out.pc HS.out.pd HS.out.rd.arm1 (by omega) (by omega) (by rw [HX6.out]; omega)).mono ?_
            rintro e w6 ⟨rfl, hD, hO⟩
            have HKe := Lib.hid (show KeptOn (fun q => q = bx) w5 w6 from ⟨hO.size, fun q hq e => by subst e; exact hO.block q hq (HBX.out.ne_ HS.out.pd.1 (by decide)) (HBX.out.ne_ HS.out.pd.2.1 (by decide))⟩)
            have HS0 := HS
            have HBX := Lib.hid (hO.blk HS0.out.pd HBX.out (by decide) (by decide))
            have HS := Lib.hid (HS0.out.prog2 hO hD)
            have HB := Lib.hid (HB.out.trans (hO.below HB.out.size HGE.out.1 HGE.out.2.1))
            clear hD hO HS0
            generalize hY : (X.saveF 1 1 s).2 = r
            have HY := Lib.hid hY
            clear hY
            go_wp2_with fail
            refine purePost_need HKe.out ?_
            refine pure_eff rfl ?_
            go_wp2_with fail
            refine (saveR_any y x gl go cl co X s w6 HS.out.rc HS.out.rd HX6.out HSZ.out).mono ?_
            rintro e wE ⟨rfl, hD, hO⟩
            have HKe := Lib.hid (show KeptOn (fun q => q = bx) w6 wE from hO.keptT HS.out.rd HBX.out (by decide) (by decide))
            have HS0 := HS
            have HS := Lib.hid (HS0.out.ref3 hO hD)
            have HB := Lib.hid (HB.out.trans (hO.below HB.out.size HGE.out.2.2.1 HGE.out.2.2.2.1 HGE.out.2.2.2.2))
            clear hD hO HS0
            rw [HY.out]
            go_wp2_with fail
            refine purePost_need HKe.out ?_
            have hrr : ((r : Int) != r) = false := by simp
            iterate 1 (refine pure_pure (v := ?_) rfl (fun _ _ _ h => h) (by rfl) (fun w' => ?_) ?_; rotate_left; (go_simp; try with_reducible rfl); simp only [Act.put, List.setIfInBounds_toArray, List.set_cons_zero, List.set_cons_succ])
            refine pure_done ?_
            clear hrr
            have HX6 := Lib.hid ((saveF_lenR X 1 1 s).trans HX6.out)
            generalize (X.saveF 1 1 s).1 = X' at HS HX6
            go_upto_region 36 with (fail)
            go_quiet (fail)
            go_wp2_with fail
            go_roundw
            case rel => exact ⟨i + 1, E, 0, 0, X', rfl, rfl, by go_num, by omega, .inr ⟨HE.out, rfl, rfl⟩, HS.out.drewN _, HX6.out, ⟨by omega, by omega, by omega, by omega⟩, HB.out.drewN _⟩
            case measure => simp [intOf]; omega
        have k6 : (k == 6) = false := beq_eq_false_iff_ne.2 hk6
        as_aux_lemma =>
          go_upto_region 36 with (fail)
          clear x0 x1 x2 x3 k4 k5 k6
          obtain ⟨wE, rfl⟩ : ∃ w0, w0 = w4 := ⟨_, rfl⟩
          go_upto_region 36 with (fail)
          go_quiet (fail)
          go_wp2_with fail
          go_roundw
          case rel => exact ⟨i + 1, E, 0, 0, X, rfl, rfl, by go_num, by omega, .inr ⟨HE.out, rfl, rfl⟩, HS.out.drewN _, HX6.out, ⟨by omega, by omega, by omega, by omega⟩, HB.out.drewN _⟩
          case measure => simp [intOf]; omega
    · by_cases h30 : i < len
      · have h30' : ¬ i < 40 := by omega
        rcases hAL with ⟨rfl, a, b, rfl, rfl, hA, hBr, haw, hbw⟩ | ⟨hE, rfl, rfl⟩
        · go_wp2_with fail
          go_ret
          exact ⟨rfl, HB.out⟩
        · have hee : ((E : Int) == E) = true := by simp
          go_wp2_with fail
          go_ret
          exact ⟨rfl, HB.out⟩
      · rcases hAL with ⟨rfl, a, b, rfl, rfl, hA, hBr, haw, hbw⟩ | ⟨hE, rfl, rfl⟩
        · go_wp2_with fail
          go_ret
          exact ⟨rfl, HB.out⟩
        · have hee : ((E : Int) == E) = true := by simp
          go_wp2_with fail
          go_ret
          exact ⟨rfl, HB.out⟩
end Go.Proofs.Ytnddkodenkmoiaa
