/- NonceOnce answers true. -/
import Derived.Test.YtnddkodenkmoiaaNon6
namespace Go.Proofs.Ytnddkodenkmoiaa
open Go.RowKit Go.Proofs
set_option linter.unusedSimpArgs false
set_option linter.unusedVariables false
/-- The cell holds l: as a number's text, or nothing and 0. -/
def Holds (x : Dk) (cnt l : Nat) : Prop := ∃ t, Content x.B 0 1 cnt t ∧ (cnt = 0 → l = 0) ∧ (1 ≤ cnt → t = numT (l : Int))
/-- The disk: up, with lm; or down, with lm behind any crash, or a greater one. -/
def Dsk (x : Dk) (cnt lm far : Nat) : Prop :=
  (Up x ∧ Holds x cnt lm) ∨ (x.down = true ∧ okL x.L ∧ ∀ ks, Holds (x.crash ks) cnt lm ∨ ∃ L, lm ≤ L ∧ L ≤ far ∧ Holds (x.crash ks) (cnt + 1) L)
theorem Holds.of_B {x y : Dk} {cnt l : Nat} (h : Holds x cnt l) (hB : ∀ i, y.B i = x.B i) : Holds y cnt l := by
  obtain ⟨t, h1, h2, h3⟩ := h
  refine ⟨t, ?_, h2, h3⟩
  have : y.B = x.B := funext hB
  rw [this]; exact h1
theorem Holds.crash {x : Dk} {cnt l : Nat} (h : Holds x cnt l) (hU : Up x) (ks : List Int) : Holds (x.crash ks) cnt l :=
  h.of_B (fun i => crash_B_safe x ks i (fun s hs => hU.safe s (mem_of_get hs)))
theorem Holds.opens {x : Dk} {cnt l : Nat} (h : Holds x cnt l) (hU : x.down = false) (hc : cnt ≤ 1099511627776) (hl : l ≤ 1099511627776) : openE (x.loadF 0 1) = 0 ∧ openN (x.loadF 0 1) = ((l : Nat) : Int) := by
  obtain ⟨t, h1, h2, h3⟩ := h
  by_cases hz : cnt = 0
  · subst hz
    have := h2 rfl
    subst this
    exact open_fresh hU h1 (by omega)
  · have := h3 (by omega)
    subst this
    exact open_num hU h1 (by omega) hc (by omega) hl
theorem Dsk.mono {x : Dk} {cnt lm far far' : Nat} (h : Dsk x cnt lm far) (hf : far ≤ far') : Dsk x cnt lm far' := by
  rcases h with h | ⟨h1, h2, h3⟩
  · exact .inl h
  · refine .inr ⟨h1, h2, fun ks => ?_⟩
    rcases h3 ks with h | ⟨L, a, b, c⟩
    · exact .inl h
    · exact .inr ⟨L, a, by omega, c⟩
theorem Dsk.crash {x : Dk} {cnt lm far : Nat} (h : Dsk x cnt lm far) (ks : List Int) (hlf : lm ≤ far := by omega) : ∃ lp cn, Up (x.crash ks) ∧ Holds (x.crash ks) cn lp ∧ lm ≤ lp ∧ lp ≤ far ∧ cn ≤ cnt + 1 := by
  rcases h with ⟨h1, h2⟩ | ⟨h1, h2, h3⟩
  · exact ⟨lm, cnt, crash_up x ks h1.ok, h2.crash h1 ks, by omega, hlf, by omega⟩
  · rcases h3 ks with h | ⟨L, a, b, c⟩
    · exact ⟨lm, cnt, crash_up x ks h2, h, by omega, hlf, by omega⟩
    · exact ⟨L, cnt + 1, crash_up x ks h2, c, a, b, by omega⟩
theorem arm_L (x : Dk) (n : Int) : (x.arm n).L = x.L ∧ (x.arm n).down = x.down := by unfold Dk.arm; split <;> exact ⟨rfl, rfl⟩
theorem arm_len (x : Dk) (n : Int) : (x.arm n).L.length = x.L.length := by rw [(arm_L x n).1]
theorem arm_armed (x : Dk) (n : Int) (h : x.armed ≤ 9223372036854775807) (hn : n ≤ 9223372036854775807) : (x.arm n).armed ≤ 9223372036854775807 := by
  unfold Dk.arm; split
  · exact hn
  · exact h
theorem Dsk.arm {x : Dk} {cnt lm far : Nat} (h : Dsk x cnt lm far) (n : Int) : Dsk (x.arm n) cnt lm far := by
  obtain ⟨hL, hd⟩ := arm_L x n
  have hB : ∀ i, (x.arm n).B i = x.B i := fun i => by unfold Dk.B; rw [hL]
  rcases h with ⟨h1, h2⟩ | ⟨h1, h2, h3⟩
  · exact .inl ⟨⟨by rw [hd]; exact h1.up, by rw [hL]; exact h1.safe, by rw [hL]; exact h1.ok⟩, h2.of_B hB⟩
  · have hc : ∀ ks, (x.arm n).crash ks = x.crash ks := fun ks => by unfold Dk.crash; rw [hL]
    exact .inr ⟨by rw [hd]; exact h1, by rw [hL]; exact h2, fun ks => by rw [hc]; exact h3 ks⟩
/-- What Some does to the disk. -/
theorem Dsk.some {x : Dk} {cnt lm far nx n : Nat} (h : Dsk x cnt lm far) (hlen : x.L.length = 6) (h1 : 1 ≤ n) (h2 : n ≤ 256) (hnl : nx ≤ lm) (hlf : lm ≤ far) (hfar : nx + n + 16 ≤ far) (hc : cnt ≤ 1000000) (hb : far ≤ 100000000) :
    (someE x 0 1 (nx : Int) (lm : Int) (n : Int) = 0 ∧ ∃ lm2 cnt2 : Nat, someL (nx : Int) (lm : Int) (n : Int) = (lm2 : Int) ∧ nx + n ≤ lm2 ∧ lm ≤ lm2 ∧ lm2 ≤ far ∧ cnt2 ≤ cnt + 1 ∧ Dsk (someX x 0 1 (nx : Int) (lm : Int) (n : Int)) cnt2 lm2 far) ∨
    (someE x 0 1 (nx : Int) (lm : Int) (n : Int) = 12 ∧ Dsk (someX x 0 1 (nx : Int) (lm : Int) (n : Int)) cnt lm far) := by
  by_cases hc2 : (lm : Int) < (nx : Int) + (n : Int)
  · have hr := resL_bd hc2
    obtain ⟨L, hL⟩ : ∃ L : Nat, resL ((nx : Int) + (n : Int)) (lm : Int) = (L : Int) := ⟨_, (Int.toNat_of_nonneg (by omega)).symm⟩
    have eE : someE x 0 1 (nx : Int) (lm : Int) (n : Int) = (x.saveF 0 1 (numT (L : Int))).2 := by unfold someE; rw [if_neg (by omega), if_neg (by omega), if_pos hc2, hL]
    have eX : someX x 0 1 (nx : Int) (lm : Int) (n : Int) = (x.saveF 0 1 (numT (L : Int))).1 := by unfold someX; rw [if_neg (by omega), if_neg (by omega), if_pos hc2, hL]
    have eL : someL (nx : Int) (lm : Int) (n : Int) = (L : Int) := by unfold someL; rw [if_pos hc2, hL]
    rw [hL] at hr
    rw [eE, eX, eL]
    have hsz := numT_size (L : Int) (by omega)
    rcases h with ⟨hU, t, hC, hz, ht⟩ | ⟨hd, hok, hk⟩
    · obtain ⟨_, hs⟩ := save_law hU hC (by rw [hlen]; omega) (by omega) (by omega) (by omega) (s := numT (L : Int)) (by omega)
      rcases hs with ⟨r0, r1, r2, _⟩ | ⟨r0, r1, r2, r3⟩
      · exact .inl ⟨r0, L, cnt + 1, rfl, by omega, by omega, by omega, by omega, .inl ⟨r1, _, r2, fun h => by omega, fun _ => rfl⟩⟩
      · refine .inr ⟨r0, .inr ⟨r1, r2, fun ks => ?_⟩⟩
        rcases r3 ks with h | h
        · exact .inl ⟨t, h, hz, ht⟩
        · exact .inr ⟨L, by omega, by omega, _, h, fun h => by omega, fun _ => rfl⟩
    · have hs : x.saveF 0 1 (numT (L : Int)) = (x, 12) := by
        unfold Dk.saveF; rw [if_neg (by omega), if_pos hd]
      rw [hs]
      exact .inr ⟨rfl, .inr ⟨hd, hok, hk⟩⟩
  · have eE : someE x 0 1 (nx : Int) (lm : Int) (n : Int) = 0 := by unfold someE; rw [if_neg (by omega), if_neg (by omega), if_neg hc2]
    have eX : someX x 0 1 (nx : Int) (lm : Int) (n : Int) = x := by unfold someX; rw [if_neg (by omega), if_neg (by omega), if_neg hc2]
    have eL : someL (nx : Int) (lm : Int) (n : Int) = (lm : Int) := by unfold someL; rw [if_neg hc2]
    rw [eE, eX, eL]
    exact .inl ⟨rfl, lm, cnt, rfl, by omega, by omega, by omega, by omega, h⟩
theorem headF_len (i n l : Nat) (p : Dk × Int) : (headF i n l p).1.L.length = p.1.L.length := by
  unfold headF
  split
  · split
    · split
      · rw [sync_len, write_len, sync_len]
      · rw [write_len, sync_len]
    · rw [sync_len]
  · rfl
theorem partsF_len (base : Nat) (t : ByteArray) : ∀ (m c : Nat) (x : Dk), (partsF base t m c x).1.L.length = x.L.length
  | 0, c, x => rfl
  | m + 1, c, x => by
    unfold partsF
    split
    · split
      · rw [partsF_len base t m (c + 1), write_len]
      · rw [write_len]
    · rfl
theorem saveF_len (x : Dk) (f size : Nat) (t : ByteArray) : (x.saveF f size t).1.L.length = x.L.length := by
  unfold Dk.saveF
  split
  · rfl
  · split
    · rfl
    · split
      · rfl
      · rw [headF_len, partsF_len]
theorem someX_len' (x : Dk) (f size : Nat) (nx lm n : Int) : (someX x f size nx lm n).L.length = x.L.length := by
  unfold someX
  split
  · rfl
  · split
    · rfl
    · split
      · exact saveF_len _ _ _ _
      · rfl
theorem someX_armed (x : Dk) (f size : Nat) (nx lm n : Int) (h : x.armed ≤ 9223372036854775807) : (someX x f size nx lm n).armed ≤ 9223372036854775807 := by
  unfold someX
  split
  · exact h
  · split
    · exact h
    · split
      · exact saveF_armed _ _ _ _ h
      · exact h
theorem own_nth {w : World} {base k j : Nat} {v : Value} {next : Int} (h : OwnI w base v (listN next k)) (hj : j < k) : ∃ q cap, v = .slice (some ⟨q, 0, none⟩) k cap ∧ w.cell? ⟨q, j, none⟩ = some (.int .i64 (next + (j : Int))) := by
  have hl := listN_length next k
  obtain ⟨h1, ⟨rfl, h⟩ | ⟨g, cap, cur, rfl, h2, h3, h4, h5, h6, h7⟩⟩ := h
  · omega
  · refine ⟨g, cap, by rw [hl], ?_⟩
    rw [show w.cell? ⟨g, j, none⟩ = cur[j]? from cell_of_row w g j cur 3 (0, 0) h3]
    have e := congrArg (fun l => l[j]?) h7
    simp only [List.getElem?_take] at e
    rw [if_pos (by omega), Array.getElem?_toList, List.getElem?_map] at e
    rw [e]
    unfold listN
    rw [List.getElem?_map, List.getElem?_range hj]
    rfl
set_option maxRecDepth 100000 in
set_option maxHeartbeats 16000000 in
theorem nonceOnce_any (v : Value) (acts : List Act4) (hle : acts.length ≤ 9223372036854775807) (w : World) (hacts : ActsAt4 w v acts) :
    Calls Try.prog 14 #[v] w fun e w' => e = .returned (.bool true) ∧ Below w.heap.size w w' := by
  obtain ⟨ao, cp, rfl, _⟩ := id hacts
  have hlen : ∃ len, Hid (len = acts.length) := ⟨_, rfl⟩
  obtain ⟨len, hl⟩ := hlen
  have hle' : len ≤ 9223372036854775807 := by rw [hl.out]; exact hle
  have HAC : Hid (ActsAt4 w (.slice ao acts.length cp) acts) := hacts
  rw [← hl.out]
  clear hacts hle
  go_enter Try.func14, Try.ntmps14
  go_wp2_with fail
  refine (new_n 6 w (by omega) (by omega)).mono ?_
  rintro e w1 ⟨d, g, hd, hg, rfl, hD, hB⟩
  have HD := Lib.hid hD
  have HB := Lib.hid hB
  clear hD hB
  go_wp2_with fail
  refine (open_any d g 0 1 (dk0 6) w1 HD.out rfl (by omega) (by omega) (by rw [dk0_len]; omega)).mono ?_
  rintro e w2 ⟨rfl, hC, hB⟩
  have HD := Lib.hid (HD.out.below hB)
  have HC := Lib.hid hC
  have HB := Lib.hid (HB.out.trans (hB.mono HB.out.size))
  clear hC hB
  generalize w1.heap.size = c at HC ⊢
  have HK0 := Lib.hid (dk0_ok 6 0 1 (by omega))
  go_wp2_with fail
  have hsz2 : w.heap.size ≤ w2.heap.size := HB.out.size
  refine (openA_ok c d g 0 1 (dk0 6) 0 w2 HC.out HD.out (by omega) (by omega) (by rw [dk0_len]; omega) (open_fresh HK0.out.up.up HK0.out.has (by omega))).mono ?_
  rintro e w3 ⟨⟨a, haw, rfl, hS⟩, hB⟩
  have haw : w.heap.size ≤ a := by omega
  have HS := Lib.hid hS
  have HB := Lib.hid (HB.out.trans (hB.mono HB.out.size))
  clear hS hB HD HC
  go_wp2_with fail
  refine (awakeN_any w3).mono ?_
  rintro e w4 ⟨rfl, hB⟩
  have HS := Lib.hid (HS.out.below hB)
  have HB := Lib.hid (HB.out.trans (hB.mono HB.out.size))
  clear hB
  go_wp2_with fail
  go_loopw [7, 8, 9, 10, 11, 12, 13, 14, 15] (fun v7 v8 v9 v10 v11 _ _ _ _ wr => ∃ (i nxt far a nx lm cnt : Nat) (x : Dk), v7 = .pointer (some ⟨a, 0, none⟩) ∧ v11 = .int .i64 (i : Int) ∧ v9 = .int .i64 (nxt : Int) ∧ v10 = .int .i64 (far : Int) ∧ i ≤ 40 ∧ w.heap.size ≤ a ∧ nxt ≤ nx ∧ nx ≤ lm ∧ lm ≤ far ∧ far ≤ 280 * i ∧ cnt ≤ i ∧ SysAt wr a c d g 0 1 (nx : Int) (lm : Int) x ∧ Dsk x cnt lm far ∧ x.L.length = 6 ∧ x.armed ≤ 9223372036854775807 ∧ Below w.heap.size w wr) (fun _ _ _ _ v11 _ _ _ _ _ => 40 - (intOf v11).toNat)
  case atStart => exact ⟨0, 0, 0, a, 0, 0, 0, dk0 6, rfl, rfl, rfl, rfl, by omega, haw, by omega, by omega, by omega, by omega, by omega, HS.out, .inl ⟨HK0.out.up, none_, HK0.out.has, fun _ => rfl, fun h => by omega⟩, dk0_len 6, by decide +kernel, HB.out⟩
  case round =>
    clear HS HB HK0 haw
    obtain ⟨i, nxt, far, a, nx, lm, cnt, x, rfl, rfl, rfl, rfl, hi40, haw, h1, h2, h3, h4, hci, hS, hX, hL, har, hB⟩ := hrel
    have HS := Lib.hid hS
    have HX := Lib.hid hX
    have HL := Lib.hid hL
    have HB := Lib.hid hB
    clear hS hX hL hB
    by_cases hin : i < len ∧ i < 40
    · obtain ⟨hin1, hin2⟩ := hin
      obtain ⟨b, o, cp', hv, hbl, c0, c1, c2, c3, hks, hkl, hnb, hsb⟩ := HAC.out.get HB.out i (by have := hl.out; omega)
      injection hv with hv1 hv2 hv3
      subst hv1
      clear hv2 hv3 hsb
      generalize acts[i]'(by have := hl.out; omega) = act at c0 c1 c2 c3 hks hkl hnb
      obtain ⟨k, n, s, vk, ks⟩ := act
      dsimp only at c0 c1 c2 c3 hks hkl hnb
      obtain ⟨ko, kc, hvk, _⟩ := id hks
      subst hvk
      have HKS := Lib.hid hks
      clear hks
      obtain ⟨kl, hkld⟩ : ∃ kl, kl = ks.length := ⟨_, rfl⟩
      rw [← hkld] at HKS hkl c3
      have HKLD := Lib.hid hkld
      clear hkld
      go_upto_region 11 with fail
      have hbx := Blk.new wr 63 #[.int .i64 k, .int .i64 n, .string s, .slice ko kl kc]
      have HS := Lib.hid (HS.out.below ((Below.refl _ _).alloc (Nat.le_refl _) (.cells #[.int .i64 k, .int .i64 n, .string s, .slice ko kl kc] 63)))
      have HB := Lib.hid (HB.out.alloc HB.out.size (.cells #[.int .i64 k, .int .i64 n, .string s, .slice ko kl kc] 63))
      clear c0 c1 c2 c3
      generalize wr.alloc (.cells #[.int .i64 k, .int .i64 n, .string s, .slice ko kl kc] 63) = w4 at hbx HS HB ⊢
      generalize wr.heap.size = bx at hbx ⊢
      have HBX := Lib.hid hbx
      clear hbx
      have x0 := HBX.out.cell 0
      have x1 := HBX.out.cell 1
      have x2 := HBX.out.cell 2
      have x3 := HBX.out.cell 3
      by_cases hk4 : k = 4
      · as_aux_lemma =>
          subst hk4
          go_wp2_with fail
          refine (arm_any d g x n w4 HS.out.disk).mono ?_
          rintro e w5 ⟨rfl, hD, hO⟩
          clear x0 x1 x2 x3
          have HS2 := Lib.hid (show SysAt w5 a c d g 0 1 (nx : Int) (lm : Int) (x.arm n) from ⟨HS.out.disk.only2_blk HS.out.alloc hO (by decide) (by decide), HS.out.disk.only2_blk HS.out.cell hO (by decide) (by decide), hD⟩)
          have HX2 := Lib.hid (Dsk.arm HX.out n)
          have HL2 := Lib.hid ((arm_len x n).trans HL.out)
          have har := arm_armed x n har hnb
          have HB := Lib.hid (HB.out.trans (hO.below HB.out.size hd hg))
          clear hD hO
          go_wp2_with fail
          go_roundw
          case rel => exact ⟨i + 1, nxt, far, a, nx, lm, cnt, _, rfl, by go_num, by first | rfl | go_num, by first | rfl | go_num, by omega, by omega, by omega, by omega, by omega, by omega, by omega, HS2.out, HX2.out, HL2.out, har, HB.out⟩
          case measure => simp [intOf]; omega
      · by_cases hk5 : k = 5
        · as_aux_lemma =>
            subst hk5
            go_wp2_with fail
            refine (crash_any d g x (.slice ko kl kc) ks w4 HS.out.disk (HKS.out.keep HB.out hd hg) (by rw [← HKLD.out]; exact hkl)).mono ?_
            rintro e w5 ⟨rfl, hD, hO⟩
            clear x0 x1 x2 x3
            obtain ⟨lp, cn, hU, hH, hl1, hl2, hc1⟩ := HX.out.crash ks
            have HC := Lib.hid (HS.out.disk.only2_blk HS.out.cell hO (by decide) (by decide))
            have HD := Lib.hid hD
            have HL2 := Lib.hid ((crash_length x ks).trans HL.out)
            have HB := Lib.hid (HB.out.trans (hO.below HB.out.size hd hg))
            have har2 : (x.crash ks).armed ≤ 9223372036854775807 := by show (0 : Int) ≤ _; omega
            generalize x.crash ks = x5 at HD hU hH HL2 har2
            have HX2 := Lib.hid (show Dsk x5 cn lp far from .inl ⟨hU, hH⟩)
            have hop := hH.opens hU.up (by omega) (by omega)
            have hsz5 : w.heap.size ≤ w5.heap.size := HB.out.size
            clear hD hO HS har
            go_wp2_with fail
            refine (openA_ok c d g 0 1 x5 ((lp : Nat) : Int) w5 HC.out HD.out (by omega) (by omega) (by rw [HL2.out]; omega) hop).mono ?_
            rintro e w6 ⟨⟨a2, ha2w, rfl, hS⟩, hB⟩
            have HS2 := Lib.hid hS
            have HB := Lib.hid (HB.out.trans (hB.mono HB.out.size))
            have har := har2
            have ha3 : w.heap.size ≤ a2 := by omega
            have q1 : ¬ ((lp : Nat) : Int) < ((nxt : Nat) : Int) := by omega
            have q2 : ¬ ((far : Nat) : Int) < ((lp : Nat) : Int) := by omega
            clear hS hB hop
            go_wp2_with fail
            refine (next_any a2 c _ _ w6 HS2.out.alloc).mono ?_
            rintro e w7 ⟨rfl, rfl⟩
            go_wp2_with fail
            refine (next_any a2 c _ _ w6 HS2.out.alloc).mono ?_
            rintro e w7 ⟨rfl, rfl⟩
            go_wp2_with fail
            clear q1 q2
            go_roundw
            case rel => exact ⟨i + 1, nxt, far, a2, lp, lp, cn, x5, rfl, by go_num, by first | rfl | go_num, by first | rfl | go_num, by omega, by omega, by omega, by omega, by omega, by omega, by omega, HS2.out, HX2.out, HL2.out, har, HB.out⟩
            case measure => simp [intOf]; omega
        · have k4 : (k == 4) = false := beq_eq_false_iff_ne.2 hk4
          have k5 : (k == 5) = false := beq_eq_false_iff_ne.2 hk5
          by_cases hgo : 0 ≤ k ∧ k < 4 ∧ 1 ≤ n ∧ n ≤ 256
          · obtain ⟨g1, g2, g3, g4⟩ := hgo
            as_aux_lemma =>
              obtain ⟨n, rfl⟩ : ∃ m : Nat, n = (m : Int) := ⟨n.toNat, by omega⟩
              go_upto_region 19 with fail
              clear x0 x1 x2 x3
              have hw1 : IntKind.i64.wrap ((nx : Int) + (n : Int)) = (nx : Int) + (n : Int) := IntWalk.i64_in _ (by omega)
              have hw2 : IntKind.i64.wrap ((nx : Int) + (n : Int) + 16) = (nx : Int) + (n : Int) + 16 := IntWalk.i64_in _ (by omega)
              have hX1 : ∀ w', KeptOn (fun _ => True) w4.drew w' → w'.cell? ⟨bx, 1, none⟩ = some (.int .i64 (n : Int)) := fun w' h => h.cell (w := w4.drew) (HBX.out.cell 1) trivial
              refine wp_region_keep2 (KeptOn fun _ => True) (KeptOn.refl _) (KeptOn.trans) [(0,0),(1,0),(3,0),(4,0),(2,1),(5,0),(6,0),(7,0),(8,0)] (by kernel_rfl) (by kernel_rfl) ?_
              iterate 4 (refine keep_quiet (v := ?_) rfl (fun _ _ _ h => h) (by rfl) (fun w' hR => ?_) ?_; rotate_left; (go_simp; try with_reducible rfl); simp only [Act.put, List.setIfInBounds_toArray, List.set_cons_zero, List.set_cons_succ])
              refine keep_eff rfl ?_
              go_wp2_with fail
              refine (next_any a c _ _ w4.drew HS.out.alloc).mono ?_
              rintro e w5 ⟨rfl, rfl⟩
              go_wp2_with fail
              refine keepPost_need (KeptOn.refl _ _) ?_
              iterate 4 (refine keep_quiet (v := ?_) rfl (fun _ _ _ h => h) (by rfl) (fun w' hR => ?_) ?_; rotate_left; (go_simp; try with_reducible rfl); simp only [Act.put, List.setIfInBounds_toArray, List.set_cons_zero, List.set_cons_succ])
              refine keep_done ?_
              clear hw1 hw2 hX1
              obtain ⟨far2, hf2⟩ : ∃ far2 : Nat, (if (far : Int) < (nx : Int) + (n : Int) + 16 then (nx : Int) + (n : Int) + 16 else (far : Int)) = (far2 : Int) := by
                have h0 : 0 ≤ (if (far : Int) < (nx : Int) + (n : Int) + 16 then (nx : Int) + (n : Int) + 16 else (far : Int)) := by split <;> omega
                exact ⟨_, (Int.toNat_of_nonneg h0).symm⟩
              rw [hf2]
              have hf3 : far ≤ far2 ∧ nx + n + 16 ≤ far2 ∧ far2 ≤ 280 * (i + 1) := by split at hf2 <;> omega
              obtain ⟨hf4, hf5, hf6⟩ := hf3
              clear hf2
              have hst := (HX.out.mono hf4).some HL.out (by omega) (by omega) h2 (by omega) hf5 (by omega) (by omega)
              have hxl := (someX_len' x 0 1 (nx : Int) (lm : Int) (n : Int)).trans HL.out
              have har6 := someX_armed x 0 1 (nx : Int) (lm : Int) (n : Int) har
              have HST := Lib.hid hst
              clear hst
              have HBX := Lib.hid (show Blk w4.drew bx 63 _ from HBX.out)
              have x0 := HBX.out.cell 0
              have x1 := HBX.out.cell 1
              have x2 := HBX.out.cell 2
              have x3 := HBX.out.cell 3
              go_wp2_with fail
              refine (some_any a c d g 0 1 x (nx : Int) (lm : Int) (n : Int) w4.drew HS.out.drew har (by omega) (by omega) (by rw [HL.out]; omega) (by omega) (by omega) (by omega) (by omega)).mono ?_
              rintro e w6 ⟨vv, r, rfl, hr, hcase, hO⟩
              have hHBX : Blk w6 bx 63 #[.int .i64 k, .int .i64 (n : Int), .string s, .slice ko kl kc] := hO.blk HBX.out (by
                rintro (e | e | e)
                · exact HBX.out.ne_ HS.out.drew.disk.1 (by decide) e
                · exact HBX.out.ne_ HS.out.drew.disk.2.1 (by decide) e
                · exact HBX.out.ne_ HS.out.drew.alloc (by decide) e)
              clear x0 x1 x2 x3
              have HBX := Lib.hid hHBX
              have hsz4 : w.heap.size ≤ w4.drew.heap.size := HB.out.size
              have HB := Lib.hid (HB.out.drew.trans (hO.below hsz4 (by rintro i (rfl | rfl | rfl) <;> assumption)))
              clear hHBX hO
              generalize someX x 0 1 (nx : Int) (lm : Int) (n : Int) = x6 at hxl har6 HST hcase
              have HL2 := Lib.hid hxl
              have har := har6
              rcases HST.out with ⟨e0, lm2, cnt2, hlm2, p1, p2, p3, p4, hX2⟩ | ⟨e12, hX2⟩
              · rcases hcase with ⟨hr0, _⟩ | ⟨rfl, hOw, hS2⟩
                · exact absurd (hr.trans e0) hr0
                rw [hlm2] at hS2
                have HS2 := Lib.hid hS2
                have HX2 := Lib.hid hX2
                clear hS2 hX2 hr e0 hlm2 HST HS HX HL hxl har6
                have x0 := HBX.out.cell 0
                have x1 := HBX.out.cell 1
                have x2 := HBX.out.cell 2
                have x3 := HBX.out.cell 3
                obtain ⟨ao2, cap2, hvv⟩ := own_len hOw
                rw [listN_length] at hvv
                simp only [Int.toNat_natCast] at hvv hOw
                subst hvv
                have HOW := Lib.hid hOw
                have HS3 := Lib.hid (show SysAt w6 a c d g 0 1 ((nx + n : Nat) : Int) (lm2 : Int) x6 by rw [Int.natCast_add]; exact HS2.out)
                clear hOw
                go_wp2_with fail
                go_loopw [9, 15] (fun v9 v15 wq => ∃ (j q : Nat), v15 = .int .i64 (j : Int) ∧ j ≤ n ∧ v9 = .int .i64 (q : Int) ∧ q ≤ nx + j ∧ (1 ≤ j → q = nx + j) ∧ wq = w6) (fun _ v15 _ => n - (intOf v15).toNat)
                case atStart => exact ⟨0, nxt, rfl, by omega, rfl, by omega, by omega, rfl⟩
                case round =>
                  obtain ⟨j, q, rfl, hj, rfl, hq1, hq2, hww⟩ := hrel
                  obtain ⟨wr, rfl⟩ : ∃ w0, w0 = w6 := ⟨_, rfl⟩
                  subst hww
                  by_cases hjl : j < n
                  · have hjl' : (j : Int) < (n : Int) := by omega
                    obtain ⟨qb, capq, hvq, hcell⟩ := own_nth HOW.out hjl
                    injection hvq with hv1 hv2 hv3
                    subst hv1 hv3
                    clear hv2
                    have hge : ¬ ((nx : Int) + (j : Int)) < (q : Int) := by omega
                    go_wp2_with fail
                    go_roundw
                    case rel => exact ⟨j + 1, nx + j + 1, by go_num, by omega, by go_num, by omega, by omega, trivial⟩
                    case measure => simp [intOf]; omega
                  · obtain rfl : j = n := by omega
                    have hjl' : ¬ (j : Int) < (j : Int) := by omega
                    have hqq : q = nx + j := hq2 (by omega)
                    subst hqq
                    clear hq2 HOW
                    go_wp2_with fail
                    refine (next_any a c _ _ wr HS2.out.alloc).mono ?_
                    rintro e w8 ⟨rfl, rfl⟩
                    go_wp2_with fail
                    refine (limit_any a c _ _ wr HS2.out.alloc).mono ?_
                    rintro e w8 ⟨rfl, rfl⟩
                    have hlg : ¬ (lm2 : Int) < (nx : Int) + (j : Int) := by omega
                    have hlg2 : ¬ (lm2 : Int) < ((nx + j : Nat) : Int) := by omega
                    clear x0 x1 x2 x3
                    go_wp2_with fail
                    go_roundw
                    case rel => exact ⟨i + 1, (nx + j), far2, a, (nx + j), lm2, cnt2, x6, rfl, by go_num, by first | rfl | go_num, by first | rfl | go_num, by omega, by omega, by omega, by omega, by omega, by omega, by omega, HS3.out, HX2.out, HL2.out, har, HB.out⟩
                    case measure => simp [intOf]; omega
              · rcases hcase with ⟨hr0, rfl, hS2⟩ | ⟨hr0, _⟩
                · obtain rfl : r = 12 := hr.trans e12
                  have HS2 := Lib.hid hS2
                  have HX2 := Lib.hid hX2
                  clear hS2 hX2 hr e12 HST HS HX HL hxl har6 hr0
                  go_wp2_with fail
                  go_roundw
                  case rel => exact ⟨i + 1, nxt, far2, a, nx, lm, cnt, x6, rfl, by go_num, by first | rfl | go_num, by first | rfl | go_num, by omega, by omega, by omega, by omega, by omega, by omega, by omega, HS2.out, HX2.out, HL2.out, har, HB.out⟩
                  case measure => simp [intOf]; omega
                · rw [hr, e12] at hr0; cases hr0
          · as_aux_lemma =>
              by_cases u1 : k < 4
              · by_cases u2 : 0 ≤ k
                · by_cases u3 : 1 ≤ n
                  · have u4 : ¬ n ≤ 256 := by omega
                    go_wp2_with fail
                    clear x0 x1 x2 x3
                    go_roundw
                    case rel => exact ⟨i + 1, nxt, far, a, nx, lm, cnt, x, rfl, by go_num, by first | rfl | go_num, by first | rfl | go_num, by omega, by omega, by omega, by omega, by omega, by omega, by omega, HS.out, HX.out, HL.out, har, HB.out⟩
                    case measure => simp [intOf]; omega
                  · go_wp2_with fail
                    clear x0 x1 x2 x3
                    go_roundw
                    case rel => exact ⟨i + 1, nxt, far, a, nx, lm, cnt, x, rfl, by go_num, by first | rfl | go_num, by first | rfl | go_num, by omega, by omega, by omega, by omega, by omega, by omega, by omega, HS.out, HX.out, HL.out, har, HB.out⟩
                    case measure => simp [intOf]; omega
                · go_wp2_with fail
                  clear x0 x1 x2 x3
                  go_roundw
                  case rel => exact ⟨i + 1, nxt, far, a, nx, lm, cnt, x, rfl, by go_num, by first | rfl | go_num, by first | rfl | go_num, by omega, by omega, by omega, by omega, by omega, by omega, by omega, HS.out, HX.out, HL.out, har, HB.out⟩
                  case measure => simp [intOf]; omega
              · go_wp2_with fail
                clear x0 x1 x2 x3
                go_roundw
                case rel => exact ⟨i + 1, nxt, far, a, nx, lm, cnt, x, rfl, by go_num, by first | rfl | go_num, by first | rfl | go_num, by omega, by omega, by omega, by omega, by omega, by omega, by omega, HS.out, HX.out, HL.out, har, HB.out⟩
                case measure => simp [intOf]; omega
    · by_cases h30 : i < len
      · have h30' : ¬ i < 40 := by omega
        go_wp2_with fail
        go_ret
        exact ⟨rfl, HB.out⟩
      · go_wp2_with fail
        go_ret
        exact ⟨rfl, HB.out⟩
end Go.Proofs.Ytnddkodenkmoiaa
