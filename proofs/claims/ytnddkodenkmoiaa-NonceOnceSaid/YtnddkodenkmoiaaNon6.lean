/- NonceKept answers true. -/
import Derived.Test.YtnddkodenkmoiaaNon5
import Derived.Test.YtnddkodenkmoiaaActs4
namespace Go.Proofs.Ytnddkodenkmoiaa
open Go.RowKit Go.Proofs
set_option linter.unusedSimpArgs false
set_option linter.unusedVariables false
/-- What is kept, of numbers up to nx, reserved up to lm. -/
def Kept (nx lm cnt : Nat) (t : ByteArray) : Prop := lm % 16 = 0 ∧ nx ≤ lm ∧ (nx = 0 → lm = 0 ∧ cnt = 0) ∧ (1 ≤ nx → lm < nx + 272) ∧ (1 ≤ nx → 1 ≤ cnt ∧ t = numT (lm : Int))
theorem kept_step {nx lm cnt n : Nat} {t : ByteArray} (h : Kept nx lm cnt t) (h1 : 1 ≤ n) (h2 : n ≤ 256) :
    ∀ lm2 : Nat, someL (nx : Int) (lm : Int) (n : Int) = (lm2 : Int) → Kept (nx + n) lm2 (if (lm : Int) < (nx : Int) + (n : Int) then cnt + 1 else cnt) (if (lm : Int) < (nx : Int) + (n : Int) then numT (lm2 : Int) else t) := by
  intro lm2 hl
  obtain ⟨q1, q2, q3, q4, q5⟩ := h
  unfold someL at hl
  by_cases hc : (lm : Int) < (nx : Int) + (n : Int)
  · rw [if_pos hc] at hl
    rw [if_pos hc, if_pos hc]
    unfold resL at hl
    exact ⟨by omega, by omega, fun h => by omega, fun _ => by omega, fun _ => ⟨by omega, rfl⟩⟩
  · rw [if_neg hc] at hl
    rw [if_neg hc, if_neg hc]
    have e : lm2 = lm := by omega
    subst e
    have hnx : 1 ≤ nx := by
      by_cases h0 : nx = 0
      · have := (q3 h0).1; omega
      · omega
    have := q4 hnx
    exact ⟨q1, by omega, fun h => by omega, fun _ => by omega, fun _ => q5 hnx⟩
set_option maxRecDepth 100000 in
set_option maxHeartbeats 16000000 in
theorem nonceKept_any (v : Value) (acts : List Act4) (hle : acts.length ≤ 9223372036854775807) (w : World) (hacts : ActsAt4 w v acts) :
    Calls Try.prog 10 #[v] w fun e w' => e = .returned (.bool true) ∧ Below w.heap.size w w' := by
  obtain ⟨ao, cp, rfl, _⟩ := id hacts
  have hlen : ∃ len, Hid (len = acts.length) := ⟨_, rfl⟩
  obtain ⟨len, hl⟩ := hlen
  have hle' : len ≤ 9223372036854775807 := by rw [hl.out]; exact hle
  have HAC : Hid (ActsAt4 w (.slice ao acts.length cp) acts) := hacts
  rw [← hl.out]
  clear hacts hle
  go_enter Try.func10, Try.ntmps10
  go_wp2_with fail
  refine (new_n 6 w (by omega) (by omega)).mono ?_
  rintro e w1 ⟨d, g, hd, hg, rfl, hD, hB⟩
  have HD := Lib.hid hD
  have HB := Lib.hid hB
  clear hD hB
  go_wp2_with fail
  refine (open_any d g 0 1 (dk0 6) w1 HD.out rfl (by omega) (by omega) (by rw [dk0_len]; omega)).mono ?_
  rintro e w2 ⟨rfl, hC, hB⟩
  have HD := Lib.hid (HD.out.below hB)
  have HC := Lib.hid hC
  have HB := Lib.hid (HB.out.trans (hB.mono HB.out.size))
  clear hC hB
  generalize w1.heap.size = c at HC ⊢
  have HK0 := Lib.hid (dk0_ok 6 0 1 (by omega))
  go_wp2_with fail
  have hsz2 : w.heap.size ≤ w2.heap.size := HB.out.size
  refine (openA_ok c d g 0 1 (dk0 6) 0 w2 HC.out HD.out (by omega) (by omega) (by rw [dk0_len]; omega) (open_fresh HK0.out.up.up HK0.out.has (by omega))).mono ?_
  rintro e w3 ⟨⟨a, haw, rfl, hS⟩, hB⟩
  have haw : w.heap.size ≤ a := by omega
  have HS := Lib.hid hS
  have HB := Lib.hid (HB.out.trans (hB.mono HB.out.size))
  clear hS hB HD HC
  go_wp2_with fail
  refine (awakeN_any w3).mono ?_
  rintro e w4 ⟨rfl, hB⟩
  have HS := Lib.hid (HS.out.below hB)
  have HB := Lib.hid (HB.out.trans (hB.mono HB.out.size))
  clear hB
  go_wp2_with fail
  go_loopw [9, 10, 11, 12, 13, 14, 15] (fun v9 _ _ _ _ _ _ wr => ∃ (i nx lm cnt : Nat) (x : Dk) (t : ByteArray), v9 = .int .i64 (i : Int) ∧ i ≤ 30 ∧ cnt ≤ i ∧ nx ≤ 256 * i ∧ SysAt wr a c d g 0 1 (nx : Int) (lm : Int) x ∧ CellOk x 0 1 cnt t ∧ Kept nx lm cnt t ∧ x.L.length = 6 ∧ Below w.heap.size w wr) (fun v9 _ _ _ _ _ _ _ => 30 - (intOf v9).toNat)
  case atStart => exact ⟨0, 0, 0, 0, dk0 6, none_, rfl, by omega, by omega, by omega, HS.out, HK0.out, ⟨rfl, by omega, fun _ => ⟨rfl, rfl⟩, fun h => by omega, fun h => by omega⟩, dk0_len 6, HB.out⟩
  case round =>
    obtain ⟨i, nx, lm, cnt, x, t, rfl, hi30, hci, hnxi, hS, hK, hH, hL, hB⟩ := hrel
    clear HS HB HK0
    have HS := Lib.hid hS
    have HK := Lib.hid hK
    have HH := Lib.hid hH
    have HL := Lib.hid hL
    have HB := Lib.hid hB
    clear hS hK hH hL hB
    by_cases hin : i < len ∧ i < 30
    · obtain ⟨hin1, hin2⟩ := hin
      obtain ⟨b, o, cp', hv, hbl, c0, c1, c2, c3, hks, hkl, hnb, hsb⟩ := HAC.out.get HB.out i (by have := hl.out; omega)
      injection hv with hv1 hv2 hv3
      subst hv1
      clear hv2 hv3 hks hkl c2 c3 hsb
      generalize acts[i]'(by have := hl.out; omega) = act at c0 c1 hnb
      obtain ⟨k, n, s, vk, ks⟩ := act
      dsimp only at c0 c1 hnb
      by_cases hk3 : 3 < k
      · go_wp2_with fail
        go_roundw
        case rel => exact ⟨i + 1, nx, lm, cnt, x, t, by go_num, by omega, by omega, by omega, HS.out, HK.out, HH.out, HL.out, HB.out⟩
        case measure => simp [intOf]; omega
      · by_cases hk0 : k < 0
        · go_wp2_with fail
          go_roundw
          case rel => exact ⟨i + 1, nx, lm, cnt, x, t, by go_num, by omega, by omega, by omega, HS.out, HK.out, HH.out, HL.out, HB.out⟩
          case measure => simp [intOf]; omega
        · have hh0 := HH.out
          unfold Kept at hh0
          obtain ⟨q1, q2, q3, q4, q5⟩ := hh0
          have hlb : lm ≤ 256 * i + 272 := by
            by_cases h : nx = 0
            · have := (q3 h).1; omega
            · have := q4 (by omega); omega
          have Q3 := Lib.hid q3
          have Q4 := Lib.hid q4
          have Q5 := Lib.hid q5
          clear q3 q4 q5
          go_wp2_with fail
          refine (some_any a c d g 0 1 x (nx : Int) (lm : Int) n wr HS.out (by have := HK.out.calm.2; omega) (by omega) (by omega) (by rw [HL.out]; omega) (by omega) (by omega) (by omega) (by omega)).mono ?_
          by_cases hn : n < 1 ∨ 256 < n
          · have e2 : someE x 0 1 (nx : Int) (lm : Int) n = 2 := by unfold someE; rw [if_pos hn]
            have eX : someX x 0 1 (nx : Int) (lm : Int) n = x := by unfold someX; rw [if_pos hn]
            rintro e w7 ⟨vv, r, rfl, hr, ⟨hr0, rfl, hS2⟩ | ⟨hr0, _⟩, hO⟩
            · obtain rfl : r = 2 := hr.trans e2
              rw [eX] at hS2
              have HS2 := Lib.hid hS2
              have HK2 := Lib.hid HK.out
              have HH2 := Lib.hid HH.out
              have HL2 := Lib.hid HL.out
              have HB := Lib.hid (HB.out.trans (hO.below HB.out.size (by rintro i (rfl | rfl | rfl) <;> assumption)))
              clear hS2 hO hr e2 eX HS HK HH HL hn c0 c1
              go_wp2_with fail
              refine (next_any a c _ _ _ HS2.out.alloc).mono ?_
              rintro e w9 ⟨rfl, rfl⟩
              by_cases hz : nx = 0
              · have hzb : (((nx : Nat) : Int) == 0) = true := by simp; omega
                have hzc : ((nx : Nat) : Int) = 0 := by omega
                go_wp2_with fail
                go_roundw
                case rel => exact ⟨i + 1, nx, lm, cnt, x, t, by go_num, by omega, by omega, by omega, HS2.out, HK2.out, HH2.out, HL2.out, HB.out⟩
                case measure => simp [intOf]; omega
              · have hzb : (((nx : Nat) : Int) == 0) = false := by simp; omega
                have hzc : ¬ ((nx : Nat) : Int) = 0 := by omega
                have hh := HH2.out
                unfold Kept at hh
                obtain ⟨hh1, hh2, hh3, hh4, hh5⟩ := hh
                obtain ⟨hh6, hh7⟩ := hh5 (by omega)
                have hKt := HK2.out
                rw [hh7] at hKt
                have HKT := Lib.hid hKt
                have hr : readP (by_ (numT ((lm : Nat) : Int))) = (((lm : Nat) : Int), ((numOf ((lm : Nat) : Int)).length : Int), 0) := readP_num lm (by omega)
                have HR := Lib.hid hr
                have hm16 : ((lm : Nat) : Int) % 16 = 0 := by omega
                have hnl : ¬ ((lm : Nat) : Int) < ((nx : Nat) : Int) := by omega
                have hnl2 : ¬ ((nx : Nat) : Int) + 256 + 16 ≤ ((lm : Nat) : Int) := by omega
                have hlmb : ((lm : Nat) : Int) ≤ 1000000 := by omega
                have hnxb : ((nx : Nat) : Int) ≤ 1000000 := by omega
                clear hh1 hh2 hh3 hh4 hh5 hh7 hKt hr
                have hl0 : 0 ≤ ((lm : Nat) : Int) := by omega
                go_wp2_with fail
                refine (load_ok c d g 0 1 (cnt) x _ _ HS2.out.cell HS2.out.disk HKT.out.up.up HKT.out.has (by omega) (by omega) (by rw [HL2.out]; omega) (by omega) (by omega)).mono ?_
                rintro e w10 ⟨rfl, hB⟩
                have HS2 := Lib.hid (HS2.out.below hB)
                have HB := Lib.hid (HB.out.trans (hB.mono HB.out.size))
                clear hB
                go_wp2_with fail
                refine (readR_any (numT ((lm : Nat) : Int)) w10 (by have := numT_size ((lm : Nat) : Int) (by omega); unfold maxLen; omega)).mono ?_
                rintro e w11 ⟨rfl, rfl⟩
                rw [HR.out]
                go_wp2_with fail
                refine (limit_any a c _ _ w10 HS2.out.alloc).mono ?_
                rintro e w11 ⟨rfl, rfl⟩
                go_wp2_with fail
                refine (next_any a c _ _ w10 HS2.out.alloc).mono ?_
                rintro e w11 ⟨rfl, rfl⟩
                go_wp2_with fail
                refine (next_any a c _ _ w10 HS2.out.alloc).mono ?_
                rintro e w11 ⟨rfl, rfl⟩
                go_wp2_with fail
                go_roundw
                case rel => exact ⟨i + 1, nx, lm, cnt, x, t, by go_num, by omega, by omega, by omega, HS2.out, HK2.out, HH2.out, HL2.out, HB.out⟩
                case measure => simp [intOf]; omega
            · rw [hr, e2] at hr0; cases hr0
          · obtain ⟨n, rfl⟩ : ∃ m : Nat, n = (m : Int) := ⟨n.toNat, by omega⟩
            obtain ⟨e0, l0, k0⟩ := some_calm (next := (nx : Int)) (limit := (lm : Int)) (n := (n : Int)) HK.out (by rw [HL.out]; omega) (by omega) (by omega) (by omega) (by omega) (by omega) (by omega) (by omega) (by omega) (by omega)
            rintro e w7 ⟨vv, r, rfl, hr, ⟨hr0, _⟩ | ⟨rfl, hOw, hS2⟩, hO⟩
            · exact absurd (hr.trans e0) hr0
            have hst := kept_step HH.out (n := n) (by omega) (by omega)
            obtain ⟨lm2, hlm2⟩ : ∃ m : Nat, someL (nx : Int) (lm : Int) (n : Int) = (m : Int) := by
              have h0 : 0 ≤ someL (nx : Int) (lm : Int) (n : Int) := by unfold someL resL; split <;> omega
              exact ⟨_, (Int.toNat_of_nonneg h0).symm⟩
            have hst := hst lm2 hlm2
            rw [hlm2] at hS2 k0
            obtain ⟨cnt2, hcnt2⟩ : ∃ q, (if (lm : Int) < (nx : Int) + (n : Int) then cnt + 1 else cnt) = q := ⟨_, rfl⟩
            obtain ⟨t2, ht2⟩ : ∃ q, (if (lm : Int) < (nx : Int) + (n : Int) then numT (lm2 : Int) else t) = q := ⟨_, rfl⟩
            rw [hcnt2, ht2] at k0 hst
            have hc2 : cnt2 ≤ i + 1 := by rw [← hcnt2]; split <;> omega
            generalize someX x 0 1 (nx : Int) (lm : Int) (n : Int) = x2 at hS2 k0 l0
            have HS2 := Lib.hid (show SysAt w7 a c d g 0 1 ((nx + n : Nat) : Int) (lm2 : Int) x2 by rw [Int.natCast_add]; exact hS2)
            have HK2 := Lib.hid k0
            have HH2 := Lib.hid hst
            have HL2 := Lib.hid (l0.trans HL.out)
            have HB := Lib.hid (HB.out.trans (hO.below HB.out.size (by rintro i (rfl | rfl | rfl) <;> assumption)))
            obtain ⟨ao2, cap2, rfl⟩ := own_len hOw
            have hn256 : n ≤ 256 := by omega
            clear hS2 hO hr e0 HS HK HH HL hn c0 c1 hOw hst k0 l0 hcnt2 ht2 hlm2
            obtain ⟨nx2, hnx2⟩ : ∃ q, nx + n = q := ⟨_, rfl⟩
            rw [hnx2] at HS2 HH2
            have hnxi2 : nx2 ≤ 256 * (i + 1) := by omega
            have hlb2 : lm2 ≤ 10000 := by
              have hh0 := HH2.out
              unfold Kept at hh0
              obtain ⟨_, _, z1, z2, _⟩ := hh0
              by_cases h : nx2 = 0
              · have := (z1 h).1; omega
              · have := z2 (by omega); omega
            clear hnx2
            go_wp2_with fail
            refine (next_any a c _ _ _ HS2.out.alloc).mono ?_
            rintro e w9 ⟨rfl, rfl⟩
            by_cases hz : nx2 = 0
            · have hzb : (((nx2 : Nat) : Int) == 0) = true := by simp; omega
              have hzc : ((nx2 : Nat) : Int) = 0 := by omega
              go_wp2_with fail
              go_roundw
              case rel => exact ⟨i + 1, nx2, lm2, cnt2, x2, t2, by go_num, by omega, by omega, by omega, HS2.out, HK2.out, HH2.out, HL2.out, HB.out⟩
              case measure => simp [intOf]; omega
            · have hzb : (((nx2 : Nat) : Int) == 0) = false := by simp; omega
              have hzc : ¬ ((nx2 : Nat) : Int) = 0 := by omega
              have hh := HH2.out
              unfold Kept at hh
              obtain ⟨hh1, hh2, hh3, hh4, hh5⟩ := hh
              obtain ⟨hh6, hh7⟩ := hh5 (by omega)
              have hKt := HK2.out
              rw [hh7] at hKt
              have HKT := Lib.hid hKt
              have hr : readP (by_ (numT ((lm2 : Nat) : Int))) = (((lm2 : Nat) : Int), ((numOf ((lm2 : Nat) : Int)).length : Int), 0) := readP_num lm2 (by omega)
              have HR := Lib.hid hr
              have hm16 : ((lm2 : Nat) : Int) % 16 = 0 := by omega
              have hnl : ¬ ((lm2 : Nat) : Int) < ((nx2 : Nat) : Int) := by omega
              have hnl2 : ¬ ((nx2 : Nat) : Int) + 256 + 16 ≤ ((lm2 : Nat) : Int) := by omega
              have hlmb : ((lm2 : Nat) : Int) ≤ 1000000 := by omega
              have hnxb : ((nx2 : Nat) : Int) ≤ 1000000 := by omega
              clear hh1 hh2 hh3 hh4 hh5 hh7 hKt hr
              have hl0 : 0 ≤ ((lm2 : Nat) : Int) := by omega
              go_wp2_with fail
              refine (load_ok c d g 0 1 (cnt2) x2 _ _ HS2.out.cell HS2.out.disk HKT.out.up.up HKT.out.has (by omega) (by omega) (by rw [HL2.out]; omega) (by omega) (by omega)).mono ?_
              rintro e w10 ⟨rfl, hB⟩
              have HS2 := Lib.hid (HS2.out.below hB)
              have HB := Lib.hid (HB.out.trans (hB.mono HB.out.size))
              clear hB
              go_wp2_with fail
              refine (readR_any (numT ((lm2 : Nat) : Int)) w10 (by have := numT_size ((lm2 : Nat) : Int) (by omega); unfold maxLen; omega)).mono ?_
              rintro e w11 ⟨rfl, rfl⟩
              rw [HR.out]
              go_wp2_with fail
              refine (limit_any a c _ _ w10 HS2.out.alloc).mono ?_
              rintro e w11 ⟨rfl, rfl⟩
              go_wp2_with fail
              refine (next_any a c _ _ w10 HS2.out.alloc).mono ?_
              rintro e w11 ⟨rfl, rfl⟩
              go_wp2_with fail
              refine (next_any a c _ _ w10 HS2.out.alloc).mono ?_
              rintro e w11 ⟨rfl, rfl⟩
              go_wp2_with fail
              go_roundw
              case rel => exact ⟨i + 1, nx2, lm2, cnt2, x2, t2, by go_num, by omega, by omega, by omega, HS2.out, HK2.out, HH2.out, HL2.out, HB.out⟩
              case measure => simp [intOf]; omega
    · by_cases h30 : i < len
      · have h30' : ¬ i < 30 := by omega
        go_wp2_with fail
        go_ret
        exact ⟨rfl, HB.out⟩
      · go_wp2_with fail
        go_ret
        exact ⟨rfl, HB.out⟩
end Go.Proofs.Ytnddkodenkmoiaa
