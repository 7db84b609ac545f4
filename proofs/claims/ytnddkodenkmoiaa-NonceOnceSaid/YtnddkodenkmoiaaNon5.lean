/- NonceForeign answers true. -/
import Derived.Test.YtnddkodenkmoiaaNon4
namespace Go.Proofs.Ytnddkodenkmoiaa
open Go.RowKit Go.Proofs
set_option linter.unusedSimpArgs false
set_option linter.unusedVariables false
theorem readP_end (l : List UInt8) (h : (readP l).2.2 = 0) : (readP l).2.1 ≤ (l.length : Int) := by
  unfold readP at h ⊢
  by_cases h1 : shapeE l (aOf l) (endN l (aOf l)) 59 ≠ 0
  · rw [if_pos h1] at h; exact absurd h h1
  · rw [if_neg h1] at h ⊢
    by_cases h2 : aOf l = 1 ∧ endN l (aOf l) = 2 ∧ l.getD 1 0 = 48
    · rw [if_pos h2] at h; cases h
    · rw [if_neg h2] at h ⊢
      by_cases h3 : 9223372036854775807 + aOf l < valFrom l (aOf l) 0
      · rw [if_pos h3] at h; cases h
      · rw [if_neg h3]
        have h4 : endN l (aOf l) ≠ l.length := by
          intro e
          apply h1; unfold shapeE; rw [if_pos e]; decide
        have ha : aOf l ≤ l.length := by
          unfold aOf; split
          · rename_i hq
            cases l with
            | nil => cases hq
            | cons a l => simp
          · omega
        have := endN_le ha
        show ((endN l (aOf l) : Nat) : Int) + 1 ≤ _
        omega
theorem own_len {w : World} {base : Nat} {v : Value} {xs : List Int} (h : OwnI w base v xs) : ∃ ao cap, v = .slice ao xs.length cap := by
  obtain ⟨h1, ⟨rfl, h⟩ | ⟨g, cap, cur, rfl, _⟩⟩ := h
  · exact ⟨_, _, by rw [h]⟩
  · exact ⟨_, _, rfl⟩
theorem own_first {w : World} {base k : Nat} {v : Value} {next : Int} (h : OwnI w base v (listN next k)) (hk : 1 ≤ k) : ∃ q cap, v = .slice (some ⟨q, 0, none⟩) k cap ∧ w.cell? ⟨q, 0, none⟩ = some (.int .i64 next) := by
  have hl := listN_length next k
  obtain ⟨h1, ⟨rfl, h⟩ | ⟨g, cap, cur, rfl, h2, h3, h4, h5, h6, h7⟩⟩ := h
  · omega
  · refine ⟨g, cap, by rw [hl], ?_⟩
    rw [show w.cell? ⟨g, 0, none⟩ = cur[0]? from cell_of_row w g 0 cur 3 (0, 0) h3]
    have e := congrArg (fun l => l[0]?) h7
    simp only [List.getElem?_take] at e
    rw [if_pos (by omega), Array.getElem?_toList, List.getElem?_map] at e
    rw [e]
    unfold listN
    rw [List.getElem?_map, List.getElem?_range (by omega)]
    show some (ii (next + ((0 : Nat) : Int))) = _
    unfold ii; simp
set_option maxRecDepth 100000 in
set_option maxHeartbeats 8000000 in
theorem nonceForeign_any (s : ByteArray) (n : Int) (w : World) (hts : s.size ≤ maxLen) :
    Calls Try.prog 11 #[.string s, .int .i64 n] w fun e w' => e = .returned (.bool true) ∧ Below w.heap.size w w' := by
  go_enter Try.func11, Try.ntmps11
  go_wp2_with fail
  refine (new_n 12 w (by omega) (by omega)).mono ?_
  rintro e w1 ⟨d, g, hd, hg, rfl, hD, hB⟩
  have HD := Lib.hid hD
  have HB := Lib.hid hB
  clear hD hB
  go_wp2_with fail
  refine (open_any d g 0 4 (dk0 12) w1 HD.out rfl (by omega) (by omega) (by rw [dk0_len]; omega)).mono ?_
  rintro e w2 ⟨rfl, hC, hB⟩
  have HD := Lib.hid (HD.out.below hB)
  have HC := Lib.hid hC
  have HB := Lib.hid (HB.out.trans (hB.mono HB.out.size))
  clear hC hB
  generalize w1.heap.size = c at HC ⊢
  go_wp2_with fail
  refine (awakeN_any w2).mono ?_
  rintro e w3 ⟨rfl, hB⟩
  have HD := Lib.hid (HD.out.below hB)
  have HC := Lib.hid (show CellAt w3 c d ((0 : Nat) : Int) ((4 : Nat) : Int) from HC.out.below hB HC.out.lt)
  have HB := Lib.hid (HB.out.trans (hB.mono HB.out.size))
  clear hB
  go_wp2_with fail
  by_cases hbig : 64 * 4 < s.size
  · refine (save_big c d g 0 4 (dk0 12) s w3 HC.out HD.out (by decide +kernel) (by omega) (by omega) (by rw [dk0_len]; omega) hbig).mono ?_
    rintro e w4 ⟨rfl, hD, hC, hO⟩
    have HB := Lib.hid (HB.out.trans (hO.below HB.out.size hd hg))
    have hb2 : (256 : Int) < (s.size : Int) := by omega
    clear hD hC hO
    go_wp2_with fail
    refine (awakeN_any w4).mono ?_
    rintro e w5 ⟨rfl, hB⟩
    have HB := Lib.hid (HB.out.trans (hB.mono HB.out.size))
    clear hB
    go_wp2_with fail
    go_ret
    exact ⟨rfl, HB.out⟩
  · refine (save_ok c d g 0 4 0 (dk0 12) none_ s w3 HC.out HD.out (dk0_ok 12 0 4 (by omega)) (by omega) (by omega) (by rw [dk0_len]; omega) (by omega) (by omega)).mono ?_
    rintro e w4 ⟨rfl, ⟨x, hD, hK, hl, _⟩, hC, hO⟩
    have HD := Lib.hid hD
    have HC := Lib.hid hC
    have HK := Lib.hid hK
    have HL := Lib.hid (hl.trans (dk0_len 12))
    have HB := Lib.hid (HB.out.trans (hO.below HB.out.size hd hg))
    have hsz4 : w.heap.size ≤ w4.heap.size := HB.out.size
    have hld := load_law hK.up.up hK.has (by omega) (by omega)
    rw [if_neg (by omega)] at hld
    have HLD := Lib.hid hld
    have hend := readP_end (by_ s)
    rw [← by_size] at hend
    have HEND := Lib.hid hend
    clear hD hC hO hK hl hld hend
    have HOE := Lib.hid (show openE (x.loadF 0 4) = if (readP (by_ s)).2.2 ≠ 0 ∨ (readP (by_ s)).2.1 < (s.size : Int) ∨ (readP (by_ s)).1 < 0 ∨ 1099511627776 < (readP (by_ s)).1 then 6 else 0 by
      rw [HLD.out]; unfold openE; rw [if_neg (by simp), if_neg (by simp)])
    have HON := Lib.hid (show openN (x.loadF 0 4) = (readP (by_ s)).1 by rw [HLD.out]; unfold openN; rw [if_neg (by simp)])
    have hrd : ∀ w : World, Calls Try.prog 36 #[.string s, .int .i64 0] w fun e w' => e = .returned (.tuple #[.int .i64 (readP (by_ s)).1, .int .i64 (readP (by_ s)).2.1, .int .i64 (readP (by_ s)).2.2]) ∧ w = w' := fun w => readR_any s w hts
    have HRD := Lib.hid hrd
    clear hrd
    go_wp2_with fail
    refine (openA_any c d g 0 4 x w4 HC.out HD.out (by omega) (by omega) (by rw [HL.out]; omega)).mono ?_
    rintro e w5 ⟨h5, hB⟩
    rw [HOE.out, HON.out] at h5
    have hD5 := HD.out.below hB
    have hC5 : CellAt w5 c d ((0 : Nat) : Int) ((4 : Nat) : Int) := HC.out.below hB HC.out.lt
    have HB := Lib.hid (HB.out.trans (hB.mono HB.out.size))
    have hsz5 := HB.out.size
    clear hB
    generalize readP (by_ s) = r at h5 HEND HRD
    obtain ⟨r1, r2, r3⟩ := r
    simp only at h5 HEND HRD
    by_cases k3 : r3 = 0
    · subst k3
      have k2b := HEND.out rfl
      by_cases k2 : r2 < (s.size : Int)
      · rw [if_pos (.inr (.inl k2))] at h5
        rcases h5 with ⟨h, _⟩ | ⟨_, rfl⟩
        · cases h
        have kk : (r2 == (s.size : Int)) = false := by simp; omega
        clear hD5 hC5
        go_wp2_with fail
        refine (HRD.out w5).mono ?_
        rintro e w6 ⟨rfl, rfl⟩
        go_wp2_with fail
        go_ret
        exact ⟨rfl, HB.out⟩
      · have kk : r2 = (s.size : Int) := by omega
        subst kk
        by_cases k1 : r1 < 0
        · rw [if_pos (.inr (.inr (.inl k1)))] at h5
          rcases h5 with ⟨h, _⟩ | ⟨_, rfl⟩
          · cases h
          clear hD5 hC5
          go_wp2_with fail
          refine (HRD.out w5).mono ?_
          rintro e w6 ⟨rfl, rfl⟩
          go_wp2_with fail
          go_ret
          exact ⟨rfl, HB.out⟩
        · by_cases k4 : 1099511627776 < r1
          · have k5 : ¬ r1 ≤ 1099511627776 := by omega
            have k6 : 0 ≤ r1 := by omega
            have k7 : decide (r1 ≤ 1099511627776) = false := decide_eq_false k5
            rw [if_pos (.inr (.inr (.inr k4)))] at h5
            rcases h5 with ⟨h, _⟩ | ⟨_, rfl⟩
            · cases h
            clear hD5 hC5
            go_wp2_with fail
            refine (HRD.out w5).mono ?_
            rintro e w6 ⟨rfl, rfl⟩
            go_wp2_with fail
            go_ret
            exact ⟨rfl, HB.out⟩
          · rw [if_neg (by rintro (h | h | h | h) <;> first | exact h rfl | omega)] at h5
            rcases h5 with ⟨_, a, haw, rfl, hA⟩ | ⟨h, _⟩
            · have HS := Lib.hid (show SysAt w5 a c d g 0 4 r1 r1 x from ⟨hA, hC5, hD5⟩)
              have haw2 : w.heap.size ≤ a := by omega
              clear hA hC5 hD5
              go_wp2_with fail
              refine (HRD.out w5).mono ?_
              rintro e w6 ⟨rfl, rfl⟩
              go_wp2_with fail
              refine (some_any a c d g 0 4 x r1 r1 n w5 HS.out (by have := HK.out.calm.2; omega) (by omega) (by omega) (by rw [HL.out]; omega) (by omega) (by omega) (by omega) (by omega)).mono ?_
              by_cases hn : n < 1 ∨ 256 < n
              · have e2 : someE x 0 4 r1 r1 n = 2 := by unfold someE; rw [if_pos hn]
                have eX : someX x 0 4 r1 r1 n = x := by unfold someX; rw [if_pos hn]
                rintro e w7 ⟨v, r, rfl, hr, ⟨hr0, rfl, hS⟩ | ⟨hr0, _⟩, hO⟩
                · obtain rfl : r = 2 := hr.trans e2
                  have HA := Lib.hid hS.alloc
                  have HB := Lib.hid (HB.out.trans (hO.below hsz5 (by rintro i (rfl | rfl | rfl) <;> assumption)))
                  clear hS hO hr e2 eX
                  rcases hn with hn | hn
                  · go_wp2_with fail
                    refine (next_any a c r1 r1 w7 HA.out).mono ?_
                    rintro e w8 ⟨rfl, rfl⟩
                    go_wp2_with fail
                    go_ret
                    exact ⟨rfl, HB.out⟩
                  · have hn1 : ¬ n < 1 := by omega
                    go_wp2_with fail
                    refine (next_any a c r1 r1 w7 HA.out).mono ?_
                    rintro e w8 ⟨rfl, rfl⟩
                    go_wp2_with fail
                    go_ret
                    exact ⟨rfl, HB.out⟩
                · rw [hr, e2] at hr0; cases hr0
              · have hn1 : ¬ n < 1 := by omega
                have hn2 : ¬ 256 < n := by omega
                by_cases hrg : 1099511627760 - n + 1 < r1
                · have e3 : someE x 0 4 r1 r1 n = 3 := by unfold someE; rw [if_neg hn, if_pos hrg]
                  rintro e w7 ⟨v, r, rfl, hr, ⟨hr0, rfl, hS⟩ | ⟨hr0, _⟩, hO⟩
                  · obtain rfl : r = 3 := hr.trans e3
                    have HB := Lib.hid (HB.out.trans (hO.below hsz5 (by rintro i (rfl | rfl | rfl) <;> assumption)))
                    have hrg2 : 1099511627761 - n < r1 := by omega
                    clear hS hO hr e3 hn
                    go_wp2_with fail
                    go_ret
                    exact ⟨rfl, HB.out⟩
                  · rw [hr, e3] at hr0; cases hr0
                · obtain ⟨e0, _, _⟩ := some_calm (next := r1) (limit := r1) (n := n) HK.out (by rw [HL.out]; omega) (by omega) (by omega) (by omega) (by omega) (by omega) (by omega) (by omega) (by omega) (by omega)
                  rintro e w7 ⟨v, r, rfl, hr, ⟨hr0, _⟩ | ⟨rfl, hOw, hS⟩, hO⟩
                  · exact absurd (hr.trans e0) hr0
                  obtain ⟨q, cap, rfl, hcell⟩ := own_first hOw (by omega)
                  have HB := Lib.hid (HB.out.trans (hO.below hsz5 (by rintro i (rfl | rfl | rfl) <;> assumption)))
                  have hrg2 : ¬ 1099511627761 - n < r1 := by omega
                  have hnn : ((n.toNat : Nat) : Int) = n := by omega
                  obtain ⟨m, rfl⟩ : ∃ m : Nat, n = (m : Int) := ⟨n.toNat, hnn.symm⟩
                  simp only [Int.toNat_natCast] at *
                  have hm1 : (0 : Int) < (m : Int) := by omega
                  clear hS hO hr e0 hn hOw hnn
                  go_wp2_with fail
                  go_ret
                  exact ⟨rfl, HB.out⟩
            · exact absurd rfl h
    · rw [if_pos (.inl k3)] at h5
      rcases h5 with ⟨h, _⟩ | ⟨_, rfl⟩
      · cases h
      have kk : (r3 == 0) = false := beq_eq_false_iff_ne.2 k3
      clear hD5 hC5
      go_wp2_with fail
      refine (HRD.out w5).mono ?_
      rintro e w6 ⟨rfl, rfl⟩
      go_wp2_with fail
      go_ret
      exact ⟨rfl, HB.out⟩
end Go.Proofs.Ytnddkodenkmoiaa
