/- CellSaves answers true. -/
import Derived.Test.YtnddkodenkmoiaaCell7
import Derived.Test.YtnddkodenkmoiaaOpen
import Derived.SliceStrings
namespace Go.Proofs.Ytnddkodenkmoiaa
open Go.RowKit Go.Proofs
set_option linter.unusedSimpArgs false
set_option linter.unusedVariables false
/-- v is a row of strings. -/
def StrsAt (w : World) (v : Value) (ss : List ByteArray) : Prop := ∃ o c, v = .slice o ss.length c ∧ ss.length ≤ c ∧ ∀ j s, ss[j]? = some s → ∃ a, o = some a ∧ w.cell? (a.add j) = some (.string s)
theorem strs_of {H : Type} {enc : TypeId × Value → H} {W : World} {v : Value} {fuel : Nat} {y : DataW H × List MemPlace} (h : DataW.trod enc Try.prog W 0 (fun _ => true) true fuel 30 [v] = some y) :
    ∃ ss : List ByteArray, StrsAt W v ss ∧ ss.length ≤ 9223372036854775807 ∧ ∀ s ∈ ss, s.size ≤ maxLen := by
  rcases Go.ChangeShapes.open_strings Try.underlying30 Try.underlying9 (by kernel_rfl) h with ⟨hcs, _⟩ | ⟨a, len, cap, ss, hcs, _, hl, hm, hlen, _, hi, hz⟩
  · obtain rfl : v = .slice none 0 0 := by simpa using hcs
    exact ⟨[], ⟨none, 0, rfl, by simp, fun j k h => by simp at h⟩, by simp, by simp⟩
  · obtain rfl : v = .slice (some a) len cap := by simpa using hcs
    simp only [if_true] at hlen
    have hll : (ss.take len).length = len := by rw [List.length_take]; omega
    refine ⟨ss.take len, ⟨some a, cap, by rw [hll], by rw [hll]; exact hl, fun j s hj => ⟨a, rfl, ?_⟩⟩, by rw [hll]; simp only [maxLen] at hm; omega, fun s hs => hz s (List.mem_of_mem_take hs)⟩
    rw [List.getElem?_take] at hj
    split at hj
    · have hjl := (List.getElem?_eq_some_iff.1 hj).1
      rw [hi j hjl, List.getD_eq_getElem?_getD, hj]; rfl
    · cases hj
theorem IntsAt.keep {w w' : World} {v : Value} {ks : List Int} {d g : Nat} (h : IntsAt w v ks) (hb : Below w.heap.size w w') (hd : w.heap.size ≤ d) (hg : w.heap.size ≤ g) : KeepAt d g w' v ks := by
  obtain ⟨o, c, hv, hc, hi⟩ := h
  refine ⟨o, c, hv, hc, fun j k hj => ?_⟩
  obtain ⟨a, ha, hcell⟩ := hi j k hj
  have hlt := World.block_lt_of_cell? w _ hcell
  have hlt2 := hlt
  rw [add_block] at hlt2
  exact ⟨a, ha, (hb.cell hlt).trans hcell, by omega, by omega⟩
theorem CellOk.crash {x : Dk} {f size n : Nat} {t : ByteArray} (h : CellOk x f size n t) (ks : List Int) : CellOk (x.crash ks) f size n t := by
  have hB : ∀ i, (x.crash ks).B i = x.B i := fun i => crash_B_safe x ks i (fun s hs => h.up.safe s (mem_of_get hs))
  refine ⟨Calm.crash x ks, crash_up x ks h.up.ok, ?_⟩
  have : (x.crash ks).B = x.B := funext hB
  rw [this]; exact h.has
set_option maxRecDepth 100000 in
set_option maxHeartbeats 4000000 in
theorem cellSaves_any (v1 : Value) (o : Option Addr) (cp : Nat) (ss : List ByteArray) (ks : List Int) (w : World) (hcp : ss.length ≤ cp) (hsl : ss.length ≤ 9223372036854775807) (hss : ∀ j s, ss[j]? = some s → ∃ a, o = some a ∧ w.cell? (a.add j) = some (.string s))
    (hks : IntsAt w v1 ks) (hkl : ks.length ≤ 9223372036854775807) :
    Calls Try.prog 8 #[.slice o ss.length cp, v1] w fun e w' => e = .returned (.bool true) ∧ Below w.heap.size w w' := by
  have HSS := Lib.hid hss
  have HKS := Lib.hid hks
  clear hss hks
  go_enter Try.func8, Try.ntmps8
  go_wp2_with fail
  refine (new_n 40 w (by omega) (by omega)).mono ?_
  rintro e w1 ⟨d, g, hd, hg, rfl, hD, hB⟩
  have HD := Lib.hid hD
  have HB := Lib.hid hB
  clear hD hB
  go_wp2_with fail
  refine (open_any d g 0 4 (dk0 40) w1 HD.out rfl (by omega) (by omega) (by rw [dk0_len]; omega)).mono ?_
  rintro e w2 ⟨rfl, hC, hB⟩
  have HD := Lib.hid (HD.out.below hB)
  have HC := Lib.hid hC
  have HB := Lib.hid (HB.out.trans (hB.mono HB.out.size))
  clear hC hB
  generalize w1.heap.size = c at HC ⊢
  go_wp2_with fail
  refine (awakeC_any w2).mono ?_
  rintro e w3 ⟨rfl, hB⟩
  have HD := Lib.hid (HD.out.below hB)
  have HC := Lib.hid (show CellAt w3 c d ((0 : Nat) : Int) ((4 : Nat) : Int) from HC.out.below hB HC.out.lt)
  have HB := Lib.hid (HB.out.trans (hB.mono HB.out.size))
  clear hB
  go_wp2_with fail
  go_loopw [9, 10, 11, 12, 13, 14] (fun v9 v10 _ _ _ _ wr => ∃ (i n : Nat) (x : Dk) (t : ByteArray), v10 = .int .i64 (i : Int) ∧ v9 = .int .i64 (n : Int) ∧ n ≤ i ∧ i ≤ 12 ∧ i ≤ ss.length ∧ DiskAt wr d g x ∧ CellAt wr c d ((0 : Nat) : Int) ((4 : Nat) : Int) ∧ CellOk x 0 4 n t ∧ x.L.length = 40 ∧ Below w.heap.size w wr) (fun _ v10 _ _ _ _ _ => 12 - (intOf v10).toNat)
  case atStart => exact ⟨0, 0, dk0 40, none_, rfl, rfl, by omega, by omega, by omega, HD.out, HC.out, dk0_ok 40 0 4 (by omega), dk0_len 40, HB.out⟩
  case round =>
    obtain ⟨i, n, x, t, rfl, rfl, hni, hi12, hil, hD, hC, hK, hL, hB⟩ := hrel
    clear HD HC HB
    have HD := Lib.hid hD
    have HC := Lib.hid hC
    have HK := Lib.hid hK
    have HL := Lib.hid hL
    have HB := Lib.hid hB
    clear hD hC hK hL hB
    by_cases h12 : i < 12
    · by_cases hl : i < ss.length
      · obtain ⟨s, hs⟩ : ∃ s, ss[i]? = some s := ⟨_, List.getElem?_eq_getElem hl⟩
        obtain ⟨a, rfl, hcell⟩ := HSS.out i s hs
        have hlt := World.block_lt_of_cell? w _ hcell
        have HLT := Lib.hid hlt
        have HCELL := Lib.hid hcell
        have hc1 := (HB.out.cell hlt).trans hcell
        have h12' : (i : Int) < 12 := by omega
        have hl' : (i : Int) < (ss.length : Int) := by omega
        clear hs hlt hcell
        go_wp2_with fail
        by_cases hbig : 256 < s.size
        · refine (save_big c d g 0 4 x s wr HC.out HD.out (by have := HK.out.calm.2; omega) (by omega) (by omega) (by rw [HL.out]; omega) (by omega)).mono ?_
          rintro e w5 ⟨rfl, hD, hC, hO⟩
          have HD := Lib.hid hD
          have HC := Lib.hid hC
          have HB := Lib.hid (HB.out.trans (hO.below HB.out.size hd hg))
          clear hD hC hO hc1
          have hc1 := (HB.out.cell HLT.out).trans HCELL.out
          have hbig' : (256 : Int) < (s.size : Int) := by omega
          go_wp2_with fail
          go_roundw
          case rel => exact ⟨i + 1, n, x, t, by go_num, rfl, by omega, by omega, by omega, HD.out, HC.out, HK.out, HL.out, HB.out⟩
          case measure => simp [intOf]; omega
        · have hbig' : ¬ (256 : Int) < (s.size : Int) := by omega
          refine (save_ok c d g 0 4 n x t s wr HC.out HD.out HK.out (by omega) (by omega) (by rw [HL.out]; omega) (by omega) (by omega)).mono ?_
          rintro e w5 ⟨rfl, ⟨x2, hD, hK, hl2, _⟩, hC, hO⟩
          have HD := Lib.hid hD
          have HC := Lib.hid hC
          have HK := Lib.hid hK
          have HL := Lib.hid (hl2.trans HL.out)
          have HB := Lib.hid (HB.out.trans (hO.below HB.out.size hd hg))
          clear hD hC hO hc1 hK hl2
          have hc1 := (HB.out.cell HLT.out).trans HCELL.out
          go_wp2_with fail
          refine (crash_any d g x2 _ ks w5 HD.out (HKS.out.keep HB.out hd hg) hkl).mono ?_
          rintro e w6 ⟨rfl, hD, hO⟩
          have HC := Lib.hid (show CellAt w6 c d ((0 : Nat) : Int) ((4 : Nat) : Int) from HD.out.only2_blk HC.out hO (by decide) (by decide))
          have HD := Lib.hid hD
          have HK2 := Lib.hid (CellOk.crash HK.out ks)
          have HL2 := Lib.hid ((crash_length x2 ks).trans HL.out)
          have HB := Lib.hid (HB.out.trans (hO.below HB.out.size hd hg))
          clear hD hO hc1
          have hc1 := (HB.out.cell HLT.out).trans HCELL.out
          go_wp2_with fail
          refine (load_ok c d g 0 4 (n + 1) _ s w6 HC.out HD.out rfl HK2.out.has (by omega) (by omega) (by rw [HL2.out]; omega) (by omega) (by omega)).mono ?_
          rintro e w7 ⟨rfl, hB⟩
          have HD := Lib.hid (HD.out.below hB)
          have HC := Lib.hid (show CellAt w7 c d ((0 : Nat) : Int) ((4 : Nat) : Int) from HC.out.below hB HC.out.lt)
          have HB := Lib.hid (HB.out.trans (hB.mono HB.out.size))
          clear hB hc1
          have hc1 := (HB.out.cell HLT.out).trans HCELL.out
          go_wp2_with fail
          go_roundw
          case rel => exact ⟨i + 1, n + 1, _, s, by go_num, by go_num, by omega, by omega, by omega, HD.out, HC.out, HK2.out, HL2.out, HB.out⟩
          case measure => simp [intOf]; omega
      · have hl' : ¬ (i : Int) < (ss.length : Int) := by omega
        go_wp2_with fail
        go_ret
        exact ⟨rfl, HB.out⟩
    · have h12' : ¬ (i : Int) < 12 := by omega
      by_cases hl : i < ss.length
      · have hl' : (i : Int) < (ss.length : Int) := by omega
        go_wp2_with fail
        go_ret
        exact ⟨rfl, HB.out⟩
      · have hl' : ¬ (i : Int) < (ss.length : Int) := by omega
        go_wp2_with fail
        go_ret
        exact ⟨rfl, HB.out⟩
end Go.Proofs.Ytnddkodenkmoiaa
