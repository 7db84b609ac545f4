/- SumPieces answers true. -/
import Derived.Test.YtkbcilfcfbfiaaaDoorFew
import Derived.Test.YtkbcilfcfbfiaaaDoorMac4
import Derived.Laws.Concat
import Derived.SliceStrings
namespace Go.Proofs.YtkbcilfcfbfiaaaDoor
open Go.RowKit Go.Proofs Go.ChangeShapes Go.WideShapes
set_option linter.unusedSimpArgs false
set_option linter.unusedVariables false
theorem by_cat (a b : ByteArray) : by_ (a ++ b) = by_ a ++ by_ b := by
  unfold by_; simp
set_option maxRecDepth 100000 in
theorem rowS_of {H : Type} {enc : TypeId × Value → H} {W : World} {v : Value} {d : DataW H} {p : List MemPlace} {r : Reach} {b0 : Nat} (hv : Value.okWide Tryd.prog W r b0 31 v) (h : DataW.Trod enc Tryd.prog W 0 (fun _ => true) true 31 v d p) :
    ∃ ts : List ByteArray, RowS W v ts ∧ ts.length ≤ 9223372036854775807 := by
  obtain ⟨a0, len, cap, rfl⟩ := okWide_slice Tryd.underlying31 hv
  obtain ⟨fuel, hf⟩ := h
  rcases open_strings Tryd.underlying31 Tryd.underlying9 (by kernel_rfl) hf with ⟨hcs, _⟩ | ⟨a, len', cap', ss, hcs, _, hl, hm, hz, _, hc, _⟩
  · simp only [Value.cells, List.cons.injEq, and_true] at hcs
    injection hcs with e1 e2 e3
    subst e1 e2 e3
    exact ⟨[], .inl ⟨rfl, rfl⟩, by simp⟩
  · simp only [Value.cells, List.cons.injEq, and_true] at hcs
    injection hcs with e1 e2 e3
    subst e1 e2 e3
    simp only [if_true] at hz
    have hlen : (ss.take len).length = len := by rw [List.length_take]; omega
    refine ⟨ss.take len, .inr ⟨a, cap, by rw [hlen], fun j t hj => ?_⟩, by rw [hlen]; simp only [maxLen] at hm; omega⟩
    have hj2 : j < len := by
      have := (List.getElem?_eq_some_iff.1 hj).1
      omega
    rw [List.getElem?_take_of_lt hj2] at hj
    have := hc j (by omega)
    rw [List.getD_eq_getElem?_getD, hj] at this
    exact this
set_option maxRecDepth 100000 in
set_option maxHeartbeats 2000000 in
theorem sumPieces_any (ts : List ByteArray) (v : Value) (w : World) (hk : Consts w) (ht : RowS w v ts) (hl : ts.length ≤ 9223372036854775807) :
    Calls Tryd.prog 5 #[v] w fun e w' => e = .returned (.bool true) ∧ Below w.heap.size w w' := by
  have HK := Lib.hid hk
  have HKL := Lib.hid hk.lt
  have HT := Lib.hid ht
  clear hk ht
  go_enter Tryd.func5, Tryd.ntmps5
  go_wp2_with fail
  refine (new_any w).mono ?_
  rintro e w2 ⟨rfl, hH, hlt, hb⟩
  have HH := Lib.hid hH
  have HB := Lib.hid hb
  clear hH hlt hb
  go_wp2_with fail
  refine (awake_any w2 (HK.out.below HB.out)).mono ?_
  rintro e w3 ⟨rfl, hb⟩
  have HH := Lib.hid (HH.out.below hb HH.out.lt)
  have HB := Lib.hid (HB.out.trans (hb.mono HB.out.size))
  clear hb
  obtain ⟨ov, capv, rfl, hcv⟩ : ∃ (o : Option Addr) (c : Nat), v = .slice o ts.length c ∧ ∀ (j : Nat) (t : ByteArray), ts[j]? = some t → ∃ a, o = some a ∧ w.cell? (a.add j) = some (.string t) := by
    rcases HT.out with ⟨rfl, rfl⟩ | ⟨a, c, rfl, h⟩
    · exact ⟨none, 0, rfl, fun j t h => by simp at h⟩
    · exact ⟨some a, c, rfl, fun j t hj => ⟨a, rfl, h j t hj⟩⟩
  have HCV := Lib.hid hcv
  clear hcv
  have HG := Lib.hid (show w.heap.size ≤ w.heap.size from Nat.le_refl _)
  generalize hh : w.heap.size = g at HH HG HKL ⊢
  have HHG := Lib.hid hh
  clear hh
  go_wp2_with fail
  go_loopw [4, 5, 6] (fun v4 v5 v6 wr => ∃ (i : Nat) (al : ByteArray), i ≤ ts.length ∧ i ≤ 20 ∧ v5 = .int .i64 (i : Int) ∧ v4 = .string al ∧ al.size ≤ 4000 ∧ Holds wr g (by_ al) ∧ Below w.heap.size w wr) (fun _ v5 _ _ => 20 - (intOf v5).toNat)
  case atStart => exact ⟨0, ⟨#[]⟩, by omega, by omega, rfl, rfl, by decide, HH.out, HB.out⟩
  case round =>
    obtain ⟨i, al, hi, hi20, rfl, rfl, has, hH, hB⟩ := hrel
    clear HH HB
    have HH := Lib.hid hH
    have HB := Lib.hid hB
    clear hH hB
    have hm1 := hl
    by_cases hgo : i < ts.length ∧ i < 20 ∧ al.size < 2000
    · obtain ⟨g1, g2, g3⟩ := hgo
      have i1 : (i : Int) < (ts.length : Int) := by omega
      have i2 : (i : Int) < 20 := by omega
      have i3 : (al.size : Int) < 2000 := by omega
      obtain ⟨t, ht⟩ : ∃ t, ts[i]? = some t := ⟨_, List.getElem?_eq_getElem g1⟩
      obtain ⟨a, rfl, hc⟩ := HCV.out i t ht
      have hc2 := (HB.out.cell (World.block_lt_of_cell? w _ hc)).trans hc
      clear hc ht
      go_wp2_with fail
      refine (few_any t wr).mono ?_
      rintro e w4 ⟨rfl, rfl⟩
      have HF := Lib.hid (fewOf_size t)
      generalize fewOf t = s at HF ⊢
      clear hc2
      have hsz := HF.out
      have hcat : ∀ w', (Op.stringOp .add al s).run Tryd.prog w' = .ok (.string (al ++ s)) w' := fun w' => run_string_add_sum w' al s (by omega)
      have hac : (al ++ s).size = al.size + s.size := ByteArray.size_append
      go_wp2_with fail
      clear hcat
      refine (add_any g HKL.out (by_ al) s wr (HK.out.below HB.out) HH.out (by rw [← by_size]; omega)).mono ?_
      rintro e w5 ⟨rfl, hH, hO⟩
      rw [← by_cat] at hH
      have HH := Lib.hid hH
      have HB := Lib.hid (HB.out.grown hO HB.out.size (by intro k e; have := Option.some.inj e; have := HHG.out; omega))
      clear hH hO
      go_wp2_with fail
      refine (len_any g (by_ (al ++ s)) w5 HH.out (by rw [← by_size, hac]; omega)).mono ?_
      rintro e w6 ⟨rfl, rfl⟩
      rw [← by_size]
      generalize al ++ s = al2 at hac HH ⊢
      go_wp2_with fail
      refine (summ_any g HKL.out (by_ al2) w5 (HK.out.below HB.out) HH.out (by rw [← by_size]; omega)).mono ?_
      rintro e w7 ⟨rfl, hb⟩
      have HH := Lib.hid (HH.out.below hb HH.out.lt)
      have HB := Lib.hid (HB.out.trans (hb.mono HB.out.size))
      clear hb
      go_wp2_with fail
      refine (summ_any g HKL.out (by_ al2) w7 (HK.out.below HB.out) HH.out (by rw [← by_size]; omega)).mono ?_
      rintro e w8 ⟨rfl, hb⟩
      have HH := Lib.hid (HH.out.below hb HH.out.lt)
      have HB := Lib.hid (HB.out.trans (hb.mono HB.out.size))
      clear hb
      have heq := eql_digest (sumOf (by_ al2)) (sumOf (by_ al2)) (sumOf_length _) (sumOf_length _) w8
      rw [beq_self_eq_true] at heq
      generalize bytesC (sumOf (by_ al2)) = X at heq ⊢
      go_wp2_with fail
      clear heq
      go_roundw
      case rel => exact ⟨i + 1, al2, by omega, by omega, by go_num, rfl, by omega, HH.out, HB.out⟩
      case measure => simp [intOf]; omega
    · by_cases g1 : i < ts.length
      · have i1 : (i : Int) < (ts.length : Int) := by omega
        by_cases g2 : i < 20
        · have i2 : (i : Int) < 20 := by omega
          have i3 : ¬ ((al.size : Int) < 2000) := by omega
          go_wp2_with fail
          refine (summ_any g HKL.out (by_ al) wr (HK.out.below HB.out) HH.out (by rw [← by_size]; omega)).mono ?_
          rintro e w7 ⟨rfl, hb⟩
          have HH := Lib.hid (HH.out.below hb HH.out.lt)
          have HB := Lib.hid (HB.out.trans (hb.mono HB.out.size))
          clear hb
          go_wp2_with fail
          refine (rsum_any al w7 (by omega)).mono ?_
          rintro e w8 ⟨rfl, hb⟩
          have HH := Lib.hid (HH.out.below hb HH.out.lt)
          have HB := Lib.hid (HB.out.trans (hb.mono HB.out.size))
          clear hb
          have heq : ∀ w', (Op.equalIn 10000 25 (.agg (bytesC (sumOf (by_ al)))) (.agg (bytesC (sumOf (by_ al))))).run Tryd.prog w' = .ok true w' := fun w' => by
            have h := eql_digest (sumOf (by_ al)) (sumOf (by_ al)) (sumOf_length _) (sumOf_length _) w'
            rw [beq_self_eq_true] at h
            exact h
          have hs1 := sum_any al
          have hs2 := summ_any g HKL.out (by_ al)
          generalize bytesC (sumOf (by_ al)) = X at heq hs1 hs2 ⊢
          have HEQ := Lib.hid heq
          have HS1 := Lib.hid hs1
          have HS2 := Lib.hid hs2
          clear hs1 hs2
          go_wp2_with fail
          clear heq
          refine (HS1.out w8 (HK.out.below HB.out) (by omega)).mono ?_
          rintro e w9 ⟨rfl, hb⟩
          have HH := Lib.hid (HH.out.below hb HH.out.lt)
          have HB := Lib.hid (HB.out.trans (hb.mono HB.out.size))
          clear hb
          go_wp2_with fail
          refine (HS2.out w9 (HK.out.below HB.out) HH.out (by rw [← by_size]; omega)).mono ?_
          rintro e w10 ⟨rfl, hb⟩
          have HB := Lib.hid (HB.out.trans (hb.mono HB.out.size))
          clear hb
          have heq := HEQ.out
          go_wp2_with fail
          go_ret
          exact ⟨rfl, HB.out⟩
        · have i2 : ¬ ((i : Int) < 20) := by omega
          go_wp2_with fail
          refine (summ_any g HKL.out (by_ al) wr (HK.out.below HB.out) HH.out (by rw [← by_size]; omega)).mono ?_
          rintro e w7 ⟨rfl, hb⟩
          have HH := Lib.hid (HH.out.below hb HH.out.lt)
          have HB := Lib.hid (HB.out.trans (hb.mono HB.out.size))
          clear hb
          go_wp2_with fail
          refine (rsum_any al w7 (by omega)).mono ?_
          rintro e w8 ⟨rfl, hb⟩
          have HH := Lib.hid (HH.out.below hb HH.out.lt)
          have HB := Lib.hid (HB.out.trans (hb.mono HB.out.size))
          clear hb
          have heq : ∀ w', (Op.equalIn 10000 25 (.agg (bytesC (sumOf (by_ al)))) (.agg (bytesC (sumOf (by_ al))))).run Tryd.prog w' = .ok true w' := fun w' => by
            have h := eql_digest (sumOf (by_ al)) (sumOf (by_ al)) (sumOf_length _) (sumOf_length _) w'
            rw [beq_self_eq_true] at h
            exact h
          have hs1 := sum_any al
          have hs2 := summ_any g HKL.out (by_ al)
          generalize bytesC (sumOf (by_ al)) = X at heq hs1 hs2 ⊢
          have HEQ := Lib.hid heq
          have HS1 := Lib.hid hs1
          have HS2 := Lib.hid hs2
          clear hs1 hs2
          go_wp2_with fail
          clear heq
          refine (HS1.out w8 (HK.out.below HB.out) (by omega)).mono ?_
          rintro e w9 ⟨rfl, hb⟩
          have HH := Lib.hid (HH.out.below hb HH.out.lt)
          have HB := Lib.hid (HB.out.trans (hb.mono HB.out.size))
          clear hb
          go_wp2_with fail
          refine (HS2.out w9 (HK.out.below HB.out) HH.out (by rw [← by_size]; omega)).mono ?_
          rintro e w10 ⟨rfl, hb⟩
          have HB := Lib.hid (HB.out.trans (hb.mono HB.out.size))
          clear hb
          have heq := HEQ.out
          go_wp2_with fail
          go_ret
          exact ⟨rfl, HB.out⟩
      · have i1 : ¬ ((i : Int) < (ts.length : Int)) := by omega
        go_wp2_with fail
        refine (summ_any g HKL.out (by_ al) wr (HK.out.below HB.out) HH.out (by rw [← by_size]; omega)).mono ?_
        rintro e w7 ⟨rfl, hb⟩
        have HH := Lib.hid (HH.out.below hb HH.out.lt)
        have HB := Lib.hid (HB.out.trans (hb.mono HB.out.size))
        clear hb
        go_wp2_with fail
        refine (rsum_any al w7 (by omega)).mono ?_
        rintro e w8 ⟨rfl, hb⟩
        have HH := Lib.hid (HH.out.below hb HH.out.lt)
        have HB := Lib.hid (HB.out.trans (hb.mono HB.out.size))
        clear hb
        have heq : ∀ w', (Op.equalIn 10000 25 (.agg (bytesC (sumOf (by_ al)))) (.agg (bytesC (sumOf (by_ al))))).run Tryd.prog w' = .ok true w' := fun w' => by
          have h := eql_digest (sumOf (by_ al)) (sumOf (by_ al)) (sumOf_length _) (sumOf_length _) w'
          rw [beq_self_eq_true] at h
          exact h
        have hs1 := sum_any al
        have hs2 := summ_any g HKL.out (by_ al)
        generalize bytesC (sumOf (by_ al)) = X at heq hs1 hs2 ⊢
        have HEQ := Lib.hid heq
        have HS1 := Lib.hid hs1
        have HS2 := Lib.hid hs2
        clear hs1 hs2
        go_wp2_with fail
        clear heq
        refine (HS1.out w8 (HK.out.below HB.out) (by omega)).mono ?_
        rintro e w9 ⟨rfl, hb⟩
        have HH := Lib.hid (HH.out.below hb HH.out.lt)
        have HB := Lib.hid (HB.out.trans (hb.mono HB.out.size))
        clear hb
        go_wp2_with fail
        refine (HS2.out w9 (HK.out.below HB.out) HH.out (by rw [← by_size]; omega)).mono ?_
        rintro e w10 ⟨rfl, hb⟩
        have HB := Lib.hid (HB.out.trans (hb.mono HB.out.size))
        clear hb
        have heq := HEQ.out
        go_wp2_with fail
        go_ret
        exact ⟨rfl, HB.out⟩
end Go.Proofs.YtkbcilfcfbfiaaaDoor
