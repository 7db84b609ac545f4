/- veil: the program's Veil. -/
import Derived.Test.YtkbcilfcfbfiaaaDoorVeil3
namespace Go.Proofs.YtkbcilfcfbfiaaaDoor
open Go.RowKit Go.Proofs
set_option linter.unusedSimpArgs false
set_option linter.unusedVariables false
/-- The first i bytes of a text are veiled. -/
def vP (t r : List UInt8) (i : Nat) : List UInt8 := List.zipWith (· ^^^ ·) (t.take i) (r.take i) ++ t.drop i
theorem vP_zero (t r : List UInt8) : vP t r 0 = t := by simp [vP]
theorem vP_length (t r : List UInt8) (i : Nat) (h : r.length = t.length) : (vP t r i).length = t.length := by
  unfold vP; rw [List.length_append, List.length_zipWith, List.length_take, List.length_take, List.length_drop]; omega
theorem vP_at (t r : List UInt8) (i : Nat) (h : r.length = t.length) (hi : i < t.length) : (vP t r i)[i]? = some (t.getD i 0) := by
  unfold vP
  rw [List.getElem?_append_right (by rw [List.length_zipWith, List.length_take, List.length_take]; omega), List.length_zipWith, List.length_take, List.length_take, List.getElem?_drop, List.getD_eq_getElem?_getD]
  have e : i + (i - min (min i t.length) (min i r.length)) = i := by omega
  rw [e, List.getElem?_eq_getElem hi]; rfl
theorem vP_set (t r : List UInt8) (i : Nat) (h : r.length = t.length) (hi : i < t.length) : (vP t r i).set i (t.getD i 0 ^^^ r.getD i 0) = vP t r (i + 1) := by
  unfold vP
  have hl : (List.zipWith (fun x1 x2 => x1 ^^^ x2) (t.take i) (r.take i)).length = i := by rw [List.length_zipWith, List.length_take, List.length_take]; omega
  rw [List.set_append_right _ _ (by omega), hl, Nat.sub_self]
  rw [List.drop_eq_getElem_cons hi, List.set_cons_zero, List.take_add_one, List.take_add_one, List.getElem?_eq_getElem hi, List.getElem?_eq_getElem (by omega : i < r.length)]
  rw [List.zipWith_append (by rw [List.length_take, List.length_take]; omega)]
  simp only [Option.toList, List.zipWith_cons_cons, List.zipWith_nil_left, List.append_assoc, List.singleton_append, List.getD_eq_getElem?_getD]
  rw [List.getElem?_eq_getElem hi, List.getElem?_eq_getElem (by omega : i < r.length)]
  rfl
theorem vP_all (t r : List UInt8) (h : r.length = t.length) : vP t r t.length = List.zipWith (· ^^^ ·) t r := by
  unfold vP
  rw [List.take_of_length_le (Nat.le_refl _), List.take_of_length_le (by omega), List.drop_eq_nil_of_le (Nat.le_refl _), List.append_nil]
theorem Own1.frozen {w : World} {base g n cap : Nat} {xs : List Value} (h : Own1 w base 5 (.slice (some ⟨g, 0, none⟩) n cap) n xs) (i : Nat) (hi : i < n) : w.frozen? ⟨g, i, none⟩ = false := by
  obtain ⟨_, g', cap', cur, fz, hv, _, hg, hfz, hn, _, hc, _⟩ := h
  simp only [Value.slice.injEq, Option.some.injEq, Addr.mk.injEq] at hv
  obtain ⟨⟨rfl, _⟩, _, rfl⟩ := hv
  simp [World.frozen?, hg]
  rcases hfz with rfl | h
  · simp
  · intro h2; omega
theorem Own1.set_ {w : World} {base g n cap : Nat} {xs : List Value} (h : Own1 w base 5 (.slice (some ⟨g, 0, none⟩) n cap) n xs) (i : Nat) (hi : i < n) (u : Value) : Own1 (w.setCell ⟨g, i, none⟩ u) base 5 (.slice (some ⟨g, 0, none⟩) n cap) n (xs.set i u) := by
  obtain ⟨h1, g', cap', cur, fz, hv, hb, hg, hfz, hn, hm, hc, ht⟩ := h
  simp only [Value.slice.injEq, Option.some.injEq, Addr.mk.injEq] at hv
  obtain ⟨⟨rfl, _⟩, _, rfl⟩ := hv
  refine ⟨by rw [List.length_set]; exact h1, g, cap, _, fz, rfl, hb, heap_set_ hg i u, ?_, hn, hm, ?_, ?_⟩
  · rw [Array.size_setIfInBounds]; exact hfz
  · rw [Array.size_setIfInBounds]; exact hc
  · rw [Array.toList_setIfInBounds, ← ht, List.take_set]
theorem strOf_at (bs : List UInt8) (i : Nat) (h : i < (strOf bs).size) : (strOf bs)[i] = bs.getD i 0 := (by_at (strOf bs) i h).symm
/-- A veiled text, or nothing. -/
def veilS (k : ByteArray) (a : Int) (t : ByteArray) : ByteArray := if wrongOf a (t.size : Int) = 0 then strOf (veilOf (by_ k) a (by_ t)) else ⟨#[]⟩
theorem rowS_ok {k : ByteArray} {a : Int} {n : Nat} (h : wrongOf a (n : Int) = 0) : rowS k a (n : Int) = strOf (rowOf (by_ k) a n) := by unfold rowS; rw [if_pos h]; rfl
theorem rowS_bad {k : ByteArray} {a n : Int} (h : wrongOf a n ≠ 0) : rowS k a n = ⟨#[]⟩ := by unfold rowS; rw [if_neg h]
theorem veilS_ok {k : ByteArray} {a : Int} {t : ByteArray} (h : wrongOf a (t.size : Int) = 0) : veilS k a t = strOf (List.zipWith (· ^^^ ·) (by_ t) (rowOf (by_ k) a t.size)) := by unfold veilS veilOf; rw [if_pos h, by_size]
theorem veilS_bad {k : ByteArray} {a : Int} {t : ByteArray} (h : wrongOf a (t.size : Int) ≠ 0) : veilS k a t = ⟨#[]⟩ := by unfold veilS; rw [if_neg h]
set_option maxRecDepth 100000 in
set_option maxHeartbeats 4000000 in
theorem veil_any (k : ByteArray) (hkn : k.size < 150000000000000) (a : Int) (t : ByteArray) (ht : t.size ≤ 9223372036854775807) (w : World) (hk : Consts w) :
    Calls Tryd.prog 41 #[.string k, .int .i64 a, .string t] w fun e w' => e = .returned (.tuple #[.string (veilS k a t), .int .i64 (wrongOf a (t.size : Int))]) ∧ Below w.heap.size w w' := by
  have HK := Lib.hid hk
  have hrow := row_any k hkn a (t.size : Int) w hk
  clear hk hkn
  go_enter Tryd.func41, Tryd.ntmps41
  go_wp2_with fail
  refine hrow.mono ?_
  clear hrow
  rintro e w1 ⟨rfl, hb⟩
  have HB := Lib.hid hb
  clear hb
  by_cases hw : wrongOf a (t.size : Int) = 0
  · have hr := wrongOf_ok hw
    have hS := rowS_ok (k := k) hw
    have hV := veilS_ok (k := k) hw
    have hrl := rowOf_length (by_ k) a t.size
    rw [hS, hw]
    generalize rowOf (by_ k) a t.size = R at hS hV hrl ⊢
    have HV := Lib.hid hV
    have HRL := Lib.hid hrl
    have hts : t.size ≤ 16384 := by omega
    have HW := Lib.hid hw
    generalize hRS : strOf R = RS
    have hRs : RS.size = t.size := by rw [← hRS, strOf_size, hrl]
    have HRS := Lib.hid hRS
    clear hS hV hrl hr hRS hw
    go_upto_region 4 with (fail)
    refine wp_region_lit ?_
    iterate 3 go_step
    obtain ⟨v1, w2, hcv, hO, hG⟩ := conv_own w1 t (by simp only [maxLen]; omega)
    refine wpList_runIs rfl v1 w2 (execConvert 9 29 _ rfl (p := .string t) rfl hcv) ?_
    clear hcv
    have HBS := Lib.hid HB.out.size
    have HB := Lib.hid (HB.out.grown hG HB.out.size (by intro k e; cases e))
    obtain ⟨_, g, cap, cur, fz, rfl, hgb, _, _, _⟩ := id hO
    have HGB := Lib.hid (show w.heap.size ≤ g by have := HBS.out; omega)
    have HO := Lib.hid (show Own1 w2 w.heap.size 5 (.slice (some ⟨g, 0, none⟩) t.size cap) t.size ((vP (by_ t) R 0).map bb) by
      rw [vP_zero]
      obtain ⟨h1, g', cap', cur', fz', hv, hb', r⟩ := hO
      exact ⟨h1, g', cap', cur', fz', hv, by have := HBS.out; omega, r⟩)
    clear hO hG hgb
    simp only [Act.put]
    go_wp2_with fail
    go_loopw [11, 27] (fun v11 v27 wr => ∃ i : Nat, i ≤ t.size ∧ v27 = .int .i64 (i : Int) ∧ Own1 wr w.heap.size 5 (.slice (some ⟨g, 0, none⟩) t.size cap) t.size ((vP (by_ t) R i).map bb) ∧ Below w.heap.size w wr) (fun _ v27 _ => t.size - (intOf v27).toNat)
    case atStart => exact ⟨0, by omega, rfl, HO.out, HB.out⟩
    case round =>
      obtain ⟨i, hi, rfl, hO, hB⟩ := hrel
      clear HO HB
      have HO := Lib.hid hO
      have HB := Lib.hid hB
      clear hO hB
      by_cases hlt : i < t.size
      · have i1 : (i : Int) < (t.size : Int) := by omega
        have i2 : (i : Int) < (RS.size : Int) := by omega
        have hiR : i < RS.size := by omega
        have hc0 := HO.out.cells i (bb ((by_ t).getD i 0)) (by rw [List.getElem?_map, vP_at _ _ _ (by rw [HRL.out, by_size]) (by rw [← by_size]; exact hlt)]; rfl)
        rw [Addr.add_mid, Nat.zero_add] at hc0
        have hcf0 := HO.out.frozen i hlt
        have HX := Lib.hid (vP_set (by_ t) R i (by rw [HRL.out, by_size]) (by rw [← by_size]; exact hlt))
        have hat := strOf_at R i (by rw [HRS.out]; exact hiR)
        have hK0 : g < wr.heap.size := (HO.out.lt g rfl).2
        generalize (by_ t).getD i 0 = x at hc0 HX
        have hRat : RS[i] = R.getD i 0 := by simp only [← HRS.out]; exact strOf_at R i (by rw [HRS.out]; exact hiR)
        have HAT := Lib.hid hRat
        clear hat hRat
        have c0 : ∀ w', KeptOn (fun _ => True) wr.drew w' → w'.cell? ⟨g, i, none⟩ = some (.int .u8 (x.toNat : Int)) := fun w' hR => KeptOn.cell hR (w := wr.drew) hc0 trivial
        have hc00 : wr.cell? ⟨g, i, none⟩ = some (.int .u8 (x.toNat : Int)) := hc0
        have HC00 := Lib.hid hc00
        have HCF0 := Lib.hid hcf0
        clear hc0 hc00 hcf0
        go_upto_region 8 with (fail)
        refine wp_region_keep (KeptOn fun _ => True) (KeptOn.refl _) (KeptOn.trans) [(0,0),(1,0),(2,0),(3,0),(4,0),(5,0),(6,0),(7,0),(8,0),(9,2)] (by kernel_rfl) (by kernel_rfl) ?_
        iterate 9 (refine keep_quiet (v := ?_) rfl (fun _ _ _ h => h) (by rfl) (fun w' hR => ?_) ?_; rotate_left; (go_simp; try with_reducible rfl); simp only [Act.put, List.setIfInBounds_toArray, List.set_cons_zero, List.set_cons_succ])
        clear c0
        simp only [B_xor, HAT.out]
        have hset := HO.out.set_ i hlt (bb (x ^^^ R.getD i 0))
        rw [← List.map_set, HX.out] at hset
        have HO := Lib.hid (show Own1 (wr.drew.setCell ⟨g, i, none⟩ (bb (x ^^^ R.getD i 0))) w.heap.size 5 (.slice (some ⟨g, 0, none⟩) t.size cap) t.size ((vP (by_ t) R (i + 1)).map bb) from hset)
        have HB := Lib.hid (show Below w.heap.size w (wr.drew.setCell ⟨g, i, none⟩ (bb (x ^^^ R.getD i 0))) from (HB.out.drewN 1).setCell (p := ⟨g, i, none⟩) HGB.out (bb (x ^^^ R.getD i 0)))
        clear hset HX HAT
        have hc1 : wr.drew.cell? ⟨g, i, none⟩ = some (.int .u8 (x.toNat : Int)) := HC00.out
        have hcf1 : wr.drew.frozen? ⟨g, i, none⟩ = false := HCF0.out
        generalize R.getD i 0 = y at HO HB ⊢
        refine keep_eff rfl ?_
        go_wp2_with fail
        refine keepPost_free ?_
        refine keep_done ?_
        change Exit.inBlock _ _ _ _ (wr.drew.setCell ⟨g, i, none⟩ (bb (x ^^^ y)))
        generalize wr.drew.setCell ⟨g, i, none⟩ (bb (x ^^^ y)) = w3 at HO HB ⊢
        clear hc1 hcf1
        go_wp2_with fail
        go_roundw
        case rel => exact ⟨i + 1, by omega, by go_num, HO.out, HB.out⟩
        case measure => simp [intOf]; omega
      · have hiN : i = t.size := by omega
        subst hiN
        have hO := HO.out
        have hvl : (vP (by_ t) R t.size).length = t.size := by rw [vP_length _ _ _ (by rw [HRL.out, by_size]), ← by_size]
        have hO2 : OwnB wr w.heap.size (.slice (some ⟨g, 0, none⟩) t.size cap) (vP (by_ t) R t.size) := .inr (by rw [hvl]; exact hO)
        have hE : vP (by_ t) R t.size = List.zipWith (· ^^^ ·) (by_ t) R := by
          rw [by_size]; exact vP_all _ _ (by rw [HRL.out, by_size])
        rw [hE] at hO2
        have HO2 := Lib.hid hO2
        clear hO hO2 hE hvl
        go_upto_region 10 with (fail)
        refine wp_region_lit ?_
        iterate 3 go_step
        refine wpList_ownB_string rfl _ rfl _ _ _ rfl HO2.out ?_
        simp only [Act.put]
        have hT : (⟨(List.zipWith (· ^^^ ·) (by_ t) R).toArray⟩ : ByteArray) = veilS k a t := by rw [HV.out]; rfl
        rw [hT]
        clear hT
        go_wp2_with fail
        go_ret2
        exact ⟨by rw [HW.out]; rfl, HB.out⟩
  · have HV := Lib.hid (veilS_bad (k := k) hw)
    rw [rowS_bad (k := k) hw]
    generalize he : wrongOf a (t.size : Int) = e at hw ⊢
    have HE := Lib.hid he
    clear he
    go_wp2_with fail
    go_ret2
    exact ⟨by rw [HV.out, HE.out]; rfl, HB.out⟩
end Go.Proofs.YtkbcilfcfbfiaaaDoor
