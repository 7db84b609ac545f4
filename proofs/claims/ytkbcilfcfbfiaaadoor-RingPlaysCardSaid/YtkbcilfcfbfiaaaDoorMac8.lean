/- Keys of keys; few; what must come at any rate. -/
import Derived.Test.YtkbcilfcfbfiaaaDoorMac7
namespace Go.Proofs.YtkbcilfcfbfiaaaDoor
open Go.RowKit Go.Proofs
set_option linter.unusedSimpArgs false
set_option linter.unusedVariables false
theorem RowS.two (w : World) (a b : ByteArray) : RowS (w.alloc (.cells #[.string a, .string b] 9)) (.slice (some ⟨w.heap.size, 0, none⟩) 2 2) [a, b] := by
  have hb := Blk.new w 9 #[.string a, .string b]
  refine .inr ⟨_, 2, rfl, fun j t hj => ?_⟩
  rw [Addr.add_mid, Nat.zero_add]
  refine (hb.cell j).trans ?_
  match j, hj with
  | 0, hj => obtain rfl := Option.some.inj hj; rfl
  | 1, hj => obtain rfl := Option.some.inj hj; rfl
theorem RowS.one (w : World) (a : ByteArray) : RowS (w.alloc (.cells #[.string a] 9)) (.slice (some ⟨w.heap.size, 0, none⟩) 1 1) [a] := by
  have hb := Blk.new w 9 #[.string a]
  refine .inr ⟨_, 1, rfl, fun j t hj => ?_⟩
  rw [Addr.add_mid, Nat.zero_add]
  refine (hb.cell j).trans ?_
  match j, hj with
  | 0, hj => obtain rfl := Option.some.inj hj; rfl
theorem textOf_length (l : List UInt8) (h : l.length ≤ 16384) : (textOf l).length ≤ 20 + 1 + 16384 := by
  have := digs_size l.length (by omega)
  unfold textOf; simp; omega
theorem madeOf_ok (k l : List UInt8) (n : Int) (h : l.length ≤ 16384) : madeOf k l n = tagOf k (textOf l ++ numOf n) := by unfold madeOf; rw [if_neg (by omega)]
theorem madeOf_big (k l : List UInt8) (n : Int) (h : 16384 < l.length) : madeOf k l n = [] := by unfold madeOf; rw [if_pos h]
set_option maxRecDepth 100000 in
set_option maxHeartbeats 2000000 in
theorem make_any (k l : ByteArray) (n : Int) (h1 : -9223372036854775808 ≤ n) (h2 : n ≤ 9223372036854775807) (w : World) (hk : Consts w) (hkn : k.size < 150000000000000) :
    Calls Tryd.prog 35 #[.string k, .string l, .int .i64 n] w fun e w' => e = .returned (.string (strOf (madeOf (by_ k) (by_ l) n))) ∧ Below w.heap.size w w' := by
  have HK := Lib.hid hk
  have HKN := Lib.hid hkn
  clear hk hkn
  go_enter Tryd.func35, Tryd.ntmps35
  go_wp2_with fail
  by_cases hbig : 16384 < l.size
  · refine (text_big l w hbig).mono ?_
    rintro e w2 ⟨rfl, rfl⟩
    have HM := Lib.hid (madeOf_big (by_ k) (by_ l) n (by rw [← by_size]; exact hbig))
    go_wp2_with fail
    go_ret
    exact ⟨by rw [HM.out]; rfl, Below.refl _ _⟩
  · refine (text_any l w (by omega)).mono ?_
    rintro e w2 ⟨rfl, hb⟩
    have HB := Lib.hid hb
    have HTL := Lib.hid (textOf_length (by_ l) (by rw [← by_size]; omega))
    have HM := Lib.hid (madeOf_ok (by_ k) (by_ l) n (by rw [← by_size]; omega))
    clear hb
    generalize textOf (by_ l) = T at HTL HM ⊢
    generalize hTs : strOf T = Ts
    have HTs := Lib.hid hTs
    clear hTs
    go_wp2_with fail
    refine (number_any n h1 h2 w2).mono ?_
    rintro e w3 ⟨rfl, hb⟩
    have HB := Lib.hid (HB.out.trans (hb.mono HB.out.size))
    have HNL := Lib.hid (numOf_length n (by omega))
    clear hb
    generalize numOf n = U at HNL HM ⊢
    generalize hUs : strOf U = Us
    have HUs := Lib.hid hUs
    clear hUs
    go_wp2_with fail
    have hR := RowS.two w3 Ts Us
    have HB := Lib.hid (HB.out.alloc HB.out.size (.cells #[.string Ts, .string Us] 9))
    generalize w3.alloc (.cells #[.string Ts, .string Us] 9) = w4 at hR HB ⊢
    have hj : joinS [Ts, Us] = T ++ U := by rw [← HTs.out, ← HUs.out]; simp [joinS, by_strOf]
    have hc := tag_any k [Ts, Us] _ w4 (HK.out.below HB.out) HKN.out hR (by rw [hj, List.length_append]; have := HTL.out; have := HNL.out; omega) (by simp)
    rw [hj] at hc
    refine hc.mono ?_
    clear hc hj hR
    rintro e w5 ⟨rfl, hb⟩
    have HB := Lib.hid (HB.out.trans (hb.mono HB.out.size))
    clear hb
    have hl := tagOf_length (by_ k) (T ++ U)
    generalize tagOf (by_ k) (T ++ U) = G at hl HM ⊢
    have hby := bytes_any G hl w5
    clear hl
    generalize bytesC G = X at hby ⊢
    go_wp2_with fail
    refine hby.mono ?_
    clear hby
    rintro e w6 ⟨rfl, hb⟩
    have HB := Lib.hid (HB.out.trans (hb.mono HB.out.size))
    clear hb
    go_wp2_with fail
    go_ret
    exact ⟨by rw [HM.out]; rfl, HB.out⟩
set_option maxRecDepth 100000 in
set_option maxHeartbeats 2000000 in
theorem rmake_any (k l : ByteArray) (n : Int) (h1 : -9223372036854775808 ≤ n) (h2 : n ≤ 9223372036854775807) (w : World) (hkn : k.size < 150000000000000) :
    Calls Tryd.prog 36 #[.string k, .string l, .int .i64 n] w fun e w' => e = .returned (.string (strOf (madeOf (by_ k) (by_ l) n))) ∧ Below w.heap.size w w' := by
  have HKN := Lib.hid hkn
  clear hkn
  go_enter Tryd.func36, Tryd.ntmps36
  go_wp2_with fail
  by_cases hbig : 16384 < l.size
  · refine (rtext_big l w hbig).mono ?_
    rintro e w2 ⟨rfl, rfl⟩
    have HM := Lib.hid (madeOf_big (by_ k) (by_ l) n (by rw [← by_size]; exact hbig))
    go_wp2_with fail
    go_ret
    exact ⟨by rw [HM.out]; rfl, Below.refl _ _⟩
  · refine (rtext_any l w (by omega)).mono ?_
    rintro e w2 ⟨rfl, hb⟩
    have HB := Lib.hid hb
    have HTL := Lib.hid (textOf_length (by_ l) (by rw [← by_size]; omega))
    have HM := Lib.hid (madeOf_ok (by_ k) (by_ l) n (by rw [← by_size]; omega))
    clear hb
    generalize textOf (by_ l) = T at HTL HM ⊢
    generalize hTs : strOf T = Ts
    have HTs := Lib.hid hTs
    clear hTs
    go_wp2_with fail
    refine (rnumber_any n h1 h2 w2).mono ?_
    rintro e w3 ⟨rfl, hb⟩
    have HB := Lib.hid (HB.out.trans (hb.mono HB.out.size))
    have HNL := Lib.hid (numOf_length n (by omega))
    clear hb
    generalize numOf n = U at HNL HM ⊢
    have hcat := cat_run T U (by have := HTL.out; have := HNL.out; omega)
    rw [HTs.out] at hcat
    have hsz : (strOf (T ++ U)).size < 90000000 := by rw [strOf_size, List.length_append]; have := HTL.out; have := HNL.out; omega
    have hc := fun w => rtag_any k (strOf (T ++ U)) w HKN.out hsz
    rw [by_strOf] at hc
    have HC := Lib.hid hc
    clear hc hsz
    generalize strOf U = Us at hcat ⊢
    generalize strOf (T ++ U) = TUs at hcat HC
    go_wp2_with fail
    refine (HC.out w3).mono ?_
    clear hcat
    rintro e w5 ⟨rfl, hb⟩
    have HB := Lib.hid (HB.out.trans (hb.mono HB.out.size))
    clear hb
    have hl := tagOf_length (by_ k) (T ++ U)
    generalize tagOf (by_ k) (T ++ U) = G at hl HM ⊢
    have hby := rbytes_any G hl w5
    clear hl
    generalize bytesC G = X at hby ⊢
    go_wp2_with fail
    refine hby.mono ?_
    clear hby
    rintro e w6 ⟨rfl, hb⟩
    have HB := Lib.hid (HB.out.trans (hb.mono HB.out.size))
    clear hb
    go_wp2_with fail
    go_ret
    exact ⟨by rw [HM.out]; rfl, HB.out⟩
def few15 (t : ByteArray) : ByteArray := if 1500 < t.size then t.extract 0 1500 else t
theorem few15_size (t : ByteArray) : (few15 t).size ≤ 1500 := by
  unfold few15; split
  · rw [ByteArray.size_extract]; omega
  · omega
theorem few15_any (t : ByteArray) (w : World) :
    Calls Tryd.prog 31 #[.string t] w fun e w' => e = .returned (.string (few15 t)) ∧ w = w' := by
  go_enter Tryd.func31, Tryd.ntmps31
  by_cases h : 1500 < t.size
  · have e : few15 t = t.extract 0 1500 := by unfold few15; rw [if_pos h]
    have E := Lib.hid e
    clear e
    go_wp2_with fail
    go_ret
    exact ⟨by rw [E.out]; rfl, rfl⟩
  · have e : few15 t = t := by unfold few15; rw [if_neg h]
    have E := Lib.hid e
    clear e
    go_wp2_with fail
    go_ret
    exact ⟨by rw [E.out]; rfl, rfl⟩
end Go.Proofs.YtkbcilfcfbfiaaaDoor
