/- SumApart answers true. -/
import Derived.Test.YtkbcilfcfbfiaaaDoorFew
import Derived.Laws.Concat
namespace Go.Proofs.YtkbcilfcfbfiaaaDoor
open Go.RowKit Go.Proofs
set_option linter.unusedSimpArgs false
set_option linter.unusedVariables false
theorem by_app (a b : ByteArray) : by_ (a ++ b) = by_ a ++ by_ b := by
  unfold by_; simp
set_option maxRecDepth 100000 in
set_option maxHeartbeats 2000000 in
theorem sumApart_any (a0 b0 c0 : ByteArray) (w : World) (hk : Consts w) :
    Calls Tryd.prog 6 #[.string a0, .string b0, .string c0] w fun e w' => e = .returned (.bool true) ∧ Below w.heap.size w w' := by
  have HK := Lib.hid hk
  have HKL := Lib.hid hk.lt
  clear hk
  go_enter Tryd.func6, Tryd.ntmps6
  go_wp2_with fail
  refine (new_any w).mono ?_
  rintro e w2 ⟨rfl, hH, hlt, hb⟩
  have HGH := Lib.hid hlt
  have HG := Lib.hid hH
  have HB := Lib.hid hb
  clear hH hlt hb
  go_wp2_with fail
  refine (new_any w2).mono ?_
  rintro e w3 ⟨rfl, hH, hlt, hb⟩
  have HG := Lib.hid (HG.out.below hb HG.out.lt)
  have HH := Lib.hid hH
  have HB := Lib.hid (HB.out.trans (hb.mono HB.out.size))
  clear hH hlt hb
  go_wp2_with fail
  refine (few_any a0 w3).mono ?_
  rintro e w1 ⟨rfl, rfl⟩
  have HA := Lib.hid (fewOf_size a0)
  generalize fewOf a0 = a at HA ⊢
  go_wp2_with fail
  refine (few_any b0 w3).mono ?_
  rintro e w1 ⟨rfl, rfl⟩
  have HBB := Lib.hid (fewOf_size b0)
  generalize fewOf b0 = b at HBB ⊢
  go_wp2_with fail
  refine (few_any c0 w3).mono ?_
  rintro e w1 ⟨rfl, rfl⟩
  have HC := Lib.hid (fewOf_size c0)
  generalize fewOf c0 = c at HC ⊢
  have HGS := Lib.hid (show 0 < w.heap.size from HKL.out)
  generalize hh : w2.heap.size = h at *
  go_wp2_with fail
  refine (awake_any w3 (HK.out.below HB.out)).mono ?_
  rintro e w4 ⟨rfl, hb⟩
  have HG := Lib.hid (HG.out.below hb HG.out.lt)
  have HH := Lib.hid (HH.out.below hb HH.out.lt)
  have HB := Lib.hid (HB.out.trans (hb.mono HB.out.size))
  clear hb
  go_wp2_with fail
  refine (add_any w.heap.size HGS.out [] a w4 (HK.out.below HB.out) HG.out (by have := HA.out; simp; omega)).mono ?_
  rintro e w5 ⟨rfl, hH, hO⟩
  have HG := Lib.hid (show Holds w5 w.heap.size (by_ a) from by simpa using hH)
  have HH := Lib.hid (HH.out.grown hO (by intro e; have := Option.some.inj e; have := HGH.out; omega))
  have HB := Lib.hid (HB.out.grown hO HB.out.size (by intro k e; have := Option.some.inj e; omega))
  clear hH hO
  go_wp2_with fail
  refine (add_any h (by have := HGH.out; omega) [] b w5 (HK.out.below HB.out) HH.out (by have := HBB.out; simp; omega)).mono ?_
  rintro e w6 ⟨rfl, hH, hO⟩
  have HH := Lib.hid (show Holds w6 h (by_ b) from by simpa using hH)
  have HG := Lib.hid (HG.out.grown hO (by intro e; have := Option.some.inj e; have := HGH.out; omega))
  have HB := Lib.hid (HB.out.grown hO HB.out.size (by intro k e; have := Option.some.inj e; have := HGH.out; omega))
  clear hH hO
  go_wp2_with fail
  refine (add_any w.heap.size HGS.out (by_ a) c w6 (HK.out.below HB.out) HG.out (by have := HA.out; have := HC.out; rw [← by_size]; omega)).mono ?_
  rintro e w7 ⟨rfl, hH, hO⟩
  have HG := Lib.hid (show Holds w7 w.heap.size (by_ (a ++ c)) from by rw [by_app]; exact hH)
  have HH := Lib.hid (HH.out.grown hO (by intro e; have := Option.some.inj e; have := HGH.out; omega))
  have HB := Lib.hid (HB.out.grown hO HB.out.size (by intro k e; have := Option.some.inj e; omega))
  clear hH hO
  have hac : (a ++ c).size = a.size + c.size := ByteArray.size_append
  have HAC := Lib.hid hac
  clear hac
  have hcat : ∀ w', (Op.stringOp .add a c).run Tryd.prog w' = .ok (.string (a ++ c)) w' := fun w' => run_string_add_sum w' a c (by have := HA.out; have := HC.out; omega)
  go_wp2_with fail
  refine (summ_any w.heap.size HGS.out (by_ (a ++ c)) w7 (HK.out.below HB.out) HG.out (by rw [← by_size, HAC.out]; have := HA.out; have := HC.out; omega)).mono ?_
  rintro e w8 ⟨rfl, hb⟩
  have HG := Lib.hid (HG.out.below hb HG.out.lt)
  have HH := Lib.hid (HH.out.below hb HH.out.lt)
  have HB := Lib.hid (HB.out.trans (hb.mono HB.out.size))
  clear hb
  go_wp2_with fail
  clear hcat
  refine (rsum_any (a ++ c) w8 (by rw [HAC.out]; have := HA.out; have := HC.out; omega)).mono ?_
  rintro e w9 ⟨rfl, hb⟩
  have HG := Lib.hid (HG.out.below hb HG.out.lt)
  have HH := Lib.hid (HH.out.below hb HH.out.lt)
  have HB := Lib.hid (HB.out.trans (hb.mono HB.out.size))
  clear hb
  have heq := eql_digest (sumOf (by_ (a ++ c))) (sumOf (by_ (a ++ c))) (sumOf_length _) (sumOf_length _) w9
  rw [beq_self_eq_true] at heq
  generalize bytesC (sumOf (by_ (a ++ c))) = X at heq ⊢
  go_wp2_with fail
  clear heq
  refine (summ_any h (by have := HGH.out; omega) (by_ b) w9 (HK.out.below HB.out) HH.out (by rw [← by_size]; have := HBB.out; omega)).mono ?_
  rintro e w10 ⟨rfl, hb⟩
  have HG := Lib.hid (HG.out.below hb HG.out.lt)
  have HB := Lib.hid (HB.out.trans (hb.mono HB.out.size))
  clear hb
  go_wp2_with fail
  refine (rsum_any b w10 (by have := HBB.out; omega)).mono ?_
  rintro e w11 ⟨rfl, hb⟩
  have HG := Lib.hid (HG.out.below hb HG.out.lt)
  have HB := Lib.hid (HB.out.trans (hb.mono HB.out.size))
  clear hb
  have heq := eql_digest (sumOf (by_ b)) (sumOf (by_ b)) (sumOf_length _) (sumOf_length _) w11
  rw [beq_self_eq_true] at heq
  generalize bytesC (sumOf (by_ b)) = Y at heq ⊢
  go_wp2_with fail
  clear heq
  refine (len_any w.heap.size (by_ (a ++ c)) w11 HG.out (by rw [← by_size, HAC.out]; have := HA.out; have := HC.out; omega)).mono ?_
  rintro e w12 ⟨rfl, rfl⟩
  rw [← by_size, HAC.out]
  have ha := HA.out
  have hc := HC.out
  have hcast : ((a.size + c.size : Nat) : Int) = (a.size : Int) + (c.size : Int) := by omega
  rw [hcast]
  clear hcast
  go_wp2_with fail
  go_ret
  exact ⟨rfl, HB.out⟩
end Go.Proofs.YtkbcilfcfbfiaaaDoor
