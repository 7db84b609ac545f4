/- SumSums answers true. -/
import Derived.Test.YtkbcilfcfbfiaaaDoorFew
namespace Go.Proofs.YtkbcilfcfbfiaaaDoor
open Go.RowKit Go.Proofs
set_option linter.unusedSimpArgs false
set_option linter.unusedVariables false
set_option maxRecDepth 100000 in
set_option maxHeartbeats 2000000 in
theorem sumSums_any (t : ByteArray) (w : World) (hk : Consts w) :
    Calls Tryd.prog 3 #[.string t] w fun e w' => e = .returned (.bool true) ∧ Below w.heap.size w w' := by
  have HK := Lib.hid hk
  clear hk
  go_enter Tryd.func3, Tryd.ntmps3
  go_wp2_with fail
  refine (few_any t w).mono ?_
  rintro e w1 ⟨rfl, rfl⟩
  have hf := fewOf_size t
  generalize fewOf t = u at hf ⊢
  have HF := Lib.hid hf
  clear hf
  go_wp2_with fail
  refine (awake_any w HK.out).mono ?_
  rintro e w2 ⟨rfl, hb⟩
  have HB := Lib.hid hb
  clear hb
  go_wp2_with fail
  refine (sum_any u w2 (HK.out.below HB.out) (by have := HF.out; omega)).mono ?_
  rintro e w3 ⟨rfl, hb⟩
  have HB := Lib.hid (HB.out.trans (hb.mono HB.out.size))
  clear hb
  go_wp2_with fail
  refine (rsum_any u w3 (by have := HF.out; omega)).mono ?_
  rintro e w4 ⟨rfl, hb⟩
  have HB := Lib.hid (HB.out.trans (hb.mono HB.out.size))
  clear hb
  have heq := eql_digest (sumOf (by_ u)) (sumOf (by_ u)) (sumOf_length _) (sumOf_length _) w4
  rw [beq_self_eq_true] at heq
  generalize bytesC (sumOf (by_ u)) = X at heq ⊢
  go_wp2_with fail
  go_ret
  exact ⟨rfl, HB.out⟩
end Go.Proofs.YtkbcilfcfbfiaaaDoor
