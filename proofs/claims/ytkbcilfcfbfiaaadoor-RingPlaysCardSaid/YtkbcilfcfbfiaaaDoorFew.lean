/- The law's own small functions: few, awake. -/
import Derived.Test.YtkbcilfcfbfiaaaDoorRsum
import Derived.Test.YtkbcilfcfbfiaaaDoorSum
import Derived.Test.YtkbcilfcfbfiaaaDoorAbc
import Derived.Stop.BytesEq
namespace Go.Proofs.YtkbcilfcfbfiaaaDoor
open Go.RowKit Go.Proofs
set_option linter.unusedSimpArgs false
set_option linter.unusedVariables false

theorem eql_digest (xs ys : List UInt8) (hx : xs.length = 32) (hy : ys.length = 32) (w : World) : (Op.equalIn 10000 25 (.agg (bytesC xs)) (.agg (bytesC ys))).run Tryd.prog w = .ok (xs == ys) w :=
  run_equalIn_bytes (P := Tryd.prog) w 9998 25 5 32 Tryd.underlying25 Tryd.underlying5 size5 xs ys hx hy
theorem sumOf_length (bs : List UInt8) : (sumOf bs).length = 32 := dg_length _
def fewOf (t : ByteArray) : ByteArray := if 2000 < t.size then t.extract 0 2000 else t
theorem fewOf_size (t : ByteArray) : (fewOf t).size ≤ 2000 := by
  unfold fewOf; split
  · rw [ByteArray.size_extract]; omega
  · omega
theorem few_any (t : ByteArray) (w : World) :
    Calls Tryd.prog 23 #[.string t] w fun e w' => e = .returned (.string (fewOf t)) ∧ w = w' := by
  go_enter Tryd.func23, Tryd.ntmps23
  by_cases h : 2000 < t.size
  · have e : fewOf t = t.extract 0 2000 := by unfold fewOf; rw [if_pos h]
    have E := Lib.hid e
    clear e
    go_wp2_with fail
    go_ret
    exact ⟨by rw [E.out]; rfl, rfl⟩
  · have e : fewOf t = t := by unfold fewOf; rw [if_neg h]
    have E := Lib.hid e
    clear e
    go_wp2_with fail
    go_ret
    exact ⟨by rw [E.out]; rfl, rfl⟩
def abc : ByteArray := ⟨#[97, 98, 99]⟩
set_option maxRecDepth 100000 in
set_option maxHeartbeats 2000000 in
theorem awake_any (w : World) (hk : Consts w) :
    Calls Tryd.prog 24 #[] w fun e w' => e = .returned (.bool true) ∧ Below w.heap.size w w' := by
  have HK := Lib.hid hk
  clear hk
  go_enter Tryd.func24, Tryd.ntmps24
  go_upto_region 1 with (fail)
  refine wp_region_lit ?_
  iterate 2 go_step
  refine (sum_any abc w HK.out (by decide)).mono ?_
  rintro e w2 ⟨rfl, hb⟩
  have hl := sumOf_length (by_ abc)
  have a0 : (sumOf (by_ abc))[0]? = some 0xba := abc0.1
  have a1 : (sumOf (by_ abc))[1]? = some 0x78 := abc0.2.1
  have a31 : (sumOf (by_ abc))[31]? = some 0xad := abc0.2.2
  generalize sumOf (by_ abc) = D at a0 a1 a31 hl ⊢
  have A0 := Lib.hid a0
  have A1 := Lib.hid a1
  have A31 := Lib.hid a31
  have HB := Lib.hid hb
  have HL := Lib.hid hl
  clear a0 a1 a31 hb hl
  dsimp only
  iterate 4 go_step
  change wpList _ _ _ _ _ (w2.alloc (.cells z32 25))
  have hz := Blk.new w2 25 z32
  have hD : (bytesC D).size = 32 := by rw [bytesC_size, HL.out]
  refine wpList_store_mid rfl 25 _ _ rfl w2.heap.size 0 (bytesC D) rfl rfl (hz.there 0 _ (by rw [hD, z32_size]; exact Nat.le_refl _)) (by rw [hD]; kernel_rfl) (bytesC_one _) ?_
  refine wpList_nil ?_
  simp only [Act.put]
  have hz2 := hz.setCells (bytesC D).toList 0
  rw [putAll_all _ _ (by rw [hD, z32_size])] at hz2
  have HB := Lib.hid (Below.setCells' (b := w2.heap.size) (bytesC D).toList HB.out.size 0 (HB.out.alloc HB.out.size (.cells z32 25)))
  clear hz hD
  generalize (w2.alloc (.cells z32 25)).setCells w2.heap.size 0 (bytesC D).toList = w3 at hz2 HB ⊢
  generalize w2.heap.size = g at hz2 ⊢
  have c0 : w3.cell? ⟨g, 0, none⟩ = some (.int .u8 186) := (hz2.cell 0).trans (by unfold bytesC; rw [List.getElem?_toArray, List.getElem?_map, A0.out]; rfl)
  have c1 : w3.cell? ⟨g, 1, none⟩ = some (.int .u8 120) := (hz2.cell 1).trans (by unfold bytesC; rw [List.getElem?_toArray, List.getElem?_map, A1.out]; rfl)
  have c31 : w3.cell? ⟨g, 31, none⟩ = some (.int .u8 173) := (hz2.cell 31).trans (by unfold bytesC; rw [List.getElem?_toArray, List.getElem?_map, A31.out]; rfl)
  clear hz2
  have hg0 : 0 < w3.heap.size := Nat.lt_of_lt_of_le HK.out.lt HB.out.size
  go_wp2_with fail
  refine (new_any w3).mono ?_
  rintro e w4 ⟨rfl, hH, hlt, hb⟩
  have HH := Lib.hid hH
  have HB := Lib.hid (HB.out.trans (hb.mono HB.out.size))
  clear hH hlt hb c0 c1 c31
  go_wp2_with fail
  refine (summ_any w3.heap.size hg0 [] w4 (HK.out.below HB.out) HH.out (by simp)).mono ?_
  rintro e w5 ⟨rfl, hb⟩
  have HB := Lib.hid (HB.out.trans (hb.mono HB.out.size))
  clear hb
  have hl := sumOf_length []
  have hE : by_ ⟨#[]⟩ = [] := rfl
  have HE := Lib.hid hE
  clear hE
  go_wp2_with fail
  refine (rsum_any ⟨#[]⟩ w5 (by decide)).mono ?_
  rintro e w6 ⟨rfl, hb⟩
  have HB := Lib.hid (HB.out.trans (hb.mono HB.out.size))
  clear hb
  rw [HE.out]
  have heq := eql_digest (sumOf []) (sumOf []) hl hl w6
  rw [beq_self_eq_true] at heq
  generalize bytesC (sumOf []) = X at heq ⊢
  clear hl
  go_wp2_with fail
  go_ret
  exact ⟨rfl, HB.out⟩
end Go.Proofs.YtkbcilfcfbfiaaaDoor
