/- A digest's bytes as a string: the program's Bytes, the reference's. -/
import Derived.Test.YtkbcilfcfbfiaaaDoorBytes
namespace Go.Proofs.YtkbcilfcfbfiaaaDoor
open Go.RowKit Go.Proofs
set_option linter.unusedSimpArgs false
set_option linter.unusedVariables false
def strOf (bs : List UInt8) : ByteArray := ⟨bs.toArray⟩
theorem by_strOf (bs : List UInt8) : by_ (strOf bs) = bs := rfl
theorem strOf_size (bs : List UInt8) : (strOf bs).size = bs.length := rfl
theorem strOf_by (t : ByteArray) : strOf (by_ t) = t := rfl
theorem strOf_append (a b : List UInt8) : strOf a ++ strOf b = strOf (a ++ b) := by
  refine by_ext _ _ ?_
  simp [by_, strOf]
theorem conv_blk (w : World) (g : Nat) (bs : List UInt8) (cap : Nat) (h : Blk w g 25 (bytesC bs)) (n : Nat) (hn : n = bs.length) : (convert 29 9 (.slice (some ⟨g, 0, none⟩) n cap)).run Tryd.prog w = .ok (.string (strOf bs)) w := by
  subst hn
  refine run_convert_bytes_back w 29 9 5 ⟨g, 0, none⟩ cap bs Tryd.underlying29 Tryd.underlying5 Tryd.underlying9 ?_
  intro j hj
  rw [Addr.add_mid, Nat.zero_add]
  refine (h.cell j).trans ?_
  unfold bytesC
  rw [List.getElem?_toArray, List.getElem?_map, List.getElem?_eq_getElem hj]; rfl
set_option maxRecDepth 100000 in
theorem bytes_any (D : List UInt8) (hD : D.length = 32) (w : World) :
    Calls Tryd.prog 39 #[.agg (bytesC D)] w fun e w' => e = .returned (.string (strOf D)) ∧ Below w.heap.size w w' := by
  have HD := Lib.hid hD
  clear hD
  go_enter Tryd.func39, Tryd.ntmps39
  generalize hX : bytesC D = X
  have HX := Lib.hid hX
  clear hX
  go_upto_region 1 with (fail)
  change Code.wp _ _ _ _ (w.alloc (.cells X 25))
  have hz := Blk.new w 25 X
  have HB := Lib.hid ((Below.refl w.heap.size w).alloc (Nat.le_refl _) (.cells X 25))
  generalize w.alloc (.cells X 25) = w2 at hz HB ⊢
  rw [← HX.out] at hz
  have HZ := Lib.hid hz
  clear hz
  refine wp_region_lit ?_
  iterate 3 go_step
  refine wpList_runIs rfl _ w2 (execConvert 29 9 _ rfl (p := .slice (some ⟨w.heap.size, 0, none⟩) 32 32) rfl (conv_blk w2 w.heap.size D 32 HZ.out 32 HD.out.symm)) ?_
  simp only [Act.put]
  go_wp2_with fail
  go_ret
  exact ⟨rfl, HB.out⟩
set_option maxRecDepth 100000 in
theorem rbytes_any (D : List UInt8) (hD : D.length = 32) (w : World) :
    Calls Tryd.prog 37 #[.agg (bytesC D)] w fun e w' => e = .returned (.string (strOf D)) ∧ Below w.heap.size w w' := by
  have HD := Lib.hid hD
  clear hD
  go_enter Tryd.func37, Tryd.ntmps37
  generalize hX : bytesC D = X
  have HX := Lib.hid hX
  clear hX
  go_upto_region 1 with (fail)
  change Code.wp _ _ _ _ (w.alloc (.cells X 25))
  have hz := Blk.new w 25 X
  have HB := Lib.hid ((Below.refl w.heap.size w).alloc (Nat.le_refl _) (.cells X 25))
  have HS := Lib.hid (show w.heap.size + 1 ≤ (w.alloc (.cells X 25)).heap.size by simp)
  generalize w.alloc (.cells X 25) = w2 at hz HB HS ⊢
  rw [← HX.out] at hz
  have HZ := Lib.hid hz
  clear hz HX
  go_wp2_with fail
  go_loopw [3, 4] (fun v u wr => ∃ i : Nat, i ≤ 32 ∧ u = .int .i64 (i : Int) ∧ OwnB wr (w.heap.size + 1) v (D.take i) ∧ Blk wr w.heap.size 25 (bytesC D) ∧ w.heap.size + 1 ≤ wr.heap.size ∧ Below w.heap.size w wr) (fun _ u _ => 32 - (intOf u).toNat)
  case atStart => exact ⟨0, by omega, rfl, OwnB.nil _ _, HZ.out, HS.out, HB.out⟩
  case round =>
    obtain ⟨i, hi, rfl, hO, hZ, hS, hB⟩ := hrel
    clear HZ HS HB
    have HO := Lib.hid hO
    have HZ := Lib.hid hZ
    have HS := Lib.hid hS
    have HB := Lib.hid hB
    clear hO hS hB
    by_cases hlt : i < 32
    · have i1 : (i : Int) < 32 := by omega
      have c0 : wr.cell? ⟨w.heap.size, i, none⟩ = some (.int .u8 ((D.getD i 0).toNat : Int)) := (hZ.cell i).trans (by
        unfold bytesC
        rw [List.getElem?_toArray, List.getElem?_map, List.getD_eq_getElem?_getD, List.getElem?_eq_getElem (by rw [HD.out]; omega)]; rfl)
      have hnext : D.take i ++ [D.getD i 0] = D.take (i + 1) := by
        rw [List.take_add_one, List.getD_eq_getElem?_getD, List.getElem?_eq_getElem (by rw [HD.out]; omega)]; rfl
      have hlen : (D.take i).length = i := by rw [List.length_take, HD.out]; omega
      generalize hP : D.take i = P at *
      generalize D.getD i 0 = c at *
      have HNX := Lib.hid hnext
      clear hZ hnext hP
      go_upto_region 5 with (fail)
      refine wp_region_lit ?_
      iterate 15 go_step
      refine wpList_ownB_byte rfl _ _ rfl (w.heap.size + 1) u3 P rfl HO.out _ c rfl rfl (by omega) HS.out ?_
      intro v' w' hO hG
      have hne : some w.heap.size ≠ u3.ownBlock := fun e => by have := (HO.out.lt _ e.symm).1; omega
      have HZ := Lib.hid (HZ.out.grown hG hne)
      have HS := Lib.hid (show w.heap.size + 1 ≤ w'.heap.size by have := hG.size; have := HS.out; omega)
      have HB := Lib.hid (HB.out.grown hG HB.out.size (fun k hk => by have := (HO.out.lt k hk).1; omega))
      rw [HNX.out] at hO
      have HO := Lib.hid hO
      clear hO hG hne
      simp only [Act.put]
      go_wp2_with fail
      go_roundw
      case rel => exact ⟨i + 1, by omega, by go_num, HO.out, HZ.out, HS.out, HB.out⟩
      case measure => simp [intOf]; omega
    · have hi32 : i = 32 := by omega
      subst hi32
      have hO := HO.out
      rw [List.take_of_length_le (by rw [HD.out]; exact Nat.le_refl _)] at hO
      have HO := Lib.hid hO
      clear hO hZ
      go_upto_region 6 with (fail)
      refine wp_region_lit ?_
      iterate 3 go_step
      refine wpList_ownB_string rfl _ rfl _ u3 D rfl HO.out ?_
      simp only [Act.put]
      go_wp2_with fail
      go_ret
      exact ⟨rfl, HB.out⟩
end Go.Proofs.YtkbcilfcfbfiaaaDoor
