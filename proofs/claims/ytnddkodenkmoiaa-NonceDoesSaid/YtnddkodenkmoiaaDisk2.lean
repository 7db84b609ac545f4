/- The disk: New. -/
import Derived.Test.YtnddkodenkmoiaaDisk1
import Derived.OwnWalk
import Derived.Laws.OwnMore
namespace Go.Proofs.Ytnddkodenkmoiaa
open Go.RowKit Go.Proofs
set_option linter.unusedSimpArgs false
set_option linter.unusedVariables false
def z64 : List UInt8 := List.replicate 64 0
def sec0 : Sec := ⟨z64, z64, false⟩
theorem z64_length : z64.length = 64 := by unfold z64; rw [List.length_replicate]
theorem sec0_ok : sec0.ok := ⟨z64_length, z64_length⟩
/-- New: what is answered. -/
def newR (n : Int) : Int := if n < 1 ∨ 512 < n then 2 else 0
def dk0 (n : Nat) : Dk := ⟨List.replicate n sec0, 0, false⟩
theorem made_row (n : Nat) : (madeCells (secC sec0).toArray (n * 129)).toList = rowC (List.replicate n sec0) := by
  have hz : (secC sec0).length = 129 := secC_length sec0_ok
  have hk : okL (List.replicate n sec0) := fun s hs => by rw [(List.mem_replicate.1 hs).2]; exact sec0_ok
  have hl := rowC_length hk
  rw [List.length_replicate] at hl
  refine List.ext_getElem? fun k => ?_
  by_cases hk2 : k < n * 129
  · have h1 := Nat.div_add_mod k 129
    have h2 : k % 129 < 129 := Nat.mod_lt _ (by omega)
    have h3 : k / 129 < n := by omega
    have hR := rowC_get hk (k / 129) (k % 129) h2
    rw [h1, List.getElem?_replicate, if_pos h3] at hR
    rw [hR]
    show _ = (secC sec0)[k % 129]?
    unfold madeCells
    rw [Array.toList_map, List.getElem?_map, Array.toList_range, List.getElem?_range hk2]
    show some ((secC sec0).toArray[k % (secC sec0).toArray.size]!) = _
    rw [List.size_toArray, hz, List.getElem!_toArray, List.getElem?_eq_getElem (by omega)]
    simp [List.getElem!_eq_getElem?_getD, List.getElem?_eq_getElem (show k % 129 < (secC sec0).length by omega)]
  · rw [List.getElem?_eq_none (by rw [Array.length_toList, size_madeCells]; omega), List.getElem?_eq_none (by omega)]
set_option maxRecDepth 100000 in
set_option maxHeartbeats 2000000 in
theorem new_any (n : Int) (w : World) :
    Calls Try.prog 21 #[.int .i64 n] w fun e w' => ((newR n ≠ 0 ∧ e = .returned (.tuple #[.pointer none, .int .i64 2]) ∧ w = w') ∨
      (newR n = 0 ∧ ∃ d g, w.heap.size ≤ d ∧ w.heap.size ≤ g ∧ e = .returned (.tuple #[.pointer (some ⟨d, 0, none⟩), .int .i64 0]) ∧ DiskAt w' d g (dk0 n.toNat) ∧ Below w.heap.size w w')) := by
  go_enter Try.func21, Try.ntmps21
  by_cases h1 : n < 1
  · have HR := Lib.hid (show newR n ≠ 0 by unfold newR; rw [if_pos (by omega)]; decide)
    go_wp2_with fail
    go_ret2
    exact .inl ⟨HR.out, rfl, rfl⟩
  · by_cases h2 : 512 < n
    · have HR := Lib.hid (show newR n ≠ 0 by unfold newR; rw [if_pos (by omega)]; decide)
      go_wp2_with fail
      go_ret2
      exact .inl ⟨HR.out, rfl, rfl⟩
    · have HR := Lib.hid (show newR n = 0 by unfold newR; rw [if_neg (by omega)])
      obtain ⟨m, rfl⟩ : ∃ m : Nat, n = (m : Int) := ⟨n.toNat, by omega⟩
      have hm1 : 1 ≤ m := by omega
      have hm2 : m ≤ 512 := by omega
      go_upto_region 3 with (fail)
      have hs : (Try.prog.info? 93).map (fun i => (i.size, i.bytes, i.zero)) = some (129, 129, some (.agg (secC sec0).toArray)) := by kernel_rfl
      obtain ⟨i, hi, hi2⟩ := Option.map_eq_some_iff.1 hs
      simp only [Prod.mk.injEq] at hi2
      obtain ⟨e1, e2, e3⟩ := hi2
      refine wp_region_lit ?_
      iterate 3 go_step
      refine wpList_make_full w rfl _ _ 87 rfl w.heap.size 93 i (.agg (secC sec0).toArray) 129 Try.underlying87 hi e3 e1 .i64 .i64 (m : Int) (m : Int) m rfl rfl rfl rfl (by rw [e2]; omega) (by simp only [maxLen]; omega) (Nat.le_refl _) ?_
      intro w2 hO hG
      have hB : Blk w2 w.heap.size 93 (rowC (List.replicate m sec0)).toArray := by
        obtain ⟨h1, ⟨h, _⟩ | ⟨g, cap, cur, hv, h2, h3, h4, h5, h6, h7⟩⟩ := hO
        · cases h
        · simp only [Value.slice.injEq, Option.some.injEq, Addr.mk.injEq] at hv
          obtain ⟨⟨rfl, _⟩, _, rfl⟩ := hv
          have h8 : cur.toList.take (m * 129) = (madeCells (secC sec0).toArray (m * 129)).toList := h7
          rw [made_row, List.take_of_length_le (by rw [Array.length_toList]; omega)] at h8
          have h9 : cur = (rowC (List.replicate m sec0)).toArray := (Array.toArray_toList).symm.trans (congrArg List.toArray h8)
          rw [h9] at h3
          exact h3
      have HB := Lib.hid (below_of_grown (B := w.heap.size) hG (Nat.le_refl _))
      have HBL := Lib.hid hB
      clear hO hG hB hi e1 e2 e3 hs
      simp only [Act.put]
      go_wp2_with fail
      go_ret2
      have hd : DiskAt (w2.alloc (.cells #[.slice (some ⟨w.heap.size, 0, none⟩) m m, .int .i64 0, .bool false] 89)) w2.heap.size w.heap.size (dk0 m) := by
        have hl : (dk0 m).L.length = m := by unfold dk0; exact List.length_replicate
        refine ⟨?_, HBL.out.alloc _, fun s hs => ?_, by rw [hl]; exact hm1, by rw [hl]; exact hm2⟩
        · rw [hl]; exact Blk.new w2 89 _
        · rw [(List.mem_replicate.1 hs).2]; exact sec0_ok
      exact .inr ⟨HR.out, w2.heap.size, HB.out.size, w.heap.size, Nat.le_refl _, rfl, hd, HB.out.alloc HB.out.size _⟩
end Go.Proofs.Ytnddkodenkmoiaa
