/- The cell: Open, Room, field. -/
import Derived.Test.YtnddkodenkmoiaaCell3
namespace Go.Proofs.Ytnddkodenkmoiaa
open Go.RowKit Go.Proofs
set_option linter.unusedSimpArgs false
set_option linter.unusedVariables false
theorem room_nil (w : World) :
    Calls Try.prog 31 #[.pointer none] w fun e w' => e = .returned (.int .i64 0) ∧ w = w' := by
  go_enter Try.func31, Try.ntmps31
  go_wp2_with fail
  go_ret
  exact ⟨rfl, rfl⟩
theorem room_any (c d : Nat) (first size : Int) (w : World) (hc : CellAt w c d first size) (h1 : 1 ≤ size) (h2 : size ≤ 255) :
    Calls Try.prog 31 #[.pointer (some ⟨c, 0, none⟩)] w fun e w' => e = .returned (.int .i64 (64 * size)) ∧ w = w' := by
  have c2 := Blk.cell hc 2
  clear hc
  go_enter Try.func31, Try.ntmps31
  go_wp2_with fail
  go_ret
  exact ⟨rfl, rfl⟩
theorem field0_any (c d : Nat) (f size : Nat) (w : World) (hc : CellAt w c d (f : Int) (size : Int)) (h2 : size ≤ 255) (hf : f ≤ 512) :
    Calls Try.prog 55 #[.pointer (some ⟨c, 0, none⟩), .int .i64 0] w fun e w' => e = .returned (.int .i64 ((f : Int) + 2)) ∧ w.drew = w' := by
  have c1 : ∀ w', KeptOn (fun _ => True) w.drew w' → w'.cell? ⟨c, 1, none⟩ = some (.int .i64 (f : Int)) := fun w' h => h.cell (w := w.drew) (Blk.cell hc 1) trivial
  have c2 : ∀ w', KeptOn (fun _ => True) w.drew w' → w'.cell? ⟨c, 2, none⟩ = some (.int .i64 (size : Int)) := fun w' h => h.cell (w := w.drew) (Blk.cell hc 2) trivial
  clear hc
  have hw1 : IntKind.i64.wrap ((f : Int) + 2) = (f : Int) + 2 := IntWalk.i64_in _ (by omega)
  have hw2 : IntKind.i64.wrap (size : Int) = (size : Int) := IntWalk.i64_in _ (by omega)
  have hw3 : IntKind.i64.wrap ((f : Int) + 2 + (size : Int)) = (f : Int) + 2 + (size : Int) := IntWalk.i64_in _ (by omega)
  have hw4 : IntKind.i64.wrap 0 = 0 := IntWalk.i64_in _ (by omega)
  go_enter Try.func55, Try.ntmps55
  go_upto_region 1 with (fail)
  refine wp_region_keep2 (KeptOn fun _ => True) (KeptOn.refl _) (KeptOn.trans) [(0,0),(1,0),(2,0),(3,0),(4,0),(5,0),(6,0),(7,0),(8,0),(9,0),(10,0),(11,0),(12,0)] (by kernel_rfl) (by kernel_rfl) ?_
  iterate 13 (refine keep_quiet (v := ?_) rfl (fun _ _ _ h => h) (by rfl) (fun w' hR => ?_) ?_; rotate_left; (go_simp; try with_reducible rfl); simp only [Act.put, List.setIfInBounds_toArray, List.set_cons_zero, List.set_cons_succ])
  refine keep_done ?_
  clear hw1 hw2 hw3 hw4
  go_wp2_with fail
  go_ret
  exact ⟨rfl, rfl⟩
theorem field1_any (c d : Nat) (f size : Nat) (w : World) (hc : CellAt w c d (f : Int) (size : Int)) (h2 : size ≤ 255) (hf : f ≤ 512) :
    Calls Try.prog 55 #[.pointer (some ⟨c, 0, none⟩), .int .i64 1] w fun e w' => e = .returned (.int .i64 ((f : Int) + 2 + (size : Int))) ∧ w.drew = w' := by
  have c1 : ∀ w', KeptOn (fun _ => True) w.drew w' → w'.cell? ⟨c, 1, none⟩ = some (.int .i64 (f : Int)) := fun w' h => h.cell (w := w.drew) (Blk.cell hc 1) trivial
  have c2 : ∀ w', KeptOn (fun _ => True) w.drew w' → w'.cell? ⟨c, 2, none⟩ = some (.int .i64 (size : Int)) := fun w' h => h.cell (w := w.drew) (Blk.cell hc 2) trivial
  clear hc
  have hw1 : IntKind.i64.wrap ((f : Int) + 2) = (f : Int) + 2 := IntWalk.i64_in _ (by omega)
  have hw2 : IntKind.i64.wrap (size : Int) = (size : Int) := IntWalk.i64_in _ (by omega)
  have hw3 : IntKind.i64.wrap ((f : Int) + 2 + (size : Int)) = (f : Int) + 2 + (size : Int) := IntWalk.i64_in _ (by omega)
  have hw4 : IntKind.i64.wrap 0 = 0 := IntWalk.i64_in _ (by omega)
  go_enter Try.func55, Try.ntmps55
  go_upto_region 1 with (fail)
  refine wp_region_keep2 (KeptOn fun _ => True) (KeptOn.refl _) (KeptOn.trans) [(0,0),(1,0),(2,0),(3,0),(4,0),(5,0),(6,0),(7,0),(8,0),(9,0),(10,0),(11,0),(12,0)] (by kernel_rfl) (by kernel_rfl) ?_
  iterate 13 (refine keep_quiet (v := ?_) rfl (fun _ _ _ h => h) (by rfl) (fun w' hR => ?_) ?_; rotate_left; (go_simp; try with_reducible rfl); simp only [Act.put, List.setIfInBounds_toArray, List.set_cons_zero, List.set_cons_succ])
  refine keep_done ?_
  clear hw1 hw2 hw3 hw4
  go_wp2_with fail
  go_ret
  exact ⟨rfl, rfl⟩
theorem open_nil (first size : Int) (w : World) :
    Calls Try.prog 27 #[.pointer none, .int .i64 first, .int .i64 size] w fun e w' => e = .returned (.tuple #[.pointer none, .int .i64 1]) ∧ w = w' := by
  go_enter Try.func27, Try.ntmps27
  go_wp2_with fail
  go_ret2
  exact ⟨rfl, rfl⟩
/-- Open of a disk that is up, with a place that there is. -/
theorem open_any (d g f size : Nat) (x : Dk) (w : World) (hD : DiskAt w d g x) (hdn : x.down = false) (h1 : 1 ≤ size) (h2 : size ≤ 255) (hf : f + 2 + 2 * size ≤ x.L.length) :
    Calls Try.prog 27 #[.pointer (some ⟨d, 0, none⟩), .int .i64 (f : Int), .int .i64 (size : Int)] w fun e w' => e = .returned (.tuple #[.pointer (some ⟨w.heap.size, 0, none⟩), .int .i64 0]) ∧ CellAt w' w.heap.size d (f : Int) (size : Int) ∧ Below w.heap.size w w' := by
  have HD := Lib.hid hD
  have HN := Lib.hid hdn
  have hlen := hD.2.2.2.2
  clear hD hdn
  go_enter Try.func27, Try.ntmps27
  go_wp2_with fail
  refine (sectors_any d g x w HD.out).mono ?_
  rintro e w' ⟨rfl, rfl⟩
  go_wp2_with fail
  refine (down_any d g x w HD.out).mono ?_
  rintro e w' ⟨rfl, rfl⟩
  rw [HN.out]
  go_wp2_with fail
  go_ret2
  exact ⟨rfl, Blk.new w 97 _, (Below.refl _ _).alloc (Nat.le_refl _) _⟩
end Go.Proofs.Ytnddkodenkmoiaa
