/- A new sum; how many came. -/
import Derived.Test.YtkbcilfcfbfiaaaDoorPad
import Derived.Test.YtkbcilfcfbfiaaaDoorTake
namespace Go.Proofs.YtkbcilfcfbfiaaaDoor
open Go.RowKit Go.Proofs
set_option linter.unusedSimpArgs false
set_option linter.unusedVariables false

theorem wpList_buildIs {P : Program} {ops : Array Oper} {rest : List Oper} {o : Oper} {a : Act} {w : World} {Q : Exit → Act → World → Prop} (hg : o.guard = none) (t : TypeId) (parts : Array (Nat × Operand)) (ho : o.op = .build t parts)
    (cs : Array Value) (hf : P.built t (parts.map fun (i, x) => (i, a.eval x)).toList = some cs) (h : wpList P ops Q rest (a.put o.dst (.agg cs)) w) : wpList P ops Q (o :: rest) a w :=
  wpList_build hg t parts ho (by rw [hf]; rfl) (by rw [hf]; exact h)
set_option maxRecDepth 100000 in
theorem new_any (w : World) :
    Calls Tryd.prog 27 #[] w fun e w' => e = .returned (.pointer (some ⟨w.heap.size, 0, none⟩)) ∧ Holds w' w.heap.size [] ∧ w.heap.size < w'.heap.size ∧ Below w.heap.size w w' := by
  go_enter Tryd.func27, Tryd.ntmps27
  go_upto_region 1 with (fail)
  refine wp_region_lit ?_
  go_step
  go_step
  go_step
  refine wpList_buildIs rfl 94 _ rfl (smC iv (List.replicate 64 0) 0) (by kernel_rfl) ?_
  have hz : Holds (w.alloc (.cells (smC iv (List.replicate 64 0) 0) 94)) w.heap.size [] := ⟨List.replicate 64 0, by simp, by simp [rest], Blk.new _ _ _⟩
  have HZ := Lib.hid hz
  clear hz
  generalize smC iv (List.replicate 64 0) 0 = X at HZ ⊢
  go_wp2_with fail
  go_ret
  exact ⟨rfl, HZ.out, by simp, (Below.refl _ _).alloc (Nat.le_refl _) _⟩
theorem len_any (g : Nat) (bs : List UInt8) (w : World) (h : Holds w g bs) (hb : bs.length < 1600000000000000) :
    Calls Tryd.prog 29 #[.pointer (some ⟨g, 0, none⟩)] w fun e w' => e = .returned (.int .i64 (bs.length : Int)) ∧ w = w' := by
  obtain ⟨p, hp, hq, hB⟩ := h
  have hc := hB.cell 72
  rw [smC_get, smL_many _ _ _ hp] at hc
  have HQ := Lib.hid hq
  have HB := Lib.hid hB
  clear hq hB
  go_enter Tryd.func29, Tryd.ntmps29
  go_wp2_with fail
  go_ret
  exact ⟨rfl, rfl⟩
theorem len_nil (w : World) :
    Calls Tryd.prog 29 #[.pointer none] w fun e w' => e = .returned (.int .i64 0) ∧ w = w' := by
  go_enter Tryd.func29, Tryd.ntmps29
  go_wp2_with fail
  go_ret
  exact ⟨rfl, rfl⟩
end Go.Proofs.YtkbcilfcfbfiaaaDoor
