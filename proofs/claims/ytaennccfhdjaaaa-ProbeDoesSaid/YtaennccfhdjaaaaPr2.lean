/- The prober's row: Swap. -/
import Derived.Test.YtaennccfhdjaaaaPr1
namespace Go.Proofs.Ytaennccfhdjaaaa
open Go.RowKit Go.Proofs
set_option linter.unusedSimpArgs false
set_option linter.unusedVariables false
set_option maxRecDepth 100000 in
set_option maxHeartbeats 1000000 in
theorem swap_any (g m cap i j : Nat) (f : Nat → En) (w : World) (base : Nat) (ho : w.ownsRow base 53 2 (.slice (some ⟨g, 0, none⟩) m cap) m (flatE f m)) (hi : i < m) (hj : j < m) :
    Calls Try.prog 50 #[.slice (some ⟨g, 0, none⟩) m cap, .int .i64 i, .int .i64 j] w fun e w' => e = .returned (.tuple #[]) ∧ w'.ownsRow base 53 2 (.slice (some ⟨g, 0, none⟩) m cap) m (flatE (swp f i j) m) ∧ w.grownBy w' (some g) := by
  obtain ⟨ci1, ci2⟩ := owns_cells ho hi
  obtain ⟨cj1, cj2⟩ := owns_cells ho hj
  have hf := ho.frozenAt
  have hfl := flatE_swp f hi hj
  have hs1 := stored2 ho hi (f j)
  have hs2 := fun w1 h => stored2 (w := w1) (base := base) (e := 53) (g := g) (cap := cap) (f := putE f i (f j)) h hj (f i)
  rw [hfl] at hs2
  generalize flatE (swp f i j) m = F at hs2 ⊢
  have hG1 := flatE_due (putE f i (f j)) hj
  have hG2 := flatE_who (putE f i (f j)) hj
  generalize flatE (putE f i (f j)) m = F1 at hs1 hs2 hG1 hG2
  generalize putE f i (f j) j = z at hG1 hG2
  clear hfl ho
  generalize f i = x at ci1 ci2 hs2
  generalize f j = y at cj1 cj2 hs1
  obtain ⟨a1, a2⟩ := x
  obtain ⟨b1, b2⟩ := y
  have i0 : (0 : Int) ≤ (i : Int) := by omega
  have i1 : (i : Int) < (m : Int) := by omega
  have j0 : (0 : Int) ≤ (j : Int) := by omega
  have j1 : (j : Int) < (m : Int) := by omega
  go_enter Try.func50, Try.ntmps50
  go_upto_region 0 with (fail)
  refine wp_region_pure (fun a b => a = b) (fun _ => rfl) (fun _ _ _ h h' => h.trans h') [(0,3),(1,3),(2,3),(3,3),(4,3),(5,3),(6,3),(7,0),(8,3),(9,3),(10,3),(11,0),(12,3),(13,2),(14,3),(15,2)] (by kernel_rfl) (by kernel_rfl) ?_
  iterate 7 (refine pure_pure (v := ?_) rfl (fun _ _ _ h => h) (by rfl) (fun w' => ?_) ?_; rotate_left; (go_simp; try with_reducible rfl); simp only [Act.put, List.setIfInBounds_toArray, List.set_cons_zero, List.set_cons_succ])
  iterate 1 (refine pure_quiet (v := ?_) rfl (fun _ _ _ h => h) (by rfl) (fun w' hR => ?_) ?_; rotate_left; (subst hR; go_simp; try with_reducible rfl); simp only [Act.put, List.setIfInBounds_toArray, List.set_cons_zero, List.set_cons_succ])
  iterate 3 (refine pure_pure (v := ?_) rfl (fun _ _ _ h => h) (by rfl) (fun w' => ?_) ?_; rotate_left; (go_simp; try with_reducible rfl); simp only [Act.put, List.setIfInBounds_toArray, List.set_cons_zero, List.set_cons_succ])
  iterate 1 (refine pure_quiet (v := ?_) rfl (fun _ _ _ h => h) (by rfl) (fun w' hR => ?_) ?_; rotate_left; (subst hR; go_simp; try with_reducible rfl); simp only [Act.put, List.setIfInBounds_toArray, List.set_cons_zero, List.set_cons_succ])
  iterate 1 (refine pure_pure (v := ?_) rfl (fun _ _ _ h => h) (by rfl) (fun w' => ?_) ?_; rotate_left; (go_simp; try with_reducible rfl); simp only [Act.put, List.setIfInBounds_toArray, List.set_cons_zero, List.set_cons_succ])
  refine pure_eff2 rfl ?_
  go_wp2_with fail
  refine purePost_free ?_
  have h1 := hs1.1
  have h2 := hs1.2
  have hf1 := h1.frozenAt
  have H1 := Lib.hid h1
  have H2 := Lib.hid h2
  clear h1 h2 hs1 ci1 ci2 cj1 cj2 hf
  generalize (w.setCell { block := g, off := i * 2 } (Value.int IntKind.i64 b1)).setCell { block := g, off := i * 2 + 1 } (Value.int IntKind.i64 b2) = w1 at H1 H2 hf1 ⊢
  have HS := Lib.hid (hs2 w1 H1.out)
  have hc1 := (H1.out.cellAt (j * 2) (by omega)).trans hG1
  have hc2 := (H1.out.cellAt (j * 2 + 1) (by omega)).trans hG2
  clear hG1 hG2
  clear hs2
  iterate 1 (refine pure_pure (v := ?_) rfl (fun _ _ _ h => h) (by rfl) (fun w' => ?_) ?_; rotate_left; (go_simp; try with_reducible rfl); simp only [Act.put, List.setIfInBounds_toArray, List.set_cons_zero, List.set_cons_succ])
  refine pure_eff2 rfl ?_
  go_wp2_with fail
  refine purePost_free ?_
  refine pure_done ?_
  refine bodyPost_end (results_none rfl _ _ _) rfl ⟨rfl, HS.out.1, ?_⟩
  have g1 := H2.out
  have g2 := HS.out.2
  exact ⟨g2.os.trans g1.os, g2.tape.trans g1.tape, g2.output.trans g1.output, Nat.le_trans g1.size g2.size, fun b hb hr => (g2.block b (Nat.lt_of_lt_of_le hb g1.size) hr).trans (g1.block b hb hr)⟩
end Go.Proofs.Ytaennccfhdjaaaa
