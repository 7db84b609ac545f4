/- The prober's row: ahead, Less, Len, Swap. -/
import Derived.Test.YtaennccfhdjaaaaProg
import Derived.Test.YtaennccfhdjaaaaRep
import Derived.Test.YtaennccfhdjaaaaKeep2
import Derived.Test.YtaennccfhdjaaaaPure
import Derived.Test.YtaennccfhdjaaaaFlat
import Derived.WalkSpells
import Derived.WalkLawsBesides
import Derived.WalkKit
import Derived.BigQuiet
import Derived.Lib.Hide
import Derived.Deep.Cut
namespace Go.Proofs.Ytaennccfhdjaaaa
open Go.RowKit Go.Proofs
set_option linter.unusedSimpArgs false
set_option linter.unusedVariables false
/-- A pair as a value. -/
abbrev enV (x : En) : Value := .agg #[.int .i64 x.1, .int .i64 x.2]
set_option maxRecDepth 100000 in
theorem ahead_any (a b : En) (w : World) :
    Calls Try.prog 51 #[enV a, enV b] w fun e w' => e = .returned (.bool (decide (lessE a b))) ∧ Below w.heap.size w w' := by
  obtain ⟨a1, a2⟩ := a
  obtain ⟨b1, b2⟩ := b
  by_cases h1 : a1 < b1
  · have hl : decide (lessE (a1, a2) (b1, b2)) = true := decide_eq_true (.inl h1)
    go_enter Try.func51, Try.ntmps51
    go_wp2_with fail
    go_ret
    exact ⟨by first | rfl | simp [hl, h1], ((Below.refl _ _).alloc (Nat.le_refl _) _).alloc (by simp) _⟩
  · by_cases h2 : a1 = b1
    · subst h2
      have hl : decide (lessE (a1, a2) (a1, b2)) = decide (a2 < b2) := decide_eq_decide.2 ⟨fun h => by unfold lessE at h; simp only at h; omega, fun h => .inr ⟨rfl, h⟩⟩
      go_enter Try.func51, Try.ntmps51
      go_wp2_with fail
      go_ret
      exact ⟨by first | rfl | simp [hl, h1, h2], ((Below.refl _ _).alloc (Nat.le_refl _) _).alloc (by simp) _⟩
    · have hl : decide (lessE (a1, a2) (b1, b2)) = false := decide_eq_false (fun h => by unfold lessE at h; simp only at h; omega)
      go_enter Try.func51, Try.ntmps51
      go_wp2_with fail
      go_ret
      exact ⟨by first | rfl | simp [hl, h1, h2], ((Below.refl _ _).alloc (Nat.le_refl _) _).alloc (by simp) _⟩
/-- The cells of the first m pairs, in the block g. -/
def CellsE (w : World) (g : Nat) (f : Nat → En) (m : Nat) : Prop := ∀ k, k < m → w.cell? ⟨g, k * 2, none⟩ = some (.int .i64 (f k).1) ∧ w.cell? ⟨g, k * 2 + 1, none⟩ = some (.int .i64 (f k).2)
set_option maxRecDepth 100000 in
set_option maxHeartbeats 1000000 in
theorem less_any (g m cap i j : Nat) (f : Nat → En) (w : World) (hc : CellsE w g f m) (hi : i < m) (hj : j < m) :
    Calls Try.prog 49 #[.slice (some ⟨g, 0, none⟩) m cap, .int .i64 i, .int .i64 j] w fun e w' => e = .returned (.bool (decide (lessE (f i) (f j)))) ∧ Below w.heap.size w w' := by
  obtain ⟨ci1, ci2⟩ := hc i hi
  obtain ⟨cj1, cj2⟩ := hc j hj
  clear hc
  have HA := Lib.hid (ahead_any (f i) (f j))
  generalize f i = x at HA ci1 ci2 ⊢
  generalize f j = y at HA cj1 cj2 ⊢
  obtain ⟨a1, a2⟩ := x
  obtain ⟨b1, b2⟩ := y
  have i0 : (0 : Int) ≤ (i : Int) := by omega
  have i1 : (i : Int) < (m : Int) := by omega
  have j0 : (0 : Int) ≤ (j : Int) := by omega
  have j1 : (j : Int) < (m : Int) := by omega
  have e1 : ∀ w', KeptOn (fun _ => True) w.drew w' → w'.cell? ⟨g, i * 2, none⟩ = some (.int .i64 a1) := fun w' h => h.cell (w := w.drew) ci1 trivial
  have e2 : ∀ w', KeptOn (fun _ => True) w.drew w' → w'.cell? ⟨g, i * 2 + 1, none⟩ = some (.int .i64 a2) := fun w' h => h.cell (w := w.drew) ci2 trivial
  have e3 : ∀ w', KeptOn (fun _ => True) w.drew w' → w'.cell? ⟨g, j * 2, none⟩ = some (.int .i64 b1) := fun w' h => h.cell (w := w.drew) cj1 trivial
  have e4 : ∀ w', KeptOn (fun _ => True) w.drew w' → w'.cell? ⟨g, j * 2 + 1, none⟩ = some (.int .i64 b2) := fun w' h => h.cell (w := w.drew) cj2 trivial
  clear ci1 ci2 cj1 cj2
  go_enter Try.func49, Try.ntmps49
  go_upto_region 2 with (fail)
  refine wp_region_keep (KeptOn fun _ => True) (KeptOn.refl _) (KeptOn.trans) [(0,0),(1,0),(2,0),(3,0),(4,0),(5,0),(6,0),(7,0),(8,0),(9,2),(10,2)] (by kernel_rfl) (by kernel_rfl) ?_
  iterate 9 (refine keep_quiet (v := ?_) rfl (fun _ _ _ h => h) (by rfl) (fun w' hR => ?_) ?_; rotate_left; (go_simp; try with_reducible rfl); simp only [Act.put, List.setIfInBounds_toArray, List.set_cons_zero, List.set_cons_succ])
  refine keep_eff rfl ?_
  clear e1 e2 e3 e4
  go_wp2_with fail
  refine (HA.out w.drew).mono ?_
  rintro e w2 ⟨rfl, hb⟩
  have HB := Lib.hid hb
  clear hb
  go_wp2_with fail
  refine keepPost_free ?_
  refine keep_eff rfl ?_
  go_wp2_with fail
  refine keepPost_free ?_
  refine keep_done ?_
  go_wp2_with fail
  go_ret
  exact ⟨rfl, ((Below.refl _ _).drewN 1).trans HB.out⟩
end Go.Proofs.Ytaennccfhdjaaaa
