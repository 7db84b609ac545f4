/- The reference's prober: first. -/
import Derived.Test.YtaennccfhdjaaaaPr21
namespace Go.Proofs.Ytaennccfhdjaaaa
open Go.RowKit Go.Proofs
set_option linter.unusedSimpArgs false
set_option linter.unusedVariables false
theorem pure_skip3 {P : Program} {Q : Exit → Act → World → Prop} {l : List Oper} {R : World → World → Prop} {i : Nat} {o : Oper} {rest : List (Nat × Nat)} {a : Act} {w : World} (ho : l[i]? = some o)
    (hQ : ∀ c a w, Q (.panic c) (a.put o.dst undef) w → Q (.panic c) a w)
    (hw : Region.wanted o (yielded l.toArray a.tmps) = false) (h : wpPure P l Q R rest (a.put o.dst undef) w) : wpPure P l Q R ((i, 3) :: rest) a w := by
  simp only [wpPure, ho]
  exact ⟨undef, .inr ⟨hw, rfl⟩, hQ, h⟩
theorem RefAt.drew {w : World} {base x d N me : Nat} {now next : Int} {E : Nat → Int} (h : RefAt w base x d N me now next E) : RefAt w.drew base x d N me now next E := h.below ((Below.refl _ _).drewN 1)
/-- May j be told next? -/
def Cand (N me : Nat) (D : Int → Int) (now : Int) (told : List Int) (j : Int) : Prop := (0 ≤ j ∧ j < (N : Int) ∧ j ≠ (me : Int)) ∧ D j ≤ now ∧ j ∉ told
/-- r is the best below i. -/
def Best (N me : Nat) (D : Int → Int) (now : Int) (told : List Int) (i : Nat) (r : Int) : Prop :=
  (r = -1 ∧ ∀ j : Nat, j < i → ¬ Cand N me D now told j) ∨ (0 ≤ r ∧ r < (i : Int) ∧ Cand N me D now told r ∧ ∀ j : Nat, j < i → Cand N me D now told j → leE (D r, r) (D j, (j : Int)))
section
variable {N me : Nat} {D : Int → Int} {now : Int} {told : List Int} {i : Nat} {r : Int}
theorem Best.skip (h : Best N me D now told i r) (hc : ¬ Cand N me D now told i) : Best N me D now told (i + 1) r := by
  rcases h with ⟨h1, h2⟩ | ⟨h1, h2, h3, h4⟩
  · refine .inl ⟨h1, fun j hj => ?_⟩
    by_cases e : j = i
    · rw [e]; exact hc
    · exact h2 j (by omega)
  · refine .inr ⟨h1, by omega, h3, fun j hj hcj => ?_⟩
    by_cases e : j = i
    · rw [e] at hcj; exact absurd hcj hc
    · exact h4 j (by omega) hcj
theorem Best.take_ (h : Best N me D now told i r) (hc : Cand N me D now told i) (hl : r = -1 ∨ D i < D r) : Best N me D now told (i + 1) i := by
  refine .inr ⟨by omega, by omega, hc, fun j hj hcj => ?_⟩
  by_cases e : j = i
  · rw [e]; exact .refl _
  · rcases h with ⟨h1, h2⟩ | ⟨h1, h2, h3, h4⟩
    · exact absurd hcj (h2 j (by omega))
    · have := h4 j (by omega) hcj
      unfold leE lessE at this ⊢
      simp only at this ⊢
      omega
theorem Best.keep (h : Best N me D now told i r) (h0 : 0 ≤ r) (hl : ¬ D i < D r) : Best N me D now told (i + 1) r := by
  rcases h with ⟨h1, h2⟩ | ⟨h1, h2, h3, h4⟩
  · omega
  · refine .inr ⟨h1, by omega, h3, fun j hj hcj => ?_⟩
    by_cases e : j = i
    · rw [e]
      unfold leE lessE
      simp only
      omega
    · exact h4 j (by omega) hcj
theorem Best.done (h : Best N me D now told N r) : (r = -1 ∧ ∀ s, ¬ FirstIs N me D now told s) ∨ (0 ≤ r ∧ FirstIs N me D now told r) := by
  rcases h with ⟨h1, h2⟩ | ⟨h1, h2, h3, h4⟩
  · refine .inl ⟨h1, fun s hs => ?_⟩
    obtain ⟨j, rfl⟩ := Int.eq_ofNat_of_zero_le hs.1.1
    exact h2 j (by have := hs.1.2.1; omega) ⟨hs.1, hs.2.1, hs.2.2.1⟩
  · refine .inr ⟨h1, h3.1, h3.2.1, h3.2.2, fun q q0 qn qm qd qo => ?_⟩
    obtain ⟨j, rfl⟩ := Int.eq_ofNat_of_zero_le q0
    exact h4 j (by omega) ⟨⟨q0, qn, qm⟩, qd, qo⟩
end
/-- What first tells. -/
def FirstP (N me : Nat) (D : Int → Int) (now : Int) (told : List Int) (w : World) (e : Ending) (w' : World) : Prop :=
  ∃ r : Int, e = .returned (.int .i64 r) ∧ ((r = -1 ∧ ∀ s, ¬ FirstIs N me D now told s) ∨ (0 ≤ r ∧ FirstIs N me D now told r)) ∧ Below w.heap.size w w'
set_option maxRecDepth 100000 in
set_option maxHeartbeats 8000000 in
theorem rfirst_any (base x d N me : Nat) (now next : Int) (E : Nat → Int) (D : Int → Int) (v : Value) (told : List Int) (w : World) (hR : RefAt w base x d N me now next E) (hT : IntsAt w v told) (hl : told.length ≤ 100) (hDE : ∀ j : Nat, j < N → j ≠ me → D j = E j) :
    Calls Try.prog 30 #[.pointer (some ⟨x, 0, none⟩), v] w fun e w' => FirstP N me D now told w e w' := by
  obtain ⟨a6, c6, rfl, hc6⟩ := hT
  have HTL := Lib.hid hc6
  have HDE := Lib.hid hDE
  have HR := Lib.hid hR
  have hN8 := hR.eight
  clear hc6 hDE hR
  go_enter Try.func30, Try.ntmps30
  go_wp2_with fail
  go_loopw [5, 6, 7, 8] (fun v5 v6 _ _ wr => ∃ (i : Nat) (r : Int), v6 = .int .i64 (i : Int) ∧ i ≤ N ∧ v5 = .int .i64 r ∧ Best N me D now told i r ∧ RefAt wr base x d N me now next E ∧ Below w.heap.size w wr) (fun _ v6 _ _ _ => N - (intOf v6).toNat)
  case atStart => exact ⟨0, -1, rfl, by omega, rfl, .inl ⟨rfl, fun j hj => by omega⟩, HR.out, Below.refl _ _⟩
  case round =>
    obtain ⟨i, r, rfl, hi, rfl, hbest, hR, hb⟩ := hrel
    have HRR := Lib.hid hR
    have HB := Lib.hid hb
    have HBE0 := Lib.hid hbest
    obtain ⟨cap, hbk, _⟩ := hR.blk
    have c0 : wr.cell? ⟨x, 0, none⟩ = some (.int .i64 N) := hbk.cell 0
    by_cases hlt : (i : Int) < (N : Int)
    · have hiN : i < N := by omega
      have i0 : (0 : Int) ≤ (i : Int) := by omega
      have q0 : ∀ w', wr.drew = w' → w'.cell? ⟨x, 0, none⟩ = some (.int .i64 N) := fun w' h => h ▸ hbk.cell 0
      have q2 : ∀ w', wr.drew = w' → w'.cell? ⟨x, 2, none⟩ = some (.int .i64 now) := fun w' h => h ▸ hbk.cell 2
      have q4 : ∀ w', wr.drew = w' → w'.cell? ⟨x, 4, none⟩ = some (.slice (some ⟨d, 0, none⟩) N cap) := fun w' h => h ▸ hbk.cell 4
      have qi : ∀ w', wr.drew = w' → w'.cell? ⟨d, i, none⟩ = some (.int .i64 (E i)) := fun w' h => h ▸ hR.due hiN
      clear hbk hR hb hbest
      cases hO : isB N me i with
      | false =>
        have HNC := Lib.hid (show ¬ Cand N me D now told i from fun h => (of_decide_eq_false hO) h.1)
        as_aux_lemma =>
          go_upto_region 5 with (fail)
          refine wp_region_pure (fun a b => a = b) (fun _ => rfl) (fun _ _ _ h h' => h.trans h') [(0,3),(1,3),(2,1),(3,3),(4,3),(5,3),(6,3),(7,3),(8,0),(9,3),(10,3),(11,0),(12,3),(13,3),(14,3),(15,0),(16,3),(17,3),(18,3)] (by kernel_rfl) (by kernel_rfl) ?_
          iterate 2 (refine pure_pure (v := ?_) rfl (fun _ _ _ h => h) (by rfl) (fun w' => ?_) ?_; rotate_left; (go_simp; try with_reducible rfl); simp only [Act.put, List.setIfInBounds_toArray, List.set_cons_zero, List.set_cons_succ])
          refine pure_eff rfl ?_
          go_wp2_with fail
          refine (other_any base x d N me now next E i wr.drew HRR.out.drew).mono ?_
          rintro e w' ⟨rfl, rfl⟩
          rw [hO]
          go_wp2_with fail
          refine purePost_need rfl ?_
          iterate 2 (refine pure_pure (v := ?_) rfl (fun _ _ _ h => h) (by rfl) (fun w' => ?_) ?_; rotate_left; (go_simp; try with_reducible rfl); simp only [Act.put, List.setIfInBounds_toArray, List.set_cons_zero, List.set_cons_succ])
          iterate 3 (refine pure_skip3 rfl (fun _ _ _ h => h) (by rfl) ?_; simp only [Act.put, List.setIfInBounds_toArray, List.set_cons_zero, List.set_cons_succ])
          iterate 1 (refine pure_skip rfl (fun _ _ _ h => h) (by rfl) ?_; simp only [Act.put, List.setIfInBounds_toArray, List.set_cons_zero, List.set_cons_succ])
          iterate 2 (refine pure_skip3 rfl (fun _ _ _ h => h) (by rfl) ?_; simp only [Act.put, List.setIfInBounds_toArray, List.set_cons_zero, List.set_cons_succ])
          iterate 1 (refine pure_skip rfl (fun _ _ _ h => h) (by rfl) ?_; simp only [Act.put, List.setIfInBounds_toArray, List.set_cons_zero, List.set_cons_succ])
          iterate 3 (refine pure_skip3 rfl (fun _ _ _ h => h) (by rfl) ?_; simp only [Act.put, List.setIfInBounds_toArray, List.set_cons_zero, List.set_cons_succ])
          iterate 1 (refine pure_skip rfl (fun _ _ _ h => h) (by rfl) ?_; simp only [Act.put, List.setIfInBounds_toArray, List.set_cons_zero, List.set_cons_succ])
          iterate 1 (refine pure_skip3 rfl (fun _ _ _ h => h) (by rfl) ?_; simp only [Act.put, List.setIfInBounds_toArray, List.set_cons_zero, List.set_cons_succ])
          iterate 2 (refine pure_pure (v := ?_) rfl (fun _ _ _ h => h) (by rfl) (fun w' => ?_) ?_; rotate_left; (go_simp; try with_reducible rfl); simp only [Act.put, List.setIfInBounds_toArray, List.set_cons_zero, List.set_cons_succ])
          refine pure_done ?_
          clear q0 q2 q4 qi
          have HRD := Lib.hid HRR.out.drew
          have HBD := Lib.hid (show Below w.heap.size w wr.drew from HB.out.drewN 1)
          have c0 : wr.drew.cell? ⟨x, 0, none⟩ = some (.int .i64 N) := c0
          generalize wr.drew = w2 at HRD HBD c0 ⊢
          clear c0
          go_wp2_with fail
          go_loopw [7, 8] (fun v7 v8 wq => ∃ (j : Nat), v7 = .bool true ∧ v8 = .int .i64 (j : Int) ∧ j ≤ told.length ∧ wq = w2) (fun _ v8 _ => told.length - (intOf v8).toNat)
          case atStart => exact ⟨0, rfl, rfl, by omega, rfl⟩
          case round =>
            obtain ⟨j, rfl, rfl, hj, rfl⟩ := hrel
            by_cases hlt : (j : Int) < (told.length : Int)
            · go_wp2_with fail
              go_roundw
              case rel => exact ⟨j + 1, rfl, by go_num, by omega, by first | rfl | trivial⟩
              case measure => simp [intOf]; omega
            · obtain rfl : j = told.length := by omega
              go_upto_region 10 with (fail)
              go_quiet (fail)
              rename_i nq
              have HRE := Lib.hid (HRD.out.below ((Below.refl _ _).drewN nq))
              have HBE := Lib.hid (HBD.out.drewN nq)
              go_wp2_with fail
              go_roundw
              case rel => exact ⟨i + 1, r, by go_num, by omega, by first | rfl | go_num, HBE0.out.skip HNC.out, HRE.out, HBE.out⟩
              case measure => simp [intOf]; omega
      | true =>
        have hom := of_decide_eq_true hO
        have HDi := Lib.hid (HDE.out i hiN (fun e => hom.2.2 (by omega)))
        by_cases hdue : now < E i
        · have hg : decide (now < E i) = true := decide_eq_true hdue
          have HNC := Lib.hid (show ¬ Cand N me D now told i from fun h => by have := h.2.1; have := HDi.out; omega)
          as_aux_lemma =>
            go_upto_region 5 with (fail)
            refine wp_region_pure (fun a b => a = b) (fun _ => rfl) (fun _ _ _ h h' => h.trans h') [(0,3),(1,3),(2,1),(3,3),(4,3),(5,3),(6,3),(7,3),(8,0),(9,3),(10,3),(11,0),(12,3),(13,3),(14,3),(15,0),(16,3),(17,3),(18,3)] (by kernel_rfl) (by kernel_rfl) ?_
            iterate 2 (refine pure_pure (v := ?_) rfl (fun _ _ _ h => h) (by rfl) (fun w' => ?_) ?_; rotate_left; (go_simp; try with_reducible rfl); simp only [Act.put, List.setIfInBounds_toArray, List.set_cons_zero, List.set_cons_succ])
            refine pure_eff rfl ?_
            go_wp2_with fail
            refine (other_any base x d N me now next E i wr.drew HRR.out.drew).mono ?_
            rintro e w' ⟨rfl, rfl⟩
            rw [hO]
            go_wp2_with fail
            refine purePost_need rfl ?_
            iterate 2 (refine pure_pure (v := ?_) rfl (fun _ _ _ h => h) (by rfl) (fun w' => ?_) ?_; rotate_left; (go_simp; try with_reducible rfl); simp only [Act.put, List.setIfInBounds_toArray, List.set_cons_zero, List.set_cons_succ])
            iterate 3 (refine pure_pure (v := ?_) rfl (fun _ _ _ h => h) (by rfl) (fun w' => ?_) ?_; rotate_left; (go_simp; try with_reducible rfl); simp only [Act.put, List.setIfInBounds_toArray, List.set_cons_zero, List.set_cons_succ])
            iterate 1 (refine pure_quiet (v := ?_) rfl (fun _ _ _ h => h) (by rfl) (fun w' hR => ?_) ?_; rotate_left; (go_simp; try with_reducible rfl); simp only [Act.put, List.setIfInBounds_toArray, List.set_cons_zero, List.set_cons_succ])
            iterate 2 (refine pure_pure (v := ?_) rfl (fun _ _ _ h => h) (by rfl) (fun w' => ?_) ?_; rotate_left; (go_simp; try with_reducible rfl); simp only [Act.put, List.setIfInBounds_toArray, List.set_cons_zero, List.set_cons_succ])
            iterate 1 (refine pure_quiet (v := ?_) rfl (fun _ _ _ h => h) (by rfl) (fun w' hR => ?_) ?_; rotate_left; (go_simp; try with_reducible rfl); simp only [Act.put, List.setIfInBounds_toArray, List.set_cons_zero, List.set_cons_succ])
            iterate 3 (refine pure_pure (v := ?_) rfl (fun _ _ _ h => h) (by rfl) (fun w' => ?_) ?_; rotate_left; (go_simp; try with_reducible rfl); simp only [Act.put, List.setIfInBounds_toArray, List.set_cons_zero, List.set_cons_succ])
            iterate 1 (refine pure_quiet (v := ?_) rfl (fun _ _ _ h => h) (by rfl) (fun w' hR => ?_) ?_; rotate_left; (go_simp; try with_reducible rfl); simp only [Act.put, List.setIfInBounds_toArray, List.set_cons_zero, List.set_cons_succ])
            iterate 1 (refine pure_pure (v := ?_) rfl (fun _ _ _ h => h) (by rfl) (fun w' => ?_) ?_; rotate_left; (go_simp; try with_reducible rfl); simp only [Act.put, List.setIfInBounds_toArray, List.set_cons_zero, List.set_cons_succ])
            iterate 2 (refine pure_pure (v := ?_) rfl (fun _ _ _ h => h) (by rfl) (fun w' => ?_) ?_; rotate_left; (go_simp; try with_reducible rfl); simp only [Act.put, List.setIfInBounds_toArray, List.set_cons_zero, List.set_cons_succ])
            refine pure_done ?_
            clear q0 q2 q4 qi
            clear hg
            have HRD := Lib.hid HRR.out.drew
            have HBD := Lib.hid (show Below w.heap.size w wr.drew from HB.out.drewN 1)
            have c0 : wr.drew.cell? ⟨x, 0, none⟩ = some (.int .i64 N) := c0
            generalize wr.drew = w2 at HRD HBD c0 ⊢
            clear c0
            go_wp2_with fail
            go_loopw [7, 8] (fun v7 v8 wq => ∃ (j : Nat), v7 = .bool true ∧ v8 = .int .i64 (j : Int) ∧ j ≤ told.length ∧ wq = w2) (fun _ v8 _ => told.length - (intOf v8).toNat)
            case atStart => exact ⟨0, rfl, rfl, by omega, rfl⟩
            case round =>
              obtain ⟨j, rfl, rfl, hj, rfl⟩ := hrel
              by_cases hlt : (j : Int) < (told.length : Int)
              · go_wp2_with fail
                go_roundw
                case rel => exact ⟨j + 1, rfl, by go_num, by omega, by first | rfl | trivial⟩
                case measure => simp [intOf]; omega
              · obtain rfl : j = told.length := by omega
                go_upto_region 10 with (fail)
                go_quiet (fail)
                rename_i nq
                have HRE := Lib.hid (HRD.out.below ((Below.refl _ _).drewN nq))
                have HBE := Lib.hid (HBD.out.drewN nq)
                go_wp2_with fail
                go_roundw
                case rel => exact ⟨i + 1, r, by go_num, by omega, by first | rfl | go_num, HBE0.out.skip HNC.out, HRE.out, HBE.out⟩
                case measure => simp [intOf]; omega
        · have hg : decide (now < E i) = false := decide_eq_false hdue
          have HCD := Lib.hid (show (i : Int) ∉ told → Cand N me D now told i from fun h => ⟨hom, by have := HDi.out; omega, h⟩)
          as_aux_lemma =>
            go_upto_region 5 with (fail)
            refine wp_region_pure (fun a b => a = b) (fun _ => rfl) (fun _ _ _ h h' => h.trans h') [(0,3),(1,3),(2,1),(3,3),(4,3),(5,3),(6,3),(7,3),(8,0),(9,3),(10,3),(11,0),(12,3),(13,3),(14,3),(15,0),(16,3),(17,3),(18,3)] (by kernel_rfl) (by kernel_rfl) ?_
            iterate 2 (refine pure_pure (v := ?_) rfl (fun _ _ _ h => h) (by rfl) (fun w' => ?_) ?_; rotate_left; (go_simp; try with_reducible rfl); simp only [Act.put, List.setIfInBounds_toArray, List.set_cons_zero, List.set_cons_succ])
            refine pure_eff rfl ?_
            go_wp2_with fail
            refine (other_any base x d N me now next E i wr.drew HRR.out.drew).mono ?_
            rintro e w' ⟨rfl, rfl⟩
            rw [hO]
            go_wp2_with fail
            refine purePost_need rfl ?_
            iterate 2 (refine pure_pure (v := ?_) rfl (fun _ _ _ h => h) (by rfl) (fun w' => ?_) ?_; rotate_left; (go_simp; try with_reducible rfl); simp only [Act.put, List.setIfInBounds_toArray, List.set_cons_zero, List.set_cons_succ])
            iterate 3 (refine pure_pure (v := ?_) rfl (fun _ _ _ h => h) (by rfl) (fun w' => ?_) ?_; rotate_left; (go_simp; try with_reducible rfl); simp only [Act.put, List.setIfInBounds_toArray, List.set_cons_zero, List.set_cons_succ])
            iterate 1 (refine pure_quiet (v := ?_) rfl (fun _ _ _ h => h) (by rfl) (fun w' hR => ?_) ?_; rotate_left; (go_simp; try with_reducible rfl); simp only [Act.put, List.setIfInBounds_toArray, List.set_cons_zero, List.set_cons_succ])
            iterate 2 (refine pure_pure (v := ?_) rfl (fun _ _ _ h => h) (by rfl) (fun w' => ?_) ?_; rotate_left; (go_simp; try with_reducible rfl); simp only [Act.put, List.setIfInBounds_toArray, List.set_cons_zero, List.set_cons_succ])
            iterate 1 (refine pure_quiet (v := ?_) rfl (fun _ _ _ h => h) (by rfl) (fun w' hR => ?_) ?_; rotate_left; (go_simp; try with_reducible rfl); simp only [Act.put, List.setIfInBounds_toArray, List.set_cons_zero, List.set_cons_succ])
            iterate 3 (refine pure_pure (v := ?_) rfl (fun _ _ _ h => h) (by rfl) (fun w' => ?_) ?_; rotate_left; (go_simp; try with_reducible rfl); simp only [Act.put, List.setIfInBounds_toArray, List.set_cons_zero, List.set_cons_succ])
            iterate 1 (refine pure_quiet (v := ?_) rfl (fun _ _ _ h => h) (by rfl) (fun w' hR => ?_) ?_; rotate_left; (go_simp; try with_reducible rfl); simp only [Act.put, List.setIfInBounds_toArray, List.set_cons_zero, List.set_cons_succ])
            iterate 1 (refine pure_pure (v := ?_) rfl (fun _ _ _ h => h) (by rfl) (fun w' => ?_) ?_; rotate_left; (go_simp; try with_reducible rfl); simp only [Act.put, List.setIfInBounds_toArray, List.set_cons_zero, List.set_cons_succ])
            iterate 2 (refine pure_pure (v := ?_) rfl (fun _ _ _ h => h) (by rfl) (fun w' => ?_) ?_; rotate_left; (go_simp; try with_reducible rfl); simp only [Act.put, List.setIfInBounds_toArray, List.set_cons_zero, List.set_cons_succ])
            refine pure_done ?_
            clear q0 q2 q4 qi
            clear hg
            have HRD := Lib.hid HRR.out.drew
            have HBD := Lib.hid (show Below w.heap.size w wr.drew from HB.out.drewN 1)
            have c0 : wr.drew.cell? ⟨x, 0, none⟩ = some (.int .i64 N) := c0
            generalize wr.drew = w2 at HRD HBD c0 ⊢
            clear c0
            go_wp2_with fail
            go_loopw [7, 8] (fun v7 v8 wq => ∃ (j : Nat) (bb : Bool), v7 = .bool bb ∧ v8 = .int .i64 (j : Int) ∧ j ≤ told.length ∧ bb = decide ((i : Int) ∈ told.take j) ∧ wq = w2) (fun _ v8 _ => told.length - (intOf v8).toNat)
            case atStart => exact ⟨0, false, rfl, rfl, by omega, by simp, rfl⟩
            case round =>
              obtain ⟨j, bb, rfl, rfl, hj, hbb, rfl⟩ := hrel
              have HBB := Lib.hid hbb
              clear hbb
              by_cases hlt : (j : Int) < (told.length : Int)
              · have k1 : j < told.length := by omega
                obtain ⟨g6, hg6, x1⟩ := HTL.out j told[j] (List.getElem?_eq_getElem k1)
                have y1 := (HBD.out.cell (World.block_lt_of_cell? w _ x1)).trans x1
                clear x1
                subst hg6
                have HT := Lib.hid (List.take_succ_eq_append_getElem k1)
                generalize told[j] = y at y1 HT
                clear k1
                cases bb with
                | true =>
                  go_wp2_with fail
                  go_roundw
                  case rel => exact ⟨j + 1, true, rfl, by go_num, by omega, by rw [HT.out]; have := of_decide_eq_true HBB.out.symm; simp [this], by first | rfl | trivial⟩
                  case measure => simp [intOf]; omega
                | false =>
                  go_wp2_with fail
                  go_roundw
                  case rel => exact ⟨j + 1, (y == (i : Int)), rfl, by go_num, by omega, by
                    have := of_decide_eq_false HBB.out.symm
                    rw [HT.out, Bool.eq_iff_iff, decide_eq_true_iff]
                    simp only [List.mem_append, List.mem_singleton, this, false_or, beq_iff_eq]
                    exact eq_comm, by first | rfl | trivial⟩
                  case measure => simp [intOf]; omega
              · obtain rfl : j = told.length := by omega
                rw [List.take_length] at HBB
                cases bb with
                | true =>
                  have HNC := Lib.hid (show ¬ Cand N me D now told i from fun h => by
                    exact h.2.2 (of_decide_eq_true HBB.out.symm))
                  go_upto_region 10 with (fail)
                  go_quiet (fail)
                  rename_i nq
                  have HRE := Lib.hid (HRD.out.below ((Below.refl _ _).drewN nq))
                  have HBE := Lib.hid (HBD.out.drewN nq)
                  go_wp2_with fail
                  go_roundw
                  case rel => exact ⟨i + 1, r, by go_num, by omega, by first | rfl | go_num, HBE0.out.skip HNC.out, HRE.out, HBE.out⟩
                  case measure => simp [intOf]; omega
                | false =>
                  have HC := Lib.hid (HCD.out fun h => (of_decide_eq_false HBB.out.symm) h)
                  obtain ⟨cap', hk', _⟩ := HRD.out.blk
                  have q4 : wr.cell? ⟨x, 4, none⟩ = some (.slice (some ⟨d, 0, none⟩) N cap') := hk'.cell 4
                  clear hk'
                  have qi : wr.cell? ⟨d, i, none⟩ = some (.int .i64 (E i)) := HRD.out.due hiN
                  by_cases hr : r = -1
                  · subst hr
                    go_upto_region 10 with (fail)
                    go_quiet (fail)
                    rename_i nq
                    have HRE := Lib.hid (HRD.out.below ((Below.refl _ _).drewN nq))
                    have HBE := Lib.hid (HBD.out.drewN nq)
                    go_wp2_with fail
                    go_roundw
                    case rel => exact ⟨i + 1, (i : Int), by go_num, by omega, by first | rfl | go_num, HBE0.out.take_ HC.out (.inl rfl), HRE.out, HBE.out⟩
                    case measure => simp [intOf]; omega
                  · have hbb := HBE0.out
                    obtain ⟨rn, rfl⟩ : ∃ rn : Nat, r = (rn : Int) := by
                      rcases hbb with h | h
                      · exact absurd h.1 hr
                      · exact Int.eq_ofNat_of_zero_le h.1
                    have HRC := Lib.hid (show rn < i ∧ Cand N me D now told rn by
                      rcases hbb with h | h
                      · omega
                      · exact ⟨by omega, h.2.2.1⟩)
                    have hrN : rn < N := by have := HRC.out.1; omega
                    have qr : wr.cell? ⟨d, rn, none⟩ = some (.int .i64 (E rn)) := HRD.out.due hrN
                    have g0 : decide ((rn : Int) < 0) = false := decide_eq_false (by omega)
                    have r0 : (0 : Int) ≤ (rn : Int) := by omega
                    have r1 : (rn : Int) < (N : Int) := by omega
                    have HDr := Lib.hid (HDE.out rn hrN (fun e => HRC.out.2.1.2.2 (by omega)))
                    by_cases hlr : E i < E rn
                    · have g1 : decide (E i < E rn) = true := decide_eq_true hlr
                      go_upto_region 10 with (fail)
                      go_quiet (fail)
                      rename_i nq
                      have HRE := Lib.hid (HRD.out.below ((Below.refl _ _).drewN nq))
                      have HBE := Lib.hid (HBD.out.drewN nq)
                      go_wp2_with fail
                      go_roundw
                      case rel => exact ⟨i + 1, (i : Int), by go_num, by omega, by first | rfl | go_num, HBE0.out.take_ HC.out (.inr (by rw [HDi.out, HDr.out]; exact hlr)), HRE.out, HBE.out⟩
                      case measure => simp [intOf]; omega
                    · have g1 : decide (E i < E rn) = false := decide_eq_false hlr
                      go_upto_region 10 with (fail)
                      go_quiet (fail)
                      rename_i nq
                      have HRE := Lib.hid (HRD.out.below ((Below.refl _ _).drewN nq))
                      have HBE := Lib.hid (HBD.out.drewN nq)
                      go_wp2_with fail
                      go_roundw
                      case rel => exact ⟨i + 1, (rn : Int), by go_num, by omega, by first | rfl | go_num, HBE0.out.keep (by omega) (by rw [HDi.out, HDr.out]; exact hlr), HRE.out, HBE.out⟩
                      case measure => simp [intOf]; omega
    · obtain rfl : i = N := by omega
      clear hbk hR hb hbest
      go_wp2_with fail
      go_ret
      exact ⟨r, rfl, HBE0.out.done, HB.out⟩
end Go.Proofs.Ytaennccfhdjaaaa
