/- The reference's prober: Other, Heard, Asked. -/
import Derived.Test.YtaennccfhdjaaaaPr20
namespace Go.Proofs.Ytaennccfhdjaaaa
open Go.RowKit Go.Proofs
set_option linter.unusedSimpArgs false
set_option linter.unusedVariables false
def updE (E : Nat → Int) (i : Nat) (v : Int) : Nat → Int := fun j => if j = i then v else E j
def dueRow (N : Nat) (E : Nat → Int) : List Int := (List.range N).map E
theorem dueRow_length (N : Nat) (E : Nat → Int) : (dueRow N E).length = N := by simp [dueRow]
theorem dueRow_get {N : Nat} (E : Nat → Int) {i : Nat} (h : i < N) : (dueRow N E)[i]? = some (E i) := by simp [dueRow, h]
theorem dueRow_set {N : Nat} (E : Nat → Int) {i : Nat} (h : i < N) (v : Int) : (dueRow N E).set i v = dueRow N (updE E i v) := by
  apply List.ext_getElem?
  intro j
  rw [List.getElem?_set, dueRow_length]
  by_cases hj : j < N
  · rw [dueRow_get (updE E i v) hj]
    unfold updE
    by_cases e : i = j
    · rw [if_pos e, if_pos h, if_pos e.symm]
    · rw [if_neg e, if_neg (fun h => e h.symm), dueRow_get E hj]
  · rw [List.getElem?_eq_none (by rw [dueRow_length]; omega), if_neg (by omega), List.getElem?_eq_none (by rw [dueRow_length]; omega)]
/-- The reference's prober at x, its row in block d. -/
structure RefAt (w : World) (base x d N me : Nat) (now next : Int) (E : Nat → Int) : Prop where
  blk : ∃ cap, Blk w x 40 #[.int .i64 N, .int .i64 me, .int .i64 now, .int .i64 next, .slice (some ⟨d, 0, none⟩) N cap] ∧ w.ownsRow base 3 1 (.slice (some ⟨d, 0, none⟩) N cap) N ((dueRow N E).map (Value.int .i64))
  two : 2 ≤ N
  eight : N ≤ 8
  lt : me < N
section
variable {w w' : World} {base x d p g N me N' me' : Nat} {now next now' next' : Int} {E : Nat → Int} {D : Int → Int}
theorem RefAt.ne (h : RefAt w base x d N me now next E) : x ≠ d := by
  obtain ⟨cap, hb, ho⟩ := h.blk
  obtain ⟨c, hc, _⟩ := own_blk ho (g := d) rfl
  exact fun e => Blk.ne_ hb hc (by decide) e
theorem RefAt.lts (h : RefAt w base x d N me now next E) : x < w.heap.size ∧ d < w.heap.size ∧ base ≤ d := by
  obtain ⟨cap, hb, ho⟩ := h.blk
  obtain ⟨c, hc, hd⟩ := own_blk ho (g := d) rfl
  exact ⟨hb.lt, hc.lt, hd⟩
theorem RefAt.due (h : RefAt w base x d N me now next E) {i : Nat} (hi : i < N) : w.cell? ⟨d, i, none⟩ = some (.int .i64 (E i)) := by
  obtain ⟨cap, hb, ho⟩ := h.blk
  rw [ho.cellAt i (by omega), List.getElem?_map, dueRow_get _ hi]
  rfl
theorem RefAt.dueF (h : RefAt w base x d N me now next E) (i : Nat) : w.frozen? ⟨d, i, none⟩ = false := by
  obtain ⟨cap, hb, ho⟩ := h.blk
  exact ho.frozenAt i
theorem RefAt.setDue (h : RefAt w base x d N me now next E) {i : Nat} (hi : i < N) (v : Int) : RefAt (w.setCell ⟨d, i, none⟩ (.int .i64 v)) base x d N me now next (updE E i v) := by
  have hne := h.ne
  obtain ⟨cap, hb, ho⟩ := h.blk
  obtain ⟨h1, h2⟩ := ho.stored i (.int .i64 v)
  refine ⟨⟨cap, hb.grown h2 (fun e => hne (Option.some.inj e)), ?_⟩, h.two, h.eight, h.lt⟩
  rw [← dueRow_set E hi v, List.map_set]
  exact h1
theorem RefAt.putNow (h : RefAt w base x d N me now next E) (v : Int) : RefAt (w.setCell ⟨x, 2, none⟩ (.int .i64 v)) base x d N me v next E := by
  have hne := h.ne
  obtain ⟨cap, hb, ho⟩ := h.blk
  exact ⟨⟨cap, hb.set_ 2 _, ho.kept (grown_cell w x 2 _) (.inr fun e => hne (Option.some.inj e).symm)⟩, h.two, h.eight, h.lt⟩
theorem RefAt.putNext (h : RefAt w base x d N me now next E) (v : Int) : RefAt (w.setCell ⟨x, 3, none⟩ (.int .i64 v)) base x d N me now v E := by
  have hne := h.ne
  obtain ⟨cap, hb, ho⟩ := h.blk
  exact ⟨⟨cap, hb.set_ 3 _, ho.kept (grown_cell w x 3 _) (.inr fun e => hne (Option.some.inj e).symm)⟩, h.two, h.eight, h.lt⟩
theorem RefAt.below (h : RefAt w base x d N me now next E) (hb : Below w.heap.size w w') : RefAt w' base x d N me now next E := by
  obtain ⟨cap, hk, ho⟩ := h.blk
  exact ⟨⟨cap, hk.below hb hk.lt, ho.kept (grownBy_of_below hb none) (by simp [Value.ownBlock])⟩, h.two, h.eight, h.lt⟩
/-- What is done to the one leaves the other. -/
theorem RefAt.other (h : RefAt w base x d N me now next E) {base' : Nat} {o : Option Nat} (hA : ProbAt w base' p g N' me' now' next' D) (hH : Hop p (some g) o w w') : RefAt w' base x d N me now next E := by
  obtain ⟨cap, hk, ho⟩ := h.blk
  obtain ⟨cap', f, hP, hC⟩ := hA.here
  obtain ⟨cg, hcg, _⟩ := own_blk hP.own (g := g) rfl
  obtain ⟨cd, hcd, _⟩ := own_blk ho (g := d) rfl
  exact ⟨⟨cap, (hH.block x hk.lt (fun e => Blk.ne_ hk hP.blk (by decide) e) (fun e => Blk.ne_ hk hcg (by decide) (Option.some.inj e))).trans hk, own_hop ho hH (fun e => Blk.ne_ hcd hP.blk (by decide) (Option.some.inj e)) (fun k hk' e => Blk.ne_ hcd hcg (by decide) (Option.some.inj (hk'.trans e)))⟩, h.two, h.eight, h.lt⟩
theorem ProbAt.other {base' : Nat} (hA : ProbAt w base' p g N' me' now' next' D) (h : RefAt w base x d N me now next E) {o : Option Nat} (hH : Hop x (some d) o w w') : ProbAt w' base' p g N' me' now' next' D := by
  obtain ⟨cap, hk, ho⟩ := h.blk
  obtain ⟨cap', f, hP, hC⟩ := hA.here
  obtain ⟨cg, hcg, _⟩ := own_blk hP.own (g := g) rfl
  obtain ⟨cd, hcd, _⟩ := own_blk ho (g := d) rfl
  exact ⟨⟨cap', f, ⟨(hH.block p hP.blk.lt (fun e => Blk.ne_ hP.blk hk (by decide) e) (fun e => Blk.ne_ hP.blk hcd (by decide) (Option.some.inj e))).trans hP.blk, own_hop hP.own hH (fun e => Blk.ne_ hcg hk (by decide) (Option.some.inj e)) (fun k hk' e => Blk.ne_ hcg hcd (by decide) (Option.some.inj (hk'.trans e)))⟩, hC⟩, hA.two, hA.eight, hA.lt⟩
end
theorem other_any (base x d N me : Nat) (now next : Int) (E : Nat → Int) (n : Int) (w : World) (hR : RefAt w base x d N me now next E) :
    Calls Try.prog 15 #[.pointer (some ⟨x, 0, none⟩), .int .i64 n] w fun e w' => e = .returned (.bool (isB N me n)) ∧ w = w' := by
  obtain ⟨cap, hb, _⟩ := hR.blk
  have c0 : w.cell? ⟨x, 0, none⟩ = some (.int .i64 N) := hb.cell 0
  have c1 : w.cell? ⟨x, 1, none⟩ = some (.int .i64 me) := hb.cell 1
  clear hR hb
  by_cases h0 : 0 ≤ n
  · by_cases h1 : n < (N : Int)
    · have hB : isB N me n = decide (¬ n = (me : Int)) := decide_eq_decide.2 ⟨fun h => h.2.2, fun h => ⟨h0, h1, h⟩⟩
      have HB := Lib.hid hB
      clear hB
      go_enter Try.func15, Try.ntmps15
      go_wp2_with fail
      go_ret
      refine ⟨?_, rfl⟩
      rw [HB.out]
      first | rfl | (refine congrArg (fun b => Ending.returned (Value.bool b)) ?_; rw [Bool.eq_iff_iff]; simp)
    · have hB : isB N me n = false := decide_eq_false (fun h => h1 h.2.1)
      have HB := Lib.hid hB
      clear hB
      go_enter Try.func15, Try.ntmps15
      go_wp2_with fail
      go_ret
      exact ⟨by rw [HB.out]; rfl, rfl⟩
  · have hB : isB N me n = false := decide_eq_false (fun h => h0 h.1)
    have HB := Lib.hid hB
    clear hB
    go_enter Try.func15, Try.ntmps15
    go_wp2_with fail
    go_ret
    exact ⟨by rw [HB.out]; rfl, rfl⟩
theorem rheard_no (base x d N me : Nat) (now next : Int) (E : Nat → Int) (n : Int) (w : World) (hR : RefAt w base x d N me now next E) (hn : isB N me n = false) :
    Calls Try.prog 25 #[.pointer (some ⟨x, 0, none⟩), .int .i64 n] w fun e w' => e = .returned (.bool false) ∧ w = w' := by
  go_enter Try.func25, Try.ntmps25
  go_wp2_with fail
  refine (other_any base x d N me now next E n w hR).mono ?_
  rintro e w' ⟨rfl, rfl⟩
  go_wp2_with fail
  go_ret
  exact ⟨rfl, rfl⟩
set_option maxRecDepth 100000 in
set_option maxHeartbeats 2000000 in
theorem rheard_yes (base x d N me : Nat) (now next : Int) (E : Nat → Int) (i : Nat) (w : World) (hR : RefAt w base x d N me now next E) (hn : isB N me i = true) (h0 : 0 ≤ now) (h1 : now ≤ 1000000) :
    Calls Try.prog 25 #[.pointer (some ⟨x, 0, none⟩), .int .i64 i] w fun e w' => e = .returned (.bool true) ∧ RefAt w' base x d N me now next (updE E i (now + 4)) ∧ Hop x (some d) (some d) w w' := by
  have HR := Lib.hid hR
  have hiN : i < N := by have := (of_decide_eq_true hn).2.1; omega
  go_enter Try.func25, Try.ntmps25
  go_wp2_with fail
  refine (other_any base x d N me now next E i w hR).mono ?_
  rintro e w' ⟨rfl, rfl⟩
  go_upto_region 2 with (fail)
  obtain ⟨cap, hb, ho⟩ := hR.blk
  have q2 : ∀ w', w.drew = w' → w'.cell? ⟨x, 2, none⟩ = some (.int .i64 now) := fun w' h => h ▸ hb.cell 2
  have q4 : ∀ w', w.drew = w' → w'.cell? ⟨x, 4, none⟩ = some (.slice (some ⟨d, 0, none⟩) N cap) := fun w' h => h ▸ hb.cell 4
  have i0 : (0 : Int) ≤ (i : Int) := by omega
  have i1 : (i : Int) < (N : Int) := by omega
  have hwn : IntKind.i64.wrap (now + 4) = now + 4 := IntWalk.i64_in _ (by omega)
  clear hR hb ho
  refine wp_region_pure (fun a b => a = b) (fun _ => rfl) (fun _ _ _ h h' => h.trans h') [(0,3),(1,3),(2,3),(3,0),(4,3),(5,3),(6,3),(7,3),(8,0),(9,3),(10,3),(11,2)] (by kernel_rfl) (by kernel_rfl) ?_
  iterate 3 (refine pure_pure (v := ?_) rfl (fun _ _ _ h => h) (by rfl) (fun w' => ?_) ?_; rotate_left; (go_simp; try with_reducible rfl); simp only [Act.put, List.setIfInBounds_toArray, List.set_cons_zero, List.set_cons_succ])
  iterate 1 (refine pure_quiet (v := ?_) rfl (fun _ _ _ h => h) (by rfl) (fun w' hR => ?_) ?_; rotate_left; (go_simp; try with_reducible rfl); simp only [Act.put, List.setIfInBounds_toArray, List.set_cons_zero, List.set_cons_succ])
  iterate 4 (refine pure_pure (v := ?_) rfl (fun _ _ _ h => h) (by rfl) (fun w' => ?_) ?_; rotate_left; (go_simp; try with_reducible rfl); simp only [Act.put, List.setIfInBounds_toArray, List.set_cons_zero, List.set_cons_succ])
  iterate 1 (refine pure_quiet (v := ?_) rfl (fun _ _ _ h => h) (by rfl) (fun w' hR => ?_) ?_; rotate_left; (go_simp; try with_reducible rfl); simp only [Act.put, List.setIfInBounds_toArray, List.set_cons_zero, List.set_cons_succ])
  iterate 2 (refine pure_pure (v := ?_) rfl (fun _ _ _ h => h) (by rfl) (fun w' => ?_) ?_; rotate_left; (go_simp; try with_reducible rfl); simp only [Act.put, List.setIfInBounds_toArray, List.set_cons_zero, List.set_cons_succ])
  clear q2 q4
  have e1 : w.drew.cell? ⟨d, i, none⟩ = _ := HR.out.due hiN
  have e2 := HR.out.dueF i
  refine pure_eff2 rfl ?_
  go_wp2_with fail
  refine purePost_free ?_
  refine pure_done ?_
  go_wp2_with fail
  go_ret
  exact ⟨rfl, (HR.out.setDue hiN _).below ((Below.refl _ _).drewN 1), (Hop.of_grown' (o := some d) (grown_cell w d i _)).trans (.of_below ((Below.refl _ _).drewN 1))⟩
set_option maxRecDepth 100000 in
set_option maxHeartbeats 2000000 in
theorem rasked_any (base x d N me : Nat) (now next : Int) (E : Nat → Int) (w : World) (hR : RefAt w base x d N me now next E) (h0 : 0 ≤ now) (h1 : now ≤ 1000000) :
    Calls Try.prog 26 #[.pointer (some ⟨x, 0, none⟩)] w fun e w' => e = .returned (.tuple #[]) ∧ RefAt w' base x d N me now next (updE E me (now + 7)) ∧ Hop x (some d) (some d) w w' := by
  have HR := Lib.hid hR
  have hiN := hR.lt
  go_enter Try.func26, Try.ntmps26
  go_upto_region 0 with (fail)
  obtain ⟨cap, hb, ho⟩ := hR.blk
  have q1 : ∀ w', w.drew = w' → w'.cell? ⟨x, 1, none⟩ = some (.int .i64 me) := fun w' h => h ▸ hb.cell 1
  have q2 : ∀ w', w.drew = w' → w'.cell? ⟨x, 2, none⟩ = some (.int .i64 now) := fun w' h => h ▸ hb.cell 2
  have q4 : ∀ w', w.drew = w' → w'.cell? ⟨x, 4, none⟩ = some (.slice (some ⟨d, 0, none⟩) N cap) := fun w' h => h ▸ hb.cell 4
  have i0 : (0 : Int) ≤ (me : Int) := by omega
  have i1 : (me : Int) < (N : Int) := by omega
  have hwn : IntKind.i64.wrap (now + 7) = now + 7 := IntWalk.i64_in _ (by omega)
  clear hR hb ho
  refine wp_region_pure (fun a b => a = b) (fun _ => rfl) (fun _ _ _ h h' => h.trans h') [(0,3),(1,3),(2,3),(3,0),(4,3),(5,3),(6,3),(7,0),(8,3),(9,3),(10,3),(11,0),(12,3),(13,3),(14,2)] (by kernel_rfl) (by kernel_rfl) ?_
  iterate 3 (refine pure_pure (v := ?_) rfl (fun _ _ _ h => h) (by rfl) (fun w' => ?_) ?_; rotate_left; (go_simp; try with_reducible rfl); simp only [Act.put, List.setIfInBounds_toArray, List.set_cons_zero, List.set_cons_succ])
  iterate 1 (refine pure_quiet (v := ?_) rfl (fun _ _ _ h => h) (by rfl) (fun w' hR => ?_) ?_; rotate_left; (go_simp; try with_reducible rfl); simp only [Act.put, List.setIfInBounds_toArray, List.set_cons_zero, List.set_cons_succ])
  iterate 3 (refine pure_pure (v := ?_) rfl (fun _ _ _ h => h) (by rfl) (fun w' => ?_) ?_; rotate_left; (go_simp; try with_reducible rfl); simp only [Act.put, List.setIfInBounds_toArray, List.set_cons_zero, List.set_cons_succ])
  iterate 1 (refine pure_quiet (v := ?_) rfl (fun _ _ _ h => h) (by rfl) (fun w' hR => ?_) ?_; rotate_left; (go_simp; try with_reducible rfl); simp only [Act.put, List.setIfInBounds_toArray, List.set_cons_zero, List.set_cons_succ])
  iterate 3 (refine pure_pure (v := ?_) rfl (fun _ _ _ h => h) (by rfl) (fun w' => ?_) ?_; rotate_left; (go_simp; try with_reducible rfl); simp only [Act.put, List.setIfInBounds_toArray, List.set_cons_zero, List.set_cons_succ])
  iterate 1 (refine pure_quiet (v := ?_) rfl (fun _ _ _ h => h) (by rfl) (fun w' hR => ?_) ?_; rotate_left; (go_simp; try with_reducible rfl); simp only [Act.put, List.setIfInBounds_toArray, List.set_cons_zero, List.set_cons_succ])
  iterate 2 (refine pure_pure (v := ?_) rfl (fun _ _ _ h => h) (by rfl) (fun w' => ?_) ?_; rotate_left; (go_simp; try with_reducible rfl); simp only [Act.put, List.setIfInBounds_toArray, List.set_cons_zero, List.set_cons_succ])
  clear q1 q2 q4
  have e1 : w.drew.cell? ⟨d, me, none⟩ = _ := HR.out.due hiN
  have e2 := HR.out.dueF me
  refine pure_eff2 rfl ?_
  go_wp2_with fail
  refine purePost_free ?_
  refine pure_done ?_
  go_wp2_with fail
  go_end0
  exact ⟨rfl, (HR.out.setDue hiN _).below ((Below.refl _ _).drewN 1), (Hop.of_grown' (o := some d) (grown_cell w d me _)).trans (.of_below ((Below.refl _ _).drewN 1))⟩
end Go.Proofs.Ytaennccfhdjaaaa
