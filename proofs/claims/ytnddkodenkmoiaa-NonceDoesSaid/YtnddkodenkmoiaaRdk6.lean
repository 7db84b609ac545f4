/- A call of both disks. -/
import Derived.Test.YtnddkodenkmoiaaRdk5
namespace Go.Proofs.Ytnddkodenkmoiaa
open Go.RowKit Go.Proofs
set_option linter.unusedSimpArgs false
set_option linter.unusedVariables false
/-- Only the blocks of both disks have turned. -/
structure Only5 (d g x gl go : Nat) (a b : World) : Prop where
  os : b.os = a.os
  tape : b.tape = a.tape
  output : b.output = a.output
  size : a.heap.size ≤ b.heap.size
  block : ∀ i, i < a.heap.size → i ≠ d → i ≠ g → i ≠ x → i ≠ gl → i ≠ go → b.heap[i]? = a.heap[i]?
section
variable {d g x gl go cl co : Nat} {a b c : World} {X Y : Dk}
theorem Only5.refl (d g x gl go : Nat) (a : World) : Only5 d g x gl go a a := ⟨rfl, rfl, rfl, Nat.le_refl _, fun _ _ _ _ _ _ _ => rfl⟩
theorem Only5.trans (h : Only5 d g x gl go a b) (k : Only5 d g x gl go b c) : Only5 d g x gl go a c :=
  ⟨k.os.trans h.os, k.tape.trans h.tape, k.output.trans h.output, Nat.le_trans h.size k.size, fun i hi h1 h2 h3 h4 h5 => (k.block i (Nat.lt_of_lt_of_le hi h.size) h1 h2 h3 h4 h5).trans (h.block i hi h1 h2 h3 h4 h5)⟩
theorem Only5.below {B : Nat} (h : Only5 d g x gl go a b) (hB : B ≤ a.heap.size) (h1 : B ≤ d) (h2 : B ≤ g) (h3 : B ≤ x) (h4 : B ≤ gl) (h5 : B ≤ go) : Below B a b :=
  ⟨h.os, h.tape, h.output, h.size, fun i hi => h.block i (by omega) (by omega) (by omega) (by omega) (by omega) (by omega)⟩
theorem Only5.of_below (h : Below a.heap.size a b) : Only5 d g x gl go a b := ⟨h.os, h.tape, h.output, h.size, fun i hi _ _ _ _ _ => h.block i hi⟩
theorem Only5.of2 (h : Only2 d g a b) : Only5 d g x gl go a b := ⟨h.os, h.tape, h.output, h.size, fun i hi h1 h2 _ _ _ => h.block i hi h1 h2⟩
theorem Only5.of3 (h : Only3 x gl go a b) : Only5 d g x gl go a b := ⟨h.os, h.tape, h.output, h.size, fun i hi _ _ h1 h2 h3 => h.block i hi h1 h2 h3⟩
theorem Only5.drew (h : Only5 d g x gl go a b) : Only5 d g x gl go a b.drew := ⟨h.os, h.tape, h.output, h.size, h.block⟩
theorem Only5.cell (h : Only5 d g x gl go a b) {p : Addr} {v : Value} (hc : a.cell? p = some v) (h1 : p.block ≠ d) (h2 : p.block ≠ g) (h3 : p.block ≠ x) (h4 : p.block ≠ gl) (h5 : p.block ≠ go) : b.cell? p = some v := by
  have hl := World.block_lt_of_cell? a p hc
  have := h.block p.block hl h1 h2 h3 h4 h5
  unfold World.cell? at hc ⊢
  rw [this]; exact hc
theorem Only2.blk {q : Nat} {ty : TypeId} {cs : Array Value} (h : Only2 d g a b) (hD : DiskAt a d g X) (hq : Blk a q ty cs) (h1 : ty ≠ 89) (h2 : ty ≠ 93) : Blk b q ty cs :=
  (h.block q hq.lt (hq.ne_ hD.1 h1) (hq.ne_ hD.2.1 h2)).trans hq
theorem Only3.blk {q : Nat} {ty : TypeId} {cs : Array Value} (h : Only3 x gl go a b) (hR : RD a x gl go cl co X) (hq : Blk a q ty cs) (h1 : ty ≠ 32) (h2 : ty ≠ 9) : Blk b q ty cs := by
  obtain ⟨A, hA⟩ := hR.now.blk
  obtain ⟨B, hB⟩ := hR.old.blk
  exact (h.block q hq.lt (hq.ne_ hR.head h1) (hq.ne_ hA h2) (hq.ne_ hB h2)).trans hq
theorem Only2.kept {q : Nat} {cs : Array Value} (h : Only2 d g a b) (hD : DiskAt a d g X) (hq : Blk a q 38 cs) : KeptOn (fun i => i = q) a b :=
  ⟨h.size, fun i hi e => by subst e; exact h.block i hi (hq.ne_ hD.1 (by decide)) (hq.ne_ hD.2.1 (by decide))⟩
theorem Only3.kept {q : Nat} {cs : Array Value} (h : Only3 x gl go a b) (hR : RD a x gl go cl co X) (hq : Blk a q 38 cs) : KeptOn (fun i => i = q) a b := by
  obtain ⟨A, hA⟩ := hR.now.blk
  obtain ⟨B, hB⟩ := hR.old.blk
  exact ⟨h.size, fun i hi e => by subst e; exact h.block i hi (hq.ne_ hR.head (by decide)) (hq.ne_ hA (by decide)) (hq.ne_ hB (by decide))⟩
theorem RD.only2 (hR : RD a x gl go cl co X) (hD : DiskAt a d g Y) (h : Only2 d g a b) : RD b x gl go cl co X := by
  obtain ⟨A, hA⟩ := hR.now.blk
  obtain ⟨B, hB⟩ := hR.old.blk
  exact { hR with
    head := h.blk hD hR.head (by decide) (by decide)
    now := hR.now.same (h.block gl hA.lt (hA.ne_ hD.1 (by decide)) (hA.ne_ hD.2.1 (by decide)))
    old := hR.old.same (h.block go hB.lt (hB.ne_ hD.1 (by decide)) (hB.ne_ hD.2.1 (by decide))) }
theorem DiskAt.only3 (hD : DiskAt a d g X) (hR : RD a x gl go cl co Y) (h : Only3 x gl go a b) : DiskAt b d g X :=
  ⟨h.blk hR hD.1 (by decide) (by decide), h.blk hR hD.2.1 (by decide) (by decide), hD.2.2⟩
end
/-- Both disks, in the same state. -/
structure Both (w : World) (d g x gl go cl co : Nat) (X : Dk) : Prop where
  a : DiskAt w d g X
  b : RD w x gl go cl co X
theorem Both.below {w w' : World} {d g x gl go cl co : Nat} {X : Dk} (h : Both w d g x gl go cl co X) (hb : Below w.heap.size w w') : Both w' d g x gl go cl co X := ⟨h.a.below hb, h.b.below hb⟩
/-- A row of ints, far from both disks. -/
def KeepB (d g x gl go : Nat) (w : World) (v : Value) (ks : List Int) : Prop :=
  ∃ o c, v = .slice o ks.length c ∧ ks.length ≤ c ∧ ∀ j k, ks[j]? = some k → ∃ a, o = some a ∧ w.cell? (a.add j) = some (.int .i64 k) ∧ a.block ≠ d ∧ a.block ≠ g ∧ a.block ≠ x ∧ a.block ≠ gl ∧ a.block ≠ go
theorem KeepB.only {d g x gl go : Nat} {w w' : World} {v : Value} {ks : List Int} (h : KeepB d g x gl go w v ks) (hO : Only5 d g x gl go w w') : KeepB d g x gl go w' v ks := by
  obtain ⟨o, c, hv, hc, hi⟩ := h
  refine ⟨o, c, hv, hc, fun j k hj => ?_⟩
  obtain ⟨a, ha, hcell, h1, h2, h3, h4, h5⟩ := hi j k hj
  refine ⟨a, ha, hO.cell hcell ?_ ?_ ?_ ?_ ?_, h1, h2, h3, h4, h5⟩ <;> rw [add_block] <;> assumption
theorem KeepB.keep {d g x gl go : Nat} {w : World} {v : Value} {ks : List Int} (h : KeepB d g x gl go w v ks) : KeepAt d g w v ks := by
  obtain ⟨o, c, hv, hc, hi⟩ := h
  refine ⟨o, c, hv, hc, fun j k hj => ?_⟩
  obtain ⟨a, ha, hcell, h1, h2, _⟩ := hi j k hj
  exact ⟨a, ha, hcell, h1, h2⟩
theorem KeepB.keepR {d g x gl go : Nat} {w : World} {v : Value} {ks : List Int} (h : KeepB d g x gl go w v ks) : KeepR x gl go w v ks := by
  obtain ⟨o, c, hv, hc, hi⟩ := h
  refine ⟨o, c, hv, hc, fun j k hj => ?_⟩
  obtain ⟨a, ha, hcell, _, _, h3, h4, h5⟩ := hi j k hj
  exact ⟨a, ha, hcell, h3, h4, h5⟩
def Dk.act (X : Dk) (k i : Int) (s : ByteArray) (ks : List Int) : Dk :=
  if k = 0 ∨ k = 1 ∨ k = 2 then X.write i s else if k = 3 then X.sync else if k = 4 then X.arm i else X.crash ks
set_option maxRecDepth 100000 in
set_option maxHeartbeats 4000000 in
theorem do_any (d g x gl go cl co : Nat) (X : Dk) (k i : Int) (s : ByteArray) (v : Value) (ks : List Int) (hi : i ≤ 9223372036854775807) (hkl : ks.length ≤ 9223372036854775807) (w : World) (h : Both w d g x gl go cl co X) (hv : KeepB d g x gl go w v ks) :
    Calls Try.prog 47 #[.pointer (some ⟨d, 0, none⟩), .pointer (some ⟨x, 0, none⟩), .agg #[.int .i64 k, .int .i64 i, .string s, v]] w fun e w' => e = .returned (.bool true) ∧ Both w' d g x gl go cl co (X.act k i s ks) ∧ Only5 d g x gl go w w' := by
  have HI := Lib.hid hi
  have HKL := Lib.hid hkl
  clear hi hkl
  obtain ⟨vo, vc, rfl, hvc, hvi⟩ := hv
  have HV := Lib.hid (show KeepB d g x gl go w (.slice vo ks.length vc) ks from ⟨vo, vc, rfl, hvc, hvi⟩)
  clear hvi
  generalize ks.length = n at HV ⊢
  have HH := Lib.hid h
  clear h
  go_enter Try.func47, Try.ntmps47
  go_upto_region 1 with (fail)
  have hb : Below w.heap.size w (w.alloc (.cells #[.int .i64 k, .int .i64 i, .string s, .slice vo n vc] 38)) := (Below.refl _ _).alloc (Nat.le_refl _) _
  have hX := Blk.new w 38 #[.int .i64 k, .int .i64 i, .string s, .slice vo n vc]
  change Code.wp _ _ _ _ (w.alloc (.cells #[.int .i64 k, .int .i64 i, .string s, .slice vo n vc] 38))
  have HO := Lib.hid (Only5.of_below (d := d) (g := g) (x := x) (gl := gl) (go := go) hb)
  have HA := Lib.hid (HH.out.below hb).a
  have HR := Lib.hid (HH.out.below hb).b
  have HV := Lib.hid (HV.out.only HO.out)
  clear hb HH
  generalize w.alloc (.cells #[.int .i64 k, .int .i64 i, .string s, .slice vo n vc] 38) = w1 at hX HO HA HR HV ⊢
  generalize w.heap.size = bx at hX ⊢
  have HX := Lib.hid hX
  clear hX
  by_cases hk0 : k = 0
  · subst hk0
    have HN := Lib.hid (show X.act 0 i s ks = X.write i s from if_pos (by omega))
    as_aux_lemma =>
      have c0 : w1.cell? ⟨bx, 0, none⟩ = some (.int .i64 0) := HX.out.cell 0
      go_upto_region 5 with (fail)
      clear c0
      have HX := Lib.hid HX.out.drew
      have HA := Lib.hid HA.out.drew
      have HR := Lib.hid HR.out.drew
      have HO := Lib.hid HO.out.drew
      generalize hw2 : w1.drew = w2 at HX HA HR HO
      have e1 : ∀ w', KeptOn (fun b => b = bx) w2 w' → w'.cell? ⟨bx, 1, none⟩ = some (.int .i64 i) := fun w' h => h.cell (w := w2) (HX.out.cell 1) rfl
      have e2 : ∀ w', KeptOn (fun b => b = bx) w2 w' → w'.cell? ⟨bx, 2, none⟩ = some (.string s) := fun w' h => h.cell (w := w2) (HX.out.cell 2) rfl
      refine wp_region_pure (KeptOn fun b => b = bx) (KeptOn.refl _) (KeptOn.trans) [(0,3),(1,3),(2,0),(3,3),(4,0),(6,3),(7,3),(8,0),(9,3),(10,0),(5,1),(11,1),(12,3),(13,3)] (by kernel_rfl) (by kernel_rfl) ?_
      rw [hw2]
      clear hw2
      iterate 2 (refine pure_pure (v := ?_) rfl (fun _ _ _ h => h) (by rfl) (fun w' => ?_) ?_; rotate_left; (go_simp; try with_reducible rfl); simp only [Act.put, List.setIfInBounds_toArray, List.set_cons_zero, List.set_cons_succ])
      iterate 1 (refine pure_quiet (v := ?_) rfl (fun _ _ _ h => h) (by rfl) (fun w' hR => ?_) ?_; rotate_left; (go_simp; try with_reducible rfl); simp only [Act.put, List.setIfInBounds_toArray, List.set_cons_zero, List.set_cons_succ])
      iterate 1 (refine pure_pure (v := ?_) rfl (fun _ _ _ h => h) (by rfl) (fun w' => ?_) ?_; rotate_left; (go_simp; try with_reducible rfl); simp only [Act.put, List.setIfInBounds_toArray, List.set_cons_zero, List.set_cons_succ])
      iterate 1 (refine pure_quiet (v := ?_) rfl (fun _ _ _ h => h) (by rfl) (fun w' hR => ?_) ?_; rotate_left; (go_simp; try with_reducible rfl); simp only [Act.put, List.setIfInBounds_toArray, List.set_cons_zero, List.set_cons_succ])
      iterate 2 (refine pure_pure (v := ?_) rfl (fun _ _ _ h => h) (by rfl) (fun w' => ?_) ?_; rotate_left; (go_simp; try with_reducible rfl); simp only [Act.put, List.setIfInBounds_toArray, List.set_cons_zero, List.set_cons_succ])
      iterate 1 (refine pure_quiet (v := ?_) rfl (fun _ _ _ h => h) (by rfl) (fun w' hR => ?_) ?_; rotate_left; (go_simp; try with_reducible rfl); simp only [Act.put, List.setIfInBounds_toArray, List.set_cons_zero, List.set_cons_succ])
      iterate 1 (refine pure_pure (v := ?_) rfl (fun _ _ _ h => h) (by rfl) (fun w' => ?_) ?_; rotate_left; (go_simp; try with_reducible rfl); simp only [Act.put, List.setIfInBounds_toArray, List.set_cons_zero, List.set_cons_succ])
      iterate 1 (refine pure_quiet (v := ?_) rfl (fun _ _ _ h => h) (by rfl) (fun w' hR => ?_) ?_; rotate_left; (go_simp; try with_reducible rfl); simp only [Act.put, List.setIfInBounds_toArray, List.set_cons_zero, List.set_cons_succ])
      clear e1 e2
      refine pure_eff rfl ?_
      go_wp2_with fail
      refine (write_any d g X i s w2 HA.out HR.out.arm1).mono ?_
      rintro en w3 ⟨rfl, hD, hO⟩
      have HKe := Lib.hid (show KeptOn (fun b => b = bx) w2 w3 from hO.kept HA.out HX.out)
      have HX := Lib.hid (hO.blk HA.out HX.out (by decide) (by decide))
      have HR := Lib.hid (HR.out.only2 HA.out hO)
      have HO := Lib.hid (HO.out.trans (Only5.of2 hO))
      have HA := Lib.hid hD
      clear hD hO
      generalize hY : X.writeR i s = y
      have HY := Lib.hid hY
      clear hY
      go_wp2_with fail
      refine purePost_need HKe.out ?_
      refine pure_eff rfl ?_
      go_wp2_with fail
      refine (writeR_any x gl go cl co X i s w3 HR.out).mono ?_
      rintro en w4 ⟨rfl, hD, hO⟩
      have HKe := Lib.hid (show KeptOn (fun b => b = bx) w3 w4 from hO.kept HR.out HX.out)
      have HA := Lib.hid (HA.out.only3 HR.out hO)
      have HO := Lib.hid (HO.out.trans (Only5.of3 hO))
      have HR := Lib.hid hD
      clear hD hO
      rw [HY.out]
      go_wp2_with fail
      refine purePost_need HKe.out ?_
      iterate 2 (refine pure_pure (v := ?_) rfl (fun _ _ _ h => h) (by rfl) (fun w' => ?_) ?_; rotate_left; (go_simp; try with_reducible rfl); simp only [Act.put, List.setIfInBounds_toArray, List.set_cons_zero, List.set_cons_succ])
      refine pure_done ?_
      go_wp2_with fail
      go_ret
      exact ⟨by simp, by rw [HN.out]; exact ⟨HA.out, HR.out⟩, HO.out⟩
  by_cases hk1 : k = 1
  · subst hk1
    have HN := Lib.hid (show X.act 1 i s ks = X.write i s from if_pos (by omega))
    as_aux_lemma =>
      have c0 : w1.cell? ⟨bx, 0, none⟩ = some (.int .i64 1) := HX.out.cell 0
      go_upto_region 5 with (fail)
      clear c0
      have HX := Lib.hid HX.out.drew
      have HA := Lib.hid HA.out.drew
      have HR := Lib.hid HR.out.drew
      have HO := Lib.hid HO.out.drew
      generalize hw2 : w1.drew = w2 at HX HA HR HO
      have e1 : ∀ w', KeptOn (fun b => b = bx) w2 w' → w'.cell? ⟨bx, 1, none⟩ = some (.int .i64 i) := fun w' h => h.cell (w := w2) (HX.out.cell 1) rfl
      have e2 : ∀ w', KeptOn (fun b => b = bx) w2 w' → w'.cell? ⟨bx, 2, none⟩ = some (.string s) := fun w' h => h.cell (w := w2) (HX.out.cell 2) rfl
      refine wp_region_pure (KeptOn fun b => b = bx) (KeptOn.refl _) (KeptOn.trans) [(0,3),(1,3),(2,0),(3,3),(4,0),(6,3),(7,3),(8,0),(9,3),(10,0),(5,1),(11,1),(12,3),(13,3)] (by kernel_rfl) (by kernel_rfl) ?_
      rw [hw2]
      clear hw2
      iterate 2 (refine pure_pure (v := ?_) rfl (fun _ _ _ h => h) (by rfl) (fun w' => ?_) ?_; rotate_left; (go_simp; try with_reducible rfl); simp only [Act.put, List.setIfInBounds_toArray, List.set_cons_zero, List.set_cons_succ])
      iterate 1 (refine pure_quiet (v := ?_) rfl (fun _ _ _ h => h) (by rfl) (fun w' hR => ?_) ?_; rotate_left; (go_simp; try with_reducible rfl); simp only [Act.put, List.setIfInBounds_toArray, List.set_cons_zero, List.set_cons_succ])
      iterate 1 (refine pure_pure (v := ?_) rfl (fun _ _ _ h => h) (by rfl) (fun w' => ?_) ?_; rotate_left; (go_simp; try with_reducible rfl); simp only [Act.put, List.setIfInBounds_toArray, List.set_cons_zero, List.set_cons_succ])
      iterate 1 (refine pure_quiet (v := ?_) rfl (fun _ _ _ h => h) (by rfl) (fun w' hR => ?_) ?_; rotate_left; (go_simp; try with_reducible rfl); simp only [Act.put, List.setIfInBounds_toArray, List.set_cons_zero, List.set_cons_succ])
      iterate 2 (refine pure_pure (v := ?_) rfl (fun _ _ _ h => h) (by rfl) (fun w' => ?_) ?_; rotate_left; (go_simp; try with_reducible rfl); simp only [Act.put, List.setIfInBounds_toArray, List.set_cons_zero, List.set_cons_succ])
      iterate 1 (refine pure_quiet (v := ?_) rfl (fun _ _ _ h => h) (by rfl) (fun w' hR => ?_) ?_; rotate_left; (go_simp; try with_reducible rfl); simp only [Act.put, List.setIfInBounds_toArray, List.set_cons_zero, List.set_cons_succ])
      iterate 1 (refine pure_pure (v := ?_) rfl (fun _ _ _ h => h) (by rfl) (fun w' => ?_) ?_; rotate_left; (go_simp; try with_reducible rfl); simp only [Act.put, List.setIfInBounds_toArray, List.set_cons_zero, List.set_cons_succ])
      iterate 1 (refine pure_quiet (v := ?_) rfl (fun _ _ _ h => h) (by rfl) (fun w' hR => ?_) ?_; rotate_left; (go_simp; try with_reducible rfl); simp only [Act.put, List.setIfInBounds_toArray, List.set_cons_zero, List.set_cons_succ])
      clear e1 e2
      refine pure_eff rfl ?_
      go_wp2_with fail
      refine (write_any d g X i s w2 HA.out HR.out.arm1).mono ?_
      rintro en w3 ⟨rfl, hD, hO⟩
      have HKe := Lib.hid (show KeptOn (fun b => b = bx) w2 w3 from hO.kept HA.out HX.out)
      have HX := Lib.hid (hO.blk HA.out HX.out (by decide) (by decide))
      have HR := Lib.hid (HR.out.only2 HA.out hO)
      have HO := Lib.hid (HO.out.trans (Only5.of2 hO))
      have HA := Lib.hid hD
      clear hD hO
      generalize hY : X.writeR i s = y
      have HY := Lib.hid hY
      clear hY
      go_wp2_with fail
      refine purePost_need HKe.out ?_
      refine pure_eff rfl ?_
      go_wp2_with fail
      refine (writeR_any x gl go cl co X i s w3 HR.out).mono ?_
      rintro en w4 ⟨rfl, hD, hO⟩
      have HKe := Lib.hid (show KeptOn (fun b => b = bx) w3 w4 from hO.kept HR.out HX.out)
      have HA := Lib.hid (HA.out.only3 HR.out hO)
      have HO := Lib.hid (HO.out.trans (Only5.of3 hO))
      have HR := Lib.hid hD
      clear hD hO
      rw [HY.out]
      go_wp2_with fail
      refine purePost_need HKe.out ?_
      iterate 2 (refine pure_pure (v := ?_) rfl (fun _ _ _ h => h) (by rfl) (fun w' => ?_) ?_; rotate_left; (go_simp; try with_reducible rfl); simp only [Act.put, List.setIfInBounds_toArray, List.set_cons_zero, List.set_cons_succ])
      refine pure_done ?_
      go_wp2_with fail
      go_ret
      exact ⟨by simp, by rw [HN.out]; exact ⟨HA.out, HR.out⟩, HO.out⟩
  by_cases hk2 : k = 2
  · subst hk2
    have HN := Lib.hid (show X.act 2 i s ks = X.write i s from if_pos (by omega))
    as_aux_lemma =>
      have c0 : w1.cell? ⟨bx, 0, none⟩ = some (.int .i64 2) := HX.out.cell 0
      go_upto_region 5 with (fail)
      clear c0
      have HX := Lib.hid HX.out.drew
      have HA := Lib.hid HA.out.drew
      have HR := Lib.hid HR.out.drew
      have HO := Lib.hid HO.out.drew
      generalize hw2 : w1.drew = w2 at HX HA HR HO
      have e1 : ∀ w', KeptOn (fun b => b = bx) w2 w' → w'.cell? ⟨bx, 1, none⟩ = some (.int .i64 i) := fun w' h => h.cell (w := w2) (HX.out.cell 1) rfl
      have e2 : ∀ w', KeptOn (fun b => b = bx) w2 w' → w'.cell? ⟨bx, 2, none⟩ = some (.string s) := fun w' h => h.cell (w := w2) (HX.out.cell 2) rfl
      refine wp_region_pure (KeptOn fun b => b = bx) (KeptOn.refl _) (KeptOn.trans) [(0,3),(1,3),(2,0),(3,3),(4,0),(6,3),(7,3),(8,0),(9,3),(10,0),(5,1),(11,1),(12,3),(13,3)] (by kernel_rfl) (by kernel_rfl) ?_
      rw [hw2]
      clear hw2
      iterate 2 (refine pure_pure (v := ?_) rfl (fun _ _ _ h => h) (by rfl) (fun w' => ?_) ?_; rotate_left; (go_simp; try with_reducible rfl); simp only [Act.put, List.setIfInBounds_toArray, List.set_cons_zero, List.set_cons_succ])
      iterate 1 (refine pure_quiet (v := ?_) rfl (fun _ _ _ h => h) (by rfl) (fun w' hR => ?_) ?_; rotate_left; (go_simp; try with_reducible rfl); simp only [Act.put, List.setIfInBounds_toArray, List.set_cons_zero, List.set_cons_succ])
      iterate 1 (refine pure_pure (v := ?_) rfl (fun _ _ _ h => h) (by rfl) (fun w' => ?_) ?_; rotate_left; (go_simp; try with_reducible rfl); simp only [Act.put, List.setIfInBounds_toArray, List.set_cons_zero, List.set_cons_succ])
      iterate 1 (refine pure_quiet (v := ?_) rfl (fun _ _ _ h => h) (by rfl) (fun w' hR => ?_) ?_; rotate_left; (go_simp; try with_reducible rfl); simp only [Act.put, List.setIfInBounds_toArray, List.set_cons_zero, List.set_cons_succ])
      iterate 2 (refine pure_pure (v := ?_) rfl (fun _ _ _ h => h) (by rfl) (fun w' => ?_) ?_; rotate_left; (go_simp; try with_reducible rfl); simp only [Act.put, List.setIfInBounds_toArray, List.set_cons_zero, List.set_cons_succ])
      iterate 1 (refine pure_quiet (v := ?_) rfl (fun _ _ _ h => h) (by rfl) (fun w' hR => ?_) ?_; rotate_left; (go_simp; try with_reducible rfl); simp only [Act.put, List.setIfInBounds_toArray, List.set_cons_zero, List.set_cons_succ])
      iterate 1 (refine pure_pure (v := ?_) rfl (fun _ _ _ h => h) (by rfl) (fun w' => ?_) ?_; rotate_left; (go_simp; try with_reducible rfl); simp only [Act.put, List.setIfInBounds_toArray, List.set_cons_zero, List.set_cons_succ])
      iterate 1 (refine pure_quiet (v := ?_) rfl (fun _ _ _ h => h) (by rfl) (fun w' hR => ?_) ?_; rotate_left; (go_simp; try with_reducible rfl); simp only [Act.put, List.setIfInBounds_toArray, List.set_cons_zero, List.set_cons_succ])
      clear e1 e2
      refine pure_eff rfl ?_
      go_wp2_with fail
      refine (write_any d g X i s w2 HA.out HR.out.arm1).mono ?_
      rintro en w3 ⟨rfl, hD, hO⟩
      have HKe := Lib.hid (show KeptOn (fun b => b = bx) w2 w3 from hO.kept HA.out HX.out)
      have HX := Lib.hid (hO.blk HA.out HX.out (by decide) (by decide))
      have HR := Lib.hid (HR.out.only2 HA.out hO)
      have HO := Lib.hid (HO.out.trans (Only5.of2 hO))
      have HA := Lib.hid hD
      clear hD hO
      generalize hY : X.writeR i s = y
      have HY := Lib.hid hY
      clear hY
      go_wp2_with fail
      refine purePost_need HKe.out ?_
      refine pure_eff rfl ?_
      go_wp2_with fail
      refine (writeR_any x gl go cl co X i s w3 HR.out).mono ?_
      rintro en w4 ⟨rfl, hD, hO⟩
      have HKe := Lib.hid (show KeptOn (fun b => b = bx) w3 w4 from hO.kept HR.out HX.out)
      have HA := Lib.hid (HA.out.only3 HR.out hO)
      have HO := Lib.hid (HO.out.trans (Only5.of3 hO))
      have HR := Lib.hid hD
      clear hD hO
      rw [HY.out]
      go_wp2_with fail
      refine purePost_need HKe.out ?_
      iterate 2 (refine pure_pure (v := ?_) rfl (fun _ _ _ h => h) (by rfl) (fun w' => ?_) ?_; rotate_left; (go_simp; try with_reducible rfl); simp only [Act.put, List.setIfInBounds_toArray, List.set_cons_zero, List.set_cons_succ])
      refine pure_done ?_
      go_wp2_with fail
      go_ret
      exact ⟨by simp, by rw [HN.out]; exact ⟨HA.out, HR.out⟩, HO.out⟩
  by_cases hk3 : k = 3
  · subst hk3
    have HN := Lib.hid (show X.act 3 i s ks = X.sync by unfold Dk.act; rw [if_neg (by omega), if_pos rfl])
    as_aux_lemma =>
      have c0 : w1.cell? ⟨bx, 0, none⟩ = some (.int .i64 3) := HX.out.cell 0
      go_wp2_with fail
      clear c0
      refine (sync_any d g X w1 HA.out HR.out.arm1).mono ?_
      rintro en w3 ⟨rfl, hD, hO⟩
      have HR := Lib.hid (HR.out.only2 HA.out hO)
      have HO := Lib.hid (HO.out.trans (Only5.of2 hO))
      have HA := Lib.hid hD
      clear hD hO
      generalize hY : X.syncR = y
      have HY := Lib.hid hY
      clear hY
      go_wp2_with fail
      refine (syncR_any x gl go cl co X w3 HR.out).mono ?_
      rintro en w4 ⟨rfl, hD, hO⟩
      have HA := Lib.hid (HA.out.only3 HR.out hO)
      have HO := Lib.hid (HO.out.trans (Only5.of3 hO))
      have HR := Lib.hid hD
      clear hD hO
      rw [HY.out]
      go_wp2_with fail
      go_ret
      exact ⟨by simp, by rw [HN.out]; exact ⟨HA.out, HR.out⟩, HO.out⟩
  by_cases hk4 : k = 4
  · subst hk4
    have HN := Lib.hid (show X.act 4 i s ks = X.arm i by unfold Dk.act; rw [if_neg (by omega), if_neg (by omega), if_pos rfl])
    as_aux_lemma =>
      have c0 : w1.cell? ⟨bx, 0, none⟩ = some (.int .i64 4) := HX.out.cell 0
      go_upto_region 9 with (fail)
      clear c0
      have HX := Lib.hid HX.out.drew
      have HA := Lib.hid HA.out.drew
      have HR := Lib.hid HR.out.drew
      have HO := Lib.hid HO.out.drew
      generalize hw2 : w1.drew = w2 at HX HA HR HO
      have e1 : ∀ w', KeptOn (fun b => b = bx) w2 w' → w'.cell? ⟨bx, 1, none⟩ = some (.int .i64 i) := fun w' h => h.cell (w := w2) (HX.out.cell 1) rfl
      have e2 : ∀ w', KeptOn (fun b => b = bx) w2 w' → w'.cell? ⟨bx, 2, none⟩ = some (.string s) := fun w' h => h.cell (w := w2) (HX.out.cell 2) rfl
      refine wp_region_pure (KeptOn fun b => b = bx) (KeptOn.refl _) (KeptOn.trans) [(0,3),(1,3),(2,0),(4,3),(5,3),(6,0),(3,1),(7,1),(8,3),(9,3)] (by kernel_rfl) (by kernel_rfl) ?_
      rw [hw2]
      clear hw2
      iterate 2 (refine pure_pure (v := ?_) rfl (fun _ _ _ h => h) (by rfl) (fun w' => ?_) ?_; rotate_left; (go_simp; try with_reducible rfl); simp only [Act.put, List.setIfInBounds_toArray, List.set_cons_zero, List.set_cons_succ])
      iterate 1 (refine pure_quiet (v := ?_) rfl (fun _ _ _ h => h) (by rfl) (fun w' hR => ?_) ?_; rotate_left; (go_simp; try with_reducible rfl); simp only [Act.put, List.setIfInBounds_toArray, List.set_cons_zero, List.set_cons_succ])
      iterate 2 (refine pure_pure (v := ?_) rfl (fun _ _ _ h => h) (by rfl) (fun w' => ?_) ?_; rotate_left; (go_simp; try with_reducible rfl); simp only [Act.put, List.setIfInBounds_toArray, List.set_cons_zero, List.set_cons_succ])
      iterate 1 (refine pure_quiet (v := ?_) rfl (fun _ _ _ h => h) (by rfl) (fun w' hR => ?_) ?_; rotate_left; (go_simp; try with_reducible rfl); simp only [Act.put, List.setIfInBounds_toArray, List.set_cons_zero, List.set_cons_succ])
      clear e1 e2
      refine pure_eff rfl ?_
      go_wp2_with fail
      refine (arm_any d g X i w2 HA.out).mono ?_
      rintro en w3 ⟨rfl, hD, hO⟩
      have HKe := Lib.hid (show KeptOn (fun b => b = bx) w2 w3 from hO.kept HA.out HX.out)
      have HX := Lib.hid (hO.blk HA.out HX.out (by decide) (by decide))
      have HR := Lib.hid (HR.out.only2 HA.out hO)
      have HO := Lib.hid (HO.out.trans (Only5.of2 hO))
      have HA := Lib.hid hD
      clear hD hO
      generalize hY : X.armR i = y
      have HY := Lib.hid hY
      clear hY
      go_wp2_with fail
      refine purePost_need HKe.out ?_
      refine pure_eff rfl ?_
      go_wp2_with fail
      refine (armR_any x gl go cl co X i HI.out w3 HR.out).mono ?_
      rintro en w4 ⟨rfl, hD, hO⟩
      have HKe := Lib.hid (show KeptOn (fun b => b = bx) w3 w4 from hO.kept HR.out HX.out)
      have HA := Lib.hid (HA.out.only3 HR.out hO)
      have HO := Lib.hid (HO.out.trans (Only5.of3 hO))
      have HR := Lib.hid hD
      clear hD hO
      rw [HY.out]
      go_wp2_with fail
      refine purePost_need HKe.out ?_
      iterate 2 (refine pure_pure (v := ?_) rfl (fun _ _ _ h => h) (by rfl) (fun w' => ?_) ?_; rotate_left; (go_simp; try with_reducible rfl); simp only [Act.put, List.setIfInBounds_toArray, List.set_cons_zero, List.set_cons_succ])
      refine pure_done ?_
      go_wp2_with fail
      go_ret
      exact ⟨by simp, by rw [HN.out]; exact ⟨HA.out, HR.out⟩, HO.out⟩
  have HN := Lib.hid (show X.act k i s ks = X.crash ks by unfold Dk.act; rw [if_neg (by omega), if_neg hk3, if_neg hk4])
  have c0 : w1.cell? ⟨bx, 0, none⟩ = some (.int .i64 k) := HX.out.cell 0
  have c3 : w1.cell? ⟨bx, 3, none⟩ = some (.slice vo n vc) := HX.out.cell 3
  have b0 : (k == (0 : Int)) = false := by simp [hk0]
  have b1 : (k == (1 : Int)) = false := by simp [hk1]
  have b2 : (k == (2 : Int)) = false := by simp [hk2]
  have b3 : (k == (3 : Int)) = false := by simp [hk3]
  have b4 : (k == (4 : Int)) = false := by simp [hk4]
  as_aux_lemma =>
    go_wp2_with fail
    clear c0 c3 b0 b1 b2 b3 b4
    refine (crashR_any x gl go cl co X _ ks w1 HR.out HV.out.keepR HKL.out).mono ?_
    rintro en w3 ⟨rfl, hD, hO⟩
    have HX := Lib.hid (hO.blk HR.out HX.out (by decide) (by decide))
    have HV := Lib.hid (HV.out.only (Only5.of3 hO))
    have HA := Lib.hid (HA.out.only3 HR.out hO)
    have HO := Lib.hid (HO.out.trans (Only5.of3 hO))
    have HR := Lib.hid hD
    clear hD hO
    have c3 : w3.cell? ⟨bx, 3, none⟩ = some (.slice vo n vc) := HX.out.cell 3
    go_wp2_with fail
    clear c3
    refine (crash_any d g X _ ks w3 HA.out HV.out.keep HKL.out).mono ?_
    rintro en w4 ⟨rfl, hD, hO⟩
    have HR := Lib.hid (HR.out.only2 HA.out hO)
    have HO := Lib.hid (HO.out.trans (Only5.of2 hO))
    have HA := Lib.hid hD
    clear hD hO
    go_wp2_with fail
    go_ret
    exact ⟨by simp, by rw [HN.out]; exact ⟨HA.out, HR.out⟩, HO.out⟩
end Go.Proofs.Ytnddkodenkmoiaa
