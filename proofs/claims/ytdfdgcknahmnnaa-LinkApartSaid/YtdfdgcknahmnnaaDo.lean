/- The walks of the law's own helpers: do (a call of both), short, same. -/
import Derived.Test.YtdfdgcknahmnnaaRefs
namespace Go.Proofs.Ytdfdgcknahmnnaa
open Go.RowKit Go.Proofs
set_option linter.unusedSimpArgs false
set_option linter.unusedVariables false

def doM (N k c : Int) (s : ByteArray) (L : Nat → List ByteArray) : Nat → List ByteArray :=
  if k = 0 ∨ k = 1 then putM N c s L 0 else if k = 2 ∨ k = 3 then putM N c s L 1 else if k = 4 ∨ k = 5 then takeM N c L 0 else if k = 6 ∨ k = 7 then takeM N c L 1 else resetM N c L

/-- But for the three blocks and new ones w' is w. -/
structure Only3 (g u d : Nat) (w w' : World) : Prop where
  os : w'.os = w.os
  tape : w'.tape = w.tape
  output : w'.output = w.output
  size : w.heap.size ≤ w'.heap.size
  block : ∀ k, k < w.heap.size → k ≠ g → k ≠ u → k ≠ d → w'.heap[k]? = w.heap[k]?
theorem Only3.refl (g u d : Nat) (w : World) : Only3 g u d w w := ⟨rfl, rfl, rfl, Nat.le_refl _, fun _ _ _ _ _ => rfl⟩
theorem Only3.trans {g u d : Nat} {a b c : World} (h : Only3 g u d a b) (k : Only3 g u d b c) : Only3 g u d a c :=
  ⟨k.os.trans h.os, k.tape.trans h.tape, k.output.trans h.output, Nat.le_trans h.size k.size, fun i hi h1 h2 h3 => (k.block i (Nat.lt_of_lt_of_le hi h.size) h1 h2 h3).trans (h.block i hi h1 h2 h3)⟩
theorem Only3.of_only {g u d p : Nat} {a b : World} (h : OnlyAt p a b) (hp : p = g ∨ p = u ∨ p = d) : Only3 g u d a b :=
  ⟨h.os, h.tape, h.output, h.size, fun k hk h1 h2 h3 => h.block k hk (fun e => by injection e with e; omega)⟩
theorem Only3.of_none {g u d : Nat} {a b : World} (h : a.grownBy b none) : Only3 g u d a b := ⟨h.os, h.tape, h.output, h.size, fun k hk _ _ _ => h.block k hk (by simp)⟩
theorem Only3.alloc (g u d : Nat) (w : World) (o : Obj) : Only3 g u d w (w.alloc o) := .of_none (World.grownBy_alloc _ _ _)
theorem Only3.drew (g u d : Nat) (w : World) : Only3 g u d w w.drew := .of_none (grownBy_drew _ _)
theorem Only3.below {g u d B : Nat} {w0 w w' : World} (hB : Below B w0 w) (h : Only3 g u d w w') (hg : B ≤ g) (hu : B ≤ u) (hd : B ≤ d) (hs : B ≤ w.heap.size) : Below B w0 w' :=
  hB.trans ⟨h.os, h.tape, h.output, h.size, fun k hk => h.block k (by omega) (by omega) (by omega) (by omega)⟩
theorem Only3.blk {g u d b : Nat} {w w' : World} {t : TypeId} {cs : Array Value} (hb : Blk w b t cs) (h : Only3 g u d w w') (h1 : b ≠ g) (h2 : b ≠ u) (h3 : b ≠ d) : Blk w' b t cs := (h.block b hb.lt h1 h2 h3).trans hb

section
variable {w w' : World} {g x u d N : Nat} {L : Nat → List ByteArray}
theorem Sync.ne (h : Sync w g x u d N L) : g ≠ x ∧ g ≠ u ∧ g ≠ d ∧ x ≠ u ∧ x ≠ d ∧ u ≠ d := by
  obtain ⟨_, hg⟩ := h.link.1.1.blk
  obtain ⟨_, hu⟩ := h.ref.up.blk
  obtain ⟨_, hd⟩ := h.ref.down.blk
  exact ⟨hg.ne_ h.ref.blk (by decide), hg.ne_ hu (by decide), hg.ne_ hd (by decide), h.ref.blk.ne_ hu (by decide), h.ref.blk.ne_ hd (by decide), h.ref.ne⟩
theorem Sync.lt (h : Sync w g x u d N L) : g < w.heap.size ∧ x < w.heap.size ∧ u < w.heap.size ∧ d < w.heap.size := ⟨h.link.1.1.lt, h.ref.blk.lt, h.ref.up.lt, h.ref.down.lt⟩
theorem Sync.below (h : Sync w g x u d N L) (hB : Below w.heap.size w w') : Sync w' g x u d N L :=
  ⟨h.link.below hB, ⟨h.ref.blk.below hB h.ref.blk.lt, h.ref.up.below hB, h.ref.down.below hB, h.ref.ne⟩⟩
theorem Sync.grown (h : Sync w g x u d N L) (hg : w.grownBy w' none) : Sync w' g x u d N L := h.below (below_of_grown hg (Nat.le_refl _))
theorem Sync.drew (h : Sync w g x u d N L) : Sync w.drew g x u d N L := h.grown (grownBy_drew _ _)
theorem Sync.drewN (h : Sync w g x u d N L) (k : Nat) : Sync (w.drewN k) g x u d N L := h.below ((Below.refl _ _).drewN k)
theorem RefAt.below {U D : Nat → List ByteArray} (h : RefAt w x u d N U D) (hB : Below w.heap.size w w') : RefAt w' x u d N U D := ⟨h.blk.below hB h.blk.lt, h.up.below hB, h.down.below hB, h.ne⟩
/-- The reference stays as it was where block g alone turns. -/
theorem RefAt.far {U D : Nat → List ByteArray} (h : RefAt w x u d N U D) {cs : Array Value} (hg : Blk w g 54 cs) (ho : OnlyAt g w w') : RefAt w' x u d N U D := by
  obtain ⟨_, hu⟩ := h.up.blk
  obtain ⟨_, hd⟩ := h.down.blk
  exact ⟨h.blk.grown ho (fun e => by injection e with e; exact h.blk.ne_ hg (by decide) e), h.up.only ho hg (by decide) (hu.ne_ hg (by decide)), h.down.only ho hg (by decide) (hd.ne_ hg (by decide)), h.ne⟩
end

theorem put_row (N n : Int) (s : ByteArray) (L : Nat → List ByteArray) (d d' : Nat) (hd : d < 2) (hd' : d' < 2) (h : d ≠ d') : row (putM N n s L d) d' = row L d' := by
  unfold putM
  split
  · exact row_other _ _ _ _ _ hd hd' h
  · rfl
theorem take_row (N n : Int) (L : Nat → List ByteArray) (d d' : Nat) (hd : d < 2) (hd' : d' < 2) (h : d ≠ d') : row (takeM N n L d) d' = row L d' := by
  unfold takeM
  split
  · exact row_other _ _ _ _ _ hd hd' h
  · rfl

theorem reset_rows {N : Int} (m : Nat) (L : Nat → List ByteArray) (hn : isB m N = true) : row (resetM N m L) 0 = upd (row L 0) m [] ∧ row (resetM N m L) 1 = upd (row L 1) m [] := by
  have em : (m : Int).toNat = m := by omega
  unfold resetM
  rw [if_pos hn, em]
  constructor <;> funext j <;> unfold row upd <;> by_cases h : j = m
  · subst h; simp
  · rw [if_neg (by omega), if_neg (by omega), if_neg h]
  · subst h; simp
  · rw [if_neg (by omega), if_neg (by omega), if_neg h]

set_option maxRecDepth 100000 in
set_option maxHeartbeats 4000000 in
theorem do_0 (g x u d N : Nat) (c : Int) (s : ByteArray) (w : World) (L : Nat → List ByteArray) (h : Sync w g x u d N L) :
    Calls Try.prog 16 #[.pointer (some ⟨g, 0, none⟩), .pointer (some ⟨x, 0, none⟩), .agg #[.int .i64 0, .int .i64 c, .string s]] w fun e w' => e = .returned (.bool true) ∧ Sync w' g x u d N (putM N c s L 0) ∧ Only3 g u d w w' := by
  obtain ⟨n1, n2, n3, n4, n5, n6⟩ := h.ne
  obtain ⟨l1, l2, l3, l4⟩ := h.lt
  have hs1 : Sync (w.alloc (.cells #[.int .i64 0, .int .i64 c, .string s] 36)) g x u d N L := h.grown (World.grownBy_alloc _ _ _)
  have hb : Blk (w.alloc (.cells #[.int .i64 0, .int .i64 c, .string s] 36)) w.heap.size 36 #[.int .i64 0, .int .i64 c, .string s] := Blk.new _ _ _
  generalize hW : w.alloc (.cells #[.int .i64 0, .int .i64 c, .string s] 36) = W at hs1 hb
  have ho1 : Only3 g u d w W := by rw [← hW]; exact Only3.alloc _ _ _ _ _
  have HW := Lib.hid hW
  have HO1 := Lib.hid ho1
  have HS := Lib.hid hs1
  have HB := Lib.hid hb
  have cb : ∀ w', KeptOn (fun b => b ≠ g ∧ b ≠ u ∧ b ≠ d) W.drew w' → w'.cell? ⟨w.heap.size, 1, none⟩ = some (.int .i64 c) := fun w' hK => hK.cell (w := W.drew) (hb.cell 1) ⟨by simp; omega, by simp; omega, by simp; omega⟩
  have cc : ∀ w', KeptOn (fun b => b ≠ g ∧ b ≠ u ∧ b ≠ d) W.drew w' → w'.cell? ⟨w.heap.size, 2, none⟩ = some (.string s) := fun w' hK => hK.cell (w := W.drew) (hb.cell 2) ⟨by simp; omega, by simp; omega, by simp; omega⟩
  have cx : ∀ w', KeptOn (fun b => b ≠ g ∧ b ≠ u ∧ b ≠ d) W.drew w' → w'.cell? ⟨x, 0, none⟩ = some (.slice (some ⟨u, 0, none⟩) N N) := fun w' hK => hK.cell (w := W.drew) (hs1.ref.blk.cell 0) ⟨by simp; omega, by simp; omega, by simp; omega⟩
  clear h hs1 hb ho1 hW
  go_enter Try.func16, Try.ntmps16
  go_wp2_with fail
  rw [HW.out]
  refine wp_region_keep (KeptOn fun b => b ≠ g ∧ b ≠ u ∧ b ≠ d) (KeptOn.refl _) (KeptOn.trans) [(0,0),(1,0),(2,0),(3,0),(4,0),(6,0),(7,0),(8,0),(9,0),(10,0),(11,0),(12,0),(13,0),(14,0),(5,1),(15,1),(16,0),(17,0)] (by kernel_rfl) (by kernel_rfl) ?_
  iterate 14 (refine keep_quiet (v := ?_) rfl (fun _ _ _ h => h) (by rfl) (fun w' hR => ?_) ?_; rotate_left; (go_simp; try with_reducible rfl); simp only [Act.put, List.setIfInBounds_toArray, List.set_cons_zero, List.set_cons_succ])
  refine keep_eff rfl ?_
  go_wp2_with fail
  refine (Up_any g c N s W.drew L HS.out.drew.link).mono ?_
  rintro e w2 ⟨rfl, hm⟩
  have hk2 : KeptOn (fun b => b ≠ g ∧ b ≠ u ∧ b ≠ d) W.drew w2 := KeptOn.grown hm.only (fun g' hg' hD => by injection hg' with hg'; exact hD.1 hg'.symm)
  obtain ⟨_, hgb⟩ := HS.out.drew.link.1.1.blk
  have hr2 := Lib.hid (HS.out.drew.ref.far hgb hm.only)
  have hl2 := Lib.hid hm.link
  have ho2 := Lib.hid (((HO1.out.trans (Only3.drew g u d W))).trans (Only3.of_only hm.only (.inl rfl)))
  have HK2 := Lib.hid hk2
  clear hm hk2 hgb
  go_wp2_with fail
  refine keepPost_need HK2.out ?_
  refine keep_eff rfl ?_
  go_wp2_with fail
  refine (RPut_any x u u N 0 (by omega) c s w2 L (hr2.out.blk.cell 0) hr2.out.up).mono ?_
  rintro e w3 ⟨rfl, hT, ho⟩
  obtain ⟨_, htb⟩ := hr2.out.up.blk
  have hk3 := Lib.hid (KeptOn.grown (D := fun b => b ≠ g ∧ b ≠ u ∧ b ≠ d) ho (fun g' hg' hD => by injection hg' with hg'; exact hD.2.1 hg'.symm))
  have hsy : Hid (Sync w3 g x u d N (putM N c s L 0)) := by
    refine ⟨hl2.out.far ho htb (by decide) (by omega), hr2.out.blk.grown ho (by simp; omega), ?_, ?_, n6⟩
    · exact hT
    · rw [put_row _ _ _ _ 0 1 (by omega) (by omega) (by omega)]; exact hr2.out.down.only ho htb (by decide) (by omega)
  have ho3 := Lib.hid (ho2.out.trans (Only3.of_only ho (.inr (.inl rfl))))
  clear hT ho htb
  go_wp2_with fail
  refine keepPost_need hk3.out ?_
  iterate 2 (refine keep_quiet (v := ?_) rfl (fun _ _ _ h => h) (by rfl) (fun w' hR => ?_) ?_; rotate_left; (go_simp; try with_reducible rfl); simp only [Act.put, List.setIfInBounds_toArray, List.set_cons_zero, List.set_cons_succ])
  refine keep_done ?_
  go_wp2_with fail
  go_ret
  exact ⟨by simp, hsy.out, ho3.out⟩

set_option maxRecDepth 100000 in
set_option maxHeartbeats 4000000 in
theorem do_1 (g x u d N : Nat) (c : Int) (s : ByteArray) (w : World) (L : Nat → List ByteArray) (h : Sync w g x u d N L) :
    Calls Try.prog 16 #[.pointer (some ⟨g, 0, none⟩), .pointer (some ⟨x, 0, none⟩), .agg #[.int .i64 1, .int .i64 c, .string s]] w fun e w' => e = .returned (.bool true) ∧ Sync w' g x u d N (putM N c s L 0) ∧ Only3 g u d w w' := by
  obtain ⟨n1, n2, n3, n4, n5, n6⟩ := h.ne
  obtain ⟨l1, l2, l3, l4⟩ := h.lt
  have hs1 : Sync (w.alloc (.cells #[.int .i64 1, .int .i64 c, .string s] 36)) g x u d N L := h.grown (World.grownBy_alloc _ _ _)
  have hb : Blk (w.alloc (.cells #[.int .i64 1, .int .i64 c, .string s] 36)) w.heap.size 36 #[.int .i64 1, .int .i64 c, .string s] := Blk.new _ _ _
  generalize hW : w.alloc (.cells #[.int .i64 1, .int .i64 c, .string s] 36) = W at hs1 hb
  have ho1 : Only3 g u d w W := by rw [← hW]; exact Only3.alloc _ _ _ _ _
  have HW := Lib.hid hW
  have HO1 := Lib.hid ho1
  have HS := Lib.hid hs1
  have HB := Lib.hid hb
  have cb : ∀ w', KeptOn (fun b => b ≠ g ∧ b ≠ u ∧ b ≠ d) W.drew w' → w'.cell? ⟨w.heap.size, 1, none⟩ = some (.int .i64 c) := fun w' hK => hK.cell (w := W.drew) (hb.cell 1) ⟨by simp; omega, by simp; omega, by simp; omega⟩
  have cc : ∀ w', KeptOn (fun b => b ≠ g ∧ b ≠ u ∧ b ≠ d) W.drew w' → w'.cell? ⟨w.heap.size, 2, none⟩ = some (.string s) := fun w' hK => hK.cell (w := W.drew) (hb.cell 2) ⟨by simp; omega, by simp; omega, by simp; omega⟩
  have cx : ∀ w', KeptOn (fun b => b ≠ g ∧ b ≠ u ∧ b ≠ d) W.drew w' → w'.cell? ⟨x, 0, none⟩ = some (.slice (some ⟨u, 0, none⟩) N N) := fun w' hK => hK.cell (w := W.drew) (hs1.ref.blk.cell 0) ⟨by simp; omega, by simp; omega, by simp; omega⟩
  clear h hs1 hb ho1 hW
  go_enter Try.func16, Try.ntmps16
  go_wp2_with fail
  rw [HW.out]
  refine wp_region_keep (KeptOn fun b => b ≠ g ∧ b ≠ u ∧ b ≠ d) (KeptOn.refl _) (KeptOn.trans) [(0,0),(1,0),(2,0),(3,0),(4,0),(6,0),(7,0),(8,0),(9,0),(10,0),(11,0),(12,0),(13,0),(14,0),(5,1),(15,1),(16,0),(17,0)] (by kernel_rfl) (by kernel_rfl) ?_
  iterate 14 (refine keep_quiet (v := ?_) rfl (fun _ _ _ h => h) (by rfl) (fun w' hR => ?_) ?_; rotate_left; (go_simp; try with_reducible rfl); simp only [Act.put, List.setIfInBounds_toArray, List.set_cons_zero, List.set_cons_succ])
  refine keep_eff rfl ?_
  go_wp2_with fail
  refine (Up_any g c N s W.drew L HS.out.drew.link).mono ?_
  rintro e w2 ⟨rfl, hm⟩
  have hk2 : KeptOn (fun b => b ≠ g ∧ b ≠ u ∧ b ≠ d) W.drew w2 := KeptOn.grown hm.only (fun g' hg' hD => by injection hg' with hg'; exact hD.1 hg'.symm)
  obtain ⟨_, hgb⟩ := HS.out.drew.link.1.1.blk
  have hr2 := Lib.hid (HS.out.drew.ref.far hgb hm.only)
  have hl2 := Lib.hid hm.link
  have ho2 := Lib.hid (((HO1.out.trans (Only3.drew g u d W))).trans (Only3.of_only hm.only (.inl rfl)))
  have HK2 := Lib.hid hk2
  clear hm hk2 hgb
  go_wp2_with fail
  refine keepPost_need HK2.out ?_
  refine keep_eff rfl ?_
  go_wp2_with fail
  refine (RPut_any x u u N 0 (by omega) c s w2 L (hr2.out.blk.cell 0) hr2.out.up).mono ?_
  rintro e w3 ⟨rfl, hT, ho⟩
  obtain ⟨_, htb⟩ := hr2.out.up.blk
  have hk3 := Lib.hid (KeptOn.grown (D := fun b => b ≠ g ∧ b ≠ u ∧ b ≠ d) ho (fun g' hg' hD => by injection hg' with hg'; exact hD.2.1 hg'.symm))
  have hsy : Hid (Sync w3 g x u d N (putM N c s L 0)) := by
    refine ⟨hl2.out.far ho htb (by decide) (by omega), hr2.out.blk.grown ho (by simp; omega), ?_, ?_, n6⟩
    · exact hT
    · rw [put_row _ _ _ _ 0 1 (by omega) (by omega) (by omega)]; exact hr2.out.down.only ho htb (by decide) (by omega)
  have ho3 := Lib.hid (ho2.out.trans (Only3.of_only ho (.inr (.inl rfl))))
  clear hT ho htb
  go_wp2_with fail
  refine keepPost_need hk3.out ?_
  iterate 2 (refine keep_quiet (v := ?_) rfl (fun _ _ _ h => h) (by rfl) (fun w' hR => ?_) ?_; rotate_left; (go_simp; try with_reducible rfl); simp only [Act.put, List.setIfInBounds_toArray, List.set_cons_zero, List.set_cons_succ])
  refine keep_done ?_
  go_wp2_with fail
  go_ret
  exact ⟨by simp, hsy.out, ho3.out⟩

set_option maxRecDepth 100000 in
set_option maxHeartbeats 4000000 in
theorem do_2 (g x u d N : Nat) (c : Int) (s : ByteArray) (w : World) (L : Nat → List ByteArray) (h : Sync w g x u d N L) :
    Calls Try.prog 16 #[.pointer (some ⟨g, 0, none⟩), .pointer (some ⟨x, 0, none⟩), .agg #[.int .i64 2, .int .i64 c, .string s]] w fun e w' => e = .returned (.bool true) ∧ Sync w' g x u d N (putM N c s L 1) ∧ Only3 g u d w w' := by
  obtain ⟨n1, n2, n3, n4, n5, n6⟩ := h.ne
  obtain ⟨l1, l2, l3, l4⟩ := h.lt
  have hs1 : Sync (w.alloc (.cells #[.int .i64 2, .int .i64 c, .string s] 36)) g x u d N L := h.grown (World.grownBy_alloc _ _ _)
  have hb : Blk (w.alloc (.cells #[.int .i64 2, .int .i64 c, .string s] 36)) w.heap.size 36 #[.int .i64 2, .int .i64 c, .string s] := Blk.new _ _ _
  generalize hW : w.alloc (.cells #[.int .i64 2, .int .i64 c, .string s] 36) = W at hs1 hb
  have ho1 : Only3 g u d w W := by rw [← hW]; exact Only3.alloc _ _ _ _ _
  have HW := Lib.hid hW
  have HO1 := Lib.hid ho1
  have HS := Lib.hid hs1
  have HB := Lib.hid hb
  have cb : ∀ w', KeptOn (fun b => b ≠ g ∧ b ≠ u ∧ b ≠ d) W.drew w' → w'.cell? ⟨w.heap.size, 1, none⟩ = some (.int .i64 c) := fun w' hK => hK.cell (w := W.drew) (hb.cell 1) ⟨by simp; omega, by simp; omega, by simp; omega⟩
  have cc : ∀ w', KeptOn (fun b => b ≠ g ∧ b ≠ u ∧ b ≠ d) W.drew w' → w'.cell? ⟨w.heap.size, 2, none⟩ = some (.string s) := fun w' hK => hK.cell (w := W.drew) (hb.cell 2) ⟨by simp; omega, by simp; omega, by simp; omega⟩
  have cx : ∀ w', KeptOn (fun b => b ≠ g ∧ b ≠ u ∧ b ≠ d) W.drew w' → w'.cell? ⟨x, 1, none⟩ = some (.slice (some ⟨d, 0, none⟩) N N) := fun w' hK => hK.cell (w := W.drew) (hs1.ref.blk.cell 1) ⟨by simp; omega, by simp; omega, by simp; omega⟩
  clear h hs1 hb ho1 hW
  go_enter Try.func16, Try.ntmps16
  go_wp2_with fail
  rw [HW.out]
  refine wp_region_keep (KeptOn fun b => b ≠ g ∧ b ≠ u ∧ b ≠ d) (KeptOn.refl _) (KeptOn.trans) [(0,0),(1,0),(2,0),(3,0),(4,0),(6,0),(7,0),(8,0),(9,0),(10,0),(11,0),(12,0),(13,0),(14,0),(5,1),(15,1),(16,0),(17,0)] (by kernel_rfl) (by kernel_rfl) ?_
  iterate 14 (refine keep_quiet (v := ?_) rfl (fun _ _ _ h => h) (by rfl) (fun w' hR => ?_) ?_; rotate_left; (go_simp; try with_reducible rfl); simp only [Act.put, List.setIfInBounds_toArray, List.set_cons_zero, List.set_cons_succ])
  refine keep_eff rfl ?_
  go_wp2_with fail
  refine (Down_any g c N s W.drew L HS.out.drew.link).mono ?_
  rintro e w2 ⟨rfl, hm⟩
  have hk2 : KeptOn (fun b => b ≠ g ∧ b ≠ u ∧ b ≠ d) W.drew w2 := KeptOn.grown hm.only (fun g' hg' hD => by injection hg' with hg'; exact hD.1 hg'.symm)
  obtain ⟨_, hgb⟩ := HS.out.drew.link.1.1.blk
  have hr2 := Lib.hid (HS.out.drew.ref.far hgb hm.only)
  have hl2 := Lib.hid hm.link
  have ho2 := Lib.hid (((HO1.out.trans (Only3.drew g u d W))).trans (Only3.of_only hm.only (.inl rfl)))
  have HK2 := Lib.hid hk2
  clear hm hk2 hgb
  go_wp2_with fail
  refine keepPost_need HK2.out ?_
  refine keep_eff rfl ?_
  go_wp2_with fail
  refine (RPut_any x u d N 1 (by omega) c s w2 L (hr2.out.blk.cell 0) hr2.out.down).mono ?_
  rintro e w3 ⟨rfl, hT, ho⟩
  obtain ⟨_, htb⟩ := hr2.out.down.blk
  have hk3 := Lib.hid (KeptOn.grown (D := fun b => b ≠ g ∧ b ≠ u ∧ b ≠ d) ho (fun g' hg' hD => by injection hg' with hg'; exact hD.2.2 hg'.symm))
  have hsy : Hid (Sync w3 g x u d N (putM N c s L 1)) := by
    refine ⟨hl2.out.far ho htb (by decide) (by omega), hr2.out.blk.grown ho (by simp; omega), ?_, ?_, n6⟩
    · rw [put_row _ _ _ _ 1 0 (by omega) (by omega) (by omega)]; exact hr2.out.up.only ho htb (by decide) (by omega)
    · exact hT
  have ho3 := Lib.hid (ho2.out.trans (Only3.of_only ho (.inr (.inr rfl))))
  clear hT ho htb
  go_wp2_with fail
  refine keepPost_need hk3.out ?_
  iterate 2 (refine keep_quiet (v := ?_) rfl (fun _ _ _ h => h) (by rfl) (fun w' hR => ?_) ?_; rotate_left; (go_simp; try with_reducible rfl); simp only [Act.put, List.setIfInBounds_toArray, List.set_cons_zero, List.set_cons_succ])
  refine keep_done ?_
  go_wp2_with fail
  go_ret
  exact ⟨by simp, hsy.out, ho3.out⟩

set_option maxRecDepth 100000 in
set_option maxHeartbeats 4000000 in
theorem do_3 (g x u d N : Nat) (c : Int) (s : ByteArray) (w : World) (L : Nat → List ByteArray) (h : Sync w g x u d N L) :
    Calls Try.prog 16 #[.pointer (some ⟨g, 0, none⟩), .pointer (some ⟨x, 0, none⟩), .agg #[.int .i64 3, .int .i64 c, .string s]] w fun e w' => e = .returned (.bool true) ∧ Sync w' g x u d N (putM N c s L 1) ∧ Only3 g u d w w' := by
  obtain ⟨n1, n2, n3, n4, n5, n6⟩ := h.ne
  obtain ⟨l1, l2, l3, l4⟩ := h.lt
  have hs1 : Sync (w.alloc (.cells #[.int .i64 3, .int .i64 c, .string s] 36)) g x u d N L := h.grown (World.grownBy_alloc _ _ _)
  have hb : Blk (w.alloc (.cells #[.int .i64 3, .int .i64 c, .string s] 36)) w.heap.size 36 #[.int .i64 3, .int .i64 c, .string s] := Blk.new _ _ _
  generalize hW : w.alloc (.cells #[.int .i64 3, .int .i64 c, .string s] 36) = W at hs1 hb
  have ho1 : Only3 g u d w W := by rw [← hW]; exact Only3.alloc _ _ _ _ _
  have HW := Lib.hid hW
  have HO1 := Lib.hid ho1
  have HS := Lib.hid hs1
  have HB := Lib.hid hb
  have cb : ∀ w', KeptOn (fun b => b ≠ g ∧ b ≠ u ∧ b ≠ d) W.drew w' → w'.cell? ⟨w.heap.size, 1, none⟩ = some (.int .i64 c) := fun w' hK => hK.cell (w := W.drew) (hb.cell 1) ⟨by simp; omega, by simp; omega, by simp; omega⟩
  have cc : ∀ w', KeptOn (fun b => b ≠ g ∧ b ≠ u ∧ b ≠ d) W.drew w' → w'.cell? ⟨w.heap.size, 2, none⟩ = some (.string s) := fun w' hK => hK.cell (w := W.drew) (hb.cell 2) ⟨by simp; omega, by simp; omega, by simp; omega⟩
  have cx : ∀ w', KeptOn (fun b => b ≠ g ∧ b ≠ u ∧ b ≠ d) W.drew w' → w'.cell? ⟨x, 1, none⟩ = some (.slice (some ⟨d, 0, none⟩) N N) := fun w' hK => hK.cell (w := W.drew) (hs1.ref.blk.cell 1) ⟨by simp; omega, by simp; omega, by simp; omega⟩
  clear h hs1 hb ho1 hW
  go_enter Try.func16, Try.ntmps16
  go_wp2_with fail
  rw [HW.out]
  refine wp_region_keep (KeptOn fun b => b ≠ g ∧ b ≠ u ∧ b ≠ d) (KeptOn.refl _) (KeptOn.trans) [(0,0),(1,0),(2,0),(3,0),(4,0),(6,0),(7,0),(8,0),(9,0),(10,0),(11,0),(12,0),(13,0),(14,0),(5,1),(15,1),(16,0),(17,0)] (by kernel_rfl) (by kernel_rfl) ?_
  iterate 14 (refine keep_quiet (v := ?_) rfl (fun _ _ _ h => h) (by rfl) (fun w' hR => ?_) ?_; rotate_left; (go_simp; try with_reducible rfl); simp only [Act.put, List.setIfInBounds_toArray, List.set_cons_zero, List.set_cons_succ])
  refine keep_eff rfl ?_
  go_wp2_with fail
  refine (Down_any g c N s W.drew L HS.out.drew.link).mono ?_
  rintro e w2 ⟨rfl, hm⟩
  have hk2 : KeptOn (fun b => b ≠ g ∧ b ≠ u ∧ b ≠ d) W.drew w2 := KeptOn.grown hm.only (fun g' hg' hD => by injection hg' with hg'; exact hD.1 hg'.symm)
  obtain ⟨_, hgb⟩ := HS.out.drew.link.1.1.blk
  have hr2 := Lib.hid (HS.out.drew.ref.far hgb hm.only)
  have hl2 := Lib.hid hm.link
  have ho2 := Lib.hid (((HO1.out.trans (Only3.drew g u d W))).trans (Only3.of_only hm.only (.inl rfl)))
  have HK2 := Lib.hid hk2
  clear hm hk2 hgb
  go_wp2_with fail
  refine keepPost_need HK2.out ?_
  refine keep_eff rfl ?_
  go_wp2_with fail
  refine (RPut_any x u d N 1 (by omega) c s w2 L (hr2.out.blk.cell 0) hr2.out.down).mono ?_
  rintro e w3 ⟨rfl, hT, ho⟩
  obtain ⟨_, htb⟩ := hr2.out.down.blk
  have hk3 := Lib.hid (KeptOn.grown (D := fun b => b ≠ g ∧ b ≠ u ∧ b ≠ d) ho (fun g' hg' hD => by injection hg' with hg'; exact hD.2.2 hg'.symm))
  have hsy : Hid (Sync w3 g x u d N (putM N c s L 1)) := by
    refine ⟨hl2.out.far ho htb (by decide) (by omega), hr2.out.blk.grown ho (by simp; omega), ?_, ?_, n6⟩
    · rw [put_row _ _ _ _ 1 0 (by omega) (by omega) (by omega)]; exact hr2.out.up.only ho htb (by decide) (by omega)
    · exact hT
  have ho3 := Lib.hid (ho2.out.trans (Only3.of_only ho (.inr (.inr rfl))))
  clear hT ho htb
  go_wp2_with fail
  refine keepPost_need hk3.out ?_
  iterate 2 (refine keep_quiet (v := ?_) rfl (fun _ _ _ h => h) (by rfl) (fun w' hR => ?_) ?_; rotate_left; (go_simp; try with_reducible rfl); simp only [Act.put, List.setIfInBounds_toArray, List.set_cons_zero, List.set_cons_succ])
  refine keep_done ?_
  go_wp2_with fail
  go_ret
  exact ⟨by simp, hsy.out, ho3.out⟩

set_option maxRecDepth 100000 in
set_option maxHeartbeats 4000000 in
theorem do_4 (g x u d N : Nat) (c : Int) (s : ByteArray) (w : World) (L : Nat → List ByteArray) (h : Sync w g x u d N L) :
    Calls Try.prog 16 #[.pointer (some ⟨g, 0, none⟩), .pointer (some ⟨x, 0, none⟩), .agg #[.int .i64 4, .int .i64 c, .string s]] w fun e w' => e = .returned (.bool true) ∧ Sync w' g x u d N (takeM N c L 0) ∧ Only3 g u d w w' := by
  obtain ⟨n1, n2, n3, n4, n5, n6⟩ := h.ne
  obtain ⟨l1, l2, l3, l4⟩ := h.lt
  have hs1 : Sync (w.alloc (.cells #[.int .i64 4, .int .i64 c, .string s] 36)) g x u d N L := h.grown (World.grownBy_alloc _ _ _)
  have hb : Blk (w.alloc (.cells #[.int .i64 4, .int .i64 c, .string s] 36)) w.heap.size 36 #[.int .i64 4, .int .i64 c, .string s] := Blk.new _ _ _
  generalize hW : w.alloc (.cells #[.int .i64 4, .int .i64 c, .string s] 36) = W at hs1 hb
  have ho1 : Only3 g u d w W := by rw [← hW]; exact Only3.alloc _ _ _ _ _
  have HW := Lib.hid hW
  have HO1 := Lib.hid ho1
  have HS := Lib.hid hs1
  have HB := Lib.hid hb
  clear h hs1 hb ho1 hW
  go_enter Try.func16, Try.ntmps16
  go_wp2_with fail
  rw [HW.out]
  refine (TakeUp_any g c N W L HS.out.link).mono ?_
  rintro e w2 ⟨rfl, hm⟩
  obtain ⟨_, hgb⟩ := HS.out.link.1.1.blk
  have hr2 := Lib.hid (HS.out.ref.far hgb hm.only)
  have hl2 := Lib.hid hm.link
  have ho2 := Lib.hid (HO1.out.trans (Only3.of_only hm.only (.inl rfl)))
  have hb2 : Blk w2 w.heap.size 36 #[.int .i64 4, .int .i64 c, .string s] := HB.out.grown hm.only (by simp; omega)
  have cb : ∀ w', KeptOn (fun b => b ≠ g ∧ b ≠ u ∧ b ≠ d) w2.drew w' → w'.cell? ⟨w.heap.size, 1, none⟩ = some (.int .i64 c) := fun w' hK => hK.cell (w := w2.drew) (hb2.cell 1) ⟨by simp; omega, by simp; omega, by simp; omega⟩
  have cx : ∀ w', KeptOn (fun b => b ≠ g ∧ b ≠ u ∧ b ≠ d) w2.drew w' → w'.cell? ⟨x, 0, none⟩ = some (.slice (some ⟨u, 0, none⟩) N N) := fun w' hK => hK.cell (w := w2.drew) (hr2.out.blk.cell 0) ⟨by simp; omega, by simp; omega, by simp; omega⟩
  clear hm hgb hb2
  go_wp2_with fail
  refine wp_region_keep (KeptOn fun b => b ≠ g ∧ b ≠ u ∧ b ≠ d) (KeptOn.refl _) (KeptOn.trans) [(0,0),(1,0),(2,0),(3,0),(4,0),(5,0),(6,0),(7,1),(8,0),(9,0),(10,0),(11,0),(12,0)] (by kernel_rfl) (by kernel_rfl) ?_
  iterate 7 (refine keep_quiet (v := ?_) rfl (fun _ _ _ h => h) (by rfl) (fun w' hR => ?_) ?_; rotate_left; (go_simp; try with_reducible rfl); simp only [Act.put, List.setIfInBounds_toArray, List.set_cons_zero, List.set_cons_succ])
  refine keep_eff rfl ?_
  go_wp2_with fail
  refine (RTake_any x u u N 0 (by omega) c w2.drew L (hr2.out.blk.cell 0) hr2.out.up.drew).mono ?_
  rintro e w3 ⟨rfl, hT, ho⟩
  obtain ⟨_, htb⟩ := hr2.out.up.drew.blk
  have hk3 := Lib.hid (KeptOn.grown (D := fun b => b ≠ g ∧ b ≠ u ∧ b ≠ d) ho (fun g' hg' hD => by injection hg' with hg'; exact hD.2.1 hg'.symm))
  have hsy : Hid (Sync w3 g x u d N (takeM N c L 0)) := by
    refine ⟨(hl2.out.grown (grownBy_drew _ _)).far ho htb (by decide) (by omega), hr2.out.blk.drew.grown ho (by simp; omega), ?_, ?_, n6⟩
    · exact hT
    · rw [take_row _ _ _ 0 1 (by omega) (by omega) (by omega)]; exact hr2.out.down.drew.only ho htb (by decide) (by omega)
  have ho3 := Lib.hid ((ho2.out.trans (Only3.drew _ _ _ _)).trans (Only3.of_only ho (.inr (.inl rfl))))
  clear hT ho htb
  go_wp2_with fail
  refine keepPost_need hk3.out ?_
  iterate 5 (refine keep_quiet (v := ?_) rfl (fun _ _ _ h => h) (by rfl) (fun w' hR => ?_) ?_; rotate_left; (go_simp; try with_reducible rfl); simp only [Act.put, List.setIfInBounds_toArray, List.set_cons_zero, List.set_cons_succ])
  refine keep_done ?_
  go_wp2_with fail
  go_ret
  exact ⟨by simp, hsy.out, ho3.out⟩

set_option maxRecDepth 100000 in
set_option maxHeartbeats 4000000 in
theorem do_5 (g x u d N : Nat) (c : Int) (s : ByteArray) (w : World) (L : Nat → List ByteArray) (h : Sync w g x u d N L) :
    Calls Try.prog 16 #[.pointer (some ⟨g, 0, none⟩), .pointer (some ⟨x, 0, none⟩), .agg #[.int .i64 5, .int .i64 c, .string s]] w fun e w' => e = .returned (.bool true) ∧ Sync w' g x u d N (takeM N c L 0) ∧ Only3 g u d w w' := by
  obtain ⟨n1, n2, n3, n4, n5, n6⟩ := h.ne
  obtain ⟨l1, l2, l3, l4⟩ := h.lt
  have hs1 : Sync (w.alloc (.cells #[.int .i64 5, .int .i64 c, .string s] 36)) g x u d N L := h.grown (World.grownBy_alloc _ _ _)
  have hb : Blk (w.alloc (.cells #[.int .i64 5, .int .i64 c, .string s] 36)) w.heap.size 36 #[.int .i64 5, .int .i64 c, .string s] := Blk.new _ _ _
  generalize hW : w.alloc (.cells #[.int .i64 5, .int .i64 c, .string s] 36) = W at hs1 hb
  have ho1 : Only3 g u d w W := by rw [← hW]; exact Only3.alloc _ _ _ _ _
  have HW := Lib.hid hW
  have HO1 := Lib.hid ho1
  have HS := Lib.hid hs1
  have HB := Lib.hid hb
  clear h hs1 hb ho1 hW
  go_enter Try.func16, Try.ntmps16
  go_wp2_with fail
  rw [HW.out]
  refine (TakeUp_any g c N W L HS.out.link).mono ?_
  rintro e w2 ⟨rfl, hm⟩
  obtain ⟨_, hgb⟩ := HS.out.link.1.1.blk
  have hr2 := Lib.hid (HS.out.ref.far hgb hm.only)
  have hl2 := Lib.hid hm.link
  have ho2 := Lib.hid (HO1.out.trans (Only3.of_only hm.only (.inl rfl)))
  have hb2 : Blk w2 w.heap.size 36 #[.int .i64 5, .int .i64 c, .string s] := HB.out.grown hm.only (by simp; omega)
  have cb : ∀ w', KeptOn (fun b => b ≠ g ∧ b ≠ u ∧ b ≠ d) w2.drew w' → w'.cell? ⟨w.heap.size, 1, none⟩ = some (.int .i64 c) := fun w' hK => hK.cell (w := w2.drew) (hb2.cell 1) ⟨by simp; omega, by simp; omega, by simp; omega⟩
  have cx : ∀ w', KeptOn (fun b => b ≠ g ∧ b ≠ u ∧ b ≠ d) w2.drew w' → w'.cell? ⟨x, 0, none⟩ = some (.slice (some ⟨u, 0, none⟩) N N) := fun w' hK => hK.cell (w := w2.drew) (hr2.out.blk.cell 0) ⟨by simp; omega, by simp; omega, by simp; omega⟩
  clear hm hgb hb2
  go_wp2_with fail
  refine wp_region_keep (KeptOn fun b => b ≠ g ∧ b ≠ u ∧ b ≠ d) (KeptOn.refl _) (KeptOn.trans) [(0,0),(1,0),(2,0),(3,0),(4,0),(5,0),(6,0),(7,1),(8,0),(9,0),(10,0),(11,0),(12,0)] (by kernel_rfl) (by kernel_rfl) ?_
  iterate 7 (refine keep_quiet (v := ?_) rfl (fun _ _ _ h => h) (by rfl) (fun w' hR => ?_) ?_; rotate_left; (go_simp; try with_reducible rfl); simp only [Act.put, List.setIfInBounds_toArray, List.set_cons_zero, List.set_cons_succ])
  refine keep_eff rfl ?_
  go_wp2_with fail
  refine (RTake_any x u u N 0 (by omega) c w2.drew L (hr2.out.blk.cell 0) hr2.out.up.drew).mono ?_
  rintro e w3 ⟨rfl, hT, ho⟩
  obtain ⟨_, htb⟩ := hr2.out.up.drew.blk
  have hk3 := Lib.hid (KeptOn.grown (D := fun b => b ≠ g ∧ b ≠ u ∧ b ≠ d) ho (fun g' hg' hD => by injection hg' with hg'; exact hD.2.1 hg'.symm))
  have hsy : Hid (Sync w3 g x u d N (takeM N c L 0)) := by
    refine ⟨(hl2.out.grown (grownBy_drew _ _)).far ho htb (by decide) (by omega), hr2.out.blk.drew.grown ho (by simp; omega), ?_, ?_, n6⟩
    · exact hT
    · rw [take_row _ _ _ 0 1 (by omega) (by omega) (by omega)]; exact hr2.out.down.drew.only ho htb (by decide) (by omega)
  have ho3 := Lib.hid ((ho2.out.trans (Only3.drew _ _ _ _)).trans (Only3.of_only ho (.inr (.inl rfl))))
  clear hT ho htb
  go_wp2_with fail
  refine keepPost_need hk3.out ?_
  iterate 5 (refine keep_quiet (v := ?_) rfl (fun _ _ _ h => h) (by rfl) (fun w' hR => ?_) ?_; rotate_left; (go_simp; try with_reducible rfl); simp only [Act.put, List.setIfInBounds_toArray, List.set_cons_zero, List.set_cons_succ])
  refine keep_done ?_
  go_wp2_with fail
  go_ret
  exact ⟨by simp, hsy.out, ho3.out⟩

set_option maxRecDepth 100000 in
set_option maxHeartbeats 4000000 in
theorem do_6 (g x u d N : Nat) (c : Int) (s : ByteArray) (w : World) (L : Nat → List ByteArray) (h : Sync w g x u d N L) :
    Calls Try.prog 16 #[.pointer (some ⟨g, 0, none⟩), .pointer (some ⟨x, 0, none⟩), .agg #[.int .i64 6, .int .i64 c, .string s]] w fun e w' => e = .returned (.bool true) ∧ Sync w' g x u d N (takeM N c L 1) ∧ Only3 g u d w w' := by
  obtain ⟨n1, n2, n3, n4, n5, n6⟩ := h.ne
  obtain ⟨l1, l2, l3, l4⟩ := h.lt
  have hs1 : Sync (w.alloc (.cells #[.int .i64 6, .int .i64 c, .string s] 36)) g x u d N L := h.grown (World.grownBy_alloc _ _ _)
  have hb : Blk (w.alloc (.cells #[.int .i64 6, .int .i64 c, .string s] 36)) w.heap.size 36 #[.int .i64 6, .int .i64 c, .string s] := Blk.new _ _ _
  generalize hW : w.alloc (.cells #[.int .i64 6, .int .i64 c, .string s] 36) = W at hs1 hb
  have ho1 : Only3 g u d w W := by rw [← hW]; exact Only3.alloc _ _ _ _ _
  have HW := Lib.hid hW
  have HO1 := Lib.hid ho1
  have HS := Lib.hid hs1
  have HB := Lib.hid hb
  clear h hs1 hb ho1 hW
  go_enter Try.func16, Try.ntmps16
  go_wp2_with fail
  rw [HW.out]
  refine (TakeDown_any g c N W L HS.out.link).mono ?_
  rintro e w2 ⟨rfl, hm⟩
  obtain ⟨_, hgb⟩ := HS.out.link.1.1.blk
  have hr2 := Lib.hid (HS.out.ref.far hgb hm.only)
  have hl2 := Lib.hid hm.link
  have ho2 := Lib.hid (HO1.out.trans (Only3.of_only hm.only (.inl rfl)))
  have hb2 : Blk w2 w.heap.size 36 #[.int .i64 6, .int .i64 c, .string s] := HB.out.grown hm.only (by simp; omega)
  have cb : ∀ w', KeptOn (fun b => b ≠ g ∧ b ≠ u ∧ b ≠ d) w2.drew w' → w'.cell? ⟨w.heap.size, 1, none⟩ = some (.int .i64 c) := fun w' hK => hK.cell (w := w2.drew) (hb2.cell 1) ⟨by simp; omega, by simp; omega, by simp; omega⟩
  have cx : ∀ w', KeptOn (fun b => b ≠ g ∧ b ≠ u ∧ b ≠ d) w2.drew w' → w'.cell? ⟨x, 1, none⟩ = some (.slice (some ⟨d, 0, none⟩) N N) := fun w' hK => hK.cell (w := w2.drew) (hr2.out.blk.cell 1) ⟨by simp; omega, by simp; omega, by simp; omega⟩
  clear hm hgb hb2
  go_wp2_with fail
  refine wp_region_keep (KeptOn fun b => b ≠ g ∧ b ≠ u ∧ b ≠ d) (KeptOn.refl _) (KeptOn.trans) [(0,0),(1,0),(2,0),(3,0),(4,0),(5,0),(6,0),(7,1),(8,0),(9,0),(10,0),(11,0),(12,0)] (by kernel_rfl) (by kernel_rfl) ?_
  iterate 7 (refine keep_quiet (v := ?_) rfl (fun _ _ _ h => h) (by rfl) (fun w' hR => ?_) ?_; rotate_left; (go_simp; try with_reducible rfl); simp only [Act.put, List.setIfInBounds_toArray, List.set_cons_zero, List.set_cons_succ])
  refine keep_eff rfl ?_
  go_wp2_with fail
  refine (RTake_any x u d N 1 (by omega) c w2.drew L (hr2.out.blk.cell 0) hr2.out.down.drew).mono ?_
  rintro e w3 ⟨rfl, hT, ho⟩
  obtain ⟨_, htb⟩ := hr2.out.down.drew.blk
  have hk3 := Lib.hid (KeptOn.grown (D := fun b => b ≠ g ∧ b ≠ u ∧ b ≠ d) ho (fun g' hg' hD => by injection hg' with hg'; exact hD.2.2 hg'.symm))
  have hsy : Hid (Sync w3 g x u d N (takeM N c L 1)) := by
    refine ⟨(hl2.out.grown (grownBy_drew _ _)).far ho htb (by decide) (by omega), hr2.out.blk.drew.grown ho (by simp; omega), ?_, ?_, n6⟩
    · rw [take_row _ _ _ 1 0 (by omega) (by omega) (by omega)]; exact hr2.out.up.drew.only ho htb (by decide) (by omega)
    · exact hT
  have ho3 := Lib.hid ((ho2.out.trans (Only3.drew _ _ _ _)).trans (Only3.of_only ho (.inr (.inr rfl))))
  clear hT ho htb
  go_wp2_with fail
  refine keepPost_need hk3.out ?_
  iterate 5 (refine keep_quiet (v := ?_) rfl (fun _ _ _ h => h) (by rfl) (fun w' hR => ?_) ?_; rotate_left; (go_simp; try with_reducible rfl); simp only [Act.put, List.setIfInBounds_toArray, List.set_cons_zero, List.set_cons_succ])
  refine keep_done ?_
  go_wp2_with fail
  go_ret
  exact ⟨by simp, hsy.out, ho3.out⟩

set_option maxRecDepth 100000 in
set_option maxHeartbeats 4000000 in
theorem do_7 (g x u d N : Nat) (c : Int) (s : ByteArray) (w : World) (L : Nat → List ByteArray) (h : Sync w g x u d N L) :
    Calls Try.prog 16 #[.pointer (some ⟨g, 0, none⟩), .pointer (some ⟨x, 0, none⟩), .agg #[.int .i64 7, .int .i64 c, .string s]] w fun e w' => e = .returned (.bool true) ∧ Sync w' g x u d N (takeM N c L 1) ∧ Only3 g u d w w' := by
  obtain ⟨n1, n2, n3, n4, n5, n6⟩ := h.ne
  obtain ⟨l1, l2, l3, l4⟩ := h.lt
  have hs1 : Sync (w.alloc (.cells #[.int .i64 7, .int .i64 c, .string s] 36)) g x u d N L := h.grown (World.grownBy_alloc _ _ _)
  have hb : Blk (w.alloc (.cells #[.int .i64 7, .int .i64 c, .string s] 36)) w.heap.size 36 #[.int .i64 7, .int .i64 c, .string s] := Blk.new _ _ _
  generalize hW : w.alloc (.cells #[.int .i64 7, .int .i64 c, .string s] 36) = W at hs1 hb
  have ho1 : Only3 g u d w W := by rw [← hW]; exact Only3.alloc _ _ _ _ _
  have HW := Lib.hid hW
  have HO1 := Lib.hid ho1
  have HS := Lib.hid hs1
  have HB := Lib.hid hb
  clear h hs1 hb ho1 hW
  go_enter Try.func16, Try.ntmps16
  go_wp2_with fail
  rw [HW.out]
  refine (TakeDown_any g c N W L HS.out.link).mono ?_
  rintro e w2 ⟨rfl, hm⟩
  obtain ⟨_, hgb⟩ := HS.out.link.1.1.blk
  have hr2 := Lib.hid (HS.out.ref.far hgb hm.only)
  have hl2 := Lib.hid hm.link
  have ho2 := Lib.hid (HO1.out.trans (Only3.of_only hm.only (.inl rfl)))
  have hb2 : Blk w2 w.heap.size 36 #[.int .i64 7, .int .i64 c, .string s] := HB.out.grown hm.only (by simp; omega)
  have cb : ∀ w', KeptOn (fun b => b ≠ g ∧ b ≠ u ∧ b ≠ d) w2.drew w' → w'.cell? ⟨w.heap.size, 1, none⟩ = some (.int .i64 c) := fun w' hK => hK.cell (w := w2.drew) (hb2.cell 1) ⟨by simp; omega, by simp; omega, by simp; omega⟩
  have cx : ∀ w', KeptOn (fun b => b ≠ g ∧ b ≠ u ∧ b ≠ d) w2.drew w' → w'.cell? ⟨x, 1, none⟩ = some (.slice (some ⟨d, 0, none⟩) N N) := fun w' hK => hK.cell (w := w2.drew) (hr2.out.blk.cell 1) ⟨by simp; omega, by simp; omega, by simp; omega⟩
  clear hm hgb hb2
  go_wp2_with fail
  refine wp_region_keep (KeptOn fun b => b ≠ g ∧ b ≠ u ∧ b ≠ d) (KeptOn.refl _) (KeptOn.trans) [(0,0),(1,0),(2,0),(3,0),(4,0),(5,0),(6,0),(7,1),(8,0),(9,0),(10,0),(11,0),(12,0)] (by kernel_rfl) (by kernel_rfl) ?_
  iterate 7 (refine keep_quiet (v := ?_) rfl (fun _ _ _ h => h) (by rfl) (fun w' hR => ?_) ?_; rotate_left; (go_simp; try with_reducible rfl); simp only [Act.put, List.setIfInBounds_toArray, List.set_cons_zero, List.set_cons_succ])
  refine keep_eff rfl ?_
  go_wp2_with fail
  refine (RTake_any x u d N 1 (by omega) c w2.drew L (hr2.out.blk.cell 0) hr2.out.down.drew).mono ?_
  rintro e w3 ⟨rfl, hT, ho⟩
  obtain ⟨_, htb⟩ := hr2.out.down.drew.blk
  have hk3 := Lib.hid (KeptOn.grown (D := fun b => b ≠ g ∧ b ≠ u ∧ b ≠ d) ho (fun g' hg' hD => by injection hg' with hg'; exact hD.2.2 hg'.symm))
  have hsy : Hid (Sync w3 g x u d N (takeM N c L 1)) := by
    refine ⟨(hl2.out.grown (grownBy_drew _ _)).far ho htb (by decide) (by omega), hr2.out.blk.drew.grown ho (by simp; omega), ?_, ?_, n6⟩
    · rw [take_row _ _ _ 1 0 (by omega) (by omega) (by omega)]; exact hr2.out.up.drew.only ho htb (by decide) (by omega)
    · exact hT
  have ho3 := Lib.hid ((ho2.out.trans (Only3.drew _ _ _ _)).trans (Only3.of_only ho (.inr (.inr rfl))))
  clear hT ho htb
  go_wp2_with fail
  refine keepPost_need hk3.out ?_
  iterate 5 (refine keep_quiet (v := ?_) rfl (fun _ _ _ h => h) (by rfl) (fun w' hR => ?_) ?_; rotate_left; (go_simp; try with_reducible rfl); simp only [Act.put, List.setIfInBounds_toArray, List.set_cons_zero, List.set_cons_succ])
  refine keep_done ?_
  go_wp2_with fail
  go_ret
  exact ⟨by simp, hsy.out, ho3.out⟩

set_option maxRecDepth 100000 in
set_option maxHeartbeats 4000000 in
theorem do_rtrue (g x u d N : Nat) (k c : Int) (hk : k < 0 ∨ 7 < k) (s : ByteArray) (hn : isB c N = true) (w : World) (L : Nat → List ByteArray) (h : Sync w g x u d N L) :
    Calls Try.prog 16 #[.pointer (some ⟨g, 0, none⟩), .pointer (some ⟨x, 0, none⟩), .agg #[.int .i64 k, .int .i64 c, .string s]] w fun e w' => e = .returned (.bool true) ∧ Sync w' g x u d N (resetM N c L) ∧ Only3 g u d w w' := by
  obtain ⟨n1, n2, n3, n4, n5, n6⟩ := h.ne
  obtain ⟨l1, l2, l3, l4⟩ := h.lt
  have hs1 : Sync (w.alloc (.cells #[.int .i64 k, .int .i64 c, .string s] 36)) g x u d N L := h.grown (World.grownBy_alloc _ _ _)
  have hb : Blk (w.alloc (.cells #[.int .i64 k, .int .i64 c, .string s] 36)) w.heap.size 36 #[.int .i64 k, .int .i64 c, .string s] := Blk.new _ _ _
  generalize hW : w.alloc (.cells #[.int .i64 k, .int .i64 c, .string s] 36) = W at hs1 hb
  have ho1 : Only3 g u d w W := by rw [← hW]; exact Only3.alloc _ _ _ _ _
  have HW := Lib.hid hW
  have HO1 := Lib.hid ho1
  have HS := Lib.hid hs1
  have HB := Lib.hid hb
  have k0 : (k == 0) = false := beq_eq_false_iff_ne.2 (by omega)
  have k1 : (k == 1) = false := beq_eq_false_iff_ne.2 (by omega)
  have k2 : (k == 2) = false := beq_eq_false_iff_ne.2 (by omega)
  have k3 : (k == 3) = false := beq_eq_false_iff_ne.2 (by omega)
  have k4 : (k == 4) = false := beq_eq_false_iff_ne.2 (by omega)
  have k5 : (k == 5) = false := beq_eq_false_iff_ne.2 (by omega)
  have k6 : (k == 6) = false := beq_eq_false_iff_ne.2 (by omega)
  have k7 : (k == 7) = false := beq_eq_false_iff_ne.2 (by omega)
  have HN := Lib.hid hn
  have HR := Lib.hid hs1.ref
  have HL := Lib.hid hs1.link
  have hx0 := hs1.ref.blk.cell 0
  simp only [List.getElem?_toArray, List.getElem?_cons_zero] at hx0
  clear h hs1 hb ho1 hW
  go_enter Try.func16, Try.ntmps16
  clear hn
  go_wp2_with fail
  rw [HW.out]
  refine (RIs x u N .nilFunc c W hx0).mono ?_
  rintro e w2 ⟨rfl, rfl⟩
  rw [HN.out]
  go_wp2_with fail
  obtain ⟨h0, hN⟩ := isB_true HN.out
  obtain ⟨m, rfl⟩ := Int.eq_ofNat_of_zero_le h0
  have hm : m < N := by omega
  have cbx : W.cell? ⟨w.heap.size, 1, none⟩ = some (.int .i64 m) := HB.out.cell 1
  have cb0 : ∀ w', KeptOn (fun b => True) W.drew w' → w'.cell? ⟨w.heap.size, 1, none⟩ = some (.int .i64 m) := fun w' hK => hK.cell (w := W.drew) (HB.out.cell 1) trivial
  have cx0 : ∀ w', KeptOn (fun b => True) W.drew w' → w'.cell? ⟨x, 0, none⟩ = some (.slice (some ⟨u, 0, none⟩) N N) := fun w' hK => hK.cell (w := W.drew) (HR.out.blk.cell 0) trivial
  obtain ⟨v0, hv0, _⟩ := HR.out.up.drew.get hm
  simp only [List.length_nil, Nat.zero_add] at hv0
  have hf0 := HR.out.up.drew.frozen m
  refine wp_region_keep (KeptOn fun b => True) (KeptOn.refl _) (KeptOn.trans) [(0,0),(1,0),(2,0),(3,0),(4,0),(5,0),(6,0),(7,2)] (by kernel_rfl) (by kernel_rfl) ?_
  iterate 7 (refine keep_quiet (v := ?_) rfl (fun _ _ _ h => h) (by rfl) (fun w' hR => ?_) ?_; rotate_left; (go_simp; try with_reducible rfl); simp only [Act.put, List.setIfInBounds_toArray, List.set_cons_zero, List.set_cons_succ])
  refine keep_eff rfl ?_
  go_wp2
  refine keepPost_free ?_
  refine keep_done ?_
  obtain ⟨_, htb⟩ := HR.out.up.drew.blk
  have hu1 := HR.out.up.drew.set (by decide) hm (k := m) (by simp) (RowV.nil W.drew 9)
  have ho : OnlyAt u W (W.drew.setCell ⟨u, m, none⟩ (.slice none 0 0)) := grownBy_setCell (grownBy_drew _ _) rfl _
  generalize hW1 : W.drew.setCell ⟨u, m, none⟩ (.slice none 0 0) = W1 at hu1 ho
  have HR1 : Hid (RefAt W1 x u d N (upd (row L 0) m []) (row L 1)) := by
    refine ⟨HR.out.blk.grown ho (by simp; omega), ?_, HR.out.down.only ho htb (by decide) (by omega), n6⟩
    rw [← vals_upd]; exact hu1
  have HB1 := Lib.hid (HB.out.grown ho (by simp; omega))
  have HL1 := Lib.hid (HL.out.far ho htb (by decide) (by omega))
  have ho1 := Lib.hid (HO1.out.trans (Only3.of_only ho (.inr (.inl rfl))))
  have HW1 := Lib.hid hW1
  clear hu1 ho htb hW1 cb0 cx0 hv0 hf0
  go_wp2_with fail
  rw [show (W.setCell ⟨u, m, none⟩ (.slice none 0 0)).drew = W1 from HW1.out]
  have cb1 : ∀ w', KeptOn (fun b => True) W1.drew w' → w'.cell? ⟨w.heap.size, 1, none⟩ = some (.int .i64 m) := fun w' hK => hK.cell (w := W1.drew) (HB1.out.cell 1) trivial
  have cx1 : ∀ w', KeptOn (fun b => True) W1.drew w' → w'.cell? ⟨x, 1, none⟩ = some (.slice (some ⟨d, 0, none⟩) N N) := fun w' hK => hK.cell (w := W1.drew) (HR1.out.blk.cell 1) trivial
  obtain ⟨v1, hv1, _⟩ := HR1.out.down.drew.get hm
  simp only [List.length_nil, Nat.zero_add] at hv1
  have hf1 := HR1.out.down.drew.frozen m
  refine wp_region_keep (KeptOn fun b => True) (KeptOn.refl _) (KeptOn.trans) [(0,0),(1,0),(2,0),(3,0),(4,0),(5,0),(6,0),(7,2)] (by kernel_rfl) (by kernel_rfl) ?_
  iterate 7 (refine keep_quiet (v := ?_) rfl (fun _ _ _ h => h) (by rfl) (fun w' hR => ?_) ?_; rotate_left; (go_simp; try with_reducible rfl); simp only [Act.put, List.setIfInBounds_toArray, List.set_cons_zero, List.set_cons_succ])
  refine keep_eff rfl ?_
  go_wp2
  refine keepPost_free ?_
  refine keep_done ?_
  obtain ⟨_, htb⟩ := HR1.out.down.drew.blk
  have hd1 := HR1.out.down.drew.set (by decide) hm (k := m) (by simp) (RowV.nil W1.drew 9)
  have ho : OnlyAt d W1 (W1.drew.setCell ⟨d, m, none⟩ (.slice none 0 0)) := grownBy_setCell (grownBy_drew _ _) rfl _
  generalize hW2 : W1.drew.setCell ⟨d, m, none⟩ (.slice none 0 0) = W2 at hd1 ho
  have HR2 : Hid (RefAt W2 x u d N (upd (row L 0) m []) (upd (row L 1) m [])) := by
    refine ⟨HR1.out.blk.grown ho (by simp; omega), HR1.out.up.only ho htb (by decide) (by omega), ?_, n6⟩
    rw [← vals_upd]; exact hd1
  have HB2 := Lib.hid (HB1.out.grown ho (by simp; omega))
  have HL2 := Lib.hid (HL1.out.far ho htb (by decide) (by omega))
  have ho2 := Lib.hid (ho1.out.trans (Only3.of_only ho (.inr (.inr rfl))))
  have HW2 := Lib.hid hW2
  clear hd1 ho htb hW2 cb1 cx1 hv1 hf1
  go_wp2_with fail
  rw [show (W1.setCell ⟨d, m, none⟩ (.slice none 0 0)).drew = W2 from HW2.out]
  have cb : ∀ w', KeptOn (fun b => b ≠ g) W2.drew w' → w'.cell? ⟨w.heap.size, 1, none⟩ = some (.int .i64 m) := fun w' hK => hK.cell (w := W2.drew) (HB2.out.cell 1) (by simp; omega)
  refine wp_region_keep (KeptOn fun b => b ≠ g) (KeptOn.refl _) (KeptOn.trans) [(0,0),(1,0),(2,0),(4,0),(5,0),(6,0),(3,1),(7,1),(8,0),(9,0)] (by kernel_rfl) (by kernel_rfl) ?_
  iterate 6 (refine keep_quiet (v := ?_) rfl (fun _ _ _ h => h) (by rfl) (fun w' hR => ?_) ?_; rotate_left; (go_simp; try with_reducible rfl); simp only [Act.put, List.setIfInBounds_toArray, List.set_cons_zero, List.set_cons_succ])
  refine keep_eff rfl ?_
  go_wp2_with fail
  refine (Reset_any g m N W2.drew L (HL2.out.grown (grownBy_drew _ _))).mono ?_
  rintro e w3 ⟨rfl, hm3⟩
  have hk3 := Lib.hid (KeptOn.grown (D := fun b => b ≠ g) hm3.only (fun g' hg' hD => by injection hg' with hg'; exact hD hg'.symm))
  obtain ⟨_, hgb⟩ := (HL2.out.grown (grownBy_drew _ none)).1.1.blk
  have hr3 := HR2.out.below ((Below.refl _ _).drew)
  have hr4 := hr3.far hgb hm3.only
  have HR4 := Lib.hid hr4
  have HL4 := Lib.hid hm3.link
  have ho4 := Lib.hid ((ho2.out.trans (Only3.drew _ _ _ _)).trans (Only3.of_only hm3.only (.inl rfl)))
  clear hm3 hgb hr3 hr4
  go_wp2_with fail
  refine keepPost_need hk3.out ?_
  refine keep_eff rfl ?_
  go_wp2_with fail
  refine (RIs x u N .nilFunc m w3 (HR4.out.blk.cell 0)).mono ?_
  rintro e w4 ⟨rfl, rfl⟩
  go_wp2_with fail
  refine keepPost_need (KeptOn.refl _ _) ?_
  iterate 2 (refine keep_quiet (v := ?_) rfl (fun _ _ _ h => h) (by rfl) (fun w' hR => ?_) ?_; rotate_left; (go_simp; try with_reducible rfl); simp only [Act.put, List.setIfInBounds_toArray, List.set_cons_zero, List.set_cons_succ])
  refine keep_done ?_
  go_wp2_with fail
  go_ret
  refine ⟨by simp, ⟨HL4.out, ?_⟩, ho4.out⟩
  obtain ⟨e0, e1⟩ := reset_rows (N := (N : Int)) m L HN.out
  rw [e0, e1]
  exact HR4.out

set_option maxRecDepth 100000 in
set_option maxHeartbeats 4000000 in
theorem do_rfalse (g x u d N : Nat) (k c : Int) (hk : k < 0 ∨ 7 < k) (s : ByteArray) (hn : isB c N = false) (w : World) (L : Nat → List ByteArray) (h : Sync w g x u d N L) :
    Calls Try.prog 16 #[.pointer (some ⟨g, 0, none⟩), .pointer (some ⟨x, 0, none⟩), .agg #[.int .i64 k, .int .i64 c, .string s]] w fun e w' => e = .returned (.bool true) ∧ Sync w' g x u d N (resetM N c L) ∧ Only3 g u d w w' := by
  obtain ⟨n1, n2, n3, n4, n5, n6⟩ := h.ne
  obtain ⟨l1, l2, l3, l4⟩ := h.lt
  have hs1 : Sync (w.alloc (.cells #[.int .i64 k, .int .i64 c, .string s] 36)) g x u d N L := h.grown (World.grownBy_alloc _ _ _)
  have hb : Blk (w.alloc (.cells #[.int .i64 k, .int .i64 c, .string s] 36)) w.heap.size 36 #[.int .i64 k, .int .i64 c, .string s] := Blk.new _ _ _
  generalize hW : w.alloc (.cells #[.int .i64 k, .int .i64 c, .string s] 36) = W at hs1 hb
  have ho1 : Only3 g u d w W := by rw [← hW]; exact Only3.alloc _ _ _ _ _
  have HW := Lib.hid hW
  have HO1 := Lib.hid ho1
  have HS := Lib.hid hs1
  have HB := Lib.hid hb
  have k0 : (k == 0) = false := beq_eq_false_iff_ne.2 (by omega)
  have k1 : (k == 1) = false := beq_eq_false_iff_ne.2 (by omega)
  have k2 : (k == 2) = false := beq_eq_false_iff_ne.2 (by omega)
  have k3 : (k == 3) = false := beq_eq_false_iff_ne.2 (by omega)
  have k4 : (k == 4) = false := beq_eq_false_iff_ne.2 (by omega)
  have k5 : (k == 5) = false := beq_eq_false_iff_ne.2 (by omega)
  have k6 : (k == 6) = false := beq_eq_false_iff_ne.2 (by omega)
  have k7 : (k == 7) = false := beq_eq_false_iff_ne.2 (by omega)
  have HN := Lib.hid hn
  have HR := Lib.hid hs1.ref
  have HL := Lib.hid hs1.link
  have hx0 := hs1.ref.blk.cell 0
  simp only [List.getElem?_toArray, List.getElem?_cons_zero] at hx0
  clear h hs1 hb ho1 hW
  go_enter Try.func16, Try.ntmps16
  clear hn
  go_wp2_with fail
  rw [HW.out]
  refine (RIs x u N .nilFunc c W hx0).mono ?_
  rintro e w2 ⟨rfl, rfl⟩
  rw [HN.out]
  go_wp2_with fail
  have cb : ∀ w', KeptOn (fun b => b ≠ g) W.drew w' → w'.cell? ⟨w.heap.size, 1, none⟩ = some (.int .i64 c) := fun w' hK => hK.cell (w := W.drew) (HB.out.cell 1) (by simp; omega)
  refine wp_region_keep (KeptOn fun b => b ≠ g) (KeptOn.refl _) (KeptOn.trans) [(0,0),(1,0),(2,0),(4,0),(5,0),(6,0),(3,1),(7,1),(8,0),(9,0)] (by kernel_rfl) (by kernel_rfl) ?_
  iterate 6 (refine keep_quiet (v := ?_) rfl (fun _ _ _ h => h) (by rfl) (fun w' hR => ?_) ?_; rotate_left; (go_simp; try with_reducible rfl); simp only [Act.put, List.setIfInBounds_toArray, List.set_cons_zero, List.set_cons_succ])
  refine keep_eff rfl ?_
  go_wp2_with fail
  refine (Reset_any g c N W.drew L (HL.out.grown (grownBy_drew _ _))).mono ?_
  rintro e w3 ⟨rfl, hm3⟩
  have hk3 := Lib.hid (KeptOn.grown (D := fun b => b ≠ g) hm3.only (fun g' hg' hD => by injection hg' with hg'; exact hD hg'.symm))
  obtain ⟨_, hgb⟩ := (HL.out.grown (grownBy_drew _ none)).1.1.blk
  have hr3 := HR.out.below ((Below.refl _ _).drew)
  have hr4 := hr3.far hgb hm3.only
  have HR4 := Lib.hid hr4
  have HL4 := Lib.hid hm3.link
  have ho4 := Lib.hid ((HO1.out.trans (Only3.drew _ _ _ _)).trans (Only3.of_only hm3.only (.inl rfl)))
  clear hm3 hgb hr3 hr4
  go_wp2_with fail
  refine keepPost_need hk3.out ?_
  refine keep_eff rfl ?_
  go_wp2_with fail
  refine (RIs x u N .nilFunc c w3 (HR4.out.blk.cell 0)).mono ?_
  rintro e w4 ⟨rfl, rfl⟩
  go_wp2_with fail
  refine keepPost_need (KeptOn.refl _ _) ?_
  iterate 2 (refine keep_quiet (v := ?_) rfl (fun _ _ _ h => h) (by rfl) (fun w' hR => ?_) ?_; rotate_left; (go_simp; try with_reducible rfl); simp only [Act.put, List.setIfInBounds_toArray, List.set_cons_zero, List.set_cons_succ])
  refine keep_done ?_
  go_wp2_with fail
  go_ret
  refine ⟨by simp, ⟨HL4.out, ?_⟩, ho4.out⟩
  have e0 : resetM N c L = L := by
    unfold resetM
    rw [if_neg (by rw [HN.out]; simp)]
  rw [e0]
  exact HR4.out

theorem do_any (g x u d N : Nat) (k c : Int) (s : ByteArray) (w : World) (L : Nat → List ByteArray) (h : Sync w g x u d N L) :
    Calls Try.prog 16 #[.pointer (some ⟨g, 0, none⟩), .pointer (some ⟨x, 0, none⟩), .agg #[.int .i64 k, .int .i64 c, .string s]] w fun e w' => e = .returned (.bool true) ∧ Sync w' g x u d N (doM N k c s L) ∧ Only3 g u d w w' := by
  by_cases hk : k < 0 ∨ 7 < k
  · have e : doM N k c s L = resetM N c L := by
      unfold doM
      rw [if_neg (by omega), if_neg (by omega), if_neg (by omega), if_neg (by omega)]
    rw [e]
    cases hn : isB c N with
    | true => exact do_rtrue g x u d N k c hk s hn w L h
    | false => exact do_rfalse g x u d N k c hk s hn w L h
  · rcases (by omega : k = 0 ∨ k = 1 ∨ k = 2 ∨ k = 3 ∨ k = 4 ∨ k = 5 ∨ k = 6 ∨ k = 7) with rfl | rfl | rfl | rfl | rfl | rfl | rfl | rfl
    · exact do_0 g x u d N c s w L h
    · exact do_1 g x u d N c s w L h
    · exact do_2 g x u d N c s w L h
    · exact do_3 g x u d N c s w L h
    · exact do_4 g x u d N c s w L h
    · exact do_5 g x u d N c s w L h
    · exact do_6 g x u d N c s w L h
    · exact do_7 g x u d N c s w L h
end Go.Proofs.Ytdfdgcknahmnnaa
