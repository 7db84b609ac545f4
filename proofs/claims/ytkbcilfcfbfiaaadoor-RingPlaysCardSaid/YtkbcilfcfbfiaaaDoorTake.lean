/- A block is taken: the program's take is compress. -/
import Derived.Test.YtkbcilfcfbfiaaaDoorWords
namespace Go.Proofs.YtkbcilfcfbfiaaaDoor
open Go.RowKit Go.Proofs
set_option linter.unusedSimpArgs false
set_option linter.unusedVariables false

def sel (x : S8) (k : Nat) : BitVec 32 := (s8l x).getD k 0
/-- The first k words have been added. -/
def mix (x s : S8) (k : Nat) : S8 := ⟨if 0 < k then x.a + s.a else x.a, if 1 < k then x.b + s.b else x.b, if 2 < k then x.c + s.c else x.c, if 3 < k then x.d + s.d else x.d,
  if 4 < k then x.e + s.e else x.e, if 5 < k then x.f + s.f else x.f, if 6 < k then x.g + s.g else x.g, if 7 < k then x.h + s.h else x.h⟩
theorem mix_get (x s : S8) (k : Nat) (h : k < 8) : (mix x s k).cells[k]? = some (.int .u32 (V (sel x k))) := by
  match k, h with
  | 0, _ => rfl
  | 1, _ => rfl
  | 2, _ => rfl
  | 3, _ => rfl
  | 4, _ => rfl
  | 5, _ => rfl
  | 6, _ => rfl
  | 7, _ => rfl
theorem cells_get (x : S8) (k : Nat) (h : k < 8) : x.cells[k]? = some (.int .u32 (V (sel x k))) := by
  match k, h with
  | 0, _ => rfl
  | 1, _ => rfl
  | 2, _ => rfl
  | 3, _ => rfl
  | 4, _ => rfl
  | 5, _ => rfl
  | 6, _ => rfl
  | 7, _ => rfl
theorem mix_set (x s : S8) (k : Nat) (h : k < 8) : (mix x s k).cells.setIfInBounds k (.int .u32 (V (sel x k + sel s k))) = (mix x s (k + 1)).cells := by
  match k, h with
  | 0, _ => rfl
  | 1, _ => rfl
  | 2, _ => rfl
  | 3, _ => rfl
  | 4, _ => rfl
  | 5, _ => rfl
  | 6, _ => rfl
  | 7, _ => rfl
theorem cells_one (x : S8) : x.cells.all (·.oneCell') = true := by
  refine all_oneCell_toArray ?_
  intro v hv
  simp only [vv, List.mem_cons, List.not_mem_nil, or_false] at hv
  rcases hv with rfl | rfl | rfl | rfl | rfl | rfl | rfl | rfl <;> rfl
theorem cells_size (x : S8) : x.cells.size = 8 := rfl
theorem mix_zero (x s : S8) : mix x s 0 = x := rfl
theorem mix_all (x s : S8) : mix x s 8 = x.plus s := rfl

theorem V_addw (x y : BitVec 32) : IntKind.u32.wrap (V x + V y) = V (x + y) := by
  rw [← V_add]; rfl
theorem V_notw (x : BitVec 32) : bits .xor .u32 IntKind.u32.max (V x) = V (~~~x) := by
  rw [show IntKind.u32.max = V (BitVec.allOnes 32) from rfl, V_xor, BitVec.allOnes_xor]
theorem t1_fold (s : S8) (k w : BitVec 32) : s.h + (rotr s.e 6 ^^^ rotr s.e 11 ^^^ rotr s.e 25) + ((s.e &&& s.f) ^^^ (~~~s.e &&& s.g)) + k + w = t1 s k w := rfl
theorem t2_fold (s : S8) : (rotr s.a 2 ^^^ rotr s.a 13 ^^^ rotr s.a 22) + ((s.a &&& s.b) ^^^ (s.a &&& s.c) ^^^ (s.b &&& s.c)) = t2 s := rfl

/-- The table of constants in memory. -/
def Consts (w : World) : Prop := ∀ t, t < 64 → w.cell? ⟨0, t, none⟩ = some (.int .u32 (V (kc t)))
theorem Consts.lt {w : World} (h : Consts w) : 0 < w.heap.size := World.block_lt_of_cell? w _ (h 0 (by omega))
theorem Consts.below {w w' : World} (h : Consts w) (hB : Below w.heap.size w w') : Consts w' := fun t ht => (hB.cell (p := ⟨0, t, none⟩) h.lt).trans (h t ht)

theorem index_words (bs : List UInt8) (k : Nat) (hk : k < 64) (w : World) : (Instr.index 115 (.agg (wordsC (wl bs 64))) (.int .i64 (k : Int))).run Tryd.prog w = .ok (.int .u32 (V (wd bs k))) w := by
  have hsz : (wordsC (wl bs 64)).size = 64 := by unfold wordsC; simp [wl_length]
  have hg : (wordsC (wl bs 64))[k]? = some (.int .u32 (V (wd bs k))) := by
    rw [wordsC_get _ _ (by rw [wl_length]; exact hk), wl_get _ hk]
    rfl
  have hs : (Tryd.prog.info? 87).map (·.size) = some 1 := by kernel_rfl
  obtain ⟨i, hi, hi2⟩ := Option.map_eq_some_iff.1 hs
  generalize wordsC (wl bs 64) = cs at hsz hg
  unfold Instr.index
  simp [go_sem, asIntOf, Tryd.underlying115, hk, sizeOf, typeInfo, hi, hi2]
  rw [hg]
  rfl

set_option maxRecDepth 100000 in
set_option maxHeartbeats 4000000 in
theorem take_any (s : S8) (bs : List UInt8) (hbs : bs.length = 64) (w : World) (hk : Consts w) :
    Calls Tryd.prog 63 #[.agg s.cells, .agg (bytesC bs)] w fun e w' => e = .returned (.agg (compress s bs).cells) ∧ Below w.heap.size w w' := by
  have HK := Lib.hid hk
  have HZ := Lib.hid hbs
  clear hk hbs
  generalize hres : Value.agg (compress s bs).cells = res
  have HR := Lib.hid hres
  clear hres
  go_enter Tryd.func63, Tryd.ntmps63
  simp only [S8.cells, vv]
  go_upto_region 2 with (fail)
  have g0 : Blk (w.alloc (.cells s.cells 91)) w.heap.size 91 s.cells := Blk.new _ _ _
  have B0 : Below w.heap.size w (w.alloc (.cells s.cells 91)) := (Below.refl _ _).alloc (Nat.le_refl _) _
  have g1 : Blk ((w.alloc (.cells s.cells 91)).alloc (.cells (bytesC bs) 92)) (w.heap.size + 1) 92 (bytesC bs) := by
    have := Blk.new (w.alloc (.cells s.cells 91)) 92 (bytesC bs)
    rwa [World.size_alloc] at this
  have zz : S8 := ⟨0, 0, 0, 0, 0, 0, 0, 0⟩
  have g2 : Blk (((w.alloc (.cells s.cells 91)).alloc (.cells (bytesC bs) 92)).alloc (.cells (S8.mk 0 0 0 0 0 0 0 0).cells 91)) (w.heap.size + 1 + 1) 91 (S8.mk 0 0 0 0 0 0 0 0).cells := by
    have := Blk.new ((w.alloc (.cells s.cells 91)).alloc (.cells (bytesC bs) 92)) 91 (S8.mk 0 0 0 0 0 0 0 0).cells
    rwa [World.size_alloc, World.size_alloc] at this
  have g3 : Blk ((((w.alloc (.cells s.cells 91)).alloc (.cells (bytesC bs) 92)).alloc (.cells (S8.mk 0 0 0 0 0 0 0 0).cells 91)).alloc (.cells s.cells 91)) (w.heap.size + 1 + 1 + 1) 91 s.cells := by
    have := Blk.new (((w.alloc (.cells s.cells 91)).alloc (.cells (bytesC bs) 92)).alloc (.cells (S8.mk 0 0 0 0 0 0 0 0).cells 91)) 91 s.cells
    rwa [World.size_alloc, World.size_alloc, World.size_alloc] at this
  have h0 := ((g0.alloc (.cells (bytesC bs) 92)).alloc (.cells (S8.mk 0 0 0 0 0 0 0 0).cells 91)).alloc (.cells s.cells 91)
  have h1 := (g1.alloc (.cells (S8.mk 0 0 0 0 0 0 0 0).cells 91)).alloc (.cells s.cells 91)
  have h2 := g2.alloc (.cells s.cells 91)
  have hB : Below w.heap.size w ((((w.alloc (.cells s.cells 91)).alloc (.cells (bytesC bs) 92)).alloc (.cells (S8.mk 0 0 0 0 0 0 0 0).cells 91)).alloc (.cells s.cells 91)) := ((B0.alloc (by simp) _).alloc (by simp; omega) _).alloc (by simp; omega) _
  clear g0 g1 g2 B0 zz
  change Code.wp _ _ _ _ ((((w.alloc (.cells s.cells 91)).alloc (.cells (bytesC bs) 92)).alloc (.cells (S8.mk 0 0 0 0 0 0 0 0).cells 91)).alloc (.cells s.cells 91))
  generalize (((w.alloc (.cells s.cells 91)).alloc (.cells (bytesC bs) 92)).alloc (.cells (S8.mk 0 0 0 0 0 0 0 0).cells 91)).alloc (.cells s.cells 91) = w4 at h0 h1 h2 g3 hB ⊢
  have H0 := Lib.hid h0
  have H1 := Lib.hid h1
  have H2 := Lib.hid h2
  have H3 := Lib.hid g3
  have HB := Lib.hid hB
  have hi92 : (Tryd.prog.info? 92).map (·.size) = some (bytesC bs).size := by
    rw [show (bytesC bs).size = 64 from by unfold bytesC; simp [HZ.out]]
    kernel_rfl
  have hb92 := h1
  clear h0 h1 h2 g3 hB
  refine wp_region_lit ?_
  refine wpList_load_row rfl 92 _ rfl (w.heap.size + 1) rfl 92 (bytesC bs) _ _ hb92 Tryd.underlying92 rfl hi92 ?_
  clear hb92 hi92
  go_wp2_with fail
  refine (words_any bs HZ.out w4).mono ?_
  rintro e w5 ⟨rfl, hb⟩
  have H0 := Lib.hid (H0.out.below hb H0.out.lt)
  have H2 := Lib.hid (H2.out.below hb H2.out.lt)
  have H3 := Lib.hid (H3.out.below hb H3.out.lt)
  have HB := Lib.hid (HB.out.trans (hb.mono HB.out.size))
  clear hb
  go_wp2_with fail
  go_loopw [16] (fun i wr => ∃ k : Nat, k ≤ 64 ∧ i = .int .i64 k ∧ Below w.heap.size w wr ∧ Blk wr w.heap.size 91 s.cells ∧ Blk wr (w.heap.size + 1 + 1) 91 (S8.mk 0 0 0 0 0 0 0 0).cells ∧ Blk wr (w.heap.size + 1 + 1 + 1) 91 (rounds s bs k).cells) (fun i _ => 64 - (intOf i).toNat)
  case atStart => exact ⟨0, by omega, rfl, HB.out, H0.out, H2.out, H3.out⟩
  case round =>
    obtain ⟨k, hk, rfl, hB, h0, h2, h3⟩ := hrel
    clear HB H0 H2 H3
    have HB := Lib.hid hB
    have H0 := Lib.hid h0
    have H2 := Lib.hid h2
    have H3 := Lib.hid h3
    clear hB h0 h2 h3
    by_cases hlt : k < 64
    · have hix := index_words bs k hlt
      have hkc : ∀ w', KeptOn (fun _ => True) wr.drew.drew w' → w'.cell? ⟨0, k, none⟩ = some (.int .u32 (V (kc k))) := fun w' hK => hK.cell (w := wr.drew.drew) ((HK.out.below HB.out) k hlt) trivial
      generalize hst : rounds s bs k = st at H3
      have HST := Lib.hid hst
      have v0 : ∀ w', KeptOn (fun _ => True) wr.drew w' → w'.cell? ⟨w.heap.size + 1 + 1 + 1, 0, none⟩ = some (.int .u32 (V st.a)) := fun w' hK => hK.cell (w := wr.drew) (H3.out.cell 0) trivial
      have v4 : ∀ w', KeptOn (fun _ => True) wr.drew w' → w'.cell? ⟨w.heap.size + 1 + 1 + 1, 4, none⟩ = some (.int .u32 (V st.e)) := fun w' hK => hK.cell (w := wr.drew) (H3.out.cell 4) trivial
      have w5' : ∀ w', KeptOn (fun _ => True) wr.drew.drew w' → w'.cell? ⟨w.heap.size + 1 + 1 + 1, 5, none⟩ = some (.int .u32 (V st.f)) := fun w' hK => hK.cell (w := wr.drew.drew) (H3.out.cell 5) trivial
      have w6' : ∀ w', KeptOn (fun _ => True) wr.drew.drew w' → w'.cell? ⟨w.heap.size + 1 + 1 + 1, 6, none⟩ = some (.int .u32 (V st.g)) := fun w' hK => hK.cell (w := wr.drew.drew) (H3.out.cell 6) trivial
      have w7' : ∀ w', KeptOn (fun _ => True) wr.drew.drew w' → w'.cell? ⟨w.heap.size + 1 + 1 + 1, 7, none⟩ = some (.int .u32 (V st.h)) := fun w' hK => hK.cell (w := wr.drew.drew) (H3.out.cell 7) trivial
      have x1' : ∀ w', KeptOn (fun _ => True) wr.drew.drew.drew w' → w'.cell? ⟨w.heap.size + 1 + 1 + 1, 1, none⟩ = some (.int .u32 (V st.b)) := fun w' hK => hK.cell (w := wr.drew.drew.drew) (H3.out.cell 1) trivial
      have x2' : ∀ w', KeptOn (fun _ => True) wr.drew.drew.drew w' → w'.cell? ⟨w.heap.size + 1 + 1 + 1, 2, none⟩ = some (.int .u32 (V st.c)) := fun w' hK => hK.cell (w := wr.drew.drew.drew) (H3.out.cell 2) trivial
      have i1 : (k : Int) < 64 := by omega
      clear hst
      go_wp2_with fail
      refine wp_region_keep (KeptOn fun _ => True) (KeptOn.refl _) (KeptOn.trans) [(0, 0), (1, 0), (2, 0), (3, 0), (4, 0), (5, 0)] (by kernel_rfl) (by kernel_rfl) ?_
      iterate 6 (refine keep_quiet (v := ?_) rfl (fun _ _ _ h => h) (by rfl) (fun w' hR => ?_) ?_; rotate_left; (go_simp; try with_reducible rfl); simp only [Act.put, List.setIfInBounds_toArray, List.set_cons_zero, List.set_cons_succ])
      refine keep_done ?_
      clear v0 v4 hix
      go_wp2_with fail
      refine wp_region_keep (KeptOn fun _ => True) (KeptOn.refl _) (KeptOn.trans) [(0, 0), (1, 0), (2, 0), (4, 0), (7, 0), (11, 0), (12, 0), (13, 0), (14, 0), (15, 0), (16, 0), (17, 0), (18, 0), (19, 0), (20, 0), (22, 0), (23, 0), (24, 0), (26, 0), (3, 1), (5, 1), (6, 0), (8, 1), (9, 0), (10, 0), (21, 0), (25, 0), (27, 0), (28, 0)] (by kernel_rfl) (by kernel_rfl) ?_
      iterate 19 (refine keep_quiet (v := ?_) rfl (fun _ _ _ h => h) (by rfl) (fun w' hR => ?_) ?_; rotate_left; (go_simp; try with_reducible rfl); simp only [Act.put, List.setIfInBounds_toArray, List.set_cons_zero, List.set_cons_succ])
      refine keep_eff rfl ?_
      go_wp2_with fail
      refine (rot_6 _ _).mono ?_
      rintro e w' ⟨rfl, rfl⟩
      simp only [vv]
      go_wp2_with fail
      refine keepPost_need (KeptOn.refl _ _) ?_
      refine keep_eff rfl ?_
      go_wp2_with fail
      refine (rot_11 _ _).mono ?_
      rintro e w' ⟨rfl, rfl⟩
      simp only [vv]
      go_wp2_with fail
      refine keepPost_need (KeptOn.refl _ _) ?_
      iterate 1 (refine keep_quiet (v := ?_) rfl (fun _ _ _ h => h) (by rfl) (fun w' hR => ?_) ?_; rotate_left; (go_simp; try with_reducible rfl); simp only [Act.put, List.setIfInBounds_toArray, List.set_cons_zero, List.set_cons_succ])
      refine keep_eff rfl ?_
      go_wp2_with fail
      refine (rot_25 _ _).mono ?_
      rintro e w' ⟨rfl, rfl⟩
      simp only [vv]
      go_wp2_with fail
      refine keepPost_need (KeptOn.refl _ _) ?_
      iterate 6 (refine keep_quiet (v := ?_) rfl (fun _ _ _ h => h) (by rfl) (fun w' hR => ?_) ?_; rotate_left; (go_simp; try with_reducible rfl); simp only [Act.put, List.setIfInBounds_toArray, List.set_cons_zero, List.set_cons_succ])
      refine keep_done ?_
      simp only [V_xor, V_and, V_notw, V_addw, t1_fold]
      have y0 : ∀ w', KeptOn (fun _ => True) wr.drew.drew w' → w'.cell? ⟨w.heap.size + 1 + 1 + 1, 1, none⟩ = some (.int .u32 (V st.b)) := fun w' hK => hK.cell (w := wr.drew.drew) (H3.out.cell 1) trivial
      have y1 : ∀ w', KeptOn (fun _ => True) wr.drew.drew w' → w'.cell? ⟨w.heap.size + 1 + 1 + 1, 2, none⟩ = some (.int .u32 (V st.c)) := fun w' hK => hK.cell (w := wr.drew.drew) (H3.out.cell 2) trivial
      clear w5' w6' w7' hkc y0 y1
      go_wp2_with fail
      refine wp_region_keep (KeptOn fun _ => True) (KeptOn.refl _) (KeptOn.trans) [(0, 0), (2, 0), (5, 0), (8, 0), (9, 0), (10, 0), (11, 0), (12, 0), (13, 0), (14, 0), (15, 0), (16, 0), (17, 0), (18, 0), (19, 0), (20, 0), (21, 0), (22, 0), (1, 1), (3, 1), (4, 0), (6, 1), (7, 0), (23, 0), (24, 0)] (by kernel_rfl) (by kernel_rfl) ?_
      iterate 18 (refine keep_quiet (v := ?_) rfl (fun _ _ _ h => h) (by rfl) (fun w' hR => ?_) ?_; rotate_left; (go_simp; try with_reducible rfl); simp only [Act.put, List.setIfInBounds_toArray, List.set_cons_zero, List.set_cons_succ])
      refine keep_eff rfl ?_
      go_wp2_with fail
      refine (rot_2 _ _).mono ?_
      rintro e w' ⟨rfl, rfl⟩
      simp only [vv]
      go_wp2_with fail
      refine keepPost_need (KeptOn.refl _ _) ?_
      refine keep_eff rfl ?_
      go_wp2_with fail
      refine (rot_13 _ _).mono ?_
      rintro e w' ⟨rfl, rfl⟩
      simp only [vv]
      go_wp2_with fail
      refine keepPost_need (KeptOn.refl _ _) ?_
      iterate 1 (refine keep_quiet (v := ?_) rfl (fun _ _ _ h => h) (by rfl) (fun w' hR => ?_) ?_; rotate_left; (go_simp; try with_reducible rfl); simp only [Act.put, List.setIfInBounds_toArray, List.set_cons_zero, List.set_cons_succ])
      refine keep_eff rfl ?_
      go_wp2_with fail
      refine (rot_22 _ _).mono ?_
      rintro e w' ⟨rfl, rfl⟩
      simp only [vv]
      go_wp2_with fail
      refine keepPost_need (KeptOn.refl _ _) ?_
      iterate 3 (refine keep_quiet (v := ?_) rfl (fun _ _ _ h => h) (by rfl) (fun w' hR => ?_) ?_; rotate_left; (go_simp; try with_reducible rfl); simp only [Act.put, List.setIfInBounds_toArray, List.set_cons_zero, List.set_cons_succ])
      refine keep_done ?_
      simp only [V_xor, V_and, V_notw, V_addw, t2_fold]
      clear x1' x2'
      have z : ∀ j, wr.drew.drew.drew.cell? ⟨w.heap.size + 1 + 1 + 1, j, none⟩ = st.cells[j]? := fun j => H3.out.drew.drew.drew.cell j
      have z0 := z 0
      have z1 := z 1
      have z2 := z 2
      have z3 := z 3
      have z4 := z 4
      have z5 := z 5
      have z6 := z 6
      have z7 := z 7
      clear z
      simp only [S8.cells, vv, List.getElem?_toArray, List.getElem?_cons_zero, List.getElem?_cons_succ] at z0 z1 z2 z3 z4 z5 z6 z7
      go_upto_region 8 with (fail)
      refine wp_region_lit ?_
      iterate 54 go_step
      simp only [V_add]
      refine wpList_store_mid rfl 91 _ _ rfl (w.heap.size + 1 + 1 + 1) 0 (step st (kc k) (wd bs k)).cells rfl rfl (H3.out.drew.drew.drew.there 0 _ (Nat.le_refl 8)) (by kernel_rfl) (cells_one _) ?_
      clear z0 z1 z2 z3 z4 z5 z6 z7
      generalize hw' : wr.drew.drew.drew.setCells (w.heap.size + 1 + 1 + 1) 0 (step st (kc k) (wd bs k)).cells.toList = wn
      have H0 := Lib.hid (hw' ▸ H0.out.drew.drew.drew.setCells_far (b := w.heap.size + 1 + 1 + 1) (step st (kc k) (wd bs k)).cells.toList (by omega) 0)
      have H2 := Lib.hid (hw' ▸ H2.out.drew.drew.drew.setCells_far (b := w.heap.size + 1 + 1 + 1) (step st (kc k) (wd bs k)).cells.toList (by omega) 0)
      have HB := Lib.hid (hw' ▸ Below.setCells' (b := w.heap.size + 1 + 1 + 1) (step st (kc k) (wd bs k)).cells.toList (by omega) 0 HB.out.drew.drew.drew)
      have H3 := Lib.hid (hw' ▸ H3.out.drew.drew.drew.setCells (step st (kc k) (wd bs k)).cells.toList 0)
      clear hw'
      go_wp2_with fail
      go_roundw
      case rel =>
        refine ⟨k + 1, by omega, by go_num, HB.out, H0.out, H2.out, ?_⟩
        have := H3.out
        have e1 := putAll_all st.cells (step st (kc k) (wd bs k)).cells ((cells_size _).trans (cells_size _).symm)
        rw [e1] at this
        have e2 : rounds s bs (k + 1) = step st (kc k) (wd bs k) := by rw [← HST.out]; rfl
        rw [e2]
        exact this
      case measure => simp [intOf]; omega
    · have hk' : k = 64 := by omega
      subst hk'
      generalize hst : rounds s bs 64 = st at H3
      have HST := Lib.hid hst
      have H3 := Lib.hid (show Blk wr (w.heap.size + 1 + 1 + 1) 91 (mix st s 0).cells from H3.out)
      clear hst
      go_wp2_with fail
      go_loopw [95] (fun i wr => ∃ k : Nat, k ≤ 8 ∧ i = .int .i64 k ∧ Below w.heap.size w wr ∧ Blk wr w.heap.size 91 s.cells ∧ Blk wr (w.heap.size + 1 + 1) 91 (S8.mk 0 0 0 0 0 0 0 0).cells ∧ Blk wr (w.heap.size + 1 + 1 + 1) 91 (mix st s k).cells) (fun i _ => 8 - (intOf i).toNat)
      case atStart => exact ⟨0, by omega, rfl, HB.out, H0.out, H2.out, H3.out⟩
      case round =>
        obtain ⟨k, hk, rfl, hB, h0, h2, h3⟩ := hrel
        clear HB H0 H2 H3
        have HB := Lib.hid hB
        have H0 := Lib.hid h0
        have H2 := Lib.hid h2
        have H3 := Lib.hid h3
        clear hB h0 h2 h3
        by_cases hlt : k < 8
        · have q0 : ∀ w', KeptOn (fun _ => True) wr.drew w' → w'.cell? ⟨w.heap.size, k, none⟩ = some (.int .u32 (V (sel s k))) := fun w' hK => hK.cell (w := wr.drew) ((H0.out.cell k).trans (cells_get _ _ hlt)) trivial
          have q3 : ∀ w', KeptOn (fun _ => True) wr.drew w' → w'.cell? ⟨w.heap.size + 1 + 1 + 1, k, none⟩ = some (.int .u32 (V (sel st k))) := fun w' hK => hK.cell (w := wr.drew) ((H3.out.cell k).trans (mix_get _ _ _ hlt)) trivial
          have i1 : (k : Int) < 8 := by omega
          have c3 : wr.cell? ⟨w.heap.size + 1 + 1 + 1, k, none⟩ = some (.int .u32 (V (sel st k))) := (H3.out.cell k).trans (mix_get _ _ _ hlt)
          have f3 := H3.out.frozen k
          go_wp2_with fail
          refine wp_region_keep (KeptOn fun _ => True) (KeptOn.refl _) (KeptOn.trans) [(0, 0), (1, 0), (2, 0), (3, 0), (4, 0), (5, 0), (6, 0), (7, 0), (8, 2)] (by kernel_rfl) (by kernel_rfl) ?_
          iterate 8 (refine keep_quiet (v := ?_) rfl (fun _ _ _ h => h) (by rfl) (fun w' hR => ?_) ?_; rotate_left; (go_simp; try with_reducible rfl); simp only [Act.put, List.setIfInBounds_toArray, List.set_cons_zero, List.set_cons_succ])
          refine keep_eff rfl ?_
          go_wp2
          refine keepPost_free ?_
          refine keep_done ?_
          go_wp2
          go_roundw
          case rel =>
            simp only [V_add]
            refine ⟨k + 1, by omega, by go_num, ((HB.out.drew).setCell (by simp; omega) _), H0.out.drew.far (by simp; omega) _, H2.out.drew.far (by simp) _, ?_⟩
            have := H3.out.drew.set_ k (.int .u32 (V (sel st k + sel s k)))
            rw [mix_set _ _ _ hlt] at this
            exact this
          case measure => simp [intOf]; omega
        · have hk' : k = 8 := by omega
          subst hk'
          have H3 := Lib.hid (show Blk wr (w.heap.size + 1 + 1 + 1) 91 (st.plus s).cells from H3.out)
          go_upto_region 15 with (fail)
          refine wp_region_lit ?_
          refine wpList_load_row rfl 91 _ rfl (w.heap.size + 1 + 1 + 1) rfl 91 (st.plus s).cells _ _ H3.out Tryd.underlying91 rfl (by kernel_rfl) ?_
          refine wpList_store_mid rfl 91 _ _ rfl (w.heap.size + 1 + 1) 0 (st.plus s).cells rfl rfl (H2.out.there 0 _ (Nat.le_refl 8)) (by kernel_rfl) (cells_one _) ?_
          have H2 := Lib.hid (H2.out.setCells (st.plus s).cells.toList 0)
          have HB := Lib.hid (Below.setCells' (b := w.heap.size + 1 + 1) (st.plus s).cells.toList (by omega) 0 HB.out)
          generalize wr.setCells (w.heap.size + 1 + 1) 0 (st.plus s).cells.toList = wn at H2 HB
          refine wpList_nil ?_
          have hz := H2.out
          have e1 := putAll_all (S8.mk 0 0 0 0 0 0 0 0).cells (st.plus s).cells ((cells_size _).trans (cells_size _).symm)
          rw [e1] at hz
          have e2 : compress s bs = st.plus s := by rw [← HST.out]; rfl
          have hi91 : (Tryd.prog.info? 91).map (·.size) = some (st.plus s).cells.size := by kernel_rfl
          have E2 := Lib.hid e2
          clear e1 e2
          go_wp2_with fail
          refine bodyPost_ret (v := .agg (st.plus s).cells) (results_cell_row rfl _ _ (w.heap.size + 1 + 1) 91 (st.plus s).cells _ _ rfl hz Tryd.underlying91 rfl hi91) rfl ⟨by rw [← HR.out, E2.out], HB.out⟩
end Go.Proofs.YtkbcilfcfbfiaaaDoor
