/- The sixty-four words of a block, as the program makes them. -/
import Derived.Test.YtkbcilfcfbfiaaaDoorRot
import Derived.Test.YtkbcilfcfbfiaaaDoorKeep
import Derived.Test.YtkbcilfcfbfiaaaDoorArr
import Derived.WalkSpells
import Derived.WalkLawsBesides
import Derived.Deep.QuietTactic
import Derived.BigQuiet
import Derived.Lib.Hide
import Derived.ArgAppend
import Derived.Deep.Cut
namespace Go.Proofs.YtkbcilfcfbfiaaaDoor
open Go.RowKit Go.Proofs
set_option linter.unusedSimpArgs false
set_option linter.unusedVariables false

def u0 : Value := .int .u32 0
def z64 : Array Value := (List.replicate 64 u0).toArray
def bytesC (bs : List UInt8) : Array Value := (bs.map bb).toArray
/-- The words so far, then x, then zeros: 64 cells. -/
def wordsC (l : List (BitVec 32)) : Array Value := (l.map vv ++ List.replicate (64 - l.length) u0).toArray
theorem wordsC_zero : wordsC [] = z64 := rfl
theorem wordsC_get (l : List (BitVec 32)) (i : Nat) (h : i < l.length) : (wordsC l)[i]? = some (.int .u32 (V (l.getD i 0))) := by
  unfold wordsC
  rw [List.getElem?_toArray, List.getElem?_append_left (by simpa using h)]
  simp [h, vv, List.getD_eq_getElem?_getD]
theorem wordsC_next (l : List (BitVec 32)) (h : l.length < 64) : (wordsC l)[l.length]? = some (.int .u32 (V 0)) := by
  unfold wordsC
  rw [List.getElem?_toArray, List.getElem?_append_right (by simp)]
  rw [List.length_map, Nat.sub_self]
  obtain ⟨m, hm⟩ : ∃ m, 64 - l.length = m + 1 := ⟨63 - l.length, by omega⟩
  rw [hm]
  rfl
theorem wordsC_set (l : List (BitVec 32)) (x : BitVec 32) (h : l.length < 64) : (wordsC l).setIfInBounds l.length (.int .u32 (V x)) = wordsC (l ++ [x]) := by
  unfold wordsC
  apply Array.ext'
  simp only [Array.toList_setIfInBounds, List.length_append, List.length_singleton]
  rw [List.set_append_right _ _ (by simp)]
  simp only [List.length_map, Nat.sub_self, List.map_append, List.map_cons, List.map_nil, List.append_assoc]
  congr 1
  obtain ⟨m, hm⟩ : ∃ m, 64 - l.length = m + 1 := ⟨63 - l.length, by omega⟩
  rw [hm, show 64 - (l.length + 1) = m by omega]
  rfl
theorem wordsC_one (l : List (BitVec 32)) : (wordsC l).all (·.oneCell') = true := by
  refine all_oneCell_toArray fun v hv => ?_
  rcases List.mem_append.1 hv with hv | hv
  · obtain ⟨x, _, rfl⟩ := List.mem_map.1 hv; rfl
  · rw [List.eq_of_mem_replicate hv]; rfl
theorem bytesC_get (bs : List UInt8) (i : Nat) (h : i < bs.length) : (bytesC bs)[i]? = some (.int .u8 ((bs.getD i 0).toNat : Int)) := by
  unfold bytesC
  simp [h, bb, List.getD_eq_getElem?_getD]

theorem setEach {α : Type} (a : Array α) (i : Nat) (x y : α) : (a.setIfInBounds i x).setIfInBounds i y = a.setIfInBounds i y := by simp

set_option maxRecDepth 100000 in
set_option maxHeartbeats 2000000 in
theorem words_any (bs : List UInt8) (hbs : bs.length = 64) (w : World) :
    Calls Tryd.prog 79 #[.agg (bytesC bs)] w fun e w' => e = .returned (.agg (wordsC (wl bs 64))) ∧ Below w.heap.size w w' := by
  have HZ : Hid (bs.length = 64) := hbs
  clear hbs
  go_enter Tryd.func79, Tryd.ntmps79
  go_wp2
  go_loopw [11] (fun i wr => ∃ k : Nat, k ≤ 16 ∧ i = .int .i64 k ∧ Below w.heap.size w wr ∧ Blk wr w.heap.size 92 (bytesC bs) ∧ Blk wr (w.heap.size + 1) 115 z64 ∧ Blk wr (w.heap.size + 1 + 1) 115 (wordsC (wl bs k))) (fun i _ => 16 - (intOf i).toNat)
  case atStart =>
    refine ⟨0, by omega, rfl, (((Below.refl _ _).alloc (Nat.le_refl _) _).alloc (by simp) _).alloc (by simp; omega) _, ((Blk.new _ _ _).alloc _).alloc _, ?_, ?_⟩
    · have := (Blk.new (w.alloc (.cells (bytesC bs) 92)) 115 z64).alloc (.cells z64 115)
      rw [World.size_alloc] at this
      exact this
    · have := Blk.new ((w.alloc (.cells (bytesC bs) 92)).alloc (.cells z64 115)) 115 z64
      rw [World.size_alloc, World.size_alloc] at this
      exact this
  case round =>
    obtain ⟨k, hk, rfl, hB, h1, h2, h3⟩ := hrel
    have HB := Lib.hid hB
    have H1 := Lib.hid h1
    have H2 := Lib.hid h2
    have H3 := Lib.hid h3
    clear hB h1 h2 h3
    by_cases hlt : k < 16
    · obtain ⟨wo, hwo⟩ : ∃ wo : World, wo = wr := ⟨_, rfl⟩
      subst hwo
      go_wp2
      go_loopw [14] (fun j wi => ∃ i : Nat, i ≤ 4 ∧ j = .int .i64 i ∧ Below w.heap.size w wi ∧ Blk wi w.heap.size 92 (bytesC bs) ∧ Blk wi (w.heap.size + 1) 115 z64 ∧ Blk wi (w.heap.size + 1 + 1) 115 ((wordsC (wl bs k)).setIfInBounds k (.int .u32 (V (pw bs k i))))) (fun j _ => 4 - (intOf j).toNat)
      case atStart =>
        refine ⟨0, by omega, rfl, HB.out, H1.out, H2.out, ?_⟩
        have hl := wl_length bs k
        have hn := wordsC_next (wl bs k) (by omega)
        rw [hl] at hn
        have e : (wordsC (wl bs k)).setIfInBounds k (.int .u32 (V (pw bs k 0))) = wordsC (wl bs k) := by
          apply Array.ext_getElem?
          intro j
          rw [Array.getElem?_setIfInBounds]
          split
          · rename_i hj
            subst hj
            split
            · rw [hn]; rfl
            · rename_i hj; rw [Array.getElem?_eq_none (by omega)]
          · rfl
        rw [e]
        exact H3.out
      case round =>
        obtain ⟨i, hi, rfl, hB, h1, h2, h3⟩ := hrel
        have HB := Lib.hid hB
        have H1 := Lib.hid h1
        have H2 := Lib.hid h2
        have H3 := Lib.hid h3
        clear hB h1 h2 h3
        have hl := wl_length bs k
        have hsz : k < (wordsC (wl bs k)).size := by unfold wordsC; simp [hl]; omega
        by_cases hi4 : i < 4
        · have cw : ∀ w', KeptOn (fun _ => True) wr.drew w' → w'.cell? ⟨w.heap.size + 1 + 1, k, none⟩ = some (.int .u32 (V (pw bs k i))) := fun w' hK => hK.cell (w := wr.drew) ((H3.out.cell k).trans (by rw [Array.getElem?_setIfInBounds_self_of_lt hsz])) trivial
          have cb : ∀ w', KeptOn (fun _ => True) wr.drew w' → w'.cell? ⟨w.heap.size, 4 * k + i, none⟩ = some (.int .u8 ((bs.getD (4 * k + i) 0).toNat : Int)) := fun w' hK => hK.cell (w := wr.drew) ((H1.out.cell (4 * k + i)).trans (bytesC_get bs _ (by have := HZ.out; omega))) trivial
          have cs : wr.cell? ⟨w.heap.size + 1 + 1, k, none⟩ = some (.int .u32 (V (pw bs k i))) := (H3.out.cell k).trans (by rw [Array.getElem?_setIfInBounds_self_of_lt hsz])
          have cf := H3.out.frozen k
          have j5 : IntKind.i64.wrap (4 * (k : Int)) = 4 * (k : Int) := IntWalk.i64_in _ (by omega)
          have j6 : IntKind.i64.wrap (4 * (k : Int) + (i : Int)) = 4 * (k : Int) + (i : Int) := IntWalk.i64_in _ (by omega)
          have j1 : (k : Int) < 64 := by omega
          have j7 : 4 * (k : Int) + (i : Int) < 64 := by omega
          have j3 : (0 : Int) ≤ 4 * (k : Int) + (i : Int) := by omega
          have j4 : (4 * (k : Int) + (i : Int)).toNat = 4 * k + i := by omega
          go_wp2_with fail
          refine wp_region_keep (KeptOn fun _ => True) (KeptOn.refl _) (KeptOn.trans) [(0, 0), (1, 0), (2, 0), (3, 0), (4, 0), (5, 0), (6, 0), (7, 0), (8, 0), (9, 0), (10, 0), (11, 0), (12, 0), (13, 0), (14, 2)] (by kernel_rfl) (by kernel_rfl) ?_
          iterate 14 (refine keep_quiet (v := ?_) rfl (fun _ _ _ h => h) (by rfl) (fun w' hR => ?_) ?_; rotate_left; (go_simp; try with_reducible rfl); simp only [Act.put, List.setIfInBounds_toArray, List.set_cons_zero, List.set_cons_succ])
          refine keep_eff rfl ?_
          go_wp2
          refine keepPost_free ?_
          refine keep_done ?_
          go_wp2
          go_roundw
          case rel =>
            simp only [V_push']
            refine ⟨i + 1, by omega, by go_num, ((HB.out.drew).setCell (by simp; omega) _), H1.out.drew.far (by simp; omega) _, H2.out.drew.far (by simp) _, ?_⟩
            have := H3.out.drew.set_ k (.int .u32 (V (push (pw bs k i) (bs[4 * k + i]?.getD 0))))
            rw [setEach] at this
            exact this
          case measure => simp [intOf]; omega
        · have hi' : i = 4 := by omega
          subst hi'
          go_wp2
          go_roundw
          case rel =>
            refine ⟨k + 1, by omega, by go_num, HB.out, H1.out, H2.out, ?_⟩
            have := H3.out
            have e := wordsC_set (wl bs k) (pw bs k 4) (by omega)
            rw [hl] at e
            rw [e] at this
            have e2 : wl bs (k + 1) = wl bs k ++ [pw bs k 4] := by simp only [wl]; rw [if_pos hlt]; rfl
            rw [e2]
            exact this
          case measure => simp [intOf]; omega
    · have hk' : k = 16 := by omega
      subst hk'
      have hl := wl_length bs 16
      go_wp2
      go_loopw [6] (fun i wr => ∃ k : Nat, 16 ≤ k ∧ k ≤ 64 ∧ i = .int .i64 k ∧ Below w.heap.size w wr ∧ Blk wr w.heap.size 92 (bytesC bs) ∧ Blk wr (w.heap.size + 1) 115 z64 ∧ Blk wr (w.heap.size + 1 + 1) 115 (wordsC (wl bs k))) (fun i _ => 64 - (intOf i).toNat)
      case atStart => exact ⟨16, by omega, by omega, rfl, HB.out, H1.out, H2.out, H3.out⟩
      case round =>
        obtain ⟨k, hk16, hk, rfl, hB, h1, h2, h3⟩ := hrel
        clear HB H1 H2 H3 hl
        have HB := Lib.hid hB
        have H1 := Lib.hid h1
        have H2 := Lib.hid h2
        have H3 := Lib.hid h3
        clear hB h1 h2 h3
        have HL := Lib.hid (wl_length bs k)
        by_cases hlt : k < 64
        · have get : ∀ j, j < k → (wordsC (wl bs k))[j]? = some (.int .u32 (V (wd bs j))) := fun j hj => by
            rw [wordsC_get _ _ (by rw [HL.out]; exact hj), wl_get _ hj]
            rfl
          have c15 : ∀ w', KeptOn (fun _ => True) wr.drew w' → w'.cell? ⟨w.heap.size + 1 + 1, k - 15, none⟩ = some (.int .u32 (V (wd bs (k - 15)))) := fun w' hK => hK.cell (w := wr.drew) ((H3.out.cell _).trans (get _ (by omega))) trivial
          have c2 : ∀ w', KeptOn (fun _ => True) wr.drew w' → w'.cell? ⟨w.heap.size + 1 + 1, k - 2, none⟩ = some (.int .u32 (V (wd bs (k - 2)))) := fun w' hK => hK.cell (w := wr.drew) ((H3.out.cell _).trans (get _ (by omega))) trivial
          have i15 : (15 : Int) ≤ (k : Int) := by omega
          have i15' : (k : Int) - 15 < 64 := by omega
          have i15w : IntKind.i64.wrap ((k : Int) - 15) = (k : Int) - 15 := IntWalk.i64_in _ (by omega)
          have i15n : ((k : Int) - 15).toNat = k - 15 := by omega
          have i2 : (2 : Int) ≤ (k : Int) := by omega
          have i2' : (k : Int) - 2 < 64 := by omega
          have i2w : IntKind.i64.wrap ((k : Int) - 2) = (k : Int) - 2 := IntWalk.i64_in _ (by omega)
          have i2n : ((k : Int) - 2).toNat = k - 2 := by omega
          have i7 : (7 : Int) ≤ (k : Int) := by omega
          have i7' : (k : Int) - 7 < 64 := by omega
          have i7w : IntKind.i64.wrap ((k : Int) - 7) = (k : Int) - 7 := IntWalk.i64_in _ (by omega)
          have i7n : ((k : Int) - 7).toNat = k - 7 := by omega
          have i16 : (16 : Int) ≤ (k : Int) := by omega
          have i16' : (k : Int) - 16 < 64 := by omega
          have i16w : IntKind.i64.wrap ((k : Int) - 16) = (k : Int) - 16 := IntWalk.i64_in _ (by omega)
          have i16n : ((k : Int) - 16).toNat = k - 16 := by omega
          have G := Lib.hid get
          clear get
          go_wp2_with fail
          refine wp_region_keep (KeptOn fun _ => True) (KeptOn.refl _) (KeptOn.trans) [(0, 0), (1, 0), (2, 0), (3, 0), (4, 0), (5, 0), (6, 0), (7, 0), (8, 0), (9, 0)] (by kernel_rfl) (by kernel_rfl) ?_
          iterate 10 (refine keep_quiet (v := ?_) rfl (fun _ _ _ h => h) (by rfl) (fun w' hR => ?_) ?_; rotate_left; (go_simp; try with_reducible rfl); simp only [Act.put, List.setIfInBounds_toArray, List.set_cons_zero, List.set_cons_succ])
          refine keep_done ?_
          go_wp2_with fail
          refine (rot_7 _ _).mono ?_
          rintro e w' ⟨rfl, rfl⟩
          simp only [vv]
          go_wp2_with fail
          refine (rot_18 _ _).mono ?_
          rintro e w' ⟨rfl, rfl⟩
          simp only [vv]
          go_wp2_with fail
          refine (rot_17 _ _).mono ?_
          rintro e w' ⟨rfl, rfl⟩
          simp only [vv]
          go_wp2_with fail
          refine (rot_19 _ _).mono ?_
          rintro e w' ⟨rfl, rfl⟩
          simp only [vv]
          go_wp2_with fail
          simp only [sig0_form, sig1_form]
          have c7 : ∀ w', KeptOn (fun _ => True) wr.drew.drew w' → w'.cell? ⟨w.heap.size + 1 + 1, k - 7, none⟩ = some (.int .u32 (V (wd bs (k - 7)))) := fun w' hK => hK.cell (w := wr.drew.drew) ((H3.out.cell _).trans (G.out _ (by omega))) trivial
          have c16 : ∀ w', KeptOn (fun _ => True) wr.drew.drew w' → w'.cell? ⟨w.heap.size + 1 + 1, k - 16, none⟩ = some (.int .u32 (V (wd bs (k - 16)))) := fun w' hK => hK.cell (w := wr.drew.drew) ((H3.out.cell _).trans (G.out _ (by omega))) trivial
          have cs : wr.cell? ⟨w.heap.size + 1 + 1, k, none⟩ = some (.int .u32 (V 0)) := by
            have e := wordsC_next (wl bs k) (by rw [HL.out]; exact hlt)
            rw [HL.out] at e
            exact (H3.out.cell k).trans e
          have cf := H3.out.frozen k
          refine wp_region_keep (KeptOn fun _ => True) (KeptOn.refl _) (KeptOn.trans) [(0, 0), (1, 0), (2, 0), (3, 0), (4, 0), (5, 0), (6, 0), (7, 0), (8, 0), (9, 0), (10, 0), (11, 0), (12, 0), (13, 0), (14, 0), (15, 2)] (by kernel_rfl) (by kernel_rfl) ?_
          iterate 15 (refine keep_quiet (v := ?_) rfl (fun _ _ _ h => h) (by rfl) (fun w' hR => ?_) ?_; rotate_left; (go_simp; try with_reducible rfl); simp only [Act.put, List.setIfInBounds_toArray, List.set_cons_zero, List.set_cons_succ])
          refine keep_eff rfl ?_
          go_wp2
          refine keepPost_free ?_
          refine keep_done ?_
          go_wp2
          go_roundw
          case rel =>
            simp only [V_add4]
            have hset := H3.out.drew.drew.set_ k (.int .u32 (V (sig1 (wd bs (k - 2)) + wd bs (k - 7) + sig0 (wd bs (k - 15)) + wd bs (k - 16))))
            have e := wordsC_set (wl bs k) (sig1 (wd bs (k - 2)) + wd bs (k - 7) + sig0 (wd bs (k - 15)) + wd bs (k - 16)) (by rw [HL.out]; exact hlt)
            rw [HL.out] at e
            rw [e] at hset
            have e2 : wl bs (k + 1) = wl bs k ++ [sig1 (wd bs (k - 2)) + wd bs (k - 7) + sig0 (wd bs (k - 15)) + wd bs (k - 16)] := by
              have h := wd_high bs hk16
              simp only [wl]
              rw [if_neg (by omega)]
              congr 2
              rw [wl_get bs (n := k) (t := k - 2) (by omega), wl_get bs (n := k) (t := k - 7) (by omega), wl_get bs (n := k) (t := k - 15) (by omega), wl_get bs (n := k) (t := k - 16) (by omega)]
              rfl
            rw [← e2] at hset
            exact ⟨k + 1, by omega, by omega, by go_num, ((HB.out.drew.drew).setCell (by simp; omega) _), H1.out.drew.drew.far (by simp; omega) _, H2.out.drew.drew.far (by simp) _, hset⟩
          case measure => simp [intOf]; omega
        · have hk' : k = 64 := by omega
          subst hk'
          have hw : Blk wr (w.heap.size + 1 + 1) 115 (wordsC (wl bs 64)) := H3.out
          have hsz : (wordsC (wl bs 64)).size = 64 := by unfold wordsC; simp [wl_length]
          have HONE : Hid ((wordsC (wl bs 64)).all (·.oneCell') = true) := wordsC_one _
          generalize hWC : wordsC (wl bs 64) = WC at hw hsz HONE ⊢
          have HWC := Lib.hid hWC
          clear hWC
          have hz := H2.out
          have hone : WC.all (·.oneCell') = true := HONE.out
          have hi115 : (Tryd.prog.info? 115).map (·.size) = some WC.size := by rw [hsz]; kernel_rfl
          have hth : wr.there (w.heap.size + 1) 0 WC.size := hz.there 0 _ (by rw [hsz]; decide)
          go_upto_region 18 with (fail)
          refine wp_region_lit ?_
          refine wpList_load_row rfl 115 _ rfl (w.heap.size + 1 + 1) rfl 115 WC _ _ hw Tryd.underlying115 rfl hi115 ?_
          refine wpList_store_mid rfl 115 _ _ rfl (w.heap.size + 1) 0 WC rfl rfl hth hi115 hone ?_
          refine wpList_nil ?_
          go_wp2_with fail
          have hz2 := hz.setCells WC.toList 0
          rw [putAll_all _ _ (by rw [hsz]; decide)] at hz2
          refine bodyPost_ret (v := .agg WC) (results_cell_row rfl _ _ (w.heap.size + 1) 115 WC _ _ rfl hz2 Tryd.underlying115 rfl hi115) rfl ⟨by rw [HWC.out], Below.setCells' _ (by simp) 0 HB.out⟩
end Go.Proofs.YtkbcilfcfbfiaaaDoor
