/- The reference: the constants; a block. -/
import Derived.Test.YtkbcilfcfbfiaaaDoorWord
import Derived.Laws.MakeOwn
namespace Go.Proofs.YtkbcilfcfbfiaaaDoor
open Go.RowKit Go.Proofs
set_option linter.unusedSimpArgs false
set_option linter.unusedVariables false

def kC : Array Value := (kl.map vv).toArray
theorem kC_get (t : Nat) (h : t < 64) : kC[t]? = some (.int .u32 (V (kc t))) := by
  unfold kC kc
  have hl : kl.length = 64 := rfl
  rw [List.getElem?_toArray, List.getElem?_map, List.getD_eq_getElem?_getD, List.getElem?_eq_getElem (by omega)]
  rfl
theorem tdiv_mod (x : BitVec 32) (d : Int) (hd : 0 < d) : (V x).tdiv d % 4294967296 = V x / d := by
  have h0 := V_nonneg x
  have h1 := V_lt x
  rw [Int.tdiv_eq_ediv_of_nonneg h0]
  exact Int.emod_eq_of_lt (Int.ediv_nonneg h0 (by omega)) (Int.lt_of_le_of_lt (Int.ediv_le_self d h0) h1)
theorem sig0_quo (x : BitVec 32) : bits .xor .u32 (bits .xor .u32 (V (rotr x 7)) (V (rotr x 18))) ((V x).tdiv 8 % 4294967296) = V (sig0 x) := by
  rw [tdiv_mod x 8 (by decide)]; exact sig0_form x
theorem sig1_quo (x : BitVec 32) : bits .xor .u32 (bits .xor .u32 (V (rotr x 17)) (V (rotr x 19))) ((V x).tdiv 1024 % 4294967296) = V (sig1 x) := by
  rw [tdiv_mod x 1024 (by decide)]; exact sig1_form x
theorem V_mod (x : BitVec 32) : V x % 4294967296 = V x := Int.emod_eq_of_lt (V_nonneg x) (V_lt x)
theorem made_one (n : Nat) (x : Value) : madeCells #[x] n = (List.replicate n x).toArray := by
  refine Array.ext (by simp [size_madeCells]) fun i h1 h2 => ?_
  simp [madeCells, Nat.mod_one]
theorem make_words (w : World) : (Instr.makeSlice 88 (.int .i64 64) (.int .i64 64)).run Tryd.prog w = .ok (.slice (some ⟨w.heap.size, 0, none⟩) 64 64) (w.alloc (.cells (wordsC []) 87)) := by
  have hs : (Tryd.prog.info? 87).map (fun i => (i.size, i.bytes, i.zero)) = some (1, 4, some (.int .u32 0)) := by kernel_rfl
  obtain ⟨i, hi, hi2⟩ := Option.map_eq_some_iff.1 hs
  simp only [Prod.mk.injEq] at hi2
  obtain ⟨e1, e2, e3⟩ := hi2
  have h := run_makeSlice (P := Tryd.prog) (w := w) 88 87 i (.int .u32 0) Tryd.underlying88 hi e3 .i64 .i64 64 64 (by decide) (by decide) (by rw [e1]; decide) (by rw [e2]; decide) (by decide)
  rw [h, e1]
  have hc : madeCells (Value.int IntKind.u32 0).cells (Int.toNat 64 * 1) = wordsC [] := made_one 64 (Value.int IntKind.u32 0)
  rw [hc]
  rfl
theorem At.below {w w' : World} {b o B : Nat} {l : List UInt8} (h : At w b o l) (hB : Below B w w') (hb : b < B) : At w' b o l := fun i hi => (hB.cell (p := ⟨b, o + i, none⟩) hb).trans (h i hi)
set_option maxRecDepth 100000 in
set_option maxHeartbeats 4000000 in
theorem block_any (s : S8) (sb sc : Nat) (bs : List UInt8) (hbs : bs.length = 64) (b o cap : Nat) (kb kcap : Nat) (w : World) (hS : Blk w sb 87 s.cells) (hA : At w b o bs) (hbb : b < w.heap.size) (hK : Blk w kb 87 kC) :
    Calls Tryd.prog 62 #[.slice (some ⟨sb, 0, none⟩) 8 sc, .slice (some ⟨b, o, none⟩) 64 cap, .slice (some ⟨kb, 0, none⟩) 64 kcap] w
      fun e w' => ∃ g, e = .returned (.slice (some ⟨g, 0, none⟩) 8 8) ∧ Blk w' g 87 (compress s bs).cells ∧ Below w.heap.size w w' := by
  have HSS := Lib.hid hS
  have HA := Lib.hid hA
  have HK := Lib.hid hK
  have HZ := Lib.hid hbs
  clear hS hA hK hbs
  go_enter Tryd.func62, Tryd.ntmps62
  have hmk := make_words w
  go_upto_region 2 with (fail)
  clear hmk
  have hb0 : Blk (w.alloc (.cells (wordsC []) 87)) w.heap.size 87 (wordsC (wl bs 0)) := Blk.new w 87 _
  have hB0 : Below w.heap.size w (w.alloc (.cells (wordsC []) 87)) := (Below.refl _ _).alloc (Nat.le_refl _) _
  generalize w.alloc (.cells (wordsC []) 87) = w1 at hb0 hB0 ⊢
  have HW := Lib.hid hb0
  have HB := Lib.hid hB0
  clear hb0 hB0
  go_wp2_with fail
  go_loopw [8] (fun i wr => ∃ k : Nat, k ≤ 16 ∧ i = .int .i64 k ∧ Below w.heap.size w wr ∧ Blk wr w.heap.size 87 (wordsC (wl bs k))) (fun i _ => 16 - (intOf i).toNat)
  case atStart => exact ⟨0, by omega, rfl, HB.out, HW.out⟩
  case round =>
    obtain ⟨k, hk, rfl, hB, hW⟩ := hrel
    clear HB HW
    have HB := Lib.hid hB
    have HW := Lib.hid hW
    clear hB
    have hl := wl_length bs k
    have hsz : (wordsC (wl bs k)).size = 64 := by unfold wordsC; simp [hl]; omega
    by_cases hlt : k < 16
    · have i1 : (k : Int) < 64 := by omega
      clear hW hsz hl
      go_wp2_with fail
      have hcall := word_any b o bs cap k wr (HA.out.below HB.out hbb) (by have := HZ.out; omega) (by have := HZ.out; omega)
      rw [HZ.out] at hcall
      refine hcall.mono ?_
      rintro e w' ⟨rfl, hb⟩
      clear hcall
      have hW := HW.out.below hb HW.out.lt
      have HB := Lib.hid (HB.out.trans (hb.mono HB.out.size))
      have hl := wl_length bs k
      have cs : w'.cell? ⟨w.heap.size, k, none⟩ = some (.int .u32 (V 0)) := (hW.cell k).trans (by have := wordsC_next (wl bs k) (by omega); rw [hl] at this; exact this)
      have cf := hW.frozen k
      have HW := Lib.hid hW
      clear hW hb hl
      go_wp2_with fail
      go_roundw
      case rel =>
        refine ⟨k + 1, by omega, by go_num, HB.out.setCell (by simp) _, ?_⟩
        have := HW.out.set_ k (.int .u32 (V (word bs k)))
        have e := wordsC_set (wl bs k) (word bs k) (by rw [wl_length]; omega)
        rw [wl_length] at e
        rw [e] at this
        have e2 : wl bs (k + 1) = wl bs k ++ [word bs k] := by simp only [wl]; rw [if_pos hlt]
        rw [e2]
        exact this
      case measure => simp [intOf]; omega
    · have hk16 : k = 16 := by omega
      subst hk16
      clear hW hsz hl
      go_wp2_with fail
      go_loopw [9] (fun i wr => ∃ k : Nat, 16 ≤ k ∧ k ≤ 64 ∧ i = .int .i64 k ∧ Below w.heap.size w wr ∧ Blk wr w.heap.size 87 (wordsC (wl bs k))) (fun i _ => 64 - (intOf i).toNat)
      case atStart => exact ⟨16, by omega, by omega, rfl, HB.out, HW.out⟩
      case round =>
        obtain ⟨k, hk16, hk, rfl, hB, hW⟩ := hrel
        clear HB HW
        have HB := Lib.hid hB
        have HW := Lib.hid hW
        clear hB hW
        have HL := Lib.hid (wl_length bs k)
        by_cases hlt : k < 64
        · have get : ∀ j, j < k → (wordsC (wl bs k))[j]? = some (.int .u32 (V (wd bs j))) := fun j hj => by
            rw [wordsC_get _ _ (by rw [HL.out]; exact hj), wl_get _ hj]
            rfl
          have c15 : wr.cell? ⟨w.heap.size, k - 15, none⟩ = some (.int .u32 (V (wd bs (k - 15)))) := (HW.out.cell _).trans (get _ (by omega))
          have c2 : wr.cell? ⟨w.heap.size, k - 2, none⟩ = some (.int .u32 (V (wd bs (k - 2)))) := (HW.out.cell _).trans (get _ (by omega))
          have i15 : (15 : Int) ≤ (k : Int) := by omega
          have i15' : (k : Int) - 15 < 64 := by omega
          have i15w : IntKind.i64.wrap ((k : Int) - 15) = (k : Int) - 15 := IntWalk.i64_in _ (by omega)
          have i15n : ((k : Int) - 15).toNat = k - 15 := by omega
          have i2 : (2 : Int) ≤ (k : Int) := by omega
          have i2' : (k : Int) - 2 < 64 := by omega
          have i2w : IntKind.i64.wrap ((k : Int) - 2) = (k : Int) - 2 := IntWalk.i64_in _ (by omega)
          have i2n : ((k : Int) - 2).toNat = k - 2 := by omega
          have i7 : (7 : Int) ≤ (k : Int) := by omega
          have i7' : (k : Int) - 7 < 64 := by omega
          have i7w : IntKind.i64.wrap ((k : Int) - 7) = (k : Int) - 7 := IntWalk.i64_in _ (by omega)
          have i7n : ((k : Int) - 7).toNat = k - 7 := by omega
          have i16 : (16 : Int) ≤ (k : Int) := by omega
          have i16' : (k : Int) - 16 < 64 := by omega
          have i16w : IntKind.i64.wrap ((k : Int) - 16) = (k : Int) - 16 := IntWalk.i64_in _ (by omega)
          have i16n : ((k : Int) - 16).toNat = k - 16 := by omega
          have G := Lib.hid get
          clear get
          go_wp2_with fail
          clear c15 c2
          refine (turn_7 _ _).mono ?_
          rintro e w' ⟨rfl, rfl⟩
          simp only [vv]
          go_wp2_with fail
          refine (turn_18 _ _).mono ?_
          rintro e w' ⟨rfl, rfl⟩
          simp only [vv]
          go_wp2_with fail
          refine (turn_17 _ _).mono ?_
          rintro e w' ⟨rfl, rfl⟩
          simp only [vv]
          go_wp2_with fail
          refine (turn_19 _ _).mono ?_
          rintro e w' ⟨rfl, rfl⟩
          simp only [vv]
          go_wp2_with fail
          simp only [sig0_quo, sig1_quo]
          have c7 : ∀ w', KeptOn (fun _ => True) wr.drew w' → w'.cell? ⟨w.heap.size, k - 7, none⟩ = some (.int .u32 (V (wd bs (k - 7)))) := fun w' hK => hK.cell (w := wr.drew) ((HW.out.cell _).trans (G.out _ (by omega))) trivial
          have c16 : ∀ w', KeptOn (fun _ => True) wr.drew w' → w'.cell? ⟨w.heap.size, k - 16, none⟩ = some (.int .u32 (V (wd bs (k - 16)))) := fun w' hK => hK.cell (w := wr.drew) ((HW.out.cell _).trans (G.out _ (by omega))) trivial
          have cs : wr.cell? ⟨w.heap.size, k, none⟩ = some (.int .u32 (V 0)) := by
            have e := wordsC_next (wl bs k) (by rw [HL.out]; exact hlt)
            rw [HL.out] at e
            exact (HW.out.cell k).trans e
          have cf := HW.out.frozen k
          have i1 : (k : Int) < 64 := by omega
          refine wp_region_keep (KeptOn fun _ => True) (KeptOn.refl _) (KeptOn.trans) [(0, 0), (1, 0), (2, 0), (3, 0), (4, 0), (5, 0), (6, 0), (7, 0), (8, 0), (9, 0), (10, 0), (11, 0), (12, 0), (13, 0), (14, 0), (15, 0), (16, 0), (17, 0), (18, 2)] (by kernel_rfl) (by kernel_rfl) ?_
          iterate 18 (refine keep_quiet (v := ?_) rfl (fun _ _ _ h => h) (by rfl) (fun w' hR => ?_) ?_; rotate_left; (go_simp; try with_reducible rfl); simp only [Act.put, List.setIfInBounds_toArray, List.set_cons_zero, List.set_cons_succ])
          refine keep_eff rfl ?_
          go_wp2
          refine keepPost_free ?_
          refine keep_done ?_
          go_wp2
          go_roundw
          case rel =>
            simp only [V_add4]
            have hset := HW.out.drew.set_ k (.int .u32 (V (sig1 (wd bs (k - 2)) + wd bs (k - 7) + sig0 (wd bs (k - 15)) + wd bs (k - 16))))
            have e := wordsC_set (wl bs k) (sig1 (wd bs (k - 2)) + wd bs (k - 7) + sig0 (wd bs (k - 15)) + wd bs (k - 16)) (by rw [HL.out]; exact hlt)
            rw [HL.out] at e
            rw [e] at hset
            have e2 : wl bs (k + 1) = wl bs k ++ [sig1 (wd bs (k - 2)) + wd bs (k - 7) + sig0 (wd bs (k - 15)) + wd bs (k - 16)] := by
              have h := wd_high bs hk16
              simp only [wl]
              rw [if_neg (by omega)]
              congr 2
              rw [wl_get bs (n := k) (t := k - 2) (by omega), wl_get bs (n := k) (t := k - 7) (by omega), wl_get bs (n := k) (t := k - 15) (by omega), wl_get bs (n := k) (t := k - 16) (by omega)]
              rfl
            rw [← e2] at hset
            exact ⟨k + 1, by omega, by omega, by go_num, (HB.out.drew).setCell (by simp) _, hset⟩
          case measure => simp [intOf]; omega
        · have hk64 : k = 64 := by omega
          subst hk64
          have hS := HSS.out.below HB.out HSS.out.lt
          have s0 : wr.cell? ⟨sb, 0, none⟩ = some (.int .u32 (V s.a)) := hS.cell 0
          have s1 : wr.cell? ⟨sb, 1, none⟩ = some (.int .u32 (V s.b)) := hS.cell 1
          have s2 : wr.cell? ⟨sb, 2, none⟩ = some (.int .u32 (V s.c)) := hS.cell 2
          have s3 : wr.cell? ⟨sb, 3, none⟩ = some (.int .u32 (V s.d)) := hS.cell 3
          have s4 : wr.cell? ⟨sb, 4, none⟩ = some (.int .u32 (V s.e)) := hS.cell 4
          have s5 : wr.cell? ⟨sb, 5, none⟩ = some (.int .u32 (V s.f)) := hS.cell 5
          have s6 : wr.cell? ⟨sb, 6, none⟩ = some (.int .u32 (V s.g)) := hS.cell 6
          have s7 : wr.cell? ⟨sb, 7, none⟩ = some (.int .u32 (V s.h)) := hS.cell 7
          clear hS
          go_wp2_with fail
          clear s0 s1 s2 s3 s4 s5 s6 s7
          go_loopw [14, 15, 16, 17, 18, 19, 20, 21, 22] (fun v14 v15 v16 v17 v18 v19 v20 v21 v22 wr => ∃ k : Nat, k ≤ 64 ∧ v22 = .int .i64 k ∧ v14 = .int .u32 (V (rounds s bs k).a) ∧ v15 = .int .u32 (V (rounds s bs k).b) ∧ v16 = .int .u32 (V (rounds s bs k).c) ∧ v17 = .int .u32 (V (rounds s bs k).d) ∧ v18 = .int .u32 (V (rounds s bs k).e) ∧ v19 = .int .u32 (V (rounds s bs k).f) ∧ v20 = .int .u32 (V (rounds s bs k).g) ∧ v21 = .int .u32 (V (rounds s bs k).h) ∧ Below w.heap.size w wr ∧ Blk wr w.heap.size 87 (wordsC (wl bs 64))) (fun _ _ _ _ _ _ _ _ v22 _ => 64 - (intOf v22).toNat)
          case atStart => exact ⟨0, by omega, rfl, rfl, rfl, rfl, rfl, rfl, rfl, rfl, rfl, HB.out, HW.out⟩
          case round =>
            obtain ⟨k, hk, rfl, rfl, rfl, rfl, rfl, rfl, rfl, rfl, rfl, hB, hW⟩ := hrel
            clear HB HW HL
            have HB := Lib.hid hB
            have HW := Lib.hid hW
            clear hB hW
            generalize hst : rounds s bs k = st
            have HST := Lib.hid hst
            clear hst
            by_cases hlt : k < 64
            · have i1 : (k : Int) < 64 := by omega
              go_wp2_with fail
              refine (turn_6 _ _).mono ?_
              rintro e w' ⟨rfl, rfl⟩
              simp only [vv]
              go_wp2_with fail
              refine (turn_11 _ _).mono ?_
              rintro e w' ⟨rfl, rfl⟩
              simp only [vv]
              go_wp2_with fail
              refine (turn_25 _ _).mono ?_
              rintro e w' ⟨rfl, rfl⟩
              simp only [vv]
              go_wp2_with fail
              have ck : ∀ w', KeptOn (fun _ => True) wr.drew w' → w'.cell? ⟨kb, k, none⟩ = some (.int .u32 (V (kc k))) := fun w' hK' => hK'.cell (w := wr.drew) (((HK.out.below HB.out HK.out.lt).cell k).trans (kC_get k hlt)) trivial
              have cw : ∀ w', KeptOn (fun _ => True) wr.drew w' → w'.cell? ⟨w.heap.size, k, none⟩ = some (.int .u32 (V (wd bs k))) := fun w' hK' => hK'.cell (w := wr.drew) ((HW.out.cell k).trans (by rw [wordsC_get _ _ (by rw [wl_length]; exact hlt), wl_get _ hlt]; rfl)) trivial
              simp only [V_xor, V_and, V_not, V_mod]
              refine wp_region_keep (KeptOn fun _ => True) (KeptOn.refl _) (KeptOn.trans) [(0, 0), (1, 0), (2, 0), (3, 0), (4, 0), (5, 0), (6, 0), (7, 0), (8, 0), (9, 0), (10, 0), (11, 0), (12, 0), (13, 0), (14, 0), (15, 0)] (by kernel_rfl) (by kernel_rfl) ?_
              iterate 16 (refine keep_quiet (v := ?_) rfl (fun _ _ _ h => h) (by rfl) (fun w' hR => ?_) ?_; rotate_left; (go_simp; try with_reducible rfl); simp only [Act.put, List.setIfInBounds_toArray, List.set_cons_zero, List.set_cons_succ])
              refine keep_done ?_
              simp only [V_addw, t1_fold]
              clear ck cw
              generalize hT : t1 st (kc k) (wd bs k) = T
              have HT := Lib.hid hT
              clear hT
              go_wp2_with fail
              refine (turn_2 _ _).mono ?_
              rintro e w' ⟨rfl, rfl⟩
              simp only [vv]
              go_wp2_with fail
              refine (turn_13 _ _).mono ?_
              rintro e w' ⟨rfl, rfl⟩
              simp only [vv]
              go_wp2_with fail
              refine (turn_22 _ _).mono ?_
              rintro e w' ⟨rfl, rfl⟩
              simp only [vv]
              go_wp2_with fail
              go_roundw
              case rel =>
                have E : rounds s bs (k + 1) = step st (kc k) (wd bs k) := by rw [← HST.out]; rfl
                simp only [V_and, V_xor, V_add3, V_add]
                refine ⟨k + 1, by omega, by go_num, ?_, ?_, ?_, ?_, ?_, ?_, ?_, ?_, HB.out.drew, HW.out.drew⟩
                all_goals rw [E]
                · show _ = Value.int .u32 (V (t1 st (kc k) (wd bs k) + t2 st))
                  rw [HT.out, BitVec.add_assoc]; rfl
                · rfl
                · rfl
                · rfl
                · show _ = Value.int .u32 (V (st.d + t1 st (kc k) (wd bs k)))
                  rw [HT.out]
                · rfl
                · rfl
                · rfl
              case measure => simp [intOf]; omega
            · have hk64 : k = 64 := by omega
              subst hk64
              have hS := HSS.out.below HB.out HSS.out.lt
              have s0 : ∀ w', KeptOn (fun _ => True) wr.drew w' → w'.cell? ⟨sb, 0, none⟩ = some (.int .u32 (V s.a)) := fun w' hK' => hK'.cell (w := wr.drew) (hS.cell 0) trivial
              have s1 : ∀ w', KeptOn (fun _ => True) wr.drew w' → w'.cell? ⟨sb, 1, none⟩ = some (.int .u32 (V s.b)) := fun w' hK' => hK'.cell (w := wr.drew) (hS.cell 1) trivial
              have s2 : ∀ w', KeptOn (fun _ => True) wr.drew w' → w'.cell? ⟨sb, 2, none⟩ = some (.int .u32 (V s.c)) := fun w' hK' => hK'.cell (w := wr.drew) (hS.cell 2) trivial
              have s3 : ∀ w', KeptOn (fun _ => True) wr.drew w' → w'.cell? ⟨sb, 3, none⟩ = some (.int .u32 (V s.d)) := fun w' hK' => hK'.cell (w := wr.drew) (hS.cell 3) trivial
              have s4 : ∀ w', KeptOn (fun _ => True) wr.drew w' → w'.cell? ⟨sb, 4, none⟩ = some (.int .u32 (V s.e)) := fun w' hK' => hK'.cell (w := wr.drew) (hS.cell 4) trivial
              have s5 : ∀ w', KeptOn (fun _ => True) wr.drew w' → w'.cell? ⟨sb, 5, none⟩ = some (.int .u32 (V s.f)) := fun w' hK' => hK'.cell (w := wr.drew) (hS.cell 5) trivial
              have s6 : ∀ w', KeptOn (fun _ => True) wr.drew w' → w'.cell? ⟨sb, 6, none⟩ = some (.int .u32 (V s.g)) := fun w' hK' => hK'.cell (w := wr.drew) (hS.cell 6) trivial
              have s7 : ∀ w', KeptOn (fun _ => True) wr.drew w' → w'.cell? ⟨sb, 7, none⟩ = some (.int .u32 (V s.h)) := fun w' hK' => hK'.cell (w := wr.drew) (hS.cell 7) trivial
              clear hS
              go_wp2_with fail
              refine wp_region_keep (KeptOn fun _ => True) (KeptOn.refl _) (KeptOn.trans) [(0, 0), (1, 0), (2, 0), (3, 0), (4, 0), (5, 0), (6, 0), (7, 0), (8, 0), (9, 0), (10, 0), (11, 0), (12, 0), (13, 0), (14, 0), (15, 0), (16, 0), (17, 0), (18, 0), (19, 0), (20, 0), (21, 0), (22, 0), (23, 0), (24, 0), (25, 0), (26, 0), (27, 0), (28, 0), (29, 0), (30, 0), (31, 0), (32, 0), (33, 0), (34, 0), (35, 0), (36, 0), (37, 0), (38, 0), (39, 0), (40, 1), (41, 0)] (by kernel_rfl) (by kernel_rfl) ?_
              iterate 40 (refine keep_quiet (v := ?_) rfl (fun _ _ _ h => h) (by rfl) (fun w' hR => ?_) ?_; rotate_left; (go_simp; try with_reducible rfl); simp only [Act.put, List.setIfInBounds_toArray, List.set_cons_zero, List.set_cons_succ])
              simp only [V_addw]
              clear s0 s1 s2 s3 s4 s5 s6 s7
              refine keep_eff rfl ?_
              go_wp2_with fail
              have hnew : Blk (wr.alloc (.cells #[Value.int .u32 (V (s.a + st.a)), Value.int .u32 (V (s.b + st.b)), Value.int .u32 (V (s.c + st.c)), Value.int .u32 (V (s.d + st.d)), Value.int .u32 (V (s.e + st.e)), Value.int .u32 (V (s.f + st.f)), Value.int .u32 (V (s.g + st.g)), Value.int .u32 (V (s.h + st.h))] 87)).drew wr.heap.size 87 (compress s bs).cells := by
                have E : compress s bs = ⟨s.a + st.a, s.b + st.b, s.c + st.c, s.d + st.d, s.e + st.e, s.f + st.f, s.g + st.g, s.h + st.h⟩ := by
                  have e1 : compress s bs = st.plus s := by rw [← HST.out]; rfl
                  rw [e1]
                  unfold S8.plus
                  rw [BitVec.add_comm st.a, BitVec.add_comm st.b, BitVec.add_comm st.c, BitVec.add_comm st.d, BitVec.add_comm st.e, BitVec.add_comm st.f, BitVec.add_comm st.g, BitVec.add_comm st.h]
                rw [E]
                exact Blk.new wr 87 _
              have hBn := (HB.out.alloc HB.out.size (.cells #[Value.int .u32 (V (s.a + st.a)), Value.int .u32 (V (s.b + st.b)), Value.int .u32 (V (s.c + st.c)), Value.int .u32 (V (s.d + st.d)), Value.int .u32 (V (s.e + st.e)), Value.int .u32 (V (s.f + st.f)), Value.int .u32 (V (s.g + st.g)), Value.int .u32 (V (s.h + st.h))] 87)).drew
              have HNEW := Lib.hid hnew
              have HBN := Lib.hid hBn
              clear hnew hBn
              refine keepPost_need (by exact KeptOn.alloc wr.drew _) ?_
              iterate 1 (refine keep_quiet (v := ?_) rfl (fun _ _ _ h => h) (by rfl) (fun w' hR => ?_) ?_; rotate_left; (go_simp; try with_reducible rfl); simp only [Act.put, List.setIfInBounds_toArray, List.set_cons_zero, List.set_cons_succ])
              refine keep_done ?_
              generalize wr.heap.size = gn at HNEW ⊢
              generalize (wr.alloc (.cells #[Value.int .u32 (V (s.a + st.a)), Value.int .u32 (V (s.b + st.b)), Value.int .u32 (V (s.c + st.c)), Value.int .u32 (V (s.d + st.d)), Value.int .u32 (V (s.e + st.e)), Value.int .u32 (V (s.f + st.f)), Value.int .u32 (V (s.g + st.g)), Value.int .u32 (V (s.h + st.h))] 87)).drew = wn at HNEW HBN ⊢
              go_wp2_with fail
              go_ret
              exact ⟨gn, rfl, HNEW.out, HBN.out⟩
end Go.Proofs.YtkbcilfcfbfiaaaDoor
