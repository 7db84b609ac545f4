/- The sum is told. -/
import Derived.Test.YtkbcilfcfbfiaaaDoorMsg
import Derived.Test.YtkbcilfcfbfiaaaDoorAdd
import Derived.Laws.IdiomStrings
namespace Go.Proofs.YtkbcilfcfbfiaaaDoor
open Go.RowKit Go.Proofs
set_option linter.unusedSimpArgs false
set_option linter.unusedVariables false

def z32 : Array Value := bytesC (List.replicate 32 0)
theorem bytesC_size (bs : List UInt8) : (bytesC bs).size = bs.length := by unfold bytesC; simp
theorem z32_size : z32.size = 32 := by unfold z32; rw [bytesC_size, List.length_replicate]
theorem bytesC_one (bs : List UInt8) : (bytesC bs).all (·.oneCell') = true := by
  unfold bytesC
  refine all_oneCell_toArray fun v hv => ?_
  obtain ⟨x, _, rfl⟩ := List.mem_map.1 hv
  rfl
theorem smC_one (s : S8) (p : List UInt8) (n : Nat) : (smC s p n).all (·.oneCell') = true := by
  refine all_oneCell_toArray fun v hv => ?_
  unfold smL at hv
  rcases List.mem_append.1 hv with h | h
  · have h1 := cells_one s
    exact (Array.all_eq_true_iff_forall_mem.1 h1) v (by simpa using h)
  · rcases List.mem_append.1 h with h | h
    · obtain ⟨x, _, rfl⟩ := List.mem_map.1 h
      rfl
    · rw [List.mem_singleton.1 h]; rfl
def manyOf (w : World) (c : Nat) : Nat := match w.cell? ⟨c, 72, none⟩ with | some (.int _ n) => n.toNat | _ => 0
theorem Holds.many {w : World} {c : Nat} {bs : List UInt8} (h : Holds w c bs) : w.cell? ⟨c, 72, none⟩ = some (.int .i64 (bs.length : Int)) := by
  obtain ⟨p, hp, _, hB⟩ := h
  exact (hB.cell 72).trans (by rw [smC_get, smL_many _ _ _ hp])
theorem Holds.manyOf {w : World} {c : Nat} {bs : List UInt8} (h : Holds w c bs) : manyOf w c = bs.length := by
  unfold Go.Proofs.YtkbcilfcfbfiaaaDoor.manyOf; rw [h.many]; simp
theorem int_div (n d : Nat) : (n : Int) / 2 ^ d = ((n / 2 ^ d : Nat) : Int) := by
  have hp : ((2 : Int) ^ d) = ((2 ^ d : Nat) : Int) := by rw [Int.natCast_pow]; rfl
  rw [hp, Int.natCast_ediv]
theorem int_byte (n c d : Nat) : (n : Int) * (c : Int) / 2 ^ d % 256 = ((n * c / 2 ^ d % 2 ^ 8 : Nat) : Int) := by
  rw [← Int.natCast_mul, int_div, Int.natCast_emod]; rfl
theorem V_byte_of (x : BitVec 32) (d : Nat) : V x / 2 ^ d % 256 = ((UInt8.ofNat (x.toNat / 2 ^ d)).toNat : Int) := by
  unfold V
  rw [UInt8.toNat_ofNat', int_div, Int.natCast_emod]; rfl
theorem index_state (s : S8) (k : Nat) (hk : k < 8) (w : World) : (Instr.index 91 (.agg s.cells) (.int .i64 (k : Int))).run Tryd.prog w = .ok (.int .u32 (V (sel s k))) w := by
  have hsz := cells_size s
  have hg := cells_get s k hk
  have hs : (Tryd.prog.info? 87).map (·.size) = some 1 := by kernel_rfl
  obtain ⟨i, hi, hi2⟩ := Option.map_eq_some_iff.1 hs
  generalize s.cells = cs at hsz hg
  unfold Instr.index
  simp [go_sem, asIntOf, Tryd.underlying91, hk, sizeOf, typeInfo, hi, hi2]
  rw [hg]
  rfl
theorem conv_byte (n j : Nat) (wr : World) : (convert 29 9 (.slice (some ⟨wr.heap.size, 0, none⟩) 1 1)).run Tryd.prog (wr.alloc (.cells #[.int .u8 ((n : Int) * 8 / 2 ^ (56 - 8 * j) % 256)] 5)) = .ok (.string ⟨#[bt (n * 8) j]⟩) (wr.alloc (.cells #[.int .u8 ((n : Int) * 8 / 2 ^ (56 - 8 * j) % 256)] 5)) := by
  refine run_convert_bytes_back _ 29 9 5 ⟨wr.heap.size, 0, none⟩ 1 [bt (n * 8) j] Tryd.underlying29 Tryd.underlying5 Tryd.underlying9 ?_
  intro i hi
  have hi0 : i = 0 := by simpa using hi
  subst hi0
  have h := (Blk.new wr 5 #[.int .u8 ((n : Int) * 8 / 2 ^ (56 - 8 * j) % 256)]).cell 0
  rw [Addr.add_mid]
  refine h.trans ?_
  have e : ((n : Int) * 8 / 2 ^ (56 - 8 * j) % 256) = ((bt (n * 8) j).toNat : Int) := by
    unfold bt
    rw [UInt8.toNat_ofNat']
    exact int_byte n 8 (56 - 8 * j)
  rw [e]
  rfl
theorem wpList_readIs {P : Program} {ops : Array Oper} {rest : List Oper} {o : Oper} {a : Act} {w : World} {Q : Exit → Act → World → Prop} (hg : o.guard = none) (v : Value) (hrun : (execOp a.eval o).run P w = .ok (.value v) w)
    (h : wpList P ops Q rest (a.put o.dst v) w) : wpList P ops Q (o :: rest) a w := wpList_plain hg fun _ hK => by
  unfold Oper.wp
  rw [hrun, Oper.upon_value]
  exact hK _ _ h
theorem summ_nil (w : World) :
    Calls Tryd.prog 30 #[.pointer none] w fun e w' => e = .returned (.agg (bytesC (List.replicate 32 0))) ∧ Below w.heap.size w w' := by
  go_enter Tryd.func30, Tryd.ntmps30
  go_upto_region 3 with (fail)
  change Code.wp _ _ _ _ ((w.alloc (.cells z32 25)).alloc (.cells z32 25))
  have R2 : Blk ((w.alloc (.cells z32 25)).alloc (.cells z32 25)) w.heap.size 25 z32 := (Blk.new w 25 z32).alloc _
  have R3 : Blk ((w.alloc (.cells z32 25)).alloc (.cells z32 25)) (w.heap.size + 1) 25 z32 := by
    have := Blk.new (w.alloc (.cells z32 25)) 25 z32
    rwa [World.size_alloc] at this
  have B : Below w.heap.size w ((w.alloc (.cells z32 25)).alloc (.cells z32 25)) := ((Below.refl _ _).alloc (Nat.le_refl _) _).alloc (by simp) _
  generalize (w.alloc (.cells z32 25)).alloc (.cells z32 25) = w2 at R2 R3 B ⊢
  have hi25 : (Tryd.prog.info? 25).map (·.size) = some z32.size := by rw [z32_size]; kernel_rfl
  refine wp_region_lit ?_
  refine wpList_load_row rfl 25 _ rfl (w.heap.size + 1) rfl 25 z32 _ _ R3 Tryd.underlying25 rfl hi25 ?_
  refine wpList_store_mid rfl 25 _ _ rfl w.heap.size 0 z32 rfl rfl (R2.there 0 _ (by omega)) hi25 (bytesC_one _) ?_
  refine wpList_nil ?_
  simp only [Act.put]
  have hz := R2.setCells z32.toList 0
  rw [putAll_all _ _ rfl] at hz
  have B3 := Below.setCells' z32.toList (Nat.le_refl _) 0 B
  generalize w2.setCells w.heap.size 0 z32.toList = w3 at hz B3 ⊢
  have HZ := Lib.hid hz
  have HB := Lib.hid B3
  clear hz B3 R2 R3 B hi25
  have hi25 : (Tryd.prog.info? 25).map (·.size) = some z32.size := by rw [z32_size]; kernel_rfl
  have HI := Lib.hid hi25
  clear hi25
  go_wp2_with fail
  refine bodyPost_ret (v := .agg z32) (results_cell_row rfl _ _ w.heap.size 25 z32 _ _ rfl HZ.out Tryd.underlying25 rfl HI.out) rfl ⟨rfl, HB.out⟩
set_option maxRecDepth 100000 in
set_option maxHeartbeats 2000000 in
theorem summ_any (g : Nat) (hg : 0 < g) (bs : List UInt8) (w : World) (hk : Consts w) (h : Holds w g bs) (hn : bs.length < 150000000000000) :
    Calls Tryd.prog 30 #[.pointer (some ⟨g, 0, none⟩)] w fun e w' => e = .returned (.agg (bytesC (sumOf bs))) ∧ Below w.heap.size w w' := by
  have HK := Lib.hid hk
  have HH := Lib.hid h
  have HN := Lib.hid hn
  clear hk h hn
  go_enter Tryd.func30, Tryd.ntmps30
  go_upto_region 4 with (fail)
  change Code.wp _ _ _ _ ((w.alloc (.cells z32 25)).alloc (.cells z32 25))
  have R2 : Blk ((w.alloc (.cells z32 25)).alloc (.cells z32 25)) w.heap.size 25 z32 := (Blk.new w 25 z32).alloc _
  have R3 : Blk ((w.alloc (.cells z32 25)).alloc (.cells z32 25)) (w.heap.size + 1) 25 z32 := by
    have := Blk.new (w.alloc (.cells z32 25)) 25 z32
    rwa [World.size_alloc] at this
  have B : Below w.heap.size w ((w.alloc (.cells z32 25)).alloc (.cells z32 25)) := ((Below.refl _ _).alloc (Nat.le_refl _) _).alloc (by simp) _
  have hs2 : ((w.alloc (.cells z32 25)).alloc (.cells z32 25)).heap.size = w.heap.size + 1 + 1 := by simp
  generalize (w.alloc (.cells z32 25)).alloc (.cells z32 25) = w2 at R2 R3 B hs2 ⊢
  obtain ⟨p, hp, hq, hBl⟩ := HH.out
  have hl2 := hBl.below B HH.out.lt
  have hi94 : (Tryd.prog.info? 94).map (·.size) = some (smC (chain bs) p bs.length).size := by rw [smC_size _ _ _ hp]; kernel_rfl
  have H2 := Lib.hid R2
  have H3 := Lib.hid R3
  have HB := Lib.hid B
  have HP := Lib.hid hp
  have HQ := Lib.hid hq
  have HL := Lib.hid hl2
  have HI := Lib.hid hi94
  have HS := Lib.hid hs2
  clear R2 R3 B hp hq hl2 hi94 hBl hs2
  refine wp_region_lit ?_
  iterate 6 go_step
  refine wpList_load_row rfl 94 _ rfl g rfl 94 (smC (chain bs) p bs.length) _ _ HL.out Tryd.underlying94 rfl HI.out ?_
  simp only [Act.put]
  iterate 3 go_step
  change wpList _ _ _ _ _ (w2.alloc (.cells (smC ⟨0, 0, 0, 0, 0, 0, 0, 0⟩ (List.replicate 64 0) 0) 94))
  rw [HS.out]
  have hz := Blk.new w2 94 (smC ⟨0, 0, 0, 0, 0, 0, 0, 0⟩ (List.replicate 64 0) 0)
  rw [HS.out] at hz
  have hsz : (smC ⟨0, 0, 0, 0, 0, 0, 0, 0⟩ (List.replicate 64 0) 0).size = 73 := smC_size _ _ _ (by simp)
  refine wpList_store_mid rfl 94 _ _ rfl (w.heap.size + 1 + 1) 0 (smC (chain bs) p bs.length) rfl rfl (hz.there 0 _ (by rw [smC_size _ _ _ HP.out, hsz]; exact Nat.le_refl _)) HI.out (smC_one _ _ _) ?_
  refine wpList_nil ?_
  simp only [Act.put]
  have hz2 := hz.setCells (smC (chain bs) p bs.length).toList 0
  rw [putAll_all _ _ (by rw [smC_size _ _ _ HP.out, hsz])] at hz2
  have hL := (HL.out.alloc (.cells (smC ⟨0, 0, 0, 0, 0, 0, 0, 0⟩ (List.replicate 64 0) 0) 94)).setCells_far (b := w.heap.size + 1 + 1) (smC (chain bs) p bs.length).toList (by have := HH.out.lt; omega) 0
  have h2 := (H2.out.alloc (.cells (smC ⟨0, 0, 0, 0, 0, 0, 0, 0⟩ (List.replicate 64 0) 0) 94)).setCells_far (b := w.heap.size + 1 + 1) (smC (chain bs) p bs.length).toList (by omega) 0
  have h3 := (H3.out.alloc (.cells (smC ⟨0, 0, 0, 0, 0, 0, 0, 0⟩ (List.replicate 64 0) 0) 94)).setCells_far (b := w.heap.size + 1 + 1) (smC (chain bs) p bs.length).toList (by omega) 0
  have hB := Below.setCells' (b := w.heap.size + 1 + 1) (smC (chain bs) p bs.length).toList (by omega) 0 (HB.out.alloc (by rw [HS.out]; omega) (.cells (smC ⟨0, 0, 0, 0, 0, 0, 0, 0⟩ (List.replicate 64 0) 0) 94))
  generalize (w2.alloc (.cells (smC ⟨0, 0, 0, 0, 0, 0, 0, 0⟩ (List.replicate 64 0) 0) 94)).setCells (w.heap.size + 1 + 1) 0 (smC (chain bs) p bs.length).toList = w3 at hz2 hL h2 h3 hB ⊢
  have hc : Holds w3 (w.heap.size + 1 + 1) bs := ⟨p, HP.out, HQ.out, hz2⟩
  have c72 : w3.cell? ⟨g, 72, none⟩ = some (.int .i64 (bs.length : Int)) := (hL.cell 72).trans (by rw [smC_get, smL_many _ _ _ HP.out])
  have HC := Lib.hid hc
  have H2 := Lib.hid h2
  have H3 := Lib.hid h3
  have HB := Lib.hid hB
  clear hz hsz hz2 hL h2 h3 hB hc
  clear HL HI HS HP HQ
  generalize smC (chain bs) p bs.length = X
  have n1 : bs.length < 150000000000000 := HN.out
  go_wp2_with fail
  refine (add_any (w.heap.size + 1 + 1) (by omega) bs ⟨#[128]⟩ w3 (HK.out.below HB.out) HC.out (by show bs.length + 1 < _; omega)).mono ?_
  rintro e w4 ⟨rfl, hH, hO⟩
  have HC := Lib.hid (show Holds w4 (w.heap.size + 1 + 1) (bs ++ [128]) from hH)
  have H2 := Lib.hid (H2.out.grown hO (by intro e; have := Option.some.inj e; omega))
  have H3 := Lib.hid (H3.out.grown hO (by intro e; have := Option.some.inj e; omega))
  have HB := Lib.hid (HB.out.grown hO HB.out.size (by intro k e; have := Option.some.inj e; omega))
  clear hH hO c72
  go_wp2_with fail
  go_loopw [23] (fun _ wr => ∃ j : Nat, j ≤ zs bs.length ∧ Holds wr (w.heap.size + 1 + 1) (bs ++ [128] ++ List.replicate j 0) ∧ Blk wr w.heap.size 25 z32 ∧ Blk wr (w.heap.size + 1) 25 z32 ∧ Below w.heap.size w wr) (fun _ wr => 150000000001000 - manyOf wr (w.heap.size + 1 + 1))
  case atStart => exact ⟨0, by omega, by simpa using HC.out, H2.out, H3.out, HB.out⟩
  case round =>
    obtain ⟨j, hj, hC, h2, h3, hB⟩ := hrel
    clear HC H2 H3 HB
    have HC := Lib.hid hC
    have H2 := Lib.hid h2
    have H3 := Lib.hid h3
    have HB := Lib.hid hB
    have HJ := Lib.hid hj
    have c72 := hC.many
    have hlen : (bs ++ [128] ++ List.replicate j (0 : UInt8)).length = bs.length + 1 + j := by simp; omega
    have HLEN := Lib.hid hlen
    rw [hlen] at c72
    have hzl := zs_lt bs.length
    have hM := hC.manyOf
    rw [hlen] at hM
    have HM := Lib.hid hM
    clear hC h2 h3 hB hj hlen hM
    generalize hN : bs.length + 1 + j = N at c72
    have HNN := Lib.hid hN
    have hjz : N < 150000000000000 + 200 := by have := HJ.out; omega
    clear hN hzl
    by_cases hd : j = zs bs.length
    · have i1 : (N : Int) % 64 = 56 := by have := (zs_end bs.length j HJ.out).2 hd; have := HNN.out; omega
      have HPAD := Lib.hid (show Holds wr (w.heap.size + 1 + 1) (padded bs ++ be (bs.length * 8) 0) from by
        have := HC.out
        rw [hd] at this
        simpa [padded, be] using this)
      clear HC
      go_wp2_with fail
      clear c72
      go_loopw [6] (fun v wr => ∃ j : Nat, j ≤ 8 ∧ v = .int .i64 (56 - 8 * (j : Int)) ∧ Holds wr (w.heap.size + 1 + 1) (padded bs ++ be (bs.length * 8) j) ∧ Blk wr w.heap.size 25 z32 ∧ Blk wr (w.heap.size + 1) 25 z32 ∧ Below w.heap.size w wr) (fun v _ => (intOf v + 8).toNat)
      case atStart => exact ⟨0, by omega, rfl, HPAD.out, H2.out, H3.out, HB.out⟩
      case round =>
        obtain ⟨j, hj, rfl, hC, h2, h3, hB⟩ := hrel
        clear HPAD H2 H3 HB HJ HM HNN hjz i1 hd
        have HC := Lib.hid hC
        have H2 := Lib.hid h2
        have H3 := Lib.hid h3
        have HB := Lib.hid hB
        clear hC h2 h3 hB
        by_cases hlt : j < 8
        · have i1 : (0 : Int) ≤ 56 - 8 * (j : Int) := by omega
          have E := conv_byte bs.length j wr
          have hb0 : (padded bs ++ be (bs.length * 8) j).length + 1 < 1600000000000000 := by
            rw [List.length_append, padded_length, be_length]; have := zs_lt bs.length; omega
          have HB0 := Lib.hid hb0
          clear hb0
          go_wp2_with fail
          have HCa := HC.out.below (w' := wr.alloc (.cells #[.int .u8 ((bs.length : Int) * 8 / 2 ^ (56 - 8 * j) % 256)] 5)) ((Below.refl wr.heap.size wr).alloc (Nat.le_refl _) _) HC.out.lt
          have H2a := H2.out.alloc (.cells #[.int .u8 ((bs.length : Int) * 8 / 2 ^ (56 - 8 * j) % 256)] 5)
          have H3a := H3.out.alloc (.cells #[.int .u8 ((bs.length : Int) * 8 / 2 ^ (56 - 8 * j) % 256)] 5)
          have HBa := HB.out.alloc HB.out.size (.cells #[.int .u8 ((bs.length : Int) * 8 / 2 ^ (56 - 8 * j) % 256)] 5)
          clear E
          generalize wr.alloc (.cells #[.int .u8 ((bs.length : Int) * 8 / 2 ^ (56 - 8 * j) % 256)] 5) = wa at HCa H2a H3a HBa ⊢
          refine (add_any (w.heap.size + 1 + 1) (by omega) (padded bs ++ be (bs.length * 8) j) ⟨#[bt (bs.length * 8) j]⟩ wa (HK.out.below HBa) HCa HB0.out).mono ?_
          rintro e w5 ⟨rfl, hH, hO⟩
          have hH' : Holds w5 (w.heap.size + 1 + 1) (padded bs ++ be (bs.length * 8) (j + 1)) := by
            show Holds w5 _ (padded bs ++ (be (bs.length * 8) j ++ [bt (bs.length * 8) j]))
            rw [← List.append_assoc]; exact hH
          have HC := Lib.hid hH'
          have H2 := Lib.hid (H2a.grown hO (by intro e; have := Option.some.inj e; omega))
          have H3 := Lib.hid (H3a.grown hO (by intro e; have := Option.some.inj e; omega))
          have HB := Lib.hid (HBa.grown hO HBa.size (by intro k e; have := Option.some.inj e; omega))
          clear hH hO hH' HCa H2a H3a HBa
          go_wp2_with fail
          go_roundw
          case rel => exact ⟨j + 1, by omega, by go_num, HC.out, H2.out, H3.out, HB.out⟩
          case measure => simp [intOf]; omega
        · have hj8 : j = 8 := by omega
          subst hj8
          have HC := Lib.hid (show Holds wr (w.heap.size + 1 + 1) (msg bs) from HC.out)
          generalize hst : chain (msg bs) = st
          have HST := Lib.hid hst
          clear hst
          go_upto_region 13 with (fail)
          refine wp_region_lit ?_
          iterate 3 go_step
          obtain ⟨p, hp, hq, hBc⟩ := HC.out
          rw [HST.out] at hBc
          refine wpList_readIs rfl (.agg st.cells) (execLoad 91 _ rfl (p := .pointer (some ⟨w.heap.size + 1 + 1, 0, none⟩)) rfl (load_state hBc)) ?_
          simp only [Act.put]
          clear hp hq hBc
          have H3 := Lib.hid (show Blk wr (w.heap.size + 1) 25 (bytesC (dp st (4 * 0))) from by rw [Nat.mul_zero, dp_zero]; exact H3.out)
          clear HC
          go_wp2_with fail
          go_loopw [41] (fun v wr => ∃ k : Nat, k ≤ 8 ∧ v = .int .i64 (k : Int) ∧ Blk wr w.heap.size 25 z32 ∧ Blk wr (w.heap.size + 1) 25 (bytesC (dp st (4 * k))) ∧ Below w.heap.size w wr) (fun v _ => 8 - (intOf v).toNat)
          case atStart => exact ⟨0, by omega, rfl, H2.out, H3.out, HB.out⟩
          case round =>
            obtain ⟨k, hk, rfl, h2, h3, hB⟩ := hrel
            clear H2 H3 HB
            have H2 := Lib.hid h2
            have H3 := Lib.hid h3
            have HB := Lib.hid hB
            clear h2 h3 hB
            by_cases hlt : k < 8
            · have hix := index_state st k hlt
              have k1 : (k : Int) < 8 := by omega
              go_wp2_with fail
              go_loopw [45] (fun v wr => ∃ m : Nat, m ≤ 4 ∧ v = .int .i64 (m : Int) ∧ Blk wr w.heap.size 25 z32 ∧ Blk wr (w.heap.size + 1) 25 (bytesC (dp st (4 * k + m))) ∧ Below w.heap.size w wr) (fun v _ => 4 - (intOf v).toNat)
              case atStart => exact ⟨0, by omega, rfl, H2.out, H3.out, HB.out⟩
              case round =>
                obtain ⟨m, hm, rfl, h2, h3, hB⟩ := hrel
                clear H2 H3 HB hix
                have H2 := Lib.hid h2
                have H3 := Lib.hid h3
                have HB := Lib.hid hB
                have hsz : 4 * k + m < 32 ∨ m = 4 := by omega
                by_cases hml : m < 4
                · have cs := h3.cell (4 * k + m)
                  have cf := h3.frozen (4 * k + m)
                  have hsz : (bytesC (dp st (4 * k + m))).size = 32 := by rw [bytesC_size, dp_length]
                  obtain ⟨cv, hcv⟩ : ∃ cv, (bytesC (dp st (4 * k + m)))[4 * k + m]? = some cv := ⟨_, Array.getElem?_eq_getElem (by omega)⟩
                  rw [hcv] at cs
                  clear hcv
                  have m1 : (m : Int) < 4 := by omega
                  have m2 : 4 * (k : Int) + (m : Int) < 32 := by omega
                  have m3 : (4 * (k : Int) + (m : Int)).toNat = 4 * k + m := by omega
                  have m4 : (0 : Int) ≤ 4 * (k : Int) + (m : Int) := by omega
                  have m5 : (0 : Int) ≤ 24 - 8 * (m : Int) := by omega
                  have m6 : (24 - 8 * (m : Int)).toNat = 24 - 8 * m := by omega
                  clear h2 h3 hB hsz
                  have e : (Value.int .u8 (V (sel st k) / 2 ^ (24 - 8 * m) % 256)) = bb (dB st (4 * k + m)) := by
                    rw [V_byte_of]; unfold bb dB
                    rw [show (4 * k + m) / 4 = k by omega, show (4 * k + m) % 4 = m by omega]
                  have EB := Lib.hid e
                  clear e
                  go_wp2_with fail
                  go_roundw
                  case rel =>
                    refine ⟨m + 1, by omega, by go_num, H2.out.far (by simp) _, ?_, HB.out.setCell (by simp) _⟩
                    have := H3.out.set_ (4 * k + m) (bb (dB st (4 * k + m)))
                    rw [dp_set _ _ (by omega)] at this
                    rw [EB.out]
                    exact this
                  case measure => simp [intOf]; omega
                · have hm4 : m = 4 := by omega
                  subst hm4
                  clear h2 h3 hB
                  go_wp2_with fail
                  go_roundw
                  case rel => exact ⟨k + 1, by omega, by go_num, H2.out, H3.out, HB.out⟩
                  case measure => simp [intOf]; omega
            · have hk8 : k = 8 := by omega
              subst hk8
              have H3 := Lib.hid (show Blk wr (w.heap.size + 1) 25 (bytesC (dg st)) from by rw [← dp_all]; exact H3.out)
              go_upto_region 22 with (fail)
              have hD : (bytesC (dg st)).size = 32 := by rw [bytesC_size, dg_length]
              have hDone := bytesC_one (dg st)
              have hout : bytesC (sumOf bs) = bytesC (dg st) := by rw [← HST.out]; rfl
              have HO := Lib.hid hout
              clear hout
              generalize bytesC (dg st) = D at H3 hD hDone HO
              have hi25 : (Tryd.prog.info? 25).map (·.size) = some D.size := by rw [hD]; kernel_rfl
              refine wp_region_lit ?_
              refine wpList_load_row rfl 25 _ rfl (w.heap.size + 1) rfl 25 D _ _ H3.out Tryd.underlying25 rfl hi25 ?_
              refine wpList_store_mid rfl 25 _ _ rfl w.heap.size 0 D rfl rfl (H2.out.there 0 _ (by rw [hD, z32_size]; exact Nat.le_refl _)) hi25 hDone ?_
              refine wpList_nil ?_
              simp only [Act.put]
              have hz := H2.out.setCells D.toList 0
              rw [putAll_all _ _ (by rw [hD, z32_size])] at hz
              have B3 := Below.setCells' D.toList (Nat.le_refl _) 0 HB.out
              have HI := Lib.hid hi25
              clear hi25 hDone hD
              generalize wr.setCells w.heap.size 0 D.toList = w9 at hz B3 ⊢
              have HZ := Lib.hid hz
              have HB9 := Lib.hid B3
              clear hz B3
              go_wp2_with fail
              refine bodyPost_ret (v := .agg D) (results_cell_row rfl _ _ w.heap.size 25 D _ _ rfl HZ.out Tryd.underlying25 rfl HI.out) rfl ⟨by rw [HO.out], HB9.out⟩
    · have i1 : ¬ (N : Int) % 64 = 56 := by
        intro e
        exact hd ((zs_end bs.length j HJ.out).1 (by have := HNN.out; omega))
      go_wp2_with fail
      refine (add_any (w.heap.size + 1 + 1) (by omega) (bs ++ [128] ++ List.replicate j 0) ⟨#[0]⟩ wr (HK.out.below HB.out) HC.out (by rw [HLEN.out, HNN.out]; show N + 1 < _; omega)).mono ?_
      rintro e w5 ⟨rfl, hH, hO⟩
      have hH' : Holds w5 (w.heap.size + 1 + 1) (bs ++ [128] ++ List.replicate (j + 1) 0) := by
        rw [List.replicate_succ', ← List.append_assoc]; exact hH
      have hM' := hH'.manyOf
      have HMM := Lib.hid (show manyOf w5 (w.heap.size + 1 + 1) = N + 1 by rw [hM']; have := HNN.out; simp; omega)
      clear hM'
      have HC := Lib.hid hH'
      have H2 := Lib.hid (H2.out.grown hO (by intro e; have := Option.some.inj e; omega))
      have H3 := Lib.hid (H3.out.grown hO (by intro e; have := Option.some.inj e; omega))
      have HB := Lib.hid (HB.out.grown hO HB.out.size (by intro k e; have := Option.some.inj e; omega))
      clear hH hO c72 hH'
      go_wp2_with fail
      go_roundw
      case rel => exact ⟨j + 1, by have := HJ.out; omega, HC.out, H2.out, H3.out, HB.out⟩
      case measure =>
        show 150000000001000 - manyOf w5 _ < 150000000001000 - manyOf wr _
        rw [HMM.out, HM.out, HNN.out]; omega
end Go.Proofs.YtkbcilfcfbfiaaaDoor
