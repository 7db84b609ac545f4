/- veil: the program's Row. -/
import Derived.Test.YtkbcilfcfbfiaaaDoorVeil1
namespace Go.Proofs.YtkbcilfcfbfiaaaDoor
open Go.RowKit Go.Proofs
set_option linter.unusedSimpArgs false
set_option linter.unusedVariables false
/-- A row, or nothing. -/
def rowS (k : ByteArray) (a n : Int) : ByteArray := if wrongOf a n = 0 then strOf (rowOf (by_ k) a n.toNat) else ⟨#[]⟩
theorem conv_pre (w : World) (base : Nat) (g n cap m : Nat) (bs : List UInt8) (h : Own1 w base 5 (.slice (some ⟨g, 0, none⟩) n cap) n (bs.map bb)) (hm : m ≤ bs.length) : (convert 29 9 (.slice (some ⟨g, 0, none⟩) m cap)).run Tryd.prog w = .ok (.string (strOf (bs.take m))) w := by
  have hl : (bs.take m).length = m := by rw [List.length_take]; omega
  have := run_convert_bytes_back (P := Tryd.prog) w 29 9 5 ⟨g, 0, none⟩ cap (bs.take m) Tryd.underlying29 Tryd.underlying5 Tryd.underlying9 (fun j hj => by
    refine h.cells j _ ?_
    rw [List.getElem?_map, List.getElem?_eq_getElem (by rw [List.length_take] at hj; omega), List.getElem_take]; rfl)
  rw [hl] at this
  exact this
theorem rowsB_push (k : List UInt8) (num : Int) (m : Nat) : (rowsB k num m).map bb ++ (rowB k num m).map bb = (rowsB k num (m + 1)).map bb := by
  rw [← List.map_append]; rfl
set_option maxRecDepth 100000 in
set_option maxHeartbeats 4000000 in
theorem row_any (k : ByteArray) (hkn : k.size < 150000000000000) (a n : Int) (w : World) (hk : Consts w) :
    Calls Tryd.prog 44 #[.string k, .int .i64 a, .int .i64 n] w fun e w' => e = .returned (.tuple #[.string (rowS k a n), .int .i64 (wrongOf a n)]) ∧ Below w.heap.size w w' := by
  have HK := Lib.hid hk
  have HKN := Lib.hid hkn
  clear hk hkn
  go_enter Tryd.func44, Tryd.ntmps44
  go_upto_region 1 with (fail)
  change Code.wp _ _ _ _ (w.alloc (.cells #[.string k] 9))
  have HKB := Lib.hid (show Blk (w.alloc (.cells #[.string k] 9)) w.heap.size 9 #[.string k] from Blk.new w 9 _)
  have HB := Lib.hid ((Below.refl w.heap.size w).alloc (Nat.le_refl _) (.cells #[.string k] 9))
  generalize w.alloc (.cells #[.string k] 9) = w1 at HKB HB ⊢
  go_wp2_with fail
  refine (wrong_any a n w1).mono ?_
  rintro e w2 ⟨rfl, rfl⟩
  by_cases hw : wrongOf a n = 0
  · have hr := wrongOf_ok hw
    have hS : rowS k a n = strOf (rowOf (by_ k) a n.toNat) := by unfold rowS; rw [if_pos hw]
    have HS := Lib.hid hS
    rw [hw]
    clear hS
    obtain ⟨m, rfl⟩ : ∃ m : Nat, n = (m : Int) := ⟨n.toNat, by omega⟩
    have hm : m ≤ 16384 := by omega
    have HA := Lib.hid (show 0 ≤ a ∧ a ≤ 1099511627776 by omega)
    have HW := Lib.hid hw
    clear hw hr
    go_wp2_with fail
    refine (number_any a (by have := HA.out; omega) (by have := HA.out; omega) w1).mono ?_
    rintro e w3 ⟨rfl, hb⟩
    have HKB := Lib.hid (HKB.out.below hb HKB.out.lt)
    have HB := Lib.hid (HB.out.trans (hb.mono HB.out.size))
    clear hb
    generalize hNA : strOf (numOf a) = NA
    have HNA := Lib.hid hNA
    clear hNA
    go_upto_region 6 with (fail)
    have HKB := Lib.hid (HKB.out.alloc (.cells #[.string NA] 9))
    have HHB := Lib.hid (show Blk (w3.alloc (.cells #[.string NA] 9)) w3.heap.size 9 #[.string NA] from Blk.new w3 9 _)
    have HB := Lib.hid (HB.out.alloc HB.out.size (.cells #[.string NA] 9))
    generalize w3.heap.size = hb at HHB ⊢
    generalize w3.alloc (.cells #[.string NA] 9) = w4 at HKB HHB HB ⊢
    have hs5 : (Tryd.prog.info? 5).map (fun i => (i.size, i.bytes, i.zero)) = some (1, 1, some (.int .u8 0)) := by kernel_rfl
    obtain ⟨i, hi, hi2⟩ := Option.map_eq_some_iff.1 hs5
    simp only [Prod.mk.injEq] at hi2
    obtain ⟨e1, e2, e3⟩ := hi2
    refine wp_region_lit ?_
    iterate 6 go_step
    refine wpList_make_own w4 rfl _ _ 29 rfl w4.heap.size 5 i (.int .u8 0) 1 Tryd.underlying29 hi e3 e1 .i64 .i64 ((m : Int) + 31) (m + 31) rfl rfl (by omega) (by rw [e2]; omega) (by simp only [maxLen]; omega) (Nat.le_refl _) ?_
    intro w5 hO hGr
    have HKL := Lib.hid (show w.heap.size < w4.heap.size from HKB.out.lt)
    have HHL := Lib.hid (show hb < w4.heap.size from HHB.out.lt)
    have HO := Lib.hid (show Own1 w5 w4.heap.size 5 (.slice (some ⟨w4.heap.size, 0, none⟩) 0 (m + 31)) (32 * 0) ((rowsB (by_ k) a 0).map bb) from by
      rcases OwnB.of_made hO with ⟨h, _⟩ | h
      · cases h
      · exact h)
    have HKB := Lib.hid (HKB.out.grown hGr (by simp))
    have HHB := Lib.hid (HHB.out.grown hGr (by simp))
    have HS4 := Lib.hid (show w4.heap.size ≤ w5.heap.size from hGr.size)
    have HB := Lib.hid (HB.out.grown hGr HB.out.size (fun k hk => by cases hk))
    have HWB := Lib.hid (show w.heap.size ≤ w4.heap.size by have := HKL.out; omega)
    clear hO hGr hi e1 e2 e3 hs5
    generalize w4.heap.size = b0 at HKL HHL HO HS4 HWB ⊢
    simp only [Act.put]
    have hM : ((m : Int) + 31) / 32 = (((m + 31) / 32 : Nat) : Int) := by omega
    have HM := Lib.hid hM
    clear hM
    go_wp2_with fail
    rw [HM.out]
    generalize hMM : (m + 31) / 32 = M
    have HMM := Lib.hid hMM
    have hM600 : M ≤ 513 := by omega
    clear hMM HM
    go_loopw [11, 12, 13, 29] (fun v11 v12 v13 v29 wr => ∃ i : Nat, i ≤ M ∧ v29 = .int .i64 (i : Int) ∧ Own1 wr b0 5 v11 (32 * i) ((rowsB (by_ k) a i).map bb) ∧ Blk wr w.heap.size 9 #[.string k] ∧ Blk wr hb 9 #[.string NA] ∧ b0 ≤ wr.heap.size ∧ Below w.heap.size w wr) (fun _ _ _ v29 _ => 600 - (intOf v29).toNat)
    case atStart => exact ⟨0, by omega, rfl, HO.out, HKB.out, HHB.out, HS4.out, HB.out⟩
    case round =>
      obtain ⟨i, hi, rfl, hO, hKB, hHB, hS, hB⟩ := hrel
      clear HO HKB HHB HS4 HB
      have HO := Lib.hid hO
      have HKB := Lib.hid hKB
      have HHB := Lib.hid hHB
      have HS4 := Lib.hid hS
      have HB := Lib.hid hB
      obtain ⟨_, g, cap, cur, fz, rfl, hgb, hgl, _, hcap, _⟩ := hO
      have HCAP := Lib.hid hcap
      have HGL := Lib.hid (Array.getElem?_eq_some_iff.1 hgl).1
      clear hKB hHB hS hB hgl hcap
      by_cases hlt : i < M
      · have i1 : (i : Int) < (M : Int) := by omega
        go_upto_region 10 with (fail)
        refine wp_region_lit ?_
        iterate 8 go_step
        refine (blockC_any k HKN.out a HA.out i (by omega) w.heap.size hb wr (HK.out.below HB.out) HKB.out (by rw [HNA.out]; exact HHB.out)).mono ?_
        rintro e w6 ⟨rfl, hb6⟩
        have HO := Lib.hid (HO.out.kept (grownBy_of_below hb6 none) (.inr rfl))
        have HKB := Lib.hid (HKB.out.below hb6 HKB.out.lt)
        have HHB := Lib.hid (HHB.out.below hb6 HHB.out.lt)
        have HS4 := Lib.hid (show b0 ≤ w6.heap.size by have := HS4.out; have := hb6.size; omega)
        have HB := Lib.hid (HB.out.trans (hb6.mono HB.out.size))
        clear hb6
        have HG6 := Lib.hid (HO.out.lt g rfl).2
        have HPU := Lib.hid (rowsB_push (by_ k) a i)
        have hl := rowB_length (by_ k) a i
        generalize rowB (by_ k) a i = RB at hl HPU ⊢
        have hsz : (bytesC RB).size = 32 := by rw [bytesC_size, hl]
        have hone := bytesC_one RB
        dsimp only
        iterate 4 go_step
        change wpList _ _ _ _ _ (w6.alloc (.cells z32 25))
        have hz := Blk.new w6 25 z32
        have HO := Lib.hid (HO.out.kept (World.grownBy_alloc w6 (.cells z32 25) none) (.inr rfl))
        have HKB := Lib.hid (HKB.out.alloc (.cells z32 25))
        have HHB := Lib.hid (HHB.out.alloc (.cells z32 25))
        have HB := Lib.hid (HB.out.alloc HB.out.size (.cells z32 25))
        refine wpList_store_mid rfl 25 _ _ rfl w6.heap.size 0 (bytesC RB) rfl rfl (hz.there 0 _ (by rw [hsz, z32_size]; exact Nat.le_refl _)) (by rw [hsz]; kernel_rfl) hone ?_
        refine wpList_nil ?_
        simp only [Act.put]
        have hz2 := hz.setCells (bytesC RB).toList 0
        rw [putAll_all _ _ (by rw [hsz, z32_size])] at hz2
        have hG := only_setCells (w6.alloc (.cells z32 25)) w6.heap.size 0 (bytesC RB).toList
        have HO := Lib.hid (HO.out.kept hG (.inl (by intro e; have h : g = w6.heap.size := Option.some.inj e; have := HG6.out; omega)))
        have HKB := Lib.hid (HKB.out.setCells_far (b := w6.heap.size) (bytesC RB).toList (by have := HKL.out; have := HS4.out; omega) 0)
        have HHB := Lib.hid (HHB.out.setCells_far (b := w6.heap.size) (bytesC RB).toList (by have := HHL.out; have := HS4.out; omega) 0)
        have HB := Lib.hid (Below.setCells' (b := w6.heap.size) (bytesC RB).toList (by have := HS4.out; have := HWB.out; omega) 0 HB.out)
        have HS4 := Lib.hid (show b0 ≤ ((w6.alloc (.cells z32 25)).setCells w6.heap.size 0 (bytesC RB).toList).heap.size by have := HS4.out; have := hG.size; rw [World.size_alloc] at this; omega)
        clear hz hsz hone hG
        generalize (w6.alloc (.cells z32 25)).setCells w6.heap.size 0 (bytesC RB).toList = w7 at hz2 HO HKB HHB HB HS4 ⊢
        generalize w6.heap.size = d at hz2 ⊢
        go_upto_region 11 with (fail)
        refine wp_region_lit ?_
        iterate 6 go_step
        refine wpList_append1 rfl _ _ rfl b0 (.slice (some ⟨g, 0, none⟩) (32 * i) cap) (32 * i) ((rowsB (by_ k) a i).map bb) rfl HO.out ⟨d, 0, none⟩ 32 32 (RB.map bb) rfl (by rw [List.length_map, hl]) ?_ (by intro y hy; obtain ⟨z, _, rfl⟩ := List.mem_map.1 hy; rfl) (by omega) HS4.out ?_
        · intro j u hj
          rw [Addr.add_mid, Nat.zero_add]
          exact (hz2.cell j).trans (by unfold bytesC; rw [List.getElem?_toArray]; exact hj)
        · intro v' w8 hO hG
          rw [HPU.out] at hO
          have hne : ∀ x, x < b0 → some x ≠ (Value.slice (some ⟨g, 0, none⟩) (32 * i) cap).ownBlock := fun x hx e => by have := (HO.out.lt _ e.symm).1; omega
          have HKB := Lib.hid (HKB.out.grown hG (hne _ HKL.out))
          have HHB := Lib.hid (HHB.out.grown hG (hne _ HHL.out))
          have HB := Lib.hid (HB.out.grown hG HB.out.size (fun x hx => by have := (HO.out.lt _ hx).1; have := HWB.out; omega))
          have HS4 := Lib.hid (show b0 ≤ w8.heap.size by have := HS4.out; have := hG.size; omega)
          have HO := Lib.hid hO
          clear hO hG hne hl hz2
          simp only [Act.put]
          go_wp2_with fail
          go_roundw
          case rel => exact ⟨i + 1, by omega, by go_num, HO.out, HKB.out, HHB.out, HS4.out, HB.out⟩
          case measure => simp [intOf]; omega
      · have hiM : i = M := by omega
        subst hiM
        have hcm : m ≤ cap := by have := HCAP.out; have := HMM.out; omega
        have i2 : (m : Int) ≤ (cap : Int) := by omega
        have i3 : (0 : Int) ≤ (m : Int) := by omega
        go_upto_region 13 with (fail)
        refine wp_region_lit ?_
        iterate 9 go_step
        have hcv := conv_pre wr b0 g (32 * i) cap m (rowsB (by_ k) a i) HO.out (by rw [rowsB_length]; have := HMM.out; omega)
        have hE : strOf ((rowsB (by_ k) a i).take m) = rowS k a (m : Int) := by
          rw [HS.out]; unfold rowOf; rw [← HMM.out]; rfl
        rw [hE] at hcv
        clear hE
        refine wpList_runIs rfl _ wr (execConvert 29 9 _ rfl (p := .slice (some ⟨g, 0, none⟩) m cap) rfl hcv) ?_
        clear hcv
        simp only [Act.put]
        go_wp2_with fail
        go_ret2
        exact ⟨by rw [HW.out]; rfl, HB.out⟩
  · have HS := Lib.hid (show rowS k a n = ⟨#[]⟩ by unfold rowS; rw [if_neg hw])
    generalize he : wrongOf a n = e at hw ⊢
    have HE := Lib.hid he
    clear he
    go_wp2_with fail
    go_ret2
    exact ⟨by rw [HS.out, HE.out]; rfl, HB.out⟩
end Go.Proofs.YtkbcilfcfbfiaaaDoor
