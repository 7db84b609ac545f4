/- veil: the reference's Row. -/
import Derived.Test.YtkbcilfcfbfiaaaDoorVeil2
namespace Go.Proofs.YtkbcilfcfbfiaaaDoor
open Go.RowKit Go.Proofs
set_option linter.unusedSimpArgs false
set_option linter.unusedVariables false
theorem OwnB.ne {w : World} {base d : Nat} {v : Value} {bs : List UInt8} {cs : Array Value} (h : OwnB w base v bs) (hd : Blk w d 25 cs) : some d ≠ v.ownBlock := by
  rcases h with ⟨rfl, _⟩ | ⟨_, g, cap, cur, fz, rfl, _, hg, _⟩
  · intro e; cases e
  · intro e
    have h1 : d = g := Option.some.inj e
    subst h1
    unfold Blk at hd
    rw [hg] at hd
    simp at hd
set_option maxRecDepth 100000 in
set_option maxHeartbeats 4000000 in
theorem rrow_any (k : ByteArray) (hkn : k.size < 150000000000000) (a n : Int) (w : World) :
    Calls Tryd.prog 45 #[.string k, .int .i64 a, .int .i64 n] w fun e w' => e = .returned (.tuple #[.string (rowS k a n), .int .i64 (wrongOf a n)]) ∧ Below w.heap.size w w' := by
  have HKN := Lib.hid hkn
  clear hkn
  go_enter Tryd.func45, Tryd.ntmps45
  by_cases h1 : a < 0
  · have E := Lib.hid (show wrongOf a n = 3 by unfold wrongOf; rw [if_pos (by omega)])
    have HS := Lib.hid (show rowS k a n = ⟨#[]⟩ by unfold rowS; rw [if_neg (by rw [E.out]; decide)])
    go_wp2_with fail
    go_ret2
    exact ⟨by rw [HS.out, E.out]; rfl, Below.refl _ _⟩
  · by_cases h2 : 1099511627776 < a
    · have E := Lib.hid (show wrongOf a n = 3 by unfold wrongOf; rw [if_pos (by omega)])
      have HS := Lib.hid (show rowS k a n = ⟨#[]⟩ by unfold rowS; rw [if_neg (by rw [E.out]; decide)])
      go_wp2_with fail
      go_ret2
      exact ⟨by rw [HS.out, E.out]; rfl, Below.refl _ _⟩
    · by_cases h3 : n < 0
      · have E := Lib.hid (show wrongOf a n = 2 by unfold wrongOf; rw [if_neg (by omega), if_pos h3])
        have HS := Lib.hid (show rowS k a n = ⟨#[]⟩ by unfold rowS; rw [if_neg (by rw [E.out]; decide)])
        go_wp2_with fail
        go_ret2
        exact ⟨by rw [HS.out, E.out]; rfl, Below.refl _ _⟩
      · by_cases h4 : 16384 < n
        · have E := Lib.hid (show wrongOf a n = 4 by unfold wrongOf; rw [if_neg (by omega), if_neg h3, if_pos h4])
          have HS := Lib.hid (show rowS k a n = ⟨#[]⟩ by unfold rowS; rw [if_neg (by rw [E.out]; decide)])
          go_wp2_with fail
          go_ret2
          exact ⟨by rw [HS.out, E.out]; rfl, Below.refl _ _⟩
        · have E := Lib.hid (show wrongOf a n = 0 by unfold wrongOf; rw [if_neg (by omega), if_neg h3, if_neg h4])
          have HS := Lib.hid (show rowS k a n = strOf (rowOf (by_ k) a n.toNat) by unfold rowS; rw [if_pos E.out])
          obtain ⟨m, rfl⟩ : ∃ m : Nat, n = (m : Int) := ⟨n.toNat, by omega⟩
          have hm : m ≤ 16384 := by omega
          have HA := Lib.hid (show 0 ≤ a ∧ a ≤ 1099511627776 by omega)
          go_wp2_with fail
          clear h1 h2 h3 h4
          go_loopw [8, 9, 10, 11] (fun v8 v9 v10 v11 wr => ∃ c : Nat, 32 * c ≤ m + 31 ∧ v9 = .int .i64 (32 * (c : Int)) ∧ OwnB wr w.heap.size v8 ((rowsB (by_ k) a c).take m) ∧ Below w.heap.size w wr) (fun _ v9 _ _ _ => 20000 - (intOf v9).toNat)
          case atStart => exact ⟨0, by omega, rfl, by simpa [rowsB] using OwnB.nil w w.heap.size, Below.refl _ _⟩
          case round =>
            obtain ⟨c, hc, rfl, hO, hB⟩ := hrel
            have HO := Lib.hid hO
            have HB := Lib.hid hB
            clear hO hB
            by_cases hlt : 32 * c < m
            · have i1 : (32 * (c : Int)) < (m : Int) := by omega
              go_upto_region 11 with (fail)
              refine wp_region_lit ?_
              iterate 8 go_step
              refine (rnumber_any a (by have := HA.out; omega) (by have := HA.out; omega) wr).mono ?_
              rintro e w2 ⟨rfl, hb⟩
              have HO := Lib.hid (HO.out.kept (grownBy_of_below hb none) (.inr rfl))
              have HB := Lib.hid (HB.out.trans (hb.mono HB.out.size))
              clear hb
              dsimp only
              iterate 9 go_step
              refine (rnumber_any (c : Int) (by omega) (by omega) w2).mono ?_
              rintro e w3 ⟨rfl, hb⟩
              have HO := Lib.hid (HO.out.kept (grownBy_of_below hb none) (.inr rfl))
              have HB := Lib.hid (HB.out.trans (hb.mono HB.out.size))
              clear hb
              have h1 := numOf_length a (by have := HA.out; omega)
              have h2 := numOf_length (c : Int) (by omega)
              have HEQ := Lib.hid (show rowB (by_ k) a c = tagOf (by_ k) (numOf a ++ numOf (c : Int)) from rfl)
              have hcat := cat_run (numOf a) (numOf (c : Int)) (by omega)
              have htg := rtag_any k (strOf (numOf a ++ numOf (c : Int))) w3 HKN.out (by rw [strOf_size, List.length_append]; omega)
              rw [by_strOf, ← HEQ.out] at htg
              generalize strOf (numOf a ++ numOf (c : Int)) = S3 at hcat htg
              generalize strOf (numOf a) = S1 at hcat ⊢
              generalize strOf (numOf (c : Int)) = S2 at hcat ⊢
              clear h1 h2
              dsimp only
              iterate 6 go_step
              refine htg.mono ?_
              clear htg hcat
              rintro e w4 ⟨rfl, hb⟩
              have HO := Lib.hid (HO.out.kept (grownBy_of_below hb none) (.inr rfl))
              have HB := Lib.hid (HB.out.trans (hb.mono HB.out.size))
              clear hb
              have hbl := HB.out.size
              have HOL := Lib.hid (fun k hk => (HO.out.lt k hk).2)
              have hl := rowB_length (by_ k) a c
              have HPN := Lib.hid (fun j (h : j < 32) => rowP_next (by_ k) a m c j h)
              have HPL := Lib.hid (fun j => rowP_length (by_ k) a m c j)
              generalize rowB (by_ k) a c = RB at hl HPN ⊢
              have hsz : (bytesC RB).size = 32 := by rw [bytesC_size, hl]
              have hone := bytesC_one RB
              dsimp only
              iterate 4 go_step
              change wpList _ _ _ _ _ (w4.alloc (.cells z32 25))
              have hz := Blk.new w4 25 z32
              have HO := Lib.hid (HO.out.kept (World.grownBy_alloc w4 (.cells z32 25) none) (.inr rfl))
              have HB := Lib.hid (HB.out.alloc HB.out.size (.cells z32 25))
              have HBL := Lib.hid hbl
              refine wpList_store_mid rfl 25 _ _ rfl w4.heap.size 0 (bytesC RB) rfl rfl (hz.there 0 _ (by rw [hsz, z32_size]; exact Nat.le_refl _)) (by rw [hsz]; kernel_rfl) hone ?_
              refine wpList_nil ?_
              simp only [Act.put]
              have hz2 := hz.setCells (bytesC RB).toList 0
              rw [putAll_all _ _ (by rw [hsz, z32_size])] at hz2
              have hG := only_setCells (w4.alloc (.cells z32 25)) w4.heap.size 0 (bytesC RB).toList
              have HO := Lib.hid (HO.out.kept hG (.inl (fun e => by have := HOL.out _ e; omega)))
              have HB := Lib.hid (Below.setCells' (b := w4.heap.size) (bytesC RB).toList HBL.out 0 HB.out)
              clear hz hsz hone hG
              generalize (w4.alloc (.cells z32 25)).setCells w4.heap.size 0 (bytesC RB).toList = w5 at hz2 HO HB ⊢
              have HD := Lib.hid hz2
              have HBS := Lib.hid (HB.out.size)
              clear hz2
              generalize w4.heap.size = d at HD HBL ⊢
              have HO := Lib.hid (show OwnB w5 w.heap.size u8 (rowP (by_ k) a m c 0) by rw [rowP_zero]; exact HO.out)
              go_wp2_with fail
              clear HBL HBS HOL
              go_loopw [8, 11] (fun v8 v11 wr => ∃ j : Nat, j ≤ 32 ∧ 32 * c + j ≤ m ∧ v11 = .int .i64 (j : Int) ∧ OwnB wr w.heap.size v8 (rowP (by_ k) a m c j) ∧ Blk wr d 25 (bytesC RB) ∧ Below w.heap.size w wr) (fun _ v11 _ => 32 - (intOf v11).toNat)
              case atStart => exact ⟨0, by omega, by omega, rfl, HO.out, HD.out, HB.out⟩
              case round =>
                obtain ⟨j, hj32, hjm, rfl, hO, hD, hB⟩ := hrel
                clear HO HD HB
                have HO := Lib.hid hO
                have HD := Lib.hid hD
                have HB := Lib.hid hB
                clear hO hD hB
                by_cases hj : j < 32
                · by_cases hjn : 32 * c + j < m
                  · have j1 : (j : Int) < 32 := by omega
                    have j2 : (32 * (c : Int)) + (j : Int) < (m : Int) := by omega
                    have c0 : wr.cell? ⟨d, j, none⟩ = some (.int .u8 ((RB.getD j 0).toNat : Int)) := (HD.out.cell j).trans (by
                      unfold bytesC
                      rw [List.getElem?_toArray, List.getElem?_map, List.getD_eq_getElem?_getD, List.getElem?_eq_getElem (by omega)]; rfl)
                    have hnext := HPN.out j hj
                    have hplen := HPL.out j
                    generalize RB.getD j 0 = x at c0 hnext
                    generalize rowP (by_ k) a m c j = P at hnext hplen HO
                    have HNX := Lib.hid hnext
                    clear hnext
                    go_upto_region 15 with (fail)
                    refine wp_region_lit ?_
                    iterate 15 go_step
                    refine wpList_ownB_byte rfl _ _ rfl w.heap.size u8 P rfl HO.out _ x rfl rfl (by omega) HB.out.size ?_
                    intro v' w' hO hG
                    have HD := Lib.hid (HD.out.grown hG (HO.out.ne HD.out))
                    have HB := Lib.hid (HB.out.grown hG HB.out.size (fun k hk => (HO.out.lt k hk).1))
                    rw [HNX.out] at hO
                    have HO := Lib.hid hO
                    clear hO hG
                    simp only [Act.put]
                    go_wp2_with fail
                    go_roundw
                    case rel => exact ⟨j + 1, by omega, by omega, by go_num, HO.out, HD.out, HB.out⟩
                    case measure => simp [intOf]; omega
                  · have j1 : (j : Int) < 32 := by omega
                    have j2 : ¬ ((32 * (c : Int)) + (j : Int) < (m : Int)) := by omega
                    have hE := rowP_end (by_ k) a m c j hlt hj32 hjm (by omega)
                    have HO := Lib.hid (show OwnB wr w.heap.size u8 ((rowsB (by_ k) a (c + 1)).take m) by rw [← hE]; exact HO.out)
                    clear hE
                    go_wp2_with fail
                    go_roundw
                    case rel => exact ⟨c + 1, by omega, by go_num, HO.out, HB.out⟩
                    case measure => simp [intOf]; omega
                · have j1 : ¬ ((j : Int) < 32) := by omega
                  have hE := rowP_end (by_ k) a m c j hlt hj32 hjm (by omega)
                  have HO := Lib.hid (show OwnB wr w.heap.size u8 ((rowsB (by_ k) a (c + 1)).take m) by rw [← hE]; exact HO.out)
                  clear hE
                  go_wp2_with fail
                  go_roundw
                  case rel => exact ⟨c + 1, by omega, by go_num, HO.out, HB.out⟩
                  case measure => simp [intOf]; omega
            · have i1 : ¬ ((32 * (c : Int)) < (m : Int)) := by omega
              have hE := rowsB_all (by_ k) a m c (by omega)
              have HO := Lib.hid (show OwnB wr w.heap.size u8 (rowOf (by_ k) a m) by rw [← hE]; exact HO.out)
              clear hE
              go_upto_region 16 with (fail)
              refine wp_region_lit ?_
              iterate 3 go_step
              refine wpList_ownB_string rfl _ rfl _ u8 _ rfl HO.out ?_
              simp only [Act.put]
              have hT : (⟨(rowOf (by_ k) a m).toArray⟩ : ByteArray) = rowS k a (m : Int) := by rw [HS.out]; rfl
              rw [hT]
              clear hT
              go_wp2_with fail
              go_ret2
              exact ⟨by rw [E.out]; rfl, HB.out⟩
end Go.Proofs.YtkbcilfcfbfiaaaDoor
