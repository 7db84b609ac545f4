/- A key's block with each byte turned: the program's closure. -/
import Derived.Test.YtkbcilfcfbfiaaaDoorMac2
import Derived.OwnWalk
import Derived.Laws.BitsAllLaws
namespace Go.Proofs.YtkbcilfcfbfiaaaDoor
open Go.RowKit Go.Proofs
set_option linter.unusedSimpArgs false
set_option linter.unusedVariables false
theorem OwnB.of_made {w : World} {base g n : Nat} (h : w.ownsRow base 5 1 (.slice (some ⟨g, 0, none⟩) 0 n) 0 []) : OwnB w base (.slice (some ⟨g, 0, none⟩) 0 n) [] := by
  obtain ⟨h1, ⟨h, _⟩ | ⟨g', cap, cur, hv, h2, h3, h4, h5, h6, h7⟩⟩ := h
  · cases h
  · exact .inr ⟨rfl, g', cap, cur, (0, 0), hv, h2, h3, .inl rfl, h4, h5, by omega, by simp⟩
theorem index_byte (t : TypeId) (n : Nat) (ht : Tryd.prog.underlying t = some (.array n 5)) (B : List UInt8) (hB : B.length = n) (k : Nat) (hk : k < n) (w : World) : (Instr.index t (.agg (bytesC B)) (.int .i64 (k : Int))).run Tryd.prog w = .ok (.int .u8 ((B.getD k 0).toNat : Int)) w := by
  have hsz := bytesC_size B
  have hg : (bytesC B)[k]? = some (.int .u8 ((B.getD k 0).toNat : Int)) := by
    unfold bytesC
    rw [List.getElem?_toArray, List.getElem?_map, List.getD_eq_getElem?_getD, List.getElem?_eq_getElem (by omega)]; rfl
  have hs : (Tryd.prog.info? 5).map (·.size) = some 1 := by kernel_rfl
  obtain ⟨i, hi, hi2⟩ := Option.map_eq_some_iff.1 hs
  generalize bytesC B = cs at hsz hg
  unfold Instr.index
  simp [go_sem, asIntOf, run_underlying ht, hk, sizeOf, typeInfo, hi, hi2]
  rw [hg]
  simp [Sem.run_pure, List.getD_eq_getElem?_getD]
theorem B_xor (a b : UInt8) : bits .xor .u8 (a.toNat : Int) (b.toNat : Int) = ((a ^^^ b).toNat : Int) := by
  rw [u8_xor_nat _ _ a.toNat_lt b.toNat_lt, UInt8.toNat_xor]
set_option maxRecDepth 100000 in
set_option maxHeartbeats 2000000 in
theorem turned_any (x : UInt8) (g : Nat) (B : List UInt8) (hB : B.length = 64) (w : World) (hg : Blk w g 97 (bytesC B)) :
    Calls Tryd.prog 65 #[.int .u8 (x.toNat : Int), .pointer (some ⟨g, 0, none⟩)] w fun e w' => e = .returned (.string (strOf (B.map (· ^^^ x)))) ∧ Below w.heap.size w w' := by
  have HBL := Lib.hid hB
  have HG := Lib.hid hg
  clear hB hg
  go_enter Tryd.func65, Tryd.ntmps65
  go_upto_region 1 with (fail)
  have hs5 : (Tryd.prog.info? 5).map (fun i => (i.size, i.bytes, i.zero)) = some (1, 1, some (.int .u8 0)) := by kernel_rfl
  obtain ⟨i, hi, hi2⟩ := Option.map_eq_some_iff.1 hs5
  simp only [Prod.mk.injEq] at hi2
  obtain ⟨e1, e2, e3⟩ := hi2
  refine wp_region_lit ?_
  refine wpList_make_own w rfl _ _ 29 rfl w.heap.size 5 i (.int .u8 0) 1 Tryd.underlying29 hi e3 e1 .i64 .i64 64 64 rfl rfl rfl (by rw [e2]; omega) (by simp [maxLen]) (Nat.le_refl _) ?_
  intro w2 hO hGr
  have HO := Lib.hid (OwnB.of_made hO)
  have HG := Lib.hid (HG.out.grown hGr (by simp))
  have HB := Lib.hid ((Below.refl w.heap.size w).grown hGr (Nat.le_refl _) (fun k hk => by cases hk))
  clear hO hGr hi e1 e2 e3 hs5
  simp only [Act.put]
  go_upto_region 2 with (fail)
  have hsz : (bytesC B).size = 64 := by rw [bytesC_size, HBL.out]
  have hidx := index_byte 97 64 Tryd.underlying97 B HBL.out
  generalize hX : bytesC B = X at HG hsz hidx
  have HX := Lib.hid hX
  have HIDX := Lib.hid hidx
  clear hX hidx
  have hi97 : (Tryd.prog.info? 97).map (·.size) = some X.size := by rw [hsz]; kernel_rfl
  refine wp_region_lit ?_
  refine wpList_load_row rfl 97 _ rfl g rfl 97 X _ _ HG.out Tryd.underlying97 rfl hi97 ?_
  simp only [Act.put]
  clear hi97 hsz
  go_wp2_with fail
  go_loopw [4, 9] (fun v u wr => ∃ i : Nat, i ≤ 64 ∧ u = .int .i64 (i : Int) ∧ OwnB wr w.heap.size v ((B.map (· ^^^ x)).take i) ∧ Below w.heap.size w wr) (fun _ u _ => 64 - (intOf u).toNat)
  case atStart => exact ⟨0, by omega, rfl, HO.out, HB.out⟩
  case round =>
    obtain ⟨i, hi, rfl, hO, hB⟩ := hrel
    clear HO HB
    have HO := Lib.hid hO
    have HB := Lib.hid hB
    clear hO hB
    by_cases hlt : i < 64
    · have i1 : (i : Int) < 64 := by omega
      have hnext : (B.map (· ^^^ x)).take i ++ [B.getD i 0 ^^^ x] = (B.map (· ^^^ x)).take (i + 1) := by
        rw [List.take_add_one, List.getElem?_map, List.getD_eq_getElem?_getD, List.getElem?_eq_getElem (by rw [HBL.out]; omega)]; rfl
      have hlen : ((B.map (· ^^^ x)).take i).length = i := by rw [List.length_take, List.length_map, HBL.out]; omega
      have hix := HIDX.out i hlt
      generalize B.getD i 0 = c at *
      generalize (B.map (· ^^^ x)).take i = P at *
      have HNX := Lib.hid hnext
      clear hnext
      go_upto_region 5 with (fail)
      refine wp_region_lit ?_
      iterate 15 go_step
      refine wpList_ownB_byte rfl _ _ rfl w.heap.size u4 P rfl HO.out _ (c ^^^ x) (by rw [B_xor]; rfl) rfl (by omega) HB.out.size ?_
      intro v' w' hO hG
      have HB := Lib.hid (HB.out.grown hG HB.out.size (fun k hk => (HO.out.lt k hk).1))
      rw [HNX.out] at hO
      have HO := Lib.hid hO
      clear hO hG
      simp only [Act.put]
      go_wp2_with fail
      go_roundw
      case rel => exact ⟨i + 1, by omega, by go_num, HO.out, HB.out⟩
      case measure => simp [intOf]; omega
    · have hi64 : i = 64 := by omega
      subst hi64
      have hO := HO.out
      rw [List.take_of_length_le (by rw [List.length_map, HBL.out]; exact Nat.le_refl _)] at hO
      have HO := Lib.hid hO
      clear hO
      go_upto_region 7 with (fail)
      refine wp_region_lit ?_
      iterate 3 go_step
      refine wpList_ownB_string rfl _ rfl _ u4 _ rfl HO.out ?_
      simp only [Act.put]
      go_wp2_with fail
      go_ret
      exact ⟨rfl, HB.out⟩
end Go.Proofs.YtkbcilfcfbfiaaaDoor
