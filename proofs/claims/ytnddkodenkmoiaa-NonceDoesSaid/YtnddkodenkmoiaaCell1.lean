/- The cell: eight, number. -/
import Derived.Test.YtnddkodenkmoiaaDisk9
namespace Go.Proofs.Ytnddkodenkmoiaa
open Go.RowKit Go.Proofs
set_option linter.unusedSimpArgs false
set_option linter.unusedVariables false
/-- What big endian bytes say. -/
def foldN (bs : List UInt8) : Nat := bs.foldl (fun n b => n * 256 + b.toNat) 0
def sgn (n : Nat) : Int := if n < 9223372036854775808 then (n : Int) else (n : Int) - 18446744073709551616
def numI (bs : List UInt8) : Int := sgn (foldN (bs.take 8))
theorem foldN_snoc (bs : List UInt8) (b : UInt8) : foldN (bs ++ [b]) = foldN bs * 256 + b.toNat := by unfold foldN; rw [List.foldl_append]; rfl
theorem foldN_from (bs : List UInt8) : ∀ a, bs.foldl (fun n b => n * 256 + b.toNat) a < (a + 1) * 256 ^ bs.length := by
  induction bs with
  | nil => intro a; simp
  | cons b bs ih =>
    intro a
    refine Nat.lt_of_lt_of_le (ih (a * 256 + b.toNat)) ?_
    have := b.toNat_lt
    rw [List.length_cons, Nat.pow_succ, Nat.mul_comm (256 ^ bs.length) 256, ← Nat.mul_assoc]
    exact Nat.mul_le_mul_right _ (by omega)
theorem foldN_lt (bs : List UInt8) : foldN bs < 256 ^ bs.length := by
  have := foldN_from bs 0
  simpa [foldN] using this
theorem foldN_next (bs : List UInt8) (i : Nat) (b : UInt8) (h : bs[i]? = some b) : foldN (bs.take (i + 1)) = foldN (bs.take i) * 256 + b.toNat := by
  rw [List.take_add_one, h]; exact foldN_snoc _ _
theorem or_push (n : Nat) (b : UInt8) (h : n < 72057594037927936) : bits .or .u64 (IntKind.u64.wrap ((n : Int) * 256)) (IntKind.u64.wrap (b.toNat : Int)) = ((n * 256 + b.toNat : Nat) : Int) := by
  have hb := b.toNat_lt
  rw [show IntKind.u64.wrap ((n : Int) * 256) = ((n * 256 : Nat) : Int) by rw [IntWalk.u64_in _ (by omega)]; omega, show IntKind.u64.wrap (b.toNat : Int) = ((b.toNat : Nat) : Int) from IntWalk.u64_in _ (by omega)]
  rw [u64_or_nat _ _ (by omega) (by omega)]
  congr 1
  have := Nat.two_pow_add_eq_or_of_lt (b := b.toNat) (i := 8) (by omega) n
  rw [show n * 256 = 2 ^ 8 * n by omega, ← this]
set_option maxRecDepth 100000 in
set_option maxHeartbeats 4000000 in
theorem number_any (t : ByteArray) (w : World) (ht : 8 ≤ t.size) :
    Calls Try.prog 70 #[.string t] w fun e w' => e = .returned (.int .i64 (numI (by_ t))) ∧ w = w' := by
  go_enter Try.func70, Try.ntmps70
  go_wp2_with fail
  go_loopw [3, 4, 5] (fun v3 v4 v5 wr => ∃ i : Nat, i ≤ 8 ∧ v3 = .int .u64 (foldN ((by_ t).take i) : Int) ∧ v5 = .int .i64 (i : Int) ∧ wr = w) (fun _ _ v5 _ => 8 - (intOf v5).toNat)
  case atStart => exact ⟨0, by omega, rfl, rfl, rfl⟩
  case round =>
    obtain ⟨i, hi, rfl, rfl, rfl⟩ := hrel
    by_cases hlt : i < 8
    · have i1 : (i : Int) < 8 := by omega
      have i2 : (i : Int) < (t.size : Int) := by omega
      have hb : (by_ t).length = t.size := (by_size t).symm
      obtain ⟨b, hbi⟩ : ∃ b, (by_ t)[i]? = some b := ⟨_, List.getElem?_eq_getElem (by omega)⟩
      have hfl : foldN ((by_ t).take i) < 72057594037927936 := by
        refine Nat.lt_of_lt_of_le (foldN_lt _) ?_
        rw [List.length_take]
        exact Nat.le_trans (Nat.pow_le_pow_right (by omega) (show min i (by_ t).length ≤ 7 by omega)) (by decide)
      have HN := Lib.hid (foldN_next (by_ t) i b hbi)
      generalize hf : foldN ((by_ t).take i) = F at hfl HN
      clear hf
      go_wp2_with fail
      go_roundw
      case rel =>
        refine ⟨i + 1, by omega, ?_, by go_num, trivial⟩
        have hbe : t[i] = b := by
          have := hbi
          unfold by_ at this
          rw [Array.getElem?_toList] at this
          exact (Array.getElem?_eq_some_iff.1 this).2
        rw [HN.out, ← or_push F b hfl, ← hbe, IntWalk.u64_in ((F : Int) * 256) (by omega)]
      case measure => simp [intOf]; omega
    · have i1 : ¬ ((i : Int) < 8) := by omega
      obtain rfl : i = 8 := by omega
      have hfl : foldN ((by_ t).take 8) < 18446744073709551616 := by
        refine Nat.lt_of_lt_of_le (foldN_lt _) ?_
        rw [List.length_take]
        exact Nat.le_trans (Nat.pow_le_pow_right (by omega) (show min 8 (by_ t).length ≤ 8 by omega)) (by decide)
      have HN := Lib.hid (show numI (by_ t) = sgn (foldN ((by_ t).take 8)) from rfl)
      generalize foldN ((by_ t).take 8) = F at hfl HN ⊢
      go_wp2_with fail
      go_ret
      refine ⟨?_, rfl⟩
      rw [HN.out]
      show Ending.returned (Value.int .i64 (wrap64 (F : Int))) = _
      congr 2
      unfold sgn wrap64
      split <;> omega
/-- A number's eight bytes. -/
def beOf (n : Nat) : List UInt8 := (List.range 8).map fun k => UInt8.ofNat (n / 2 ^ (56 - 8 * k))
theorem beOf_get (n k : Nat) (h : k < 8) : (beOf n)[k]? = some (UInt8.ofNat (n / 2 ^ (56 - 8 * k))) := by
  unfold beOf; rw [List.getElem?_map, List.getElem?_range h]; rfl
def cellsE (n i : Nat) : Array Value := ((List.range 8).map fun k => bb (if k < i then UInt8.ofNat (n / 2 ^ (56 - 8 * k)) else 0)).toArray
theorem cellsE_next (n i : Nat) (h : i < 8) : (cellsE n i).setIfInBounds i (bb (UInt8.ofNat (n / 2 ^ (56 - 8 * i)))) = cellsE n (i + 1) := by
  unfold cellsE
  rw [List.setIfInBounds_toArray]
  congr 1
  refine List.ext_getElem? fun k => ?_
  rw [List.getElem?_set]
  simp only [List.getElem?_map, List.length_map, List.length_range]
  by_cases hk : i = k
  · subst hk; simp [h]
  · rw [if_neg hk]
    by_cases h8 : k < 8
    · rw [List.getElem?_range h8]
      simp only [Option.map_some]
      congr 2
      by_cases hki : k < i
      · rw [if_pos hki, if_pos (by omega)]
      · rw [if_neg hki, if_neg (by omega)]
    · rw [List.getElem?_eq_none (by rw [List.length_range]; omega)]; rfl
set_option maxRecDepth 100000 in
set_option maxHeartbeats 4000000 in
theorem eight_any (n : Nat) (w : World) (hn : n < 9223372036854775808) :
    Calls Try.prog 56 #[.int .i64 (n : Int)] w fun e w' => e = .returned (.string (strOf (beOf n))) ∧ Below w.heap.size w w' := by
  go_enter Try.func56, Try.ntmps56
  go_wp2_with fail
  have hb := Blk.new w 117 (cellsE n 0)
  change Code.wp _ _ _ _ (w.alloc (.cells (cellsE n 0) 117))
  have HB := Lib.hid ((Below.refl w.heap.size w).alloc (Nat.le_refl _) (.cells (cellsE n 0) 117))
  generalize w.alloc (.cells (cellsE n 0) 117) = w0 at hb HB ⊢
  go_loopw [4, 5] (fun _ v5 wr => ∃ i : Nat, i ≤ 8 ∧ v5 = .int .i64 (i : Int) ∧ Blk wr w.heap.size 117 (cellsE n i) ∧ Below w.heap.size w wr) (fun _ v5 _ => 8 - (intOf v5).toNat)
  case atStart => exact ⟨0, by omega, rfl, hb, HB.out⟩
  case round =>
    obtain ⟨i, hi, rfl, hR, hB⟩ := hrel
    clear HB hb
    have HR := Lib.hid hR
    have HB := Lib.hid hB
    clear hR hB
    by_cases hlt : i < 8
    · have i1 : (i : Int) < 8 := by omega
      have hn2 : (n : Int) ≤ 9223372036854775807 := by omega
      have hcl : wr.cell? ⟨w.heap.size, i, none⟩ = some (bb 0) := (HR.out.cell i).trans (by
        unfold cellsE
        rw [List.getElem?_toArray, List.getElem?_map, List.getElem?_range hlt]
        simp)
      have hfz := HR.out.frozen i
      have hv : bb (UInt8.ofNat (n / 2 ^ (56 - 8 * i))) = .int .u8 ((n : Int) / 2 ^ (56 - 8 * i) % 256) := by
        show Value.int .u8 (((UInt8.ofNat (n / 2 ^ (56 - 8 * i))).toNat : Nat) : Int) = _
        rw [UInt8.toNat_ofNat']
        congr 1
      have hs := HR.out.set_ i (bb (UInt8.ofNat (n / 2 ^ (56 - 8 * i))))
      rw [cellsE_next n i hlt, hv] at hs
      have HS := Lib.hid hs
      clear hs hv
      go_wp2_with fail
      go_roundw
      case rel => exact ⟨i + 1, by omega, by go_num, HS.out, HB.out.setCell (p := ⟨w.heap.size, i, none⟩) (Nat.le_refl _) _⟩
      case measure => simp [intOf]; omega
    · have i1 : ¬ ((i : Int) < 8) := by omega
      obtain rfl : i = 8 := by omega
      have hcv := run_convert_bytes_back (P := Try.prog) wr 94 9 5 ⟨w.heap.size, 0, none⟩ 8 (beOf n) Try.underlying94 Try.underlying5 Try.underlying9 (fun k hk => by
        have hk8 : k < 8 := hk
        rw [Addr.add_mid, Nat.zero_add]
        refine (HR.out.cell k).trans ?_
        unfold cellsE
        rw [List.getElem?_toArray, List.getElem?_map, List.getElem?_range hk8]
        simp only [Option.map_some, if_pos hk8]
        rw [(List.getElem?_eq_some_iff.1 (beOf_get n k hk8)).2]; rfl)
      rw [show (beOf n).length = 8 from rfl] at hcv
      go_upto_region 7 with (fail)
      refine wp_region_lit ?_
      iterate 3 go_step
      refine wpList_readIs rfl (.string (strOf (beOf n))) (execConvert 94 9 _ rfl (p := .slice (some ⟨w.heap.size, 0, none⟩) 8 8) rfl hcv) ?_
      clear hcv
      simp only [Act.put]
      go_wp2_with fail
      go_ret
      exact ⟨rfl, HB.out⟩
end Go.Proofs.Ytnddkodenkmoiaa
