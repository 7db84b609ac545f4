/- The padded text and the digest in plain Lean. -/
import Derived.Test.YtkbcilfcfbfiaaaDoorPad
import Derived.Test.YtkbcilfcfbfiaaaDoorTake
namespace Go.Proofs.YtkbcilfcfbfiaaaDoor
open Go Go.RowKit
set_option linter.unusedVariables false
set_option linter.unusedSimpArgs false

/-- How many zeros come behind the byte 128. -/
def zs (n : Nat) : Nat := (119 - n % 64) % 64
theorem zs_end (n j : Nat) (h : j ≤ zs n) : (n + 1 + j) % 64 = 56 ↔ j = zs n := by unfold zs at *; omega
theorem zs_lt (n : Nat) : zs n < 64 := by unfold zs; omega
/-- Byte j of the eight of a number, the highest first. -/
def bt (n j : Nat) : UInt8 := UInt8.ofNat (n / 2 ^ (56 - 8 * j))
def be (n : Nat) : Nat → List UInt8
  | 0 => []
  | j + 1 => be n j ++ [bt n j]
theorem be_length (n j : Nat) : (be n j).length = j := by
  induction j with
  | zero => rfl
  | succ j ih => simp [be, ih]
def padded (bs : List UInt8) : List UInt8 := bs ++ [128] ++ List.replicate (zs bs.length) 0
/-- The padded text. -/
def msg (bs : List UInt8) : List UInt8 := padded bs ++ be (bs.length * 8) 8
theorem padded_length (bs : List UInt8) : (padded bs).length = bs.length + 1 + zs bs.length := by unfold padded; simp; omega
theorem msg_length (bs : List UInt8) : (msg bs).length = bs.length + 1 + zs bs.length + 8 := by unfold msg; rw [List.length_append, padded_length, be_length]
theorem msg_mod (bs : List UInt8) : (msg bs).length % 64 = 0 := by
  rw [msg_length]
  have := (zs_end bs.length (zs bs.length) (Nat.le_refl _)).2 rfl
  omega

/-- Byte m of a digest. -/
def dB (s : S8) (m : Nat) : UInt8 := UInt8.ofNat ((sel s (m / 4)).toNat / 2 ^ (24 - 8 * (m % 4)))
/-- The first m bytes of a digest, the others zero. -/
def dp (s : S8) (m : Nat) : List UInt8 := (List.range 32).map fun r => if r < m then dB s r else 0
def dg (s : S8) : List UInt8 := (List.range 32).map (dB s)
theorem dp_all (s : S8) : dp s 32 = dg s := by
  unfold dp dg
  refine List.map_congr_left fun r hr => ?_
  rw [if_pos (List.mem_range.1 hr)]
theorem dp_zero (s : S8) : dp s 0 = List.replicate 32 0 := by
  unfold dp; rfl
theorem dp_length (s : S8) (m : Nat) : (dp s m).length = 32 := by simp [dp]
theorem dg_length (s : S8) : (dg s).length = 32 := by simp [dg]
theorem dp_set (s : S8) (m : Nat) (h : m < 32) : (bytesC (dp s m)).setIfInBounds m (bb (dB s m)) = bytesC (dp s (m + 1)) := by
  refine Array.ext_getElem? fun i => ?_
  have hs : (bytesC (dp s m)).size = 32 := by unfold bytesC; simp [dp_length]
  rw [Array.getElem?_setIfInBounds, hs]
  by_cases hi : m = i
  · subst hi
    rw [if_pos rfl, if_pos h]
    unfold bytesC dp
    simp [h]
  · rw [if_neg hi]
    unfold bytesC dp
    simp only [List.getElem?_toArray, List.getElem?_map]
    by_cases h32 : i < 32
    · rw [List.getElem?_range h32]
      simp only [Option.map_some]
      by_cases h1 : i < m
      · rw [if_pos h1, if_pos (by omega)]
      · rw [if_neg h1, if_neg (by omega)]
    · rw [List.getElem?_eq_none (l := List.range 32) (by rw [List.length_range]; omega)]; rfl
/-- The sum of bytes. -/
def sumOf (bs : List UInt8) : List UInt8 := dg (chain (msg bs))
end Go.Proofs.YtkbcilfcfbfiaaaDoor
