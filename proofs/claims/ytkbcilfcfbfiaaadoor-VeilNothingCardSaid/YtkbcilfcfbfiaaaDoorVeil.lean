/- Rows and veils in plain Lean. -/
import Derived.Test.YtkbcilfcfbfiaaaDoorTag
namespace Go.Proofs.YtkbcilfcfbfiaaaDoor
open Go
set_option linter.unusedVariables false
/-- A row's block. -/
def rowB (k : List UInt8) (num : Int) (i : Nat) : List UInt8 := tagOf k (numOf num ++ numOf (i : Int))
theorem rowB_length (k : List UInt8) (num : Int) (i : Nat) : (rowB k num i).length = 32 := tagOf_length _ _
/-- The first m blocks. -/
def rowsB (k : List UInt8) (num : Int) : Nat → List UInt8
  | 0 => []
  | m + 1 => rowsB k num m ++ rowB k num m
theorem rowsB_length (k : List UInt8) (num : Int) (m : Nat) : (rowsB k num m).length = 32 * m := by
  induction m with
  | zero => rfl
  | succ m ih => unfold rowsB; rw [List.length_append, ih, rowB_length]; omega
/-- The first n bytes of a row. -/
def rowOf (k : List UInt8) (num : Int) (n : Nat) : List UInt8 := (rowsB k num ((n + 31) / 32)).take n
theorem rowOf_length (k : List UInt8) (num : Int) (n : Nat) : (rowOf k num n).length = n := by
  unfold rowOf; rw [List.length_take, rowsB_length]; omega
theorem rowsB_get (k : List UInt8) (num : Int) (m i : Nat) (h : i < 32 * m) : (rowsB k num m)[i]? = (rowB k num (i / 32))[i % 32]? := by
  induction m with
  | zero => omega
  | succ m ih =>
    unfold rowsB
    by_cases h2 : i < 32 * m
    · rw [List.getElem?_append_left (by rw [rowsB_length]; omega), ih h2]
    · rw [List.getElem?_append_right (by rw [rowsB_length]; omega), rowsB_length]
      have : i / 32 = m := by omega
      rw [this]; congr 1; omega
theorem rowOf_get (k : List UInt8) (num : Int) (n i : Nat) (h : i < n) : (rowOf k num n)[i]? = (rowB k num (i / 32))[i % 32]? := by
  unfold rowOf
  rw [List.getElem?_take_of_lt h, rowsB_get _ _ _ _ (by omega)]
/-- As the reference comes to it: c blocks are there, and so many bytes of the next one. -/
def rowP (k : List UInt8) (num : Int) (n c j : Nat) : List UInt8 := (rowsB k num c).take n ++ (rowB k num c).take j
theorem rowP_zero (k : List UInt8) (num : Int) (n c : Nat) : rowP k num n c 0 = (rowsB k num c).take n := by unfold rowP; simp
theorem rowP_next (k : List UInt8) (num : Int) (n c j : Nat) (h : j < 32) : rowP k num n c j ++ [(rowB k num c).getD j 0] = rowP k num n c (j + 1) := by
  unfold rowP
  rw [List.append_assoc, List.take_add_one, List.getD_eq_getElem?_getD]
  have hl := rowB_length k num c
  rw [List.getElem?_eq_getElem (by omega)]
  rfl
theorem rowP_end (k : List UInt8) (num : Int) (n c j : Nat) (hc : 32 * c < n) (hj : j ≤ 32) (hn : 32 * c + j ≤ n) (h : j = 32 ∨ 32 * c + j = n) : rowP k num n c j = (rowsB k num (c + 1)).take n := by
  unfold rowP
  have hl := rowB_length k num c
  have hr := rowsB_length k num c
  rw [List.take_of_length_le (by omega : (rowsB k num c).length ≤ n)]
  show _ = (rowsB k num c ++ rowB k num c).take n
  rw [List.take_append, List.take_of_length_le (by omega : (rowsB k num c).length ≤ n), hr]
  congr 1
  rcases h with h | h
  · rw [List.take_of_length_le (by omega), List.take_of_length_le (by omega)]
  · congr 1; omega
theorem rowP_length (k : List UInt8) (num : Int) (n c j : Nat) : (rowP k num n c j).length ≤ 32 * c + j := by
  unfold rowP; rw [List.length_append, List.length_take, List.length_take, rowsB_length]; omega
theorem rowsB_all (k : List UInt8) (num : Int) (n c : Nat) (h : n ≤ 32 * c) : (rowsB k num c).take n = rowOf k num n := by
  refine List.ext_getElem? fun i => ?_
  by_cases hi : i < n
  · rw [List.getElem?_take_of_lt hi, rowsB_get _ _ _ _ (by omega), rowOf_get _ _ _ _ hi]
  · rw [List.getElem?_eq_none (by rw [List.length_take]; omega), List.getElem?_eq_none (by rw [rowOf_length]; omega)]
/-- A veiled text. -/
def veilOf (k : List UInt8) (num : Int) (t : List UInt8) : List UInt8 := List.zipWith (· ^^^ ·) t (rowOf k num t.length)
theorem veilOf_length (k : List UInt8) (num : Int) (t : List UInt8) : (veilOf k num t).length = t.length := by
  unfold veilOf; rw [List.length_zipWith, rowOf_length]; omega
/-- The row's byte at a place. -/
def rowAt (k : List UInt8) (num : Int) (i : Nat) : UInt8 := (rowB k num (i / 32)).getD (i % 32) 0
theorem rowOf_at (k : List UInt8) (num : Int) (n i : Nat) (h : i < n) : (rowOf k num n)[i]? = some (rowAt k num i) := by
  rw [rowOf_get _ _ _ _ h]
  unfold rowAt
  rw [List.getD_eq_getElem?_getD, List.getElem?_eq_getElem (by rw [rowB_length]; omega)]; rfl
theorem veilOf_get (k : List UInt8) (num : Int) (t : List UInt8) (i : Nat) (h : i < t.length) : (veilOf k num t)[i]? = some (t.getD i 0 ^^^ rowAt k num i) := by
  unfold veilOf
  rw [List.getElem?_zipWith, rowOf_at _ _ _ _ h, List.getElem?_eq_getElem h, List.getD_eq_getElem?_getD, List.getElem?_eq_getElem h]; rfl
theorem veilOf_twice (k : List UInt8) (num : Int) (t : List UInt8) : veilOf k num (veilOf k num t) = t := by
  refine List.ext_getElem? fun i => ?_
  by_cases hi : i < t.length
  · rw [veilOf_get _ _ _ _ (by rw [veilOf_length]; exact hi), List.getD_eq_getElem?_getD, veilOf_get _ _ _ _ hi, List.getElem?_eq_getElem hi, List.getD_eq_getElem?_getD, List.getElem?_eq_getElem hi]
    simp [UInt8.xor_assoc]
  · rw [List.getElem?_eq_none (by rw [veilOf_length, veilOf_length]; omega), List.getElem?_eq_none (by omega)]
theorem veilOf_zeros (k : List UInt8) (num : Int) (n : Nat) : veilOf k num (List.replicate n 0) = rowOf k num n := by
  refine List.ext_getElem? fun i => ?_
  by_cases hi : i < n
  · rw [veilOf_get _ _ _ _ (by rw [List.length_replicate]; exact hi), rowOf_at _ _ _ _ hi]
    simp [List.getD_eq_getElem?_getD, hi]
  · rw [List.getElem?_eq_none (by rw [veilOf_length, List.length_replicate]; omega), List.getElem?_eq_none (by rw [rowOf_length]; omega)]
theorem rowOf_take (k : List UInt8) (num : Int) (a n : Nat) (h : a ≤ n) : (rowOf k num n).take a = rowOf k num a := by
  refine List.ext_getElem? fun i => ?_
  by_cases hi : i < a
  · rw [List.getElem?_take_of_lt hi, rowOf_at _ _ _ _ (by omega), rowOf_at _ _ _ _ hi]
  · rw [List.getElem?_eq_none (by rw [List.length_take]; omega), List.getElem?_eq_none (by rw [rowOf_length]; omega)]
end Go.Proofs.YtkbcilfcfbfiaaaDoor
