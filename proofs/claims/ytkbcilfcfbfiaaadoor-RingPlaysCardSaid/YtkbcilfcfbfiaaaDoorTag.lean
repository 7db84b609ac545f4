/- Tags, numbers, texts and keys in plain Lean. -/
import Derived.Test.YtkbcilfcfbfiaaaDoorMsg
namespace Go.Proofs.YtkbcilfcfbfiaaaDoor
open Go
set_option linter.unusedVariables false
/-- A key as it goes into sums. -/
def keyOf (k : List UInt8) : List UInt8 := if 64 < k.length then sumOf k else k
def blockOf (k : List UInt8) : List UInt8 := keyOf k ++ List.replicate (64 - (keyOf k).length) 0
def padOf (k : List UInt8) (x : UInt8) : List UInt8 := (blockOf k).map (· ^^^ x)
def tagOf (k t : List UInt8) : List UInt8 := sumOf (padOf k 0x5c ++ sumOf (padOf k 0x36 ++ t))
theorem sumOf_len (bs : List UInt8) : (sumOf bs).length = 32 := dg_length _
theorem keyOf_length (k : List UInt8) : (keyOf k).length ≤ 64 := by
  unfold keyOf; split
  · rw [sumOf_len]; omega
  · omega
theorem blockOf_length (k : List UInt8) : (blockOf k).length = 64 := by
  have := keyOf_length k
  unfold blockOf; rw [List.length_append, List.length_replicate]; omega
theorem padOf_length (k : List UInt8) (x : UInt8) : (padOf k x).length = 64 := by unfold padOf; rw [List.length_map, blockOf_length]
theorem tagOf_length (k t : List UInt8) : (tagOf k t).length = 32 := sumOf_len _
/-- A long key is its sum. -/
theorem tagOf_long (k t : List UInt8) (h : 64 < k.length) : tagOf (sumOf k) t = tagOf k t := by
  have e : keyOf (sumOf k) = keyOf k := by
    unfold keyOf; rw [if_pos h, if_neg (by rw [sumOf_len]; omega)]
  unfold tagOf padOf blockOf; rw [e]
/-- Bytes 0 behind a key play no part. -/
theorem tagOf_zeros (k t : List UInt8) (n : Nat) (h : k.length + n ≤ 64) : tagOf (k ++ List.replicate n 0) t = tagOf k t := by
  have e : blockOf (k ++ List.replicate n 0) = blockOf k := by
    have h1 : keyOf (k ++ List.replicate n 0) = k ++ List.replicate n 0 := by
      unfold keyOf; rw [if_neg (by rw [List.length_append, List.length_replicate]; omega)]
    have h2 : keyOf k = k := by unfold keyOf; rw [if_neg (by omega)]
    unfold blockOf
    rw [h1, h2, List.append_assoc, List.length_append, List.length_replicate, List.replicate_append_replicate]
    congr 2; omega
  unfold tagOf padOf; rw [e]
/-- Digits. -/
def digs (n : Nat) : List UInt8 := if h : n < 10 then [UInt8.ofNat (48 + n)] else digs (n / 10) ++ [UInt8.ofNat (48 + n % 10)]
termination_by n
decreasing_by omega
theorem digs_low {n : Nat} (h : n < 10) : digs n = [UInt8.ofNat (48 + n)] := by rw [digs, dif_pos h]
theorem digs_high {n : Nat} (h : 10 ≤ n) : digs n = digs (n / 10) ++ [UInt8.ofNat (48 + n % 10)] := by rw [digs, dif_neg (by omega)]
theorem digs_cut {n : Nat} (h : 10 ≤ n) : digs n = digs (n / 10) ++ digs (n % 10) := by rw [digs_high h, digs_low (by omega : n % 10 < 10)]
theorem digs_length (k : Nat) : ∀ n, n < 10 ^ (k + 1) → (digs n).length ≤ k + 1 := by
  induction k with
  | zero => intro n h; rw [digs_low (by simpa using h)]; simp
  | succ k ih =>
    intro n h
    by_cases h10 : n < 10
    · rw [digs_low h10]; simp
    · rw [digs_high (by omega), List.length_append]
      have := ih (n / 10) (by rw [Nat.pow_succ] at h; omega)
      simp only [List.length_singleton]; omega
def numOf (n : Int) : List UInt8 := if n < 0 then 45 :: (digs n.natAbs ++ [59]) else digs n.natAbs ++ [59]
def textOf (t : List UInt8) : List UInt8 := digs t.length ++ [58] ++ t
theorem digs_size (n : Nat) (h : n ≤ 18446744073709551616) : (digs n).length ≤ 20 := digs_length 19 n (by omega)
theorem numOf_length (n : Int) (h : n.natAbs ≤ 9223372036854775808) : (numOf n).length ≤ 22 := by
  have := digs_size n.natAbs (by omega)
  unfold numOf; split <;> simp <;> omega
/-- A key of a key; none of a label that is too long. -/
def madeOf (k l : List UInt8) (n : Int) : List UInt8 := if 16384 < l.length then [] else tagOf k (textOf l ++ numOf n)
end Go.Proofs.YtkbcilfcfbfiaaaDoor
