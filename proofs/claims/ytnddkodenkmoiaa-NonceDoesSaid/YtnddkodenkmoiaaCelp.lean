/- The cell in plain Lean: what Save and Load do, and what is there behind them. -/
import Derived.Test.YtnddkodenkmoiaaDisk7
import Derived.Test.YtnddkodenkmoiaaCell3
namespace Go.Proofs.Ytnddkodenkmoiaa
open Go.RowKit Go.Proofs
set_option linter.unusedSimpArgs false
set_option linter.unusedVariables false
/-- The c-th part of a text. -/
def partOf (t : ByteArray) (c : Nat) : ByteArray := t.extract (64 * c) (min (64 * c + 64) t.size)
theorem partOf_size (t : ByteArray) (c : Nat) : (partOf t c).size ≤ 64 := by
  unfold partOf; rw [ByteArray.size_extract]; omega
/-- The parts are written, from the c-th on; at most m of them. -/
def partsF (base : Nat) (t : ByteArray) : Nat → Nat → Dk → Dk × Int
  | 0, _, x => (x, 0)
  | m + 1, c, x => if 64 * c < t.size then
      if x.writeR ((base + c : Nat) : Int) (partOf t c) = 0 then partsF base t m (c + 1) (x.write ((base + c : Nat) : Int) (partOf t c))
      else (x.write ((base + c : Nat) : Int) (partOf t c), x.writeR ((base + c : Nat) : Int) (partOf t c))
    else (x, 0)
def headL (n l : Nat) : List UInt8 := beOf n ++ (beOf l ++ (List.replicate 40 0 ++ beOf n))
def headOf (n l : Nat) : ByteArray := strOf (headL n l)
/-- Behind the parts: sync, the slot, sync. -/
def headF (i n l : Nat) (p : Dk × Int) : Dk × Int :=
  if p.2 = 0 then
    if p.1.syncR = 0 then
      if p.1.sync.writeR (i : Int) (headOf n l) = 0 then ((p.1.sync.write (i : Int) (headOf n l)).sync, (p.1.sync.write (i : Int) (headOf n l)).syncR)
      else (p.1.sync.write (i : Int) (headOf n l), p.1.sync.writeR (i : Int) (headOf n l))
    else (p.1.sync, p.1.syncR)
  else p
def Dk.kOf (x : Dk) (f size : Nat) : Int := lastOf (slotS x f size).1 (slotS x f size).2 (slotS x (f + 1) size).1 (slotS x (f + 1) size).2
def Dk.toN (x : Dk) (f size : Nat) : Nat := if x.kOf f size = 0 then 1 else 0
def Dk.cnt (x : Dk) (f size : Nat) : Nat := (if x.kOf f size < 0 then 1 else if x.kOf f size = 0 then (slotS x f size).1 + 1 else (slotS x (f + 1) size).1 + 1).toNat
/-- Save: the disk behind it, and what is answered. -/
def Dk.saveF (x : Dk) (f size : Nat) (t : ByteArray) : Dk × Int :=
  if 64 * size < t.size then (x, 4) else if x.down then (x, 12) else if 1099511627776 < x.cnt f size then (x, 3) else
  headF (f + x.toN f size) (x.cnt f size) t.size (partsF (f + 2 + x.toN f size * size) t size 0 x)
/-- The bytes of a sector. -/
def Dk.B (x : Dk) (i : Nat) : List UInt8 := ((x.L[i]?).map Sec.b).getD []
def fieldB (x : Dk) (base size : Nat) : List UInt8 := (List.range size).flatMap fun c => x.B (base + c)
/-- Load: text, count, answer. -/
def Dk.loadF (x : Dk) (f size : Nat) : ByteArray × Int × Int :=
  if x.down then (⟨#[]⟩, 0, 12) else if x.kOf f size < 0 then (⟨#[]⟩, 0, 9) else
  if x.kOf f size = 0 then (strOf ((fieldB x (f + 2) size).take (slotS x f size).2.toNat), (slotS x f size).1, 0)
  else (strOf ((fieldB x (f + 2 + size) size).take (slotS x (f + 1) size).2.toNat), (slotS x (f + 1) size).1, 0)

/-! A number's bytes. -/
theorem beOf_length (n : Nat) : (beOf n).length = 8 := by unfold beOf; rw [List.length_map, List.length_range]
theorem u8n (n : Nat) : (UInt8.ofNat n).toNat = n % 256 := by simp
theorem foldN_inj : ∀ (n : Nat) {a b : List UInt8}, a.length = n → b.length = n → foldN a = foldN b → a = b
  | 0, a, b, ha, hb, _ => by rw [List.eq_nil_of_length_eq_zero ha, List.eq_nil_of_length_eq_zero hb]
  | n + 1, a, b, ha, hb, h => by
    have ha0 : a ≠ [] := by intro h; rw [h] at ha; simp at ha
    have hb0 : b ≠ [] := by intro h; rw [h] at hb; simp at hb
    rw [← List.dropLast_concat_getLast ha0, ← List.dropLast_concat_getLast hb0] at h ⊢
    rw [foldN_snoc, foldN_snoc] at h
    have l1 := (a.getLast ha0).toNat_lt
    have l2 := (b.getLast hb0).toNat_lt
    have e1 : (a.getLast ha0).toNat = (b.getLast hb0).toNat := by omega
    have e2 := foldN_inj n (a := a.dropLast) (b := b.dropLast) (by simp [ha]) (by simp [hb]) (by omega)
    rw [e2, UInt8.toNat_inj.1 e1]
theorem foldN_beOf (n : Nat) (h : n < 18446744073709551616) : foldN (beOf n) = n := by
  unfold foldN beOf
  simp only [List.range_succ, List.range_zero, List.nil_append, List.map_append, List.map_cons, List.map_nil, List.cons_append, List.foldl_cons, List.foldl_nil, u8n]
  omega
theorem numI_beOf (n : Nat) (l : List UInt8) (h : n < 9223372036854775808) : numI (beOf n ++ l) = n := by
  unfold numI
  rw [List.take_append_of_le_length (by rw [beOf_length]; omega), List.take_of_length_le (by rw [beOf_length]; omega), foldN_beOf n (by omega)]
  unfold sgn; rw [if_pos h]
theorem numI_take {a b : List UInt8} (h : a.take 8 = b.take 8) : numI a = numI b := by unfold numI; rw [h]
theorem headL_length (n l : Nat) : (headL n l).length = 64 := by unfold headL; simp [beOf_length]
theorem headL_take (n l : Nat) : (headL n l).take 8 = beOf n := by unfold headL; rw [List.take_append_of_le_length (by rw [beOf_length]; omega), List.take_of_length_le (by rw [beOf_length]; omega)]
theorem headL_drop8 (n l : Nat) : (headL n l).drop 8 = beOf l ++ (List.replicate 40 0 ++ beOf n) := by
  unfold headL; rw [List.drop_append_of_le_length (by rw [beOf_length]; omega), List.drop_of_length_le (by rw [beOf_length]; omega)]; rfl
theorem headL_drop (n l : Nat) : (headL n l).drop 56 = beOf n := by
  have h : headL n l = (beOf n ++ (beOf l ++ List.replicate 40 0)) ++ beOf n := by unfold headL; simp
  rw [h, List.drop_append_of_le_length (by simp [beOf_length]), List.drop_of_length_le (by simp [beOf_length])]; rfl
theorem headOf_size (n l : Nat) : (headOf n l).size = 64 := by unfold headOf; rw [strOf_size, headL_length]
theorem headOf_by (n l : Nat) : by_ (headOf n l) = headL n l := rfl
theorem fillOf_head (n l : Nat) : fillOf (by_ (headOf n l)) = headL n l := by
  unfold fillOf; rw [headOf_by, headL_length]; simp
theorem says_head (n l size : Nat) (h1 : 1 ≤ n) (h2 : n ≤ 1099511627776) (hl : l ≤ 64 * size) (hs : size ≤ 255) : says (headL n l) size = ((n : Int), (l : Int)) := by
  have e0 : numI (headL n l) = n := by unfold headL; exact numI_beOf n _ (by omega)
  have e1 : numI ((headL n l).drop 56) = n := by rw [headL_drop]; have := numI_beOf n [] (by omega); rwa [List.append_nil] at this
  have e2 : numI ((headL n l).drop 8) = l := by rw [headL_drop8]; exact numI_beOf l _ (by omega)
  unfold says
  rw [e0, e1, e2, if_neg (by omega)]
theorem says_head0 (l size : Nat) : says (headL 0 l) size = (0, 0) := by
  have e0 : numI (headL 0 l) = 0 := by unfold headL; exact numI_beOf 0 _ (by omega)
  unfold says
  rw [e0, if_pos (by omega)]
theorem z64_head : z64 = headL 0 0 := by decide +kernel
/-- What the other slot may hold. -/
def Other (b : List UInt8) (n : Nat) : Prop := b.length = 64 ∧ b.drop 56 ≠ beOf (n + 1) ∧ ∃ m k, k ≤ 8 ∧ (m < n ∨ m = 0) ∧ b.take 8 = (beOf (n + 1)).take k ++ (beOf m).drop k ∧ (k < 8 → b.drop 56 = beOf m)
theorem beOf_inj {a b : Nat} (ha : a < 18446744073709551616) (hb : b < 18446744073709551616) (h : beOf a = beOf b) : a = b := by
  rw [← foldN_beOf a ha, ← foldN_beOf b hb, h]
theorem Other.head (m n l : Nat) (hn : n ≤ 1099511627776) (hm : m < n ∨ m = 0) : Other (headL m l) n := by
  refine ⟨headL_length m l, ?_, m, 0, by omega, hm, ?_, ?_⟩
  · rw [headL_drop]; intro h; have := beOf_inj (by omega) (by omega) h; omega
  · rw [headL_take]; rfl
  · intro _; exact headL_drop m l
theorem Other.says {b : List UInt8} {n : Nat} (size : Int) (hn : n ≤ 1099511627776) (h : Other b n) : says b size = (0, 0) ∨ (1 ≤ (says b size).1 ∧ (says b size).1 < n) := by
  obtain ⟨hl, h1, m, k, hk, hm, h2, h3⟩ := h
  by_cases hz : (Go.Proofs.Ytnddkodenkmoiaa.says b size) = (0, 0)
  · exact .inl hz
  · right
    have hz' := hz
    unfold Go.Proofs.Ytnddkodenkmoiaa.says at hz ⊢
    split at hz
    · exact absurd rfl hz
    · rename_i hc
      rw [if_neg hc]
      have hc1 : numI b = numI (b.drop 56) := by omega
      by_cases h8 : k < 8
      · rw [h3 h8] at hc1
        have := numI_beOf m [] (by omega)
        rw [List.append_nil] at this
        rw [this] at hc1
        show 1 ≤ numI b ∧ numI b < n
        omega
      · exfalso
        have hk8 : k = 8 := by omega
        subst hk8
        have h2' : b.take 8 = (beOf (n + 1)).take 8 := by
          rw [h2, List.drop_of_length_le (by rw [beOf_length]; omega), List.append_nil]
        have e0 : numI b = ((n + 1 : Nat) : Int) := by
          rw [numI_take h2']
          have := numI_beOf (n + 1) [] (by omega)
          rwa [List.append_nil] at this
        apply h1
        have hl8 : (b.drop 56).length = 8 := by rw [List.length_drop, hl]
        have e1 : foldN (b.drop 56) = n + 1 := by
          have : numI (b.drop 56) = sgn (foldN (b.drop 56)) := by unfold numI; rw [List.take_of_length_le (by omega)]
          rw [this] at hc1
          have hlt := foldN_lt (b.drop 56)
          rw [hl8] at hlt
          rw [e0] at hc1
          unfold sgn at hc1
          split at hc1 <;> omega
        exact foldN_inj 8 hl8 (beOf_length _) (by rw [e1, foldN_beOf _ (by omega)])
/-- Torn: the new slot, or still another one. -/
theorem Other.torn {b : List UInt8} {n : Nat} (l k : Nat) (hk : k ≤ 64) (h : Other b n) : (headL (n + 1) l).take k ++ b.drop k = headL (n + 1) l ∨ Other ((headL (n + 1) l).take k ++ b.drop k) n := by
  obtain ⟨hl, h1, m, k0, hk0, hm, h2, h3⟩ := h
  have hT : ((headL (n + 1) l).take k).length = k := by rw [List.length_take, headL_length]; omega
  have hlen : ((headL (n + 1) l).take k ++ b.drop k).length = 64 := by rw [List.length_append, hT, List.length_drop, hl]; omega
  by_cases c1 : k ≤ 56
  · right
    have hd : ((headL (n + 1) l).take k ++ b.drop k).drop 56 = b.drop 56 := by
      rw [List.drop_append, hT, List.drop_of_length_le (by omega), List.nil_append, List.drop_drop]; congr 1; omega
    by_cases c2 : 8 ≤ k
    · refine ⟨hlen, by rw [hd]; exact h1, m, 8, by omega, hm, ?_, by omega⟩
      rw [List.take_append_of_le_length (by omega), List.take_take, Nat.min_eq_left c2, headL_take, List.drop_of_length_le (by rw [beOf_length]; omega), List.append_nil, List.take_of_length_le (by rw [beOf_length]; omega)]
    · refine ⟨hlen, by rw [hd]; exact h1, m, max k k0, by omega, hm, ?_, fun h8 => by rw [hd]; exact h3 (by omega)⟩
      have e1 : ((headL (n + 1) l).take k ++ b.drop k).take 8 = (beOf (n + 1)).take k ++ (b.take 8).drop k := by
        rw [List.take_append, hT, List.take_of_length_le (by omega), List.take_drop, show k + (8 - k) = 8 by omega]
        congr 1
        rw [← headL_take (n + 1) l, List.take_take, Nat.min_eq_left (by omega)]
      rw [e1, h2, List.drop_append, List.drop_take, List.length_take, beOf_length]
      refine List.ext_getElem? fun i => ?_
      by_cases ck : k ≤ k0
      · rw [Nat.max_eq_right ck, Nat.min_eq_left (by omega), show k - k0 = 0 by omega, List.drop_zero, ← List.append_assoc]
        congr 2
        rw [← List.drop_take]
        conv => rhs; rw [← List.take_append_drop k ((beOf (n + 1)).take k0), List.take_take, Nat.min_eq_left ck]
      · rw [Nat.max_eq_left (by omega), Nat.min_eq_left (by omega), show k0 - k = 0 by omega, List.take_zero, List.nil_append, List.drop_drop]
        congr 3; omega
  · have hd : ((headL (n + 1) l).take k ++ b.drop k).drop 56 = (beOf (n + 1)).take (k - 56) ++ (b.drop 56).drop (k - 56) := by
      rw [List.drop_append_of_le_length (by omega), List.drop_take, headL_drop, List.drop_drop]; congr 2; omega
    by_cases c3 : (beOf (n + 1)).take (k - 56) ++ (b.drop 56).drop (k - 56) = beOf (n + 1)
    · left
      have e : b.drop k = (headL (n + 1) l).drop k := by
        have h4 := congrArg (List.drop (k - 56)) c3
        rw [List.drop_append, List.length_take, beOf_length, Nat.min_eq_left (by omega), Nat.sub_self, List.drop_zero, List.drop_of_length_le (by rw [List.length_take, beOf_length]; omega), List.nil_append, List.drop_drop, ← headL_drop (n + 1) l, List.drop_drop] at h4
        rw [show 56 + (k - 56) = k by omega] at h4
        exact h4
      rw [e, List.take_append_drop]
    · right
      refine ⟨hlen, by rw [hd]; exact c3, m, 8, by omega, hm, ?_, by omega⟩
      rw [List.take_append_of_le_length (by omega), List.take_take, Nat.min_eq_left (by omega), headL_take, List.drop_of_length_le (by rw [beOf_length]; omega), List.append_nil, List.take_of_length_le (by rw [beOf_length]; omega)]
end Go.Proofs.Ytnddkodenkmoiaa
