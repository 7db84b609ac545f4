/- The sum of bytes in plain Lean: blocks, the padded text, the digest; and the cells of the program's sum. -/
import Derived.Test.YtkbcilfcfbfiaaaDoorWords
namespace Go.Proofs.YtkbcilfcfbfiaaaDoor
open Go Go.RowKit
set_option linter.unusedVariables false
set_option linter.unusedSimpArgs false

def iv : S8 := ⟨1779033703, 3144134277, 1013904242, 2773480762, 1359893119, 2600822924, 528734635, 1541459225⟩
def blk (bs : List UInt8) (k : Nat) : List UInt8 := (bs.drop (64 * k)).take 64
def chainN (bs : List UInt8) : Nat → S8
  | 0 => iv
  | k + 1 => compress (chainN bs k) (blk bs k)
/-- The state behind the full blocks of bs. -/
def chain (bs : List UInt8) : S8 := chainN bs (bs.length / 64)
/-- What is no block yet. -/
def rest (bs : List UInt8) : List UInt8 := bs.drop (64 * (bs.length / 64))
theorem rest_length (bs : List UInt8) : (rest bs).length = bs.length % 64 := by unfold rest; rw [List.length_drop]; omega
theorem blk_append (bs t : List UInt8) (k : Nat) (h : 64 * (k + 1) ≤ bs.length) : blk (bs ++ t) k = blk bs k := by
  unfold blk
  rw [List.drop_append_of_le_length (by omega), List.take_append_of_le_length (by rw [List.length_drop]; omega)]
theorem chainN_append (bs t : List UInt8) : ∀ k, 64 * k ≤ bs.length → chainN (bs ++ t) k = chainN bs k
  | 0, _ => rfl
  | k + 1, h => by
    show compress (chainN (bs ++ t) k) (blk (bs ++ t) k) = _
    rw [chainN_append bs t k (by omega), blk_append bs t k h]; rfl
theorem chain_short (bs t : List UInt8) (h : bs.length % 64 + t.length < 64) : chain (bs ++ t) = chain bs ∧ rest (bs ++ t) = rest bs ++ t := by
  have e : (bs ++ t).length / 64 = bs.length / 64 := by rw [List.length_append]; omega
  refine ⟨?_, ?_⟩
  · unfold chain; rw [e, chainN_append _ _ _ (by omega)]
  · unfold rest; rw [e, List.drop_append_of_le_length (by omega)]
theorem chain_full (bs t : List UInt8) (h : bs.length % 64 + t.length = 64) : chain (bs ++ t) = compress (chain bs) (rest bs ++ t) ∧ rest (bs ++ t) = [] := by
  have e : (bs ++ t).length / 64 = bs.length / 64 + 1 := by rw [List.length_append]; omega
  refine ⟨?_, ?_⟩
  · have hr := rest_length bs
    unfold chain; rw [e]
    show compress (chainN (bs ++ t) _) (blk (bs ++ t) _) = _
    rw [chainN_append _ _ _ (by omega)]
    congr 1
    unfold blk
    rw [List.drop_append_of_le_length (by omega)]
    show List.take 64 (rest bs ++ t) = _
    rw [List.take_of_length_le (by rw [List.length_append]; omega)]
  · unfold rest; rw [e, List.drop_eq_nil_of_le (by rw [List.length_append]; omega)]

/-- The cells of a sum. -/
def smL (s : S8) (p : List UInt8) (n : Nat) : List Value := s.cells.toList ++ (p.map bb ++ [.int .i64 (n : Int)])
def smC (s : S8) (p : List UInt8) (n : Nat) : Array Value := (smL s p n).toArray
theorem cells_len (s : S8) : s.cells.toList.length = 8 := rfl
theorem smL_length (s : S8) (p : List UInt8) (n : Nat) (h : p.length = 64) : (smL s p n).length = 73 := by
  unfold smL; rw [List.length_append, List.length_append, List.length_map, cells_len, h]; rfl
theorem smC_size (s : S8) (p : List UInt8) (n : Nat) (h : p.length = 64) : (smC s p n).size = 73 := by
  unfold smC; rw [List.size_toArray, smL_length s p n h]
theorem smC_get (s : S8) (p : List UInt8) (n i : Nat) : (smC s p n)[i]? = (smL s p n)[i]? := by unfold smC; simp
theorem smL_state (s : S8) (p : List UInt8) (n i : Nat) (h : i < 8) : (smL s p n)[i]? = s.cells[i]? := by
  unfold smL
  rw [List.getElem?_append_left (by rw [cells_len]; exact h), Array.getElem?_toList]
theorem smL_part (s : S8) (p : List UInt8) (n i : Nat) (hp : p.length = 64) (h : i < 64) : (smL s p n)[8 + i]? = (p.map bb)[i]? := by
  unfold smL
  rw [List.getElem?_append_right (by rw [cells_len]; omega), cells_len, Nat.add_sub_cancel_left, List.getElem?_append_left (by rw [List.length_map, hp]; exact h)]
theorem smL_many (s : S8) (p : List UInt8) (n : Nat) (hp : p.length = 64) : (smL s p n)[72]? = some (.int .i64 (n : Int)) := by
  unfold smL
  rw [List.getElem?_append_right (by rw [cells_len]; omega), cells_len, List.getElem?_append_right (by rw [List.length_map, hp]; omega), List.length_map, hp]; rfl
theorem smC_many (s : S8) (p : List UInt8) (n m : Nat) (hp : p.length = 64) : (smC s p n).setIfInBounds 72 (.int .i64 (m : Int)) = smC s p m := by
  refine Array.ext_getElem? fun i => ?_
  rw [Array.getElem?_setIfInBounds]
  by_cases h : 72 = i
  · subst h
    rw [if_pos rfl, if_pos (by rw [smC_size s p n hp]; omega), smC_get, smL_many s p m hp]
  · rw [if_neg h, smC_get, smC_get]
    by_cases h8 : i < 8
    · rw [smL_state _ _ _ _ h8, smL_state _ _ _ _ h8]
    · by_cases h72 : i < 72
      · have e : i = 8 + (i - 8) := by omega
        rw [e, smL_part _ _ _ _ hp (by omega), smL_part _ _ _ _ hp (by omega)]
      · rw [List.getElem?_eq_none (by rw [smL_length _ _ _ hp]; omega), List.getElem?_eq_none (by rw [smL_length _ _ _ hp]; omega)]
theorem smC_state (s s' : S8) (p : List UInt8) (n : Nat) (hp : p.length = 64) : putAll (smC s p n) 0 s'.cells.toList = smC s' p n := by
  refine Array.ext_getElem? fun i => ?_
  rw [putAll_get _ _ _ _ (by rw [cells_len, smC_size s p n hp]; omega), cells_len, smC_get, smC_get]
  by_cases h8 : i < 8
  · rw [if_pos (by omega), smL_state _ _ _ _ h8, Nat.sub_zero, Array.getElem?_toList]
  · rw [if_neg (by omega)]
    unfold smL
    rw [List.getElem?_append_right (l₁ := s.cells.toList) (by rw [cells_len]; omega), List.getElem?_append_right (l₁ := s'.cells.toList) (by rw [cells_len]; omega), cells_len, cells_len]
/-- Bytes t laid at place a. -/
def lay (p : List UInt8) (a : Nat) (t : List UInt8) : List UInt8 := p.take a ++ (t ++ p.drop (a + t.length))
theorem lay_length (p : List UInt8) (a : Nat) (t : List UInt8) (h : a + t.length ≤ p.length) : (lay p a t).length = p.length := by
  unfold lay; simp only [List.length_append, List.length_take, List.length_drop]; omega
theorem lay_get (p : List UInt8) (a : Nat) (t : List UInt8) (h : a + t.length ≤ p.length) (i : Nat) : (lay p a t)[i]? = if a ≤ i ∧ i < a + t.length then t[i - a]? else p[i]? := by
  have hl : (p.take a).length = a := by rw [List.length_take]; omega
  unfold lay
  by_cases h1 : i < a
  · rw [List.getElem?_append_left (by omega), if_neg (by omega), List.getElem?_take_of_lt h1]
  · rw [List.getElem?_append_right (by omega), hl]
    by_cases h2 : i < a + t.length
    · rw [List.getElem?_append_left (by omega), if_pos (by omega)]
    · rw [List.getElem?_append_right (by omega), if_neg (by omega), List.getElem?_drop]
      congr 1; omega
theorem lay_take (p : List UInt8) (a : Nat) (t : List UInt8) (h : a + t.length ≤ p.length) : (lay p a t).take (a + t.length) = p.take a ++ t := by
  have hl : (p.take a).length = a := by rw [List.length_take]; omega
  unfold lay
  rw [← List.append_assoc, List.take_append_of_le_length (by rw [List.length_append]; omega), List.take_of_length_le (by rw [List.length_append]; omega)]
theorem smC_part (s : S8) (p : List UInt8) (n a : Nat) (t : List UInt8) (hp : p.length = 64) (h : a + t.length ≤ 64) : putAll (smC s p n) (8 + a) (t.map bb) = smC s (lay p a t) n := by
  have hq : (lay p a t).length = 64 := by rw [lay_length _ _ _ (by omega), hp]
  refine Array.ext_getElem? fun i => ?_
  rw [putAll_get _ _ _ _ (by rw [List.length_map, smC_size s p n hp]; omega), List.length_map, smC_get, smC_get]
  by_cases h8 : i < 8
  · rw [if_neg (by omega), smL_state _ _ _ _ h8, smL_state _ _ _ _ h8]
  · by_cases h72 : i < 72
    · have e : i = 8 + (i - 8) := by omega
      rw [e, smL_part _ _ _ _ hp (by omega), smL_part _ _ _ _ hq (by omega)]
      simp only [List.getElem?_map]
      rw [lay_get _ _ _ (by omega)]
      by_cases h1 : a ≤ i - 8 ∧ i - 8 < a + t.length
      · rw [if_pos (by omega), if_pos h1, show 8 + (i - 8) - (8 + a) = i - 8 - a by omega]
      · rw [if_neg (by omega), if_neg h1]
    · rw [if_neg (by omega)]
      by_cases h73 : i = 72
      · subst h73; rw [smL_many _ _ _ hp, smL_many _ _ _ hq]
      · rw [List.getElem?_eq_none (by rw [smL_length _ _ _ hp]; omega), List.getElem?_eq_none (by rw [smL_length _ _ _ hq]; omega)]

/-- In block g lies a sum to which the bytes bs came. -/
def Holds (w : World) (g : Nat) (bs : List UInt8) : Prop := ∃ p : List UInt8, p.length = 64 ∧ p.take (bs.length % 64) = rest bs ∧ Blk w g 94 (smC (chain bs) p bs.length)
theorem Holds.lt {w : World} {g : Nat} {bs : List UInt8} (h : Holds w g bs) : g < w.heap.size := by obtain ⟨_, _, _, h⟩ := h; exact h.lt
theorem Holds.grown {w w' : World} {g : Nat} {bs : List UInt8} {row : Option Nat} (h : Holds w g bs) (hb : w.grownBy w' row) (hg : some g ≠ row) : Holds w' g bs := by
  obtain ⟨p, h1, h2, h3⟩ := h
  exact ⟨p, h1, h2, h3.grown hb hg⟩
theorem Holds.below {B : Nat} {w w' : World} {g : Nat} {bs : List UInt8} (h : Holds w g bs) (hb : Below B w w') (hg : g < B) : Holds w' g bs := by
  obtain ⟨p, h1, h2, h3⟩ := h
  exact ⟨p, h1, h2, h3.below hb hg⟩
end Go.Proofs.YtkbcilfcfbfiaaaDoor
