/- A disk's sectors in plain Lean, and the cells that hold them. -/
import Derived.Test.YtnddkodenkmoiaaArr
namespace Go.Proofs.Ytnddkodenkmoiaa
open Go Go.RowKit
set_option linter.unusedVariables false
def bb (x : UInt8) : Value := .int .u8 (x.toNat : Int)
/-- A sector: its bytes, old ones, whether it is loose. -/
structure Sec where
  b : List UInt8
  old : List UInt8
  loose : Bool
def Sec.ok (s : Sec) : Prop := s.b.length = 64 ∧ s.old.length = 64
def secC (s : Sec) : List Value := s.b.map bb ++ (s.old.map bb ++ [.bool s.loose])
theorem secC_length {s : Sec} (h : s.ok) : (secC s).length = 129 := by unfold secC; simp [h.1, h.2]
theorem secC_b {s : Sec} (h : s.ok) {j : Nat} (hj : j < 64) : (secC s)[j]? = some (bb (s.b.getD j 0)) := by
  have h1 := h.1
  unfold secC
  rw [List.getElem?_append_left (by rw [List.length_map]; omega), List.getElem?_map, List.getD_eq_getElem?_getD, List.getElem?_eq_getElem (by omega)]; rfl
theorem secC_old {s : Sec} (h : s.ok) {j : Nat} (hj : j < 64) : (secC s)[64 + j]? = some (bb (s.old.getD j 0)) := by
  have h1 := h.1
  have h2 := h.2
  unfold secC
  rw [List.getElem?_append_right (by rw [List.length_map]; omega), List.length_map, h1, Nat.add_sub_cancel_left, List.getElem?_append_left (by rw [List.length_map]; omega), List.getElem?_map, List.getD_eq_getElem?_getD, List.getElem?_eq_getElem (by omega)]; rfl
theorem secC_loose {s : Sec} (h : s.ok) : (secC s)[128]? = some (.bool s.loose) := by
  have h1 := h.1
  have h2 := h.2
  unfold secC
  rw [List.getElem?_append_right (by rw [List.length_map]; omega), List.length_map, h1, List.getElem?_append_right (by rw [List.length_map]; omega), List.length_map, h2]; rfl
def rowC (L : List Sec) : List Value := L.flatMap secC
def okL (L : List Sec) : Prop := ∀ s ∈ L, s.ok
theorem rowC_length {L : List Sec} (h : okL L) : (rowC L).length = 129 * L.length := by
  induction L with
  | nil => rfl
  | cons s L ih =>
    show (secC s ++ rowC L).length = _
    rw [List.length_append, secC_length (h s (by simp)), ih (fun x hx => h x (by simp [hx])), List.length_cons]; omega
theorem rowC_get {L : List Sec} (h : okL L) (i j : Nat) (hj : j < 129) : (rowC L)[129 * i + j]? = (L[i]?).bind fun s => (secC s)[j]? := by
  induction L generalizing i with
  | nil => simp [rowC]
  | cons s L ih =>
    have hs := secC_length (h s (by simp))
    show (secC s ++ rowC L)[129 * i + j]? = _
    cases i with
    | zero => rw [List.getElem?_append_left (by omega)]; simp
    | succ i =>
      rw [List.getElem?_append_right (by omega), hs, show 129 * (i + 1) + j - 129 = 129 * i + j by omega, ih (fun x hx => h x (by simp [hx]))]
      simp
theorem okL.set {L : List Sec} (h : okL L) (i : Nat) {s : Sec} (hs : s.ok) : okL (L.set i s) := by
  intro x hx
  rcases List.mem_or_eq_of_mem_set hx with hx | rfl
  · exact h x hx
  · exact hs
theorem rowC_upd {L : List Sec} (h : okL L) (i : Nat) {s s' : Sec} (hi : L[i]? = some s) (hs' : s'.ok) (o : Nat) (vs : List Value) (ho : o + vs.length ≤ 129)
    (hv : ∀ j, j < 129 → (secC s')[j]? = if o ≤ j ∧ j < o + vs.length then vs[j - o]? else (secC s)[j]?) :
    putAll (rowC L).toArray (129 * i + o) vs = (rowC (L.set i s')).toArray := by
  have hil : i < L.length := (List.getElem?_eq_some_iff.1 hi).1
  have hl := rowC_length h
  have hl2 := rowC_length (h.set i hs')
  rw [List.length_set] at hl2
  refine Array.ext_getElem? fun k => ?_
  rw [putAll_get _ _ _ _ (by rw [List.size_toArray, hl]; omega), List.getElem?_toArray, List.getElem?_toArray]
  have hk := Nat.div_add_mod k 129
  have hm : k % 129 < 129 := Nat.mod_lt _ (by omega)
  rw [← hk, rowC_get h _ _ hm, rowC_get (h.set i hs') _ _ hm]
  by_cases he : k / 129 = i
  · rw [he, List.getElem?_set_self hil, hi]
    show _ = (secC s')[k % 129]?
    rw [hv _ hm]
    by_cases hc : o ≤ k % 129 ∧ k % 129 < o + vs.length
    · rw [if_pos hc, if_pos (by omega)]
      congr 1; omega
    · rw [if_neg hc, if_neg (by omega)]; rfl
  · rw [List.getElem?_set_ne (by omega), if_neg (by
      intro hc
      apply he
      have h1 : 129 * i ≤ 129 * (k / 129) + k % 129 := by omega
      omega)]
end Go.Proofs.Ytnddkodenkmoiaa
