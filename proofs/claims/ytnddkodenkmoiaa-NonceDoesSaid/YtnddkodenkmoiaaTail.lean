/- Appending to a row of bytes that came of a string (its mark stands behind its last cell). -/
import Derived.Lib.FrozenHead2
import Derived.Laws.OwnMore
import Derived.Laws.IdiomStrings
import Derived.Deep.DeepAppendWide
import Derived.Test.YtnddkodenkmoiaaArr
namespace Go.Proofs.Ytnddkodenkmoiaa
open Go Go.RowKit
set_option linter.unusedVariables false

/-- v is a slice of n cells xs (one cell an element) in a block from base on, which only v's holder has; no cell of it is frozen. -/
def Own1 (w : World) (base : Nat) (e : TypeId) (v : Value) (n : Nat) (xs : List Value) : Prop :=
  xs.length = n ∧ ∃ g cap cur fz, v = .slice (some ⟨g, 0, none⟩) n cap ∧ base ≤ g ∧ w.heap[g]? = some (.cells cur e fz) ∧ (fz = (0, 0) ∨ cur.size ≤ fz.1) ∧ n ≤ cap ∧ cap ≤ maxLen ∧ cur.size = cap ∧ cur.toList.take n = xs

section
variable {P : Program} (w : World)
theorem run_append_tail (t ty e : TypeId) (i : TypeInfo) (ht : P.underlying t = some (.slice e)) (hi : P.info? e = some i) (h1s : i.size = 1)
    (g sLen sCap : Nat) (hth : ∀ j, j < sCap → (w.cell? ⟨g, j, none⟩).isSome = true ∧ w.frozen? ⟨g, j, none⟩ = false)
    (a : Addr) (m c : Nat) (news : List Value) (hl : news.length = m) (hnews : ∀ j u, news[j]? = some u → w.cell? (a.add j) = some u) (h1 : ∀ u ∈ news, u.oneCell' = true)
    (hroom : sLen + m ≤ sCap) :
    (Builtin.append_ #[t, t] ty #[.slice (some ⟨g, 0, none⟩) sLen sCap, .slice (some a) m c]).run P w =
      .ok (.slice (some ⟨g, 0, none⟩) (sLen + m) sCap) (w.setCells g sLen news) := by
  have hf := run_firstCells_some (P := P) w i.size m a m c news (by rw [h1s]; simpa using hl) hnews
  have hst := run_storeCells_cells (P := P) g sLen news 0 w (fun j hj => by simpa using (hth (sLen + j) (by omega)).1) (fun j hj => by simpa using (hth (sLen + j) (by omega)).2) h1
  simp only [Nat.add_zero] at hst
  simp [Builtin.append_, run_underlying ht, sizeOf, typeInfo, hi, h1s, Builtin.lenOf, hroom, Addr.add_lit]
  rw [h1s] at hf
  simp [hf, hst]
theorem heap_set_ {g : Nat} {t : TypeId} {fz : Nat × Nat} {w : World} {cs : Array Value} (h : w.heap[g]? = some (.cells cs t fz)) (i : Nat) (u : Value) : (w.setCell ⟨g, i, none⟩ u).heap[g]? = some (.cells (cs.setIfInBounds i u) t fz) := by
  simp [World.setCell, Array.getElem?_modify, h]
theorem heap_setCells {g : Nat} {t : TypeId} {fz : Nat × Nat} (vs : List Value) : ∀ {w : World} {cs : Array Value} (o : Nat), w.heap[g]? = some (.cells cs t fz) → (w.setCells g o vs).heap[g]? = some (.cells (putAll cs o vs) t fz) := by
  induction vs with
  | nil => intro w cs o h; exact h
  | cons v vs ih => intro w cs o h; exact ih (o + 1) (heap_set_ h o v)

theorem run_append_own1 (base : Nat) (t ty e : TypeId) (i : TypeInfo) (z : Value) (bytes : Nat) (ht : P.underlying t = some (.slice e)) (hi : P.info? e = some i) (hz : i.zero = some z)
    (hsize : i.size = 1) (hby : i.bytes = bytes) (hzs : z.cells.size = 1)
    (v : Value) (n : Nat) (xs : List Value) (hown : Own1 w base e v n xs)
    (a : Addr) (m c : Nat) (news : List Value) (hl : news.length = m) (hnews : ∀ j u, news[j]? = some u → w.cell? (a.add j) = some u) (h1 : ∀ u ∈ news, u.oneCell' = true)
    (h63 : n + m ≤ maxLen) (hbytes : ((n + m) + (n + m) / 4 + 192) * bytes ≤ 281474976710656) (hbase : base ≤ w.heap.size) :
    ∃ v' w', (Builtin.append_ #[t, t] ty #[v, .slice (some a) m c]).run P w = .ok v' w' ∧ Own1 w' base e v' (n + m) (xs ++ news) ∧ w.grownBy w' v.ownBlock := by
  obtain ⟨hxl, g, cap, cur, fz, rfl, hbg, hg, hfz, hnc, hcm, hcs, htake⟩ := hown
  have hlen : (xs ++ news).length = n + m := by rw [List.length_append, hxl, hl]
  have hsmall : n + m ≤ 9223372036854775807 := by simp only [maxLen] at h63; omega
  by_cases hroom : n + m ≤ cap
  · have hr := run_append_tail (P := P) w t ty e i ht hi hsize g n cap (fun j hj => by
      refine ⟨?_, ?_⟩
      · rw [cell_of_row w g j cur e fz hg, Array.getElem?_eq_getElem (by omega)]; rfl
      · simp [World.frozen?, hg]; rcases hfz with rfl | h
        · simp
        · intro h2; omega) a m c news hl hnews h1 hroom
    refine ⟨_, _, hr, ⟨hlen, g, cap, _, fz, rfl, hbg, heap_setCells news n hg, ?_, hroom, hcm, ?_, ?_⟩, ?_⟩
    · rw [putAll_size]; exact hfz
    · rw [putAll_size]; exact hcs
    · refine List.ext_getElem? fun k => ?_
      have hgk := putAll_get news cur n k (by omega)
      by_cases hk : k < n + m
      · rw [List.getElem?_take_of_lt hk, Array.getElem?_toList, hgk]
        by_cases hk2 : n ≤ k
        · rw [if_pos ⟨hk2, by omega⟩, List.getElem?_append_right (by omega), hxl]
        · rw [if_neg (by omega), List.getElem?_append_left (by omega), ← htake, List.getElem?_take_of_lt (by omega), Array.getElem?_toList]
      · rw [List.getElem?_eq_none (by rw [List.length_take]; omega), List.getElem?_eq_none (by omega)]
    · exact only_setCells w g n news
  · have holds : ∀ j u, xs[j]? = some u → w.cell? ((⟨g, 0, none⟩ : Addr).add j) = some u := by
      intro j u hu
      rw [Addr.add_mid, Nat.zero_add, cell_of_row w g j cur e fz hg]
      rw [← htake, List.getElem?_take] at hu
      split at hu
      · simpa using hu
      · cases hu
    have hr := run_append_grow (P := P) w t ty e i z ht hi hz ⟨g, 0, none⟩ n cap xs (by rw [hsize]; simpa using hxl) holds a m c news (by rw [hsize]; simpa using hl) hnews (by omega) (by omega) (growslice_fits_wide (by omega) (by rw [hby]; exact hbytes))
    have hge := grownCap_ge w (n + m) cap e
    have hcm2 : grownCap w (n + m) cap e ≤ maxLen := grownCap_le_maxLen w (n + m) cap e h63
    refine ⟨_, _, hr, ⟨hlen, w.heap.size, _, _, (0, 0), rfl, hbase, heap_alloc_new w.drew _, .inl rfl, hge, hcm2, ?_, ?_⟩, ⟨rfl, rfl, rfl, by simp, fun k hk _ => Below.heap_alloc w.drew _ k hk⟩⟩
    · simp only [Array.size_append, List.size_toArray, size_zeroCells, hzs, hxl, hl]
      omega
    · simp only [Array.toList_append, List.append_assoc]
      rw [← List.append_assoc, ← hlen]
      exact List.take_left
end
end Go.Proofs.Ytnddkodenkmoiaa
