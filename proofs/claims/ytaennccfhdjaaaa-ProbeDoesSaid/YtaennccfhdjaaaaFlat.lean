/- The cells of a row of pairs. -/
import Derived.Test.YtaennccfhdjaaaaTick
import Derived.Laws.OwnMore
namespace Go.Proofs.Ytaennccfhdjaaaa
set_option linter.unusedSimpArgs false
set_option linter.unusedVariables false
/-- The cells of the first m pairs. -/
def flatE (f : Nat → En) : Nat → List Value
  | 0 => []
  | m + 1 => flatE f m ++ [.int .i64 (f m).1, .int .i64 (f m).2]
theorem flatE_length (f : Nat → En) (m : Nat) : (flatE f m).length = m * 2 := by
  induction m with
  | zero => rfl
  | succ m ih => simp [flatE, ih]; omega
theorem flatE_get (f : Nat → En) (m j : Nat) : (flatE f m)[j]? = if j < m * 2 then some (.int .i64 (if j % 2 = 0 then (f (j / 2)).1 else (f (j / 2)).2)) else none := by
  induction m with
  | zero => simp [flatE]
  | succ m ih =>
    unfold flatE
    rw [List.getElem?_append, flatE_length]
    by_cases h : j < m * 2
    · rw [if_pos h, ih, if_pos h, if_pos (show j < (m + 1) * 2 by omega)]
    · rw [if_neg h]
      by_cases h0 : j = m * 2
      · subst h0
        simp only [Nat.sub_self, List.getElem?_cons_zero]
        rw [if_pos (by omega), if_pos (by omega), show m * 2 / 2 = m by omega]
      · by_cases h1 : j = m * 2 + 1
        · subst h1
          rw [show m * 2 + 1 - m * 2 = 1 by omega, if_pos (by omega), if_neg (by omega), show (m * 2 + 1) / 2 = m by omega]
          rfl
        · rw [if_neg (by omega), List.getElem?_eq_none (by simp; omega)]
theorem flatE_due (f : Nat → En) {m k : Nat} (h : k < m) : (flatE f m)[k * 2]? = some (.int .i64 (f k).1) := by
  rw [flatE_get, if_pos (by omega), if_pos (by omega), show k * 2 / 2 = k by omega]
theorem flatE_who (f : Nat → En) {m k : Nat} (h : k < m) : (flatE f m)[k * 2 + 1]? = some (.int .i64 (f k).2) := by
  rw [flatE_get, if_pos (by omega), if_neg (by omega), show (k * 2 + 1) / 2 = k by omega]
theorem flatE_congr {f g : Nat → En} {m : Nat} (h : ∀ k, k < m → f k = g k) : flatE f m = flatE g m := by
  induction m with
  | zero => rfl
  | succ m ih => unfold flatE; rw [ih fun k hk => h k (by omega), h m (by omega)]
theorem flatE_take (f : Nat → En) {m n : Nat} (h : n ≤ m) : (flatE f m).take (n * 2) = flatE f n := by
  apply List.ext_getElem?
  intro j
  rw [List.getElem?_take, flatE_get, flatE_get]
  by_cases hj : j < n * 2
  · rw [if_pos hj, if_pos (by omega), if_pos hj]
  · rw [if_neg hj, if_neg hj]
theorem flatE_push (f : Nat → En) (m : Nat) (x : En) : flatE f m ++ [.int .i64 x.1, .int .i64 x.2] = flatE (putE f m x) (m + 1) := by
  conv => rhs; unfold flatE
  rw [putE_same, flatE_congr fun k hk => (putE_else f x (show k ≠ m by omega)).symm]
theorem flatE_set (f : Nat → En) {m k : Nat} (h : k < m) (x : En) : ((flatE f m).set (k * 2) (.int .i64 x.1)).set (k * 2 + 1) (.int .i64 x.2) = flatE (putE f k x) m := by
  apply List.ext_getElem?
  intro j
  rw [List.getElem?_set, List.getElem?_set, List.length_set, flatE_length, flatE_get, flatE_get]
  by_cases h1 : k * 2 + 1 = j
  · subst h1
    rw [if_pos rfl, if_pos (by omega), if_pos (by omega), if_neg (by omega), show (k * 2 + 1) / 2 = k by omega, putE_same]
  · rw [if_neg h1]
    by_cases h0 : k * 2 = j
    · subst h0
      rw [if_pos rfl, if_pos (by omega), if_pos (by omega), if_pos (by omega), show k * 2 / 2 = k by omega, putE_same]
    · rw [if_neg h0, putE_else f x (by omega)]
theorem flatE_setDue (f : Nat → En) {m k : Nat} (h : k < m) (d : Int) : (flatE f m).set (k * 2) (.int .i64 d) = flatE (putE f k (d, (f k).2)) m := by
  rw [← flatE_set f h (d, (f k).2)]
  apply List.ext_getElem?
  intro j
  rw [List.getElem?_set (i := k * 2 + 1)]
  by_cases h1 : k * 2 + 1 = j
  · subst h1
    rw [if_pos rfl, List.length_set, flatE_length, if_pos (by omega), List.getElem?_set, if_neg (by omega), flatE_who f h]
  · rw [if_neg h1]
theorem flatE_swp (f : Nat → En) {m i j : Nat} (hi : i < m) (hj : j < m) : flatE (putE (putE f i (f j)) j (f i)) m = flatE (swp f i j) m :=
  flatE_congr fun k hk => by
    unfold putE swp
    by_cases h1 : k = j
    · rw [if_pos h1, h1]; split <;> simp_all
    · rw [if_neg h1]
      by_cases h2 : k = i
      · rw [if_pos h2, if_pos h2]
      · rw [if_neg h2, if_neg h2, if_neg h1]
theorem flatE_one (f : Nat → En) (m : Nat) : ∀ u ∈ flatE f m, u.oneCell' = true := by
  induction m with
  | zero => simp [flatE]
  | succ m ih =>
    intro u hu
    unfold flatE at hu
    rcases List.mem_append.1 hu with h | h
    · exact ih u h
    · simp at h; rcases h with rfl | rfl <;> rfl
theorem stored2 {w : World} {base e g m cap k : Nat} {f : Nat → En} (h : w.ownsRow base e 2 (.slice (some ⟨g, 0, none⟩) m cap) m (flatE f m)) (hk : k < m) (x : En) :
    ((w.setCell ⟨g, k * 2, none⟩ (.int .i64 x.1)).setCell ⟨g, k * 2 + 1, none⟩ (.int .i64 x.2)).ownsRow base e 2 (.slice (some ⟨g, 0, none⟩) m cap) m (flatE (putE f k x) m) ∧
    w.grownBy ((w.setCell ⟨g, k * 2, none⟩ (.int .i64 x.1)).setCell ⟨g, k * 2 + 1, none⟩ (.int .i64 x.2)) (some g) := by
  obtain ⟨h1, g1⟩ := h.stored (k * 2) (.int .i64 x.1)
  obtain ⟨h2, g2⟩ := h1.stored (k * 2 + 1) (.int .i64 x.2)
  rw [flatE_set f hk] at h2
  exact ⟨h2, ⟨g2.os.trans g1.os, g2.tape.trans g1.tape, g2.output.trans g1.output, Nat.le_trans g1.size g2.size, fun b hb hr => (g2.block b (Nat.lt_of_lt_of_le hb g1.size) hr).trans (g1.block b hb hr)⟩⟩
theorem owns_cells {w : World} {base e g m cap k : Nat} {f : Nat → En} (h : w.ownsRow base e 2 (.slice (some ⟨g, 0, none⟩) m cap) m (flatE f m)) (hk : k < m) :
    w.cell? ⟨g, k * 2, none⟩ = some (.int .i64 (f k).1) ∧ w.cell? ⟨g, k * 2 + 1, none⟩ = some (.int .i64 (f k).2) :=
  ⟨(h.cellAt (k * 2) (by omega)).trans (flatE_due f hk), (h.cellAt (k * 2 + 1) (by omega)).trans (flatE_who f hk)⟩
end Go.Proofs.Ytaennccfhdjaaaa
