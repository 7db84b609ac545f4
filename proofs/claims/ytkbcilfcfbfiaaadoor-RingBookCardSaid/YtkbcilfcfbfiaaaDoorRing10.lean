/- A line, and an act, that came in, opened. -/
import Derived.Test.YtkbcilfcfbfiaaaDoorRing9
import Derived.ChangeSame
namespace Go.Proofs.YtkbcilfcfbfiaaaDoor
open Go Go.RowKit Go.ChangeShapes Go.WideShapes
set_option linter.unusedVariables false
section
theorem list3 {α : Type} {l : List α} (h : l.length = 3) : ∃ a b c, l = [a, b, c] := by
  match l, h with
  | [a, b, c], _ => exact ⟨a, b, c, rfl⟩
variable {H : Type} {enc : TypeId × Value → H} {W : World} {base : Nat} {sp : Nat → Bool} {held : Bool}
theorem line_cells {fuel : Nat} {cs : List Value} {x : DataW H × List MemPlace} (h : DataW.trod enc Tryd.prog W base sp held fuel 68 cs = some x) :
    ∃ (c d : Int) (t : ByteArray), cs = [.int .i64 c, .int .i64 d, .string t] ∧ In64 c ∧ In64 d ∧ t.size ≤ maxLen ∧ x = (.agg [.lit (.int .i64 c), .lit (.int .i64 d), .lit (.string t.data.toList)], []) := by
  obtain ⟨xs, n, _, rfl, hl, hlen, hf⟩ := DataW.trod_struct Tryd.underlying68 h
  have c68 : Tryd.prog.cellsOf 68 = 3 := by kernel_rfl
  have c3 : Tryd.prog.cellsOf 3 = 1 := by kernel_rfl
  have c9 : Tryd.prog.cellsOf 9 = 1 := by kernel_rfl
  rw [c68] at hl
  obtain ⟨a0, a1, a2, rfl⟩ := list3 hl
  obtain ⟨y0, y1, y2, rfl⟩ := list3 (show xs.length = 3 from hlen)
  have f0 : DataW.trod enc Tryd.prog W base sp held n 3 (([a0, a1, a2].drop 0).take (Tryd.prog.cellsOf 3)) = some y0 := hf 0 _ rfl
  have f1 : DataW.trod enc Tryd.prog W base sp held n 3 (([a0, a1, a2].drop 1).take (Tryd.prog.cellsOf 3)) = some y1 := hf 1 _ rfl
  have f2 : DataW.trod enc Tryd.prog W base sp held n 9 (([a0, a1, a2].drop 2).take (Tryd.prog.cellsOf 9)) = some y2 := hf 2 _ rfl
  rw [c3] at f0 f1
  rw [c9] at f2
  obtain ⟨c, e0, ey0, w0⟩ := DataW.trod_int Tryd.underlying3 f0
  obtain ⟨d, e1, ey1, w1⟩ := DataW.trod_int Tryd.underlying3 f1
  obtain ⟨t, e2, ey2, w2⟩ := DataW.trod_string Tryd.underlying9 f2
  refine ⟨c, d, t, ?_, bounds_i64 w0, bounds_i64 w1, w2, ?_⟩
  · simp at e0 e1 e2
    rw [e0, e1, e2]
  · rw [ey0, ey1, ey2]; rfl
theorem cells_aggN {v : Value} {n : Nat} (h : v.cells.toList.length = n) (hn : n ≠ 1) : ∃ cs, v = .agg cs ∧ v.cells = cs := by
  cases v <;> first | exact ⟨_, rfl, rfl⟩ | (exfalso; apply hn; simpa [Value.cells] using h.symm)
theorem line_open {v : Value} {d : DataW H} {p : List MemPlace} (h : DataW.Trod enc Tryd.prog W base sp held 68 v d p) :
    ∃ (c e : Int) (t : ByteArray), v = .agg #[.int .i64 c, .int .i64 e, .string t] ∧ In64 c ∧ In64 e ∧ t.size ≤ maxLen ∧ d = .agg [.lit (.int .i64 c), .lit (.int .i64 e), .lit (.string t.data.toList)] ∧ p = [] := by
  obtain ⟨fuel, hf⟩ := h
  obtain ⟨c, e, t, hc, h1, h2, h3, hx⟩ := line_cells hf
  obtain ⟨cs, rfl, hcs⟩ := cells_aggN (n := 3) (by rw [hc]; rfl) (by decide)
  simp only [Prod.mk.injEq] at hx
  refine ⟨c, e, t, ?_, h1, h2, h3, hx.1, hx.2⟩
  rw [hcs] at hc
  exact congrArg Value.agg ((Array.toArray_toList).symm.trans (congrArg List.toArray hc))
/-- The cells of an act. -/
def actC (k c e : Int) (t : ByteArray) (D : List UInt8) : List Value := [.int .i64 k, .int .i64 c, .int .i64 e, .string t] ++ D.map bb
theorem digest_cells {fuel : Nat} {cs : List Value} {x : DataW H × List MemPlace} (h : DataW.trod enc Tryd.prog W base sp held fuel 25 cs = some x) : ∃ D : List UInt8, D.length = 32 ∧ cs = D.map bb := by
  obtain ⟨xs, m, _, _, hlen, hxs, hel⟩ := DataW.trod_array Tryd.underlying25 h
  have c5 : Tryd.prog.cellsOf 5 = 1 := by kernel_rfl
  have c25 : Tryd.prog.cellsOf 25 = 32 := by kernel_rfl
  rw [c25] at hlen
  have each : ∀ i, i < 32 → ∃ n : Int, cs[i]? = some (.int .u8 n) ∧ 0 ≤ n ∧ n ≤ 255 := by
    intro i hi
    have h1 := hel i hi
    rw [c5, Nat.mul_one, List.getElem?_eq_getElem (by omega)] at h1
    obtain ⟨n, e1, _, hw⟩ := DataW.trod_int Tryd.underlying5 h1
    have hb := bounds_u8 hw
    refine ⟨n, ?_, hb.1, hb.2⟩
    rw [List.drop_eq_getElem_cons (by omega)] at e1
    simp only [List.take_succ_cons, List.take_zero, List.cons.injEq, and_true] at e1
    rw [List.getElem?_eq_getElem (by omega), e1]
  obtain ⟨D, hD, hl⟩ := bytes_of Tryd.prog _ (fun i hi => each i (by omega))
  exact ⟨D, by omega, hl⟩
theorem act_cells {fuel : Nat} {cs : List Value} {x : DataW H × List MemPlace} (h : DataW.trod enc Tryd.prog W base sp held fuel 70 cs = some x) :
    ∃ (k c e : Int) (t : ByteArray) (D : List UInt8), D.length = 32 ∧ cs = actC k c e t D ∧ In64 k ∧ In64 c ∧ In64 e ∧ t.size ≤ maxLen ∧
      ∃ y0 y2 : DataW H × List MemPlace, x.1 = .agg [y0.1, .agg [.lit (.int .i64 c), .lit (.int .i64 e), .lit (.string t.data.toList)], y2.1] := by
  obtain ⟨xs, n, _, rfl, hl, hlen, hf⟩ := DataW.trod_struct Tryd.underlying70 h
  have c70 : Tryd.prog.cellsOf 70 = 36 := by kernel_rfl
  have c68 : Tryd.prog.cellsOf 68 = 3 := by kernel_rfl
  have c3 : Tryd.prog.cellsOf 3 = 1 := by kernel_rfl
  have c25 : Tryd.prog.cellsOf 25 = 32 := by kernel_rfl
  rw [c70] at hl
  obtain ⟨y0, y1, y2, rfl⟩ := list3 (show xs.length = 3 from hlen)
  have f0 : DataW.trod enc Tryd.prog W base sp held n 3 ((cs.drop 0).take (Tryd.prog.cellsOf 3)) = some y0 := hf 0 _ rfl
  have f1 : DataW.trod enc Tryd.prog W base sp held n 68 ((cs.drop 1).take (Tryd.prog.cellsOf 68)) = some y1 := hf 1 _ rfl
  have f2 : DataW.trod enc Tryd.prog W base sp held n 25 ((cs.drop 4).take (Tryd.prog.cellsOf 25)) = some y2 := hf 2 _ rfl
  rw [c3] at f0
  rw [c68] at f1
  rw [c25] at f2
  obtain ⟨k, e0, ey0, w0⟩ := DataW.trod_int Tryd.underlying3 f0
  obtain ⟨c, e, t, e1, w1, w2, w3, ey1⟩ := line_cells f1
  obtain ⟨D, hD, e2⟩ := digest_cells f2
  refine ⟨k, c, e, t, D, hD, ?_, bounds_i64 w0, w1, w2, w3, y0, y2, by rw [ey1]; rfl⟩
  have s1 : cs = cs.take 1 ++ ((cs.drop 1).take 3 ++ cs.drop 4) := by
    rw [show cs.drop 4 = (cs.drop 1).drop 3 by rw [List.drop_drop], List.take_append_drop, List.take_append_drop]
  have s2 : (cs.drop 4).take 32 = cs.drop 4 := List.take_of_length_le (by rw [List.length_drop]; omega)
  rw [List.drop_zero] at e0
  rw [s2] at e2
  rw [s1, e0, e1, e2]
  rfl
theorem act_open {v : Value} {d : DataW H} {p : List MemPlace} (h : DataW.Trod enc Tryd.prog W base sp held 70 v d p) :
    ∃ (k c e : Int) (t : ByteArray) (D : List UInt8), D.length = 32 ∧ v = .agg (actC k c e t D).toArray ∧ In64 c ∧ In64 e ∧ t.size ≤ maxLen := by
  obtain ⟨fuel, hf⟩ := h
  obtain ⟨k, c, e, t, D, hD, hc, h0, h1, h2, h3, _⟩ := act_cells hf
  obtain ⟨cs, rfl, hcs⟩ := cells_aggN (n := 36) (by rw [hc]; unfold actC; simp [hD]) (by decide)
  refine ⟨k, c, e, t, D, hD, ?_, h1, h2, h3⟩
  rw [hcs] at hc
  exact congrArg Value.agg ((Array.toArray_toList).symm.trans (congrArg List.toArray hc))
end
theorem ringNone_row (k c e : Int) (t : ByteArray) (D : List UInt8) (hD : D.length = 32) (w : World) (hk : Consts w) :
    Calls Tryd.prog 22 #[.agg (actC k c e t D).toArray] w fun e w' => e = .returned (.bool true) ∧ Below w.heap.size w w' :=
  ringNone_any _ (bytesC D) c e t rfl rfl rfl (by rw [bytesC_size, hD]) (fun j v hv => by
    unfold actC bytesC at *
    simp only [List.getElem?_toArray] at hv ⊢
    rw [List.getElem?_append_right (by simp)]
    simpa using hv) w hk
end Go.Proofs.YtkbcilfcfbfiaaaDoor
