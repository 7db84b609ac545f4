/- The ring: what lies there, its lines and acts opened, and the contracts of the reference's ring. -/
import Derived.Test.YtkbcilfcfbfiaaaDoorRing8
import Derived.ChangeSame
import Derived.Test.YtkbcilfcfbfiaaaDoorKeep
import Derived.Deep.Slices
import Derived.Deep.Fields
import Derived.Test.YtkbcilfcfbfiaaaDoorFork
import Derived.Laws.AppendOwnNone
import Derived.Laws.OwnMore
import Derived.SizedLaws
/- RingNone: the walk. -/
namespace Go.Proofs.YtkbcilfcfbfiaaaDoor
open Go.RowKit Go.Proofs
set_option linter.unusedSimpArgs false
set_option linter.unusedVariables false
theorem load25at {w : World} {g o : Nat} {A X : Array Value} {ty : TypeId} (hB : Blk w g ty A) (hs : X.size = 32) (hx : ∀ (j : Nat) (v : Value), X[j]? = some v → A[o + j]? = some v) : (Instr.loadAt 25 (.pointer (some ⟨g, o, none⟩))).run Tryd.prog w = .ok (.agg X) w := by
  have h := run_loadAt_mid (P := Tryd.prog) w g o 25 X.toList _ (hB.rangeAt o _ (fun j v hv => hx j v (by rw [← Array.getElem?_toList]; exact hv))) Tryd.underlying25 rfl (by rw [Array.length_toList, hs]; kernel_rfl)
  rw [h]
end Go.Proofs.YtkbcilfcfbfiaaaDoor
/- A line, and an act, that came in, opened. -/
namespace Go.Proofs.YtkbcilfcfbfiaaaDoor
open Go Go.RowKit Go.ChangeShapes Go.WideShapes
set_option linter.unusedVariables false
section
theorem list3 {α : Type} {l : List α} (h : l.length = 3) : ∃ a b c, l = [a, b, c] := by
  match l, h with
  | [a, b, c], _ => exact ⟨a, b, c, rfl⟩
variable {H : Type} {enc : TypeId × Value → H} {W : World} {base : Nat} {sp : Nat → Bool} {held : Bool}
theorem line_cells {fuel : Nat} {cs : List Value} {x : DataW H × List MemPlace} (h : DataW.trod enc Tryd.prog W base sp held fuel 68 cs = some x) :
    ∃ (c d : Int) (t : ByteArray), cs = [.int .i64 c, .int .i64 d, .string t] ∧ In64 c ∧ In64 d ∧ t.size ≤ maxLen ∧ x = (.agg [.lit (.int .i64 c), .lit (.int .i64 d), .lit (.string t.data.toList)], []) := by
  obtain ⟨xs, n, _, rfl, hl, hlen, hf⟩ := DataW.trod_struct Tryd.underlying68 h
  have c68 : Tryd.prog.cellsOf 68 = 3 := by kernel_rfl
  have c3 : Tryd.prog.cellsOf 3 = 1 := by kernel_rfl
  have c9 : Tryd.prog.cellsOf 9 = 1 := by kernel_rfl
  rw [c68] at hl
  obtain ⟨a0, a1, a2, rfl⟩ := list3 hl
  obtain ⟨y0, y1, y2, rfl⟩ := list3 (show xs.length = 3 from hlen)
  have f0 : DataW.trod enc Tryd.prog W base sp held n 3 (([a0, a1, a2].drop 0).take (Tryd.prog.cellsOf 3)) = some y0 := hf 0 _ rfl
  have f1 : DataW.trod enc Tryd.prog W base sp held n 3 (([a0, a1, a2].drop 1).take (Tryd.prog.cellsOf 3)) = some y1 := hf 1 _ rfl
  have f2 : DataW.trod enc Tryd.prog W base sp held n 9 (([a0, a1, a2].drop 2).take (Tryd.prog.cellsOf 9)) = some y2 := hf 2 _ rfl
  rw [c3] at f0 f1
  rw [c9] at f2
  obtain ⟨c, e0, ey0, w0⟩ := DataW.trod_int Tryd.underlying3 f0
  obtain ⟨d, e1, ey1, w1⟩ := DataW.trod_int Tryd.underlying3 f1
  obtain ⟨t, e2, ey2, w2⟩ := DataW.trod_string Tryd.underlying9 f2
  refine ⟨c, d, t, ?_, bounds_i64 w0, bounds_i64 w1, w2, ?_⟩
  · simp at e0 e1 e2
    rw [e0, e1, e2]
  · rw [ey0, ey1, ey2]; rfl
theorem cells_aggN {v : Value} {n : Nat} (h : v.cells.toList.length = n) (hn : n ≠ 1) : ∃ cs, v = .agg cs ∧ v.cells = cs := by
  cases v <;> first | exact ⟨_, rfl, rfl⟩ | (exfalso; apply hn; simpa [Value.cells] using h.symm)
theorem line_open {v : Value} {d : DataW H} {p : List MemPlace} (h : DataW.Trod enc Tryd.prog W base sp held 68 v d p) :
    ∃ (c e : Int) (t : ByteArray), v = .agg #[.int .i64 c, .int .i64 e, .string t] ∧ In64 c ∧ In64 e ∧ t.size ≤ maxLen ∧ d = .agg [.lit (.int .i64 c), .lit (.int .i64 e), .lit (.string t.data.toList)] ∧ p = [] := by
  obtain ⟨fuel, hf⟩ := h
  obtain ⟨c, e, t, hc, h1, h2, h3, hx⟩ := line_cells hf
  obtain ⟨cs, rfl, hcs⟩ := cells_aggN (n := 3) (by rw [hc]; rfl) (by decide)
  simp only [Prod.mk.injEq] at hx
  refine ⟨c, e, t, ?_, h1, h2, h3, hx.1, hx.2⟩
  rw [hcs] at hc
  exact congrArg Value.agg ((Array.toArray_toList).symm.trans (congrArg List.toArray hc))
/-- The cells of an act. -/
def actC (k c e : Int) (t : ByteArray) (D : List UInt8) : List Value := [.int .i64 k, .int .i64 c, .int .i64 e, .string t] ++ D.map bb
theorem digest_cells {fuel : Nat} {cs : List Value} {x : DataW H × List MemPlace} (h : DataW.trod enc Tryd.prog W base sp held fuel 25 cs = some x) : ∃ D : List UInt8, D.length = 32 ∧ cs = D.map bb := by
  obtain ⟨xs, m, _, _, hlen, hxs, hel⟩ := DataW.trod_array Tryd.underlying25 h
  have c5 : Tryd.prog.cellsOf 5 = 1 := by kernel_rfl
  have c25 : Tryd.prog.cellsOf 25 = 32 := by kernel_rfl
  rw [c25] at hlen
  have each : ∀ i, i < 32 → ∃ n : Int, cs[i]? = some (.int .u8 n) ∧ 0 ≤ n ∧ n ≤ 255 := by
    intro i hi
    have h1 := hel i hi
    rw [c5, Nat.mul_one, List.getElem?_eq_getElem (by omega)] at h1
    obtain ⟨n, e1, _, hw⟩ := DataW.trod_int Tryd.underlying5 h1
    have hb := bounds_u8 hw
    refine ⟨n, ?_, hb.1, hb.2⟩
    rw [List.drop_eq_getElem_cons (by omega)] at e1
    simp only [List.take_succ_cons, List.take_zero, List.cons.injEq, and_true] at e1
    rw [List.getElem?_eq_getElem (by omega), e1]
  obtain ⟨D, hD, hl⟩ := bytes_of Tryd.prog _ (fun i hi => each i (by omega))
  exact ⟨D, by omega, hl⟩
theorem act_cells {fuel : Nat} {cs : List Value} {x : DataW H × List MemPlace} (h : DataW.trod enc Tryd.prog W base sp held fuel 70 cs = some x) :
    ∃ (k c e : Int) (t : ByteArray) (D : List UInt8), D.length = 32 ∧ cs = actC k c e t D ∧ In64 k ∧ In64 c ∧ In64 e ∧ t.size ≤ maxLen ∧
      ∃ y0 y2 : DataW H × List MemPlace, x.1 = .agg [y0.1, .agg [.lit (.int .i64 c), .lit (.int .i64 e), .lit (.string t.data.toList)], y2.1] := by
  obtain ⟨xs, n, _, rfl, hl, hlen, hf⟩ := DataW.trod_struct Tryd.underlying70 h
  have c70 : Tryd.prog.cellsOf 70 = 36 := by kernel_rfl
  have c68 : Tryd.prog.cellsOf 68 = 3 := by kernel_rfl
  have c3 : Tryd.prog.cellsOf 3 = 1 := by kernel_rfl
  have c25 : Tryd.prog.cellsOf 25 = 32 := by kernel_rfl
  rw [c70] at hl
  obtain ⟨y0, y1, y2, rfl⟩ := list3 (show xs.length = 3 from hlen)
  have f0 : DataW.trod enc Tryd.prog W base sp held n 3 ((cs.drop 0).take (Tryd.prog.cellsOf 3)) = some y0 := hf 0 _ rfl
  have f1 : DataW.trod enc Tryd.prog W base sp held n 68 ((cs.drop 1).take (Tryd.prog.cellsOf 68)) = some y1 := hf 1 _ rfl
  have f2 : DataW.trod enc Tryd.prog W base sp held n 25 ((cs.drop 4).take (Tryd.prog.cellsOf 25)) = some y2 := hf 2 _ rfl
  rw [c3] at f0
  rw [c68] at f1
  rw [c25] at f2
  obtain ⟨k, e0, ey0, w0⟩ := DataW.trod_int Tryd.underlying3 f0
  obtain ⟨c, e, t, e1, w1, w2, w3, ey1⟩ := line_cells f1
  obtain ⟨D, hD, e2⟩ := digest_cells f2
  refine ⟨k, c, e, t, D, hD, ?_, bounds_i64 w0, w1, w2, w3, y0, y2, by rw [ey1]; rfl⟩
  have s1 : cs = cs.take 1 ++ ((cs.drop 1).take 3 ++ cs.drop 4) := by
    rw [show cs.drop 4 = (cs.drop 1).drop 3 by rw [List.drop_drop], List.take_append_drop, List.take_append_drop]
  have s2 : (cs.drop 4).take 32 = cs.drop 4 := List.take_of_length_le (by rw [List.length_drop]; omega)
  rw [List.drop_zero] at e0
  rw [s2] at e2
  rw [s1, e0, e1, e2]
  rfl
theorem act_open {v : Value} {d : DataW H} {p : List MemPlace} (h : DataW.Trod enc Tryd.prog W base sp held 70 v d p) :
    ∃ (k c e : Int) (t : ByteArray) (D : List UInt8), D.length = 32 ∧ v = .agg (actC k c e t D).toArray ∧ In64 c ∧ In64 e ∧ t.size ≤ maxLen := by
  obtain ⟨fuel, hf⟩ := h
  obtain ⟨k, c, e, t, D, hD, hc, h0, h1, h2, h3, _⟩ := act_cells hf
  obtain ⟨cs, rfl, hcs⟩ := cells_aggN (n := 36) (by rw [hc]; unfold actC; simp [hD]) (by decide)
  refine ⟨k, c, e, t, D, hD, ?_, h1, h2, h3⟩
  rw [hcs] at hc
  exact congrArg Value.agg ((Array.toArray_toList).symm.trans (congrArg List.toArray hc))
end
end Go.Proofs.YtkbcilfcfbfiaaaDoor
/- RingTurned: the walk. -/
namespace Go.Proofs.YtkbcilfcfbfiaaaDoor
open Go.RowKit Go.Proofs
set_option linter.unusedSimpArgs false
set_option linter.unusedVariables false
theorem z32_at {m : Nat} (h : m < 32) : z32[m]? = some (.int .u8 0) := by
  unfold z32 bytesC
  simp only [List.getElem?_toArray, List.getElem?_map, List.getElem?_replicate, if_pos h]
  rfl
theorem pow_u8 (k : Nat) (h : k < 8) : ∃ y : UInt8, ((2 : Int) ^ k % 256) = (y.toNat : Int) ∧ y ≠ 0 := by
  match k, h with
  | 0, _ => exact ⟨1, by decide, by decide⟩
  | 1, _ => exact ⟨2, by decide, by decide⟩
  | 2, _ => exact ⟨4, by decide, by decide⟩
  | 3, _ => exact ⟨8, by decide, by decide⟩
  | 4, _ => exact ⟨16, by decide, by decide⟩
  | 5, _ => exact ⟨32, by decide, by decide⟩
  | 6, _ => exact ⟨64, by decide, by decide⟩
  | 7, _ => exact ⟨128, by decide, by decide⟩
theorem turned_ne (D : List UInt8) (m : Nat) (h : m < D.length) (y : UInt8) (hy : y ≠ 0) : (D == D.set m (D.getD m 0 ^^^ y)) = false := by
  rw [beq_eq_false_iff_ne]
  intro e
  have e2 : D[m]? = (D.set m (D.getD m 0 ^^^ y))[m]? := by rw [← e]
  rw [List.getElem?_set_self h, List.getElem?_eq_getElem h] at e2
  have e3 : D[m] = D.getD m 0 ^^^ y := Option.some.inj e2
  rw [List.getD_eq_getElem?_getD, List.getElem?_eq_getElem h, Option.getD_some] at e3
  apply hy
  generalize D[m] = x at e3
  calc y = (x ^^^ x) ^^^ y := by simp
    _ = x ^^^ (x ^^^ y) := UInt8.xor_assoc _ _ _
    _ = x ^^^ x := by rw [← e3]
    _ = 0 := by simp
def kT : ByteArray := { data := #[107] }
end Go.Proofs.YtkbcilfcfbfiaaaDoor
/- RingSame: the walk. -/
namespace Go.Proofs.YtkbcilfcfbfiaaaDoor
open Go.RowKit Go.Proofs
set_option linter.unusedSimpArgs false
set_option linter.unusedVariables false
theorem RingAt.beside {w w' : World} {r g cap b N s gs caps bs M : Nat} {sd sd' : ByteArray} {S S' : List Ln} (h : RingAt w r g cap b sd N S) (k : RingAt w s gs caps bs sd' M S') (hg : w.grownBy w' (some b)) (hne : bs ≠ b) : RingAt w' s gs caps bs sd' M S' :=
  k.only hg (fun e => h.book.ne_ k.ring e.symm) (fun e => by
    obtain ⟨es, clock, hm⟩ := h.book.map
    have hk := k.keys 0 (by have := k.two; omega)
    subst e
    simp [World.cell?, hm] at hk) hne
theorem made_empty (c d : Int) (t : ByteArray) (hc : In64 c) (hd : In64 d) (ht : t.size ≤ maxLen) (r g cap b N : Nat) (sd : ByteArray) (w : World) (hR : RingAt w r g cap b sd N []) :
    Calls Tryd.prog 56 #[.pointer (some ⟨r, 0, none⟩), .int .i64 c, .int .i64 d, .string t] w fun e w' => e = .returned (.bool false) ∧ w = w' := by
  have h := made_any c d t hc hd ht r g cap b N sd [] w hR
  rw [decide_eq_false (show ¬ ln c d t ∈ ([] : List Ln) by simp)] at h
  exact h
theorem may_not (c d : Int) (t : ByteArray) (r g cap b N : Nat) (sd : ByteArray) (S : List Ln) (w : World) (hR : RingAt w r g cap b sd N S) (hm : ¬ MayB N c d t.size) :
    Calls Tryd.prog 75 #[.pointer (some ⟨r, 0, none⟩), .agg #[.int .i64 c, .int .i64 d, .string t]] w fun e w' => e = .returned (.bool false) ∧ Below w.heap.size w w' := by
  have h := may_any c d t r g cap b N sd S w hR
  rw [decide_eq_false hm] at h
  exact h
end Go.Proofs.YtkbcilfcfbfiaaaDoor
/- RingBook: the walk. -/
namespace Go.Proofs.YtkbcilfcfbfiaaaDoor
open Go.RowKit Go.Proofs
set_option linter.unusedSimpArgs false
set_option linter.unusedVariables false
theorem line_lits (c d : Int) (t : ByteArray) (hc : In64 c) (hd : In64 d) (ht : t.size ≤ maxLen) : Tryd.prog.keyLits 3 68 (lineV c d t).cells.toList = some [.int .i64 c, .int .i64 d, .string t.data.toList] := by
  have c3 : Tryd.prog.cellsOf 3 = 1 := by kernel_rfl
  have c9 : Tryd.prog.cellsOf 9 = 1 := by kernel_rfl
  have c68 : Tryd.prog.cellsOf 68 = 3 := by kernel_rfl
  have h1 := hc.wf
  have h2 := hd.wf
  simp [Program.keyLits, Tryd.underlying68, Tryd.underlying3, Tryd.underlying9, c3, c9, c68, lineV, Value.cells, h1, h2, ht]
theorem eql_line (c d c2 d2 : Int) (t t2 : ByteArray) (hc : In64 c) (hd : In64 d) (ht : t.size ≤ maxLen) (hc2 : In64 c2) (hd2 : In64 d2) (ht2 : t2.size ≤ maxLen) (w : World) :
    (Op.equalIn 10000 68 (.agg #[.int .i64 c, .int .i64 d, .string t]) (.agg #[.int .i64 c2, .int .i64 d2, .string t2])).run Tryd.prog w = .ok (decide (ln c2 d2 t2 = ln c d t)) w := by
  have c68 : Tryd.prog.cellsOf 68 = 3 := by kernel_rfl
  have f1 : ∀ c d t, (lineV c d t).formed Tryd.prog 68 = true := fun c d t => by simp [lineV, Value.formed, Tryd.underlying68, c68]
  obtain ⟨r, hr, hiff⟩ := run_equalIn_deep (P := Tryd.prog) 9997 3 68 (by kernel_rfl) w 3 3 (lineV c d t) (lineV c2 d2 t2) _ _ (f1 _ _ _) (f1 _ _ _) (line_lits c d t hc hd ht) (line_lits c2 d2 t2 hc2 hd2 ht2)
  have e : r = decide (ln c2 d2 t2 = ln c d t) := by
    rw [Bool.eq_iff_iff, hiff, decide_eq_true_iff]
    unfold ln by_
    simp only [List.cons.injEq, Lit.int.injEq, Lit.string.injEq, true_and, and_true, Prod.mk.injEq]
    exact ⟨fun h => ⟨h.1.symm, h.2.1.symm, h.2.2.symm⟩, fun h => ⟨h.1.symm, h.2.1.symm, h.2.2.symm⟩⟩
  rw [← e]
  exact hr
end Go.Proofs.YtkbcilfcfbfiaaaDoor
/- A region that draws its order, walked in one fixed order: operations that read no memory may stand behind effects (kind 3); 0 reads memory, 1 an effect that keeps R, 2 an effect behind all that reads. -/
namespace Go.Proofs.YtkbcilfcfbfiaaaDoor
open Go
set_option linter.unusedVariables false
section
variable {P : Program} {ops : Array Oper} {Q : Exit → Act → World → Prop} {md : Region.Mode}
def AnyW (_ _ : World) : Prop := True
theorem wpAnyK_pure {R : World → World → Prop} {L : List Nat} {i : Nat} {oi : Oper} {v : Value} (rf : ∀ a, R a a) (hi : ops[i]? = some oi)
    (hsel : ∀ (j : Nat) (o : Oper) cs b, ops[j]? = some o → o.op ≠ .select cs b)
    (hQ : ∀ c a w, Q (.panic c) (a.put oi.dst v) w → Q (.panic c) a w) :
    ∀ (fuel : Nat) (listed : Array Bool) (a : Act) (w : World), ListedClosed md ops listed →
      (∀ j oj, ops[j]? = some oj → j ≠ i → listed.getD j true = false → (∀ e ∈ oj.after, Region.binds md e = true → e.on ≠ i) → oi.apart ops oj = true) →
      i ∈ Region.ready md ops listed → YieldsR P ops AnyW w oi v a →
      wpAnyK P md ops Q R L fuel (listed.setIfInBounds i true) (a.put oi.dst v) w → wpAnyK P md ops Q R L (fuel + 1) listed a w := by
  intro fuel
  induction fuel with
  | zero =>
    intro listed a w inv _ hr hy H
    refine ⟨fun h => (by rw [h] at hr; cases hr), fun j hj => ?_⟩
    by_cases hji : j = i
    · subst hji; exact hy.wpOp hi trivial ⟨fun _ => rf w, H⟩
    · have := ready_mono hj hji
      rw [H.1] at this
      cases this
  | succ fuel ih =>
    intro listed a w inv hfree hr hy H
    refine ⟨fun h => (by rw [h] at hr; cases hr), fun j hj => ?_⟩
    by_cases hji : j = i
    · subst hji; exact hy.wpOp hi trivial ⟨fun _ => rf w, H⟩
    · have h1 := H.2 j (ready_mono hj hji)
      obtain ⟨hjun, oj, hoj, hall⟩ := mem_ready.1 hj
      have hiun : listed.getD i false = false := by
        have h0 := (mem_ready.1 hr).1
        rcases Nat.lt_or_ge i listed.size with h' | h'
        · simp [h'] at h0 ⊢; exact h0
        · simp [Array.getElem?_eq_none h']
      have hnot : ∀ e ∈ oj.after, Region.binds md e = true → e.on ≠ i := fun e he hb heq => by
        have h1 := hall e he hb
        rw [heq, hiun] at h1
        cases h1
      have h2 := wpOp_putR hoj (hfree j oj hoj hji hjun hnot) (fun cs b => hsel i oi cs b hi) (fun cs b => hsel j oj cs b hoj) hQ hy h1
      have hfree' : ∀ k ok, ops[k]? = some ok → k ≠ i → (listed.setIfInBounds j true).getD k true = false →
          (∀ e ∈ ok.after, Region.binds md e = true → e.on ≠ i) → oi.apart ops ok = true := fun k ok hk hki hun hno => by
        refine hfree k ok hk hki ?_ hno
        by_cases hjk : j = k
        · subst hjk; exact hjun
        · rw [getD_set_ne true hjk] at hun; exact hun
      refine wpOp_mono (fun a' w' h3 => ⟨h3.2.1, ih (listed.setIfInBounds j true) a' w' (inv.set hj) hfree' (ready_mono hr (Ne.symm hji)) (h3.1.later (fun _ _ _ _ _ => trivial) (w' := w') trivial) ?_⟩) h2
      rw [Array.setIfInBounds_comm _ _ hji]
      exact h3.2.2
def ordP (md : Region.Mode) (ops : Array Oper) (L : List Nat) : List (Nat × Nat) → Array Bool → Bool
  | [], listed => (Region.ready md ops listed).isEmpty
  | (i, 0) :: rest, listed => (Region.ready md ops listed).contains i && Region.free md ops listed i && L.contains i && ordP md ops L rest (listed.setIfInBounds i true)
  | (i, 1) :: rest, listed => decide (Region.ready md ops listed = [i]) && ordP md ops L rest (listed.setIfInBounds i true)
  | (i, 2) :: rest, listed => decide (Region.ready md ops listed = [i]) && !needsR md ops L i && ordP md ops L rest (listed.setIfInBounds i true)
  | (i, _ + 3) :: rest, listed => (Region.ready md ops listed).contains i && Region.free md ops listed i && ordP md ops L rest (listed.setIfInBounds i true)
def wpPure (P : Program) (l : List Oper) (Q : Exit → Act → World → Prop) (R : World → World → Prop) : List (Nat × Nat) → Act → World → Prop
  | [], a, w => Q .normal a w
  | (i, 0) :: rest, a, w => match l[i]? with
    | some o => ∃ v, YieldsR P l.toArray R w o v a ∧ (∀ c a w, Q (.panic c) (a.put o.dst v) w → Q (.panic c) a w) ∧ wpPure P l Q R rest (a.put o.dst v) w
    | none => False
  | (i, 1) :: rest, a, w => wpOp P l.toArray Q i (fun a' w' => R w w' ∧ wpPure P l Q R rest a' w') a w
  | (i, 2) :: rest, a, w => wpOp P l.toArray Q i (fun a' w' => wpPure P l Q R rest a' w') a w
  | (i, _ + 3) :: rest, a, w => match l[i]? with
    | some o => ∃ v, YieldsR P l.toArray AnyW w o v a ∧ (∀ c a w, Q (.panic c) (a.put o.dst v) w → Q (.panic c) a w) ∧ wpPure P l Q R rest (a.put o.dst v) w
    | none => False
theorem wpAnyK_of_pure {l : List Oper} {R : World → World → Prop} (rf : ∀ a, R a a) (tr : ∀ a b c, R a b → R b c → R a c) {L : List Nat} (hs : Region.noSelect l.toArray = true) :
    ∀ (ord : List (Nat × Nat)) (listed : Array Bool) (a : Act) (w : World), ListedClosed md l.toArray listed → ordP md l.toArray L ord listed = true → wpPure P l Q R ord a w →
      wpAnyK P md l.toArray Q R L ord.length listed a w
  | [], _, _, _, _, hB, h => ⟨by simpa [ordP] using hB, h⟩
  | (i, 0) :: rest, listed, a, w, inv, hB, h => by
    simp only [ordP, Bool.and_eq_true] at hB
    obtain ⟨⟨⟨hr, hf⟩, hL⟩, hB'⟩ := hB
    simp only [wpPure] at h
    split at h
    · rename_i o ho
      obtain ⟨v, hy, hQ, hK⟩ := h
      have ho' : l.toArray[i]? = some o := by simpa using ho
      have hr' : i ∈ Region.ready md l.toArray listed := by simpa using hr
      exact wpAnyK_first rf tr (by simpa using hL) ho' (Region.noSelect_spec hs) hQ rest.length listed a w inv (Region.free_spec ho' hf) hr' hy
        (wpAnyK_of_pure rf tr hs rest _ _ _ (inv.set hr') hB' hK)
    · exact h.elim
  | (i, 1) :: rest, listed, a, w, inv, hB, h => by
    simp only [ordP, Bool.and_eq_true, decide_eq_true_eq] at hB
    obtain ⟨hr, hB'⟩ := hB
    have hr' : i ∈ Region.ready md l.toArray listed := by rw [hr]; simp
    refine ⟨fun h0 => (by rw [hr] at h0; cases h0), fun j hj => ?_⟩
    rw [hr] at hj
    have hji : j = i := by simpa using hj
    subst hji
    simp only [wpPure] at h
    exact wpOp_mono (fun a' w' h' => ⟨fun _ => h'.1, wpAnyK_of_pure rf tr hs rest _ _ _ (inv.set hr') hB' h'.2⟩) h
  | (i, 2) :: rest, listed, a, w, inv, hB, h => by
    simp only [ordP, Bool.and_eq_true, decide_eq_true_eq, Bool.not_eq_true'] at hB
    obtain ⟨⟨hr, hn⟩, hB'⟩ := hB
    have hr' : i ∈ Region.ready md l.toArray listed := by rw [hr]; simp
    refine ⟨fun h0 => (by rw [hr] at h0; cases h0), fun j hj => ?_⟩
    rw [hr] at hj
    have hji : j = i := by simpa using hj
    subst hji
    simp only [wpPure] at h
    exact wpOp_mono (fun a' w' h' => ⟨fun hneed => (by rw [hneed] at hn; cases hn), wpAnyK_of_pure rf tr hs rest _ _ _ (inv.set hr') hB' h'⟩) h
  | (i, n + 3) :: rest, listed, a, w, inv, hB, h => by
    simp only [ordP, Bool.and_eq_true] at hB
    obtain ⟨⟨hr, hf⟩, hB'⟩ := hB
    simp only [wpPure] at h
    split at h
    · rename_i o ho
      obtain ⟨v, hy, hQ, hK⟩ := h
      have ho' : l.toArray[i]? = some o := by simpa using ho
      have hr' : i ∈ Region.ready md l.toArray listed := by simpa using hr
      exact wpAnyK_pure rf ho' (Region.noSelect_spec hs) hQ rest.length listed a w inv (Region.free_spec ho' hf) hr' hy
        (wpAnyK_of_pure rf tr hs rest _ _ _ (inv.set hr') hB' hK)
    · exact h.elim
/-- The beginning. -/
theorem wp_region_pure {id : Nat} {l : List Oper} {a : Act} {w : World} (R : World → World → Prop) (rf : ∀ a, R a a) (tr : ∀ a b c, R a b → R b c → R a c) (ord : List (Nat × Nat))
    (hm : P.follows .mixedOrders = true) (hB : (Region.noSelect l.toArray && (ord.length == l.length) && ordP .any l.toArray (quiets ord) ord (Array.replicate l.length false)) = true)
    (h : wpPure P l Q R ord a w.drew) : (Code.region id l.toArray true).wp P Q a w := by
  simp only [Bool.and_eq_true, beq_iff_eq] at hB
  obtain ⟨⟨hs, hlen⟩, hB⟩ := hB
  refine wp_region_any hm (wpAny_of_K (R := R) (L := quiets ord) _ _ _ _ ?_)
  have := wpAnyK_of_pure (md := .any) (P := P) (Q := Q) rf tr (L := quiets ord) hs ord (Array.replicate l.length false) a w.drew ?_ hB h
  · rw [hlen] at this
    simpa using this
  · intro j oj _ hl
    rw [getD_replicate_false] at hl
    cases hl
theorem pure_quiet {l : List Oper} {R : World → World → Prop} {i : Nat} {o : Oper} {rest : List (Nat × Nat)} {a : Act} {w : World} {v : Value} (ho : l[i]? = some o)
    (hQ : ∀ c a w, Q (.panic c) (a.put o.dst v) w → Q (.panic c) a w)
    (hw : Region.wanted o (yielded l.toArray a.tmps) = true) (hv : ∀ w', R w w' → (execOp a.eval o).run P w' = .ok (.value v) w') (h : wpPure P l Q R rest (a.put o.dst v) w) : wpPure P l Q R ((i, 0) :: rest) a w := by
  simp only [wpPure, ho]
  exact ⟨v, .inl ⟨hw, hv⟩, hQ, h⟩
theorem pure_skip {l : List Oper} {R : World → World → Prop} {i : Nat} {o : Oper} {rest : List (Nat × Nat)} {a : Act} {w : World} (ho : l[i]? = some o)
    (hQ : ∀ c a w, Q (.panic c) (a.put o.dst undef) w → Q (.panic c) a w)
    (hw : Region.wanted o (yielded l.toArray a.tmps) = false) (h : wpPure P l Q R rest (a.put o.dst undef) w) : wpPure P l Q R ((i, 0) :: rest) a w := by
  simp only [wpPure, ho]
  exact ⟨undef, .inr ⟨hw, rfl⟩, hQ, h⟩
theorem pure_pure {l : List Oper} {R : World → World → Prop} {i : Nat} {o : Oper} {rest : List (Nat × Nat)} {a : Act} {w : World} {v : Value} (ho : l[i]? = some o)
    (hQ : ∀ c a w, Q (.panic c) (a.put o.dst v) w → Q (.panic c) a w)
    (hw : Region.wanted o (yielded l.toArray a.tmps) = true) (hv : ∀ w', (execOp a.eval o).run P w' = .ok (.value v) w') (h : wpPure P l Q R rest (a.put o.dst v) w) : wpPure P l Q R ((i, 3) :: rest) a w := by
  simp only [wpPure, ho]
  exact ⟨v, .inl ⟨hw, fun w' _ => hv w'⟩, hQ, h⟩
def purePost (P : Program) (l : List Oper) (Q : Exit → Act → World → Prop) (R : World → World → Prop) (rest : List (Nat × Nat)) (k : Nat) (w : World) : Exit → Act → World → Prop
  | .normal, a', w' => (k = 0 → R w w') ∧ wpPure P l Q R rest a' w'
  | e, a', w' => Q e a' w'
theorem pure_op {l : List Oper} {i : Nat} {o : Oper} {a : Act} {w : World} (ho : l[i]? = some o) {K : Act → World → Prop} {S : Exit → Act → World → Prop}
    (hn : ∀ a w, S .normal a w → K a w) (hS : ∀ e a w, e ≠ .normal → S e a w → Q e a w)
    (h : wpList P l.toArray S [o] a w) : wpOp P l.toArray Q i K a w := by
  have ho' : l.toArray[i]? = some o := by simpa using ho
  unfold wpOp
  simp only [ho']
  simp only [wpList] at h
  split at h
  · rename_i hw
    rw [if_pos hw]
    rcases h with h | ⟨h1, a0, w0, h2⟩
    · refine .inl ?_
      unfold Oper.wp at h ⊢
      generalize (execOp a.eval o).run P w = r at *
      cases r with
      | ok n w' =>
        cases n <;> simp only [Oper.upon] at h ⊢
        case value u => exact hn _ _ h
        case skip => exact hn _ _ h
        case defer d => exact hn _ _ h
        case enter f args =>
          refine h.mono fun e w'' he => ?_
          rcases e with u | c | _
          · exact hn _ _ he
          · exact hS _ _ _ (by simp) he
          · obtain ⟨a0, w0, h2⟩ := he
            exact ⟨a0, w0, hS _ _ _ (by simp) h2⟩
        case row row args => exact Rows.mono h fun u w'' he => hn _ _ he
      | halt x w' => cases x <;> simp only [Oper.upon] at h ⊢ <;> exact hS _ _ _ (by simp) h
    · exact .inr ⟨h1, a0, w0, hS _ _ _ (by simp) h2⟩
  · rename_i hw
    rw [if_neg hw]
    exact hn _ _ h
theorem pure_eff {l : List Oper} {R : World → World → Prop} {i : Nat} {o : Oper} {rest : List (Nat × Nat)} {a : Act} {w : World} (ho : l[i]? = some o)
    (h : wpList P l.toArray (purePost P l Q R rest 0 w) [o] a w) : wpPure P l Q R ((i, 1) :: rest) a w := by
  simp only [wpPure]
  exact pure_op (S := purePost P l Q R rest 0 w) ho (fun a w h => ⟨h.1 rfl, h.2⟩) (fun e a w hne h => by cases e <;> first | exact absurd rfl hne | exact h) h
theorem pure_eff2 {l : List Oper} {R : World → World → Prop} {i : Nat} {o : Oper} {rest : List (Nat × Nat)} {a : Act} {w : World} (ho : l[i]? = some o)
    (h : wpList P l.toArray (purePost P l Q R rest 1 w) [o] a w) : wpPure P l Q R ((i, 2) :: rest) a w := by
  simp only [wpPure]
  exact pure_op (S := purePost P l Q R rest 1 w) ho (fun a w h => h.2) (fun e a w hne h => by cases e <;> first | exact absurd rfl hne | exact h) h
theorem purePost_need {l : List Oper} {R : World → World → Prop} {rest : List (Nat × Nat)} {w w' : World} {a' : Act} (hR : R w w') (h : wpPure P l Q R rest a' w') : purePost P l Q R rest 0 w .normal a' w' := ⟨fun _ => hR, h⟩
theorem purePost_free {l : List Oper} {R : World → World → Prop} {rest : List (Nat × Nat)} {w w' : World} {a' : Act} (h : wpPure P l Q R rest a' w') : purePost P l Q R rest 1 w .normal a' w' := ⟨fun h => (by cases h), h⟩
theorem pure_done {l : List Oper} {R : World → World → Prop} {a : Act} {w : World} (h : Q .normal a w) : wpPure P l Q R [] a w := h
end
end Go.Proofs.YtkbcilfcfbfiaaaDoor
/- A slice of structs of one-cell fields that came in, opened to its cells. -/
namespace Go.Proofs.YtkbcilfcfbfiaaaDoor
open Go.ChangeShapes Go.WideShapes Go.Deep
section
variable {H : Type} {enc : TypeId × Value → H} {P : Program} {w : World} {base : Nat} {spare : Nat → Bool} {held : Bool}
theorem open_slice_fields {t e : TypeId} {fs : Array Field} {fuel : Nat} {cs : List Value} {x : DataW H × List MemPlace} (ht : P.underlying t = some (.slice e)) (he : P.underlying e = some (.struct fs))
    (hone : oneCellFields P fs = true) (hC : P.cellsOf e = fs.size) (h : DataW.trod enc P w base spare held fuel t cs = some x) :
    (cs = [.slice none 0 0] ∧ x = (.nil, [])) ∨
    ∃ (a : Addr) (len cap m : Nat) (D : Nat → DataW H) (Pl : Nat → List MemPlace), cs = [.slice (some a) len cap] ∧ base ≤ a.block ∧ len ≤ cap ∧ cap ≤ maxLen ∧ m = (if spare a.block then cap else len) ∧
      x = (.slice ((List.range len).map D) ((List.range (m - len)).map fun j => D (len + j)), MemPlace.row a (m * fs.size) ++ (List.range m).flatMap Pl) ∧
      ∀ i, i < m → ∃ (ys : List (DataW H × List MemPlace)) (n : Nat), D i = .agg (ys.map (·.1)) ∧ Pl i = ys.flatMap (·.2) ∧ ys.length = fs.size ∧
        ∀ (j : Nat) (f : Field), fs[j]? = some f → ∃ (v : Value) (y : DataW H × List MemPlace), w.cell? (a.add (i * fs.size + j)) = some v ∧ ys[j]? = some y ∧ DataW.trod enc P w base spare held n f.type [v] = some y := by
  rcases open_slice ht h with h0 | ⟨a, len, cap, m, n, D, Pl, hcs, hb, hl, hm, hmm, hx, hi⟩
  · exact .inl h0
  · refine .inr ⟨a, len, cap, m, D, Pl, hcs, hb, hl, hm, hmm, by rw [hC] at hx; exact hx, fun i him => ?_⟩
    obtain ⟨cs', hc, ht'⟩ := hi i him
    rw [hC] at hc
    obtain ⟨ys, n', hn', hy, hlen, hyl, hf⟩ := DataW.trod_struct he ht'
    obtain ⟨_, hcl, hat⟩ := World.cells?_some hc
    simp only [Prod.mk.injEq] at hy
    refine ⟨ys, n', hy.1, hy.2, hyl, fun j f hj => ?_⟩
    obtain ⟨ho, hk⟩ := hone_of hone j f hj
    have hjl : j < fs.size := (Array.getElem?_eq_some_iff.1 hj).1
    have hcell := hat j hjl
    have hv : cs'[j]? = some (cs'[j]'(by omega)) := List.getElem?_eq_getElem (by omega)
    have h1 := hf j f hj
    rw [ho, hk] at h1
    have hone' : (cs'.drop j).take 1 = [cs'[j]'(by omega)] := by
      rw [List.drop_eq_getElem_cons (by omega)]
      rfl
    rw [hone'] at h1
    have hys : ys[j]? = some (ys[j]'(by omega)) := List.getElem?_eq_getElem (by omega)
    refine ⟨_, _, ?_, hys, h1.trans hys⟩
    rw [← Go.Deep.add_add, hcell, hv]
end
theorem spot_none {w : World} {b o : Nat} {sp : Option Nat} {v : Value} (h : w.cell? ⟨b, o, sp⟩ = some v) : sp = none := by
  unfold World.cell? at h
  split at h
  · cases sp with
    | none => rfl
    | some x => simp at h
  · cases h
theorem addr_add (b o n : Nat) : (⟨b, o, none⟩ : Addr).add n = ⟨b, o + n, none⟩ := by
  unfold Addr.add
  split
  · rename_i h; subst h; rfl
  · rfl
end Go.Proofs.YtkbcilfcfbfiaaaDoor
/- The reference's ring: the tag of a text of any length, what lies there, May. -/
namespace Go.Proofs.YtkbcilfcfbfiaaaDoor
open Go.RowKit Go.Proofs
set_option linter.unusedSimpArgs false
set_option linter.unusedVariables false
set_option maxRecDepth 100000 in
set_option maxHeartbeats 2000000 in
theorem rtag_big (k t : ByteArray) (w : World) (hk : k.size < 150000000000000) (hn : t.size < 140737488355000) :
    Calls Tryd.prog 34 #[.string k, .string t] w fun e w' => e = .returned (.agg (bytesC (tagOf (by_ k) (by_ t)))) ∧ Below w.heap.size w w' := by
  have HK := Lib.hid hk
  have HN := Lib.hid hn
  clear hk hn
  go_enter Tryd.func34, Tryd.ntmps34
  go_upto_region 1 with (fail)
  change Code.wp _ _ _ _ (w.alloc (.cells z32 25))
  have R2 : Blk (w.alloc (.cells z32 25)) w.heap.size 25 z32 := Blk.new w 25 z32
  have B : Below w.heap.size w (w.alloc (.cells z32 25)) := (Below.refl _ _).alloc (Nat.le_refl _) _
  generalize w.alloc (.cells z32 25) = w2 at R2 B ⊢
  have HR := Lib.hid R2
  have HB := Lib.hid B
  clear R2 B
  go_wp2_with fail
  refine (pad_any k 0x36 w2 HK.out).mono ?_
  rintro e w3 ⟨rfl, hb⟩
  have HR := Lib.hid (HR.out.below hb HR.out.lt)
  have HB := Lib.hid (HB.out.trans (hb.mono HB.out.size))
  clear hb
  have HTG := Lib.hid (show sumOf (padOf (by_ k) 0x5c ++ sumOf (padOf (by_ k) 0x36 ++ by_ t)) = tagOf (by_ k) (by_ t) from rfl)
  have HPL := Lib.hid (padOf_length (by_ k) 0x36)
  generalize padOf (by_ k) 0x36 = PO at HPL HTG ⊢
  have hcat : ∀ w', (Op.stringOp .add (strOf PO) t).run Tryd.prog w' = .ok (.string (strOf (PO ++ by_ t))) w' := fun w' => by
    rw [← strOf_append, strOf_by]
    exact run_string_add_sum w' _ _ (by rw [strOf_size, HPL.out]; have := HN.out; omega)
  have hsz2 : (strOf (PO ++ by_ t)).size < 150000000000000 := by rw [strOf_size, List.length_append, HPL.out, ← by_size]; have := HN.out; omega
  have hsum := fun w => rsum_any (strOf (PO ++ by_ t)) w hsz2
  rw [by_strOf] at hsum
  generalize strOf PO = sPO at hcat ⊢
  generalize strOf (PO ++ by_ t) = sPD at hcat hsum
  clear hsz2
  go_wp2_with fail
  refine (hsum _).mono ?_
  clear hsum hcat
  rintro e w4 ⟨rfl, hb⟩
  have HR := Lib.hid (HR.out.below hb HR.out.lt)
  have HB := Lib.hid (HB.out.trans (hb.mono HB.out.size))
  clear hb
  have hD := sumOf_length (PO ++ by_ t)
  generalize sumOf (PO ++ by_ t) = D at hD HTG ⊢
  have hby := rbytes_any D hD w4
  have HD := Lib.hid hD
  clear hD
  generalize bytesC D = XD at hby ⊢
  go_wp2_with fail
  refine hby.mono ?_
  clear hby
  rintro e w5 ⟨rfl, hb⟩
  have HR := Lib.hid (HR.out.below hb HR.out.lt)
  have HB := Lib.hid (HB.out.trans (hb.mono HB.out.size))
  clear hb
  go_upto_region 2 with (fail)
  refine wp_region_lit ?_
  iterate 5 go_step
  refine (pad_any k 0x5c w5 HK.out).mono ?_
  rintro e w6 ⟨rfl, hb⟩
  have HR := Lib.hid (HR.out.below hb HR.out.lt)
  have HB := Lib.hid (HB.out.trans (hb.mono HB.out.size))
  clear hb
  have HQL := Lib.hid (padOf_length (by_ k) 0x5c)
  generalize padOf (by_ k) 0x5c = PI at HQL HTG ⊢
  have hcat : ∀ w', (Op.stringOp .add (strOf PI) (strOf D)).run Tryd.prog w' = .ok (.string (strOf (PI ++ D))) w' := fun w' => by
    rw [← strOf_append]
    exact run_string_add_sum w' _ _ (by rw [strOf_size, strOf_size, HQL.out, HD.out]; decide)
  have hsz2 : (strOf (PI ++ D)).size < 150000000000000 := by rw [strOf_size, List.length_append, HQL.out, HD.out]; decide
  have hsum := rsum_any (strOf (PI ++ D)) w6 hsz2
  rw [by_strOf, HTG.out] at hsum
  generalize strOf PI = sPI at hcat ⊢
  generalize strOf D = sD at hcat ⊢
  generalize strOf (PI ++ D) = sPD at hcat hsum
  clear hsz2
  dsimp only
  iterate 9 go_step
  refine hsum.mono ?_
  clear hsum hcat
  rintro e w10 ⟨rfl, hb⟩
  have HR := Lib.hid (HR.out.below hb HR.out.lt)
  have HB := Lib.hid (HB.out.trans (hb.mono HB.out.size))
  clear hb
  have hsz : (bytesC (tagOf (by_ k) (by_ t))).size = 32 := by rw [bytesC_size, tagOf_length]
  have hone := bytesC_one (tagOf (by_ k) (by_ t))
  generalize hTT : bytesC (tagOf (by_ k) (by_ t)) = TT at hsz hone ⊢
  have HTT := Lib.hid hTT
  clear hTT
  have hi25 : (Tryd.prog.info? 25).map (·.size) = some TT.size := by rw [hsz]; kernel_rfl
  dsimp only
  go_step
  refine wpList_store_mid rfl 25 _ _ rfl w.heap.size 0 TT rfl rfl (HR.out.there 0 _ (by rw [hsz, z32_size]; exact Nat.le_refl _)) hi25 hone ?_
  refine wpList_nil ?_
  simp only [Act.put]
  have hz := HR.out.setCells TT.toList 0
  rw [putAll_all _ _ (by rw [hsz, z32_size])] at hz
  have B3 := Below.setCells' TT.toList (Nat.le_refl _) 0 HB.out
  have HI := Lib.hid hi25
  clear hi25 hone hsz
  generalize w10.setCells w.heap.size 0 TT.toList = w11 at hz B3 ⊢
  have HZ := Lib.hid hz
  have HB9 := Lib.hid B3
  clear hz B3
  go_wp2_with fail
  refine bodyPost_ret (v := .agg TT) (results_cell_row rfl _ _ w.heap.size 25 TT _ _ rfl HZ.out Tryd.underlying25 rfl HI.out) rfl ⟨by rw [HTT.out], HB9.out⟩
/-- v is a row of lines. -/
def RowL (w : World) (v : Value) (S : List Ln) : Prop :=
  (v = .slice none 0 0 ∧ S = []) ∨ ∃ g cap, v = .slice (some ⟨g, 0, none⟩) S.length cap ∧
    ∀ (i : Nat) (x : Ln), S[i]? = some x → w.cell? ⟨g, i * 3, none⟩ = some (.int .i64 x.1) ∧ w.cell? ⟨g, i * 3 + 1, none⟩ = some (.int .i64 x.2.1) ∧ w.cell? ⟨g, i * 3 + 2, none⟩ = some (.string (strOf x.2.2))
theorem RowL.of_ {w w' : World} {v : Value} {S : List Ln} (h : RowL w v S) (k : ∀ p u, w.cell? p = some u → p.block < w.heap.size → w'.cell? p = some u) : RowL w' v S := by
  rcases h with h | ⟨g, cap, hv, h⟩
  · exact .inl h
  · refine .inr ⟨g, cap, hv, fun i x hx => ?_⟩
    obtain ⟨h0, h1, h2⟩ := h i x hx
    exact ⟨k _ _ h0 (World.block_lt_of_cell? w _ h0), k _ _ h1 (World.block_lt_of_cell? w _ h1), k _ _ h2 (World.block_lt_of_cell? w _ h2)⟩
/-- The reference's ring. -/
structure RefAt (w : World) (x : Nat) (v : Value) (sd : ByteArray) (N : Nat) (S : List Ln) : Prop where
  ring : Blk w x 80 #[.string sd, .int .i64 N, v]
  rows : RowL w v S
  eight : N ≤ 8
section
variable {w w' : World} {x N : Nat} {v : Value} {sd : ByteArray} {S : List Ln}
theorem RefAt.lt (h : RefAt w x v sd N S) : x < w.heap.size := h.ring.lt
theorem RefAt.below (h : RefAt w x v sd N S) (hb : Below w.heap.size w w') : RefAt w' x v sd N S :=
  ⟨h.ring.below hb h.ring.lt, h.rows.of_ fun p u hc hl => (hb.cell hl).trans hc, h.eight⟩
theorem RefAt.drew (h : RefAt w x v sd N S) : RefAt w.drew x v sd N S := ⟨h.ring, h.rows, h.eight⟩
theorem RefAt.alloc (h : RefAt w x v sd N S) (o : Obj) : RefAt (w.alloc o) x v sd N S := h.below ((Below.refl _ _).alloc (Nat.le_refl _) o)
end
set_option maxRecDepth 100000 in
set_option maxHeartbeats 2000000 in
theorem mayR_any (c d : Int) (t : ByteArray) (x N : Nat) (v : Value) (sd : ByteArray) (S : List Ln) (w : World) (hR : RefAt w x v sd N S) :
    Calls Tryd.prog 55 #[.pointer (some ⟨x, 0, none⟩), .agg #[.int .i64 c, .int .i64 d, .string t]] w fun e w' => e = .returned (.bool (decide (MayB N c d t.size))) ∧ Below w.heap.size w w' := by
  have h1 := hR.ring.cell 1
  have hlt := hR.lt
  clear hR
  have k1 : (w.alloc (Obj.cells #[Value.int IntKind.i64 c, Value.int IntKind.i64 d, Value.string t] 68)).cell? ⟨x, 1, none⟩ = some (.int .i64 N) := (((Below.refl w.heap.size w).alloc (Nat.le_refl _) _).cell hlt).trans h1
  clear h1
  go_enter Tryd.func55, Tryd.ntmps55
  go_upto_region 1 with (fail)
  by_cases c1 : 0 ≤ c
  · have g1 : decide (0 ≤ c) = true := decide_eq_true c1
    by_cases c2 : c < (N : Int)
    · have g2 : decide (c < (N : Int)) = true := decide_eq_true c2
      by_cases c3 : 1 ≤ d
      · have g3 : decide (1 ≤ d) = true := decide_eq_true c3
        by_cases c4 : d ≤ 6
        · have g4 : decide (d ≤ 6) = true := decide_eq_true c4
          have HM := Lib.hid (show decide (MayB N c d t.size) = decide ((t.size : Int) ≤ 16384) from decide_eq_decide.2 ⟨fun h => by have := h.2.2.2.2; omega, fun h => ⟨c1, c2, c3, c4, by omega⟩⟩)
          go_quiet (fail)
          go_wp2_with fail
          go_ret
          exact ⟨by rw [HM.out]; rfl, ((Below.refl _ _).alloc (Nat.le_refl _) _).drewN _⟩
        · have g4 : decide (d ≤ 6) = false := decide_eq_false c4
          have hm : decide (MayB N c d t.size) = false := decide_eq_false (fun h => c4 h.2.2.2.1)
          go_quiet (fail)
          go_wp2_with fail
          go_ret
          exact ⟨rfl, ((Below.refl _ _).alloc (Nat.le_refl _) _).drewN _⟩
      · have g3 : decide (1 ≤ d) = false := decide_eq_false c3
        have hm : decide (MayB N c d t.size) = false := decide_eq_false (fun h => c3 h.2.2.1)
        go_quiet (fail)
        go_wp2_with fail
        go_ret
        exact ⟨rfl, ((Below.refl _ _).alloc (Nat.le_refl _) _).drewN _⟩
    · have g2 : decide (c < (N : Int)) = false := decide_eq_false c2
      have hm : decide (MayB N c d t.size) = false := decide_eq_false (fun h => c2 h.2.1)
      go_quiet (fail)
      go_wp2_with fail
      go_ret
      exact ⟨rfl, ((Below.refl _ _).alloc (Nat.le_refl _) _).drewN _⟩
  · have g1 : decide (0 ≤ c) = false := decide_eq_false c1
    have hm : decide (MayB N c d t.size) = false := decide_eq_false (fun h => c1 h.1)
    go_quiet (fail)
    go_wp2_with fail
    go_ret
    exact ⟨rfl, ((Below.refl _ _).alloc (Nat.le_refl _) _).drewN _⟩
end Go.Proofs.YtkbcilfcfbfiaaaDoor
/- The reference's ring: Of. -/
namespace Go.Proofs.YtkbcilfcfbfiaaaDoor
open Go.RowKit Go.Proofs
set_option linter.unusedSimpArgs false
set_option linter.unusedVariables false
theorem keyC_size (sd : ByteArray) (c : Int) : (strOf (madeOf (by_ sd) (by_ clientT) c)).size = 32 := by
  rw [strOf_size, madeOf_ok _ _ _ (by rw [by_clientT]; omega), tagOf_length]
set_option maxRecDepth 100000 in
set_option maxHeartbeats 4000000 in
theorem ofR_any (c d : Int) (t : ByteArray) (hc : In64 c) (hd : In64 d) (ht : t.size ≤ 140737488351232) (x N : Nat) (v : Value) (sd : ByteArray) (S : List Ln) (w : World) (hR : RefAt w x v sd N S) (hsd : sd.size ≤ 64) :
    Calls Tryd.prog 54 #[.pointer (some ⟨x, 0, none⟩), .agg #[.int .i64 c, .int .i64 d, .string t]] w fun e w' => e = .returned (.agg (bytesC (signOf sd c d t))) ∧ Below w.heap.size w w' := by
  have HC := Lib.hid hc
  have HD := Lib.hid hd
  have HT := Lib.hid ht
  have HSD := Lib.hid hsd
  clear hc hd ht hsd
  go_enter Tryd.func54, Tryd.ntmps54
  go_upto_region 1 with (fail)
  change Code.wp _ _ _ _ ((w.alloc (.cells #[.int .i64 c, .int .i64 d, .string t] 68)).alloc (.cells z32 25))
  have R1 : Blk ((w.alloc (.cells #[.int .i64 c, .int .i64 d, .string t] 68)).alloc (.cells z32 25)) w.heap.size 68 #[.int .i64 c, .int .i64 d, .string t] := (Blk.new w 68 _).alloc _
  have R2 : Blk ((w.alloc (.cells #[.int .i64 c, .int .i64 d, .string t] 68)).alloc (.cells z32 25)) (w.heap.size + 1) 25 z32 := by
    have := Blk.new (w.alloc (.cells #[.int .i64 c, .int .i64 d, .string t] 68)) 25 z32
    rwa [World.size_alloc] at this
  have B : Below w.heap.size w ((w.alloc (.cells #[.int .i64 c, .int .i64 d, .string t] 68)).alloc (.cells z32 25)) := ((Below.refl _ _).alloc (Nat.le_refl _) _).alloc (by simp) _
  have hRR := (hR.alloc (.cells #[.int .i64 c, .int .i64 d, .string t] 68)).alloc (.cells z32 25)
  clear hR
  generalize (w.alloc (.cells #[.int .i64 c, .int .i64 d, .string t] 68)).alloc (.cells z32 25) = w2 at R1 R2 B hRR ⊢
  have HR2 := Lib.hid R2
  have HB := Lib.hid B
  have hA0 : ∀ w', KeptOn (fun _ => True) w2.drew w' → w'.cell? ⟨w.heap.size, 0, none⟩ = some (.int .i64 c) := fun w' h => h.cell (w := w2.drew) (R1.cell 0) trivial
  have hA1 : ∀ w', KeptOn (fun _ => True) w2.drew w' → w'.cell? ⟨w.heap.size, 1, none⟩ = some (.int .i64 d) := fun w' h => h.cell (w := w2.drew) (R1.cell 1) trivial
  have hA2 : ∀ w', KeptOn (fun _ => True) w2.drew w' → w'.cell? ⟨w.heap.size, 2, none⟩ = some (.string t) := fun w' h => h.cell (w := w2.drew) (R1.cell 2) trivial
  have hG0 : ∀ w', KeptOn (fun _ => True) w2.drew w' → w'.cell? ⟨x, 0, none⟩ = some (.string sd) := fun w' h => h.cell (w := w2.drew) (hRR.ring.cell 0) trivial
  clear R1 R2 B hRR
  refine wp_region_pure (KeptOn fun _ => True) (KeptOn.refl _) (KeptOn.trans) [(0,3),(1,3),(2,3),(3,0),(4,3),(5,0),(7,3),(8,0),(10,3),(11,0),(6,1),(9,1),(12,3),(13,2),(14,2)] (by kernel_rfl) (by kernel_rfl) ?_
  iterate 3 (refine pure_pure (v := ?_) rfl (fun _ _ _ h => h) (by rfl) (fun w' => ?_) ?_; rotate_left; (go_simp; try with_reducible rfl); simp only [Act.put, List.setIfInBounds_toArray, List.set_cons_zero, List.set_cons_succ])
  iterate 1 (refine pure_quiet (v := ?_) rfl (fun _ _ _ h => h) (by rfl) (fun w' hR => ?_) ?_; rotate_left; (go_simp; try with_reducible rfl); simp only [Act.put, List.setIfInBounds_toArray, List.set_cons_zero, List.set_cons_succ])
  iterate 1 (refine pure_pure (v := ?_) rfl (fun _ _ _ h => h) (by rfl) (fun w' => ?_) ?_; rotate_left; (go_simp; try with_reducible rfl); simp only [Act.put, List.setIfInBounds_toArray, List.set_cons_zero, List.set_cons_succ])
  iterate 1 (refine pure_quiet (v := ?_) rfl (fun _ _ _ h => h) (by rfl) (fun w' hR => ?_) ?_; rotate_left; (go_simp; try with_reducible rfl); simp only [Act.put, List.setIfInBounds_toArray, List.set_cons_zero, List.set_cons_succ])
  iterate 1 (refine pure_pure (v := ?_) rfl (fun _ _ _ h => h) (by rfl) (fun w' => ?_) ?_; rotate_left; (go_simp; try with_reducible rfl); simp only [Act.put, List.setIfInBounds_toArray, List.set_cons_zero, List.set_cons_succ])
  iterate 1 (refine pure_quiet (v := ?_) rfl (fun _ _ _ h => h) (by rfl) (fun w' hR => ?_) ?_; rotate_left; (go_simp; try with_reducible rfl); simp only [Act.put, List.setIfInBounds_toArray, List.set_cons_zero, List.set_cons_succ])
  iterate 1 (refine pure_pure (v := ?_) rfl (fun _ _ _ h => h) (by rfl) (fun w' => ?_) ?_; rotate_left; (go_simp; try with_reducible rfl); simp only [Act.put, List.setIfInBounds_toArray, List.set_cons_zero, List.set_cons_succ])
  iterate 1 (refine pure_quiet (v := ?_) rfl (fun _ _ _ h => h) (by rfl) (fun w' hR => ?_) ?_; rotate_left; (go_simp; try with_reducible rfl); simp only [Act.put, List.setIfInBounds_toArray, List.set_cons_zero, List.set_cons_succ])
  clear hA0 hA1 hA2 hG0
  refine pure_eff rfl ?_
  go_wp2_with fail
  refine (rmake_any sd clientT c HC.out.1 HC.out.2 w2.drew (by have := HSD.out; omega)).mono ?_
  rintro e w3 ⟨rfl, hb⟩
  have HKe := Lib.hid (show KeptOn (fun _ => True) w2.drew w3 from KeptOn.below hb (fun b hb _ => hb))
  have HR2 := Lib.hid (Blk.below (show Blk w2.drew (w.heap.size + 1) 25 z32 from HR2.out) hb HR2.out.lt)
  have HB := Lib.hid (Below.trans (show Below w.heap.size w w2.drew from HB.out.drewN 1) (hb.mono HB.out.size))
  have HKS := Lib.hid (keyC_size sd c)
  have HSG := Lib.hid (show tagOf (by_ (strOf (madeOf (by_ sd) (by_ clientT) c))) (numOf d ++ by_ t) = signOf sd c d t from rfl)
  clear hb
  generalize strOf (madeOf (by_ sd) (by_ clientT) c) = K at HKS HSG ⊢
  go_wp2_with fail
  refine purePost_need HKe.out ?_
  refine pure_eff rfl ?_
  go_wp2_with fail
  refine (rnumber_any d HD.out.1 HD.out.2 w3).mono ?_
  rintro e w4 ⟨rfl, hb⟩
  have HKe4 := Lib.hid (show KeptOn (fun _ => True) w3 w4 from KeptOn.below hb (fun b hb _ => hb))
  have HR2 := Lib.hid (Blk.below HR2.out hb HR2.out.lt)
  have HB := Lib.hid (HB.out.trans (hb.mono HB.out.size))
  have HNL := Lib.hid (numOf_length d (by have := HD.out.1; have := HD.out.2; omega))
  clear hb
  have HCA := Lib.hid (show by_ (strOf (numOf d) ++ t) = numOf d ++ by_ t by have h := strOf_append (numOf d) (by_ t); rw [strOf_by] at h; rw [h, by_strOf])
  have HCZ := Lib.hid (show (strOf (numOf d) ++ t).size ≤ 22 + t.size by rw [by_size, HCA.out, List.length_append, ← by_size]; have := HNL.out; omega)
  have hcat : ∀ w', (Op.stringOp .add (strOf (numOf d)) t).run Tryd.prog w' = .ok (.string (strOf (numOf d) ++ t)) w' := fun w' => run_string_add_sum w' _ _ (by rw [strOf_size]; have := HNL.out; have := HT.out; omega)
  generalize strOf (numOf d) = Us at hcat HCA HCZ ⊢
  generalize Us ++ t = C at hcat HCA HCZ
  go_wp2_with fail
  refine purePost_need HKe4.out ?_
  iterate 1 (refine pure_pure (v := ?_) rfl (fun _ _ _ h => h) (by rfl) (fun w' => ?_) ?_; rotate_left; (go_simp; try with_reducible rfl); simp only [Act.put, List.setIfInBounds_toArray, List.set_cons_zero, List.set_cons_succ])
  clear hcat
  have htag := rtag_big K C w4 (by have := HKS.out; omega) (by have := HCZ.out; have := HT.out; omega)
  rw [HCA.out, HSG.out] at htag
  have hl := signOf_length sd c d t
  generalize hG : signOf sd c d t = G at htag hl ⊢
  have HG := Lib.hid hG
  clear hG
  refine pure_eff2 rfl ?_
  go_wp2_with fail
  refine htag.mono ?_
  clear htag
  rintro e w5 ⟨rfl, hb⟩
  have HR2 := Lib.hid (HR2.out.below hb HR2.out.lt)
  have HB := Lib.hid (HB.out.trans (hb.mono HB.out.size))
  clear hb
  have hsz : (bytesC G).size = 32 := by rw [bytesC_size, hl]
  have hone := bytesC_one G
  have hi25 : (Tryd.prog.info? 25).map (·.size) = some (bytesC G).size := by rw [hsz]; kernel_rfl
  generalize hX : bytesC G = X at hsz hone hi25 ⊢
  have HX := Lib.hid hX
  clear hX hl
  go_wp2_with fail
  refine purePost_free ?_
  refine pure_eff2 rfl ?_
  refine wpList_store_mid rfl 25 _ _ rfl (w.heap.size + 1) 0 X rfl rfl (HR2.out.there 0 _ (by rw [hsz, z32_size]; exact Nat.le_refl _)) hi25 hone ?_
  have hz := HR2.out.setCells X.toList 0
  rw [putAll_all _ _ (by rw [hsz, z32_size])] at hz
  have B4 := Below.setCells' X.toList (Nat.le_succ _) 0 HB.out
  simp only [Act.put]
  generalize w5.setCells (w.heap.size + 1) 0 X.toList = w6 at hz B4 ⊢
  have HI := Lib.hid hi25
  have HZ := Lib.hid hz
  have HB := Lib.hid B4
  clear hz B4 hi25 hsz hone
  refine wpList_nil ?_
  refine purePost_free ?_
  refine pure_done ?_
  go_wp2_with fail
  refine bodyPost_ret (v := .agg X) (results_cell_row rfl _ _ (w.heap.size + 1) 25 X _ _ rfl HZ.out Tryd.underlying25 rfl HI.out) rfl ⟨by rw [HG.out, HX.out], HB.out⟩
end Go.Proofs.YtkbcilfcfbfiaaaDoor
/- The reference's ring: Made, Check, New. -/
namespace Go.Proofs.YtkbcilfcfbfiaaaDoor
open Go.RowKit Go.Proofs
set_option linter.unusedSimpArgs false
set_option linter.unusedVariables false
theorem pure_skip3 {P : Program} {Q : Exit → Act → World → Prop} {l : List Oper} {R : World → World → Prop} {i : Nat} {o : Oper} {rest : List (Nat × Nat)} {a : Act} {w : World} (ho : l[i]? = some o)
    (hQ : ∀ c a w, Q (.panic c) (a.put o.dst undef) w → Q (.panic c) a w)
    (hw : Region.wanted o (yielded l.toArray a.tmps) = false) (h : wpPure P l Q R rest (a.put o.dst undef) w) : wpPure P l Q R ((i, 3) :: rest) a w := by
  simp only [wpPure, ho]
  exact ⟨undef, .inr ⟨hw, rfl⟩, hQ, h⟩
/-- Lines as they lie in books. -/
def Wide (S : List Ln) : Prop := ∀ x ∈ S, In64 x.1 ∧ In64 x.2.1 ∧ x.2.2.length ≤ 9223372036854775807
theorem RowL.len {w : World} {v : Value} {S : List Ln} (h : RowL w v S) : ∃ a cap, v = .slice a S.length cap := by
  rcases h with ⟨rfl, rfl⟩ | ⟨g, cap, rfl, _⟩
  · exact ⟨none, 0, rfl⟩
  · exact ⟨_, cap, rfl⟩
set_option maxRecDepth 100000 in
set_option maxHeartbeats 4000000 in
theorem madeR_any (c d : Int) (t : ByteArray) (hc : In64 c) (hd : In64 d) (ht : t.size ≤ maxLen) (x N : Nat) (v : Value) (sd : ByteArray) (S : List Ln) (w : World) (hR : RefAt w x v sd N S) (hS : Wide S) (hl : S.length ≤ 1000) :
    Calls Tryd.prog 57 #[.pointer (some ⟨x, 0, none⟩), .agg #[.int .i64 c, .int .i64 d, .string t]] w fun e w' => e = .returned (.bool (decide (ln c d t ∈ S))) ∧ Below w.heap.size w w' := by
  obtain ⟨a0, cap, rfl⟩ := hR.rows.len
  have c2 : w.cell? ⟨x, 2, none⟩ = some (.slice a0 S.length cap) := hR.ring.cell 2
  have hxl := hR.lt
  have HRW := Lib.hid hR.rows
  have HWD := Lib.hid hS
  have HEQ := Lib.hid (fun c2 d2 t2 hc2 hd2 ht2 w => eql_line c2 d2 c d t2 t hc2 hd2 ht2 hc hd ht w)
  clear hR hS hc hd ht
  have hW1 : Below w.heap.size w (w.alloc (.cells #[.int .i64 c, .int .i64 d, .string t] 68)) := (Below.refl _ _).alloc (Nat.le_refl _) _
  have HB0 := Lib.hid hW1
  have HBX := Lib.hid (Blk.new w 68 #[.int .i64 c, .int .i64 d, .string t])
  clear hW1
  go_enter Tryd.func57, Tryd.ntmps57
  go_wp2_with fail
  go_loopw [5] (fun v5 wr => ∃ k : Nat, v5 = .int .i64 (k : Int) ∧ k ≤ S.length ∧ ln c d t ∉ S.take k ∧ Below w.heap.size w wr ∧ Blk wr w.heap.size 68 #[.int .i64 c, .int .i64 d, .string t]) (fun v5 _ => S.length - (intOf v5).toNat)
  case atStart => exact ⟨0, rfl, by omega, by simp, HB0.out, HBX.out⟩
  case round =>
    obtain ⟨k, rfl, hk, hnm, hb, hbx⟩ := hrel
    clear HB0 HBX
    have HNM := Lib.hid hnm
    have HB := Lib.hid hb
    have HBX := Lib.hid hbx
    have c2r : wr.cell? ⟨x, 2, none⟩ = some (.slice a0 S.length cap) := (hb.cell (p := ⟨x, 2, none⟩) hxl).trans c2
    clear hnm hb hbx
    by_cases hlt : (k : Int) < (S.length : Int)
    · have k1 : k < S.length := by omega
      have hget : S[k]? = some S[k] := List.getElem?_eq_getElem k1
      have hwd := HWD.out S[k] (List.getElem_mem k1)
      have HTK := Lib.hid (List.take_succ_eq_append_getElem k1)
      have HMM := Lib.hid (List.getElem_mem k1)
      rcases HRW.out with ⟨hv, hn⟩ | ⟨g, cap', hv, hrow⟩
      · rw [hn] at k1; simp at k1
      · injection hv with hv1 hv2 hv3
        subst hv1 hv3
        obtain ⟨r0, r1, r2⟩ := hrow k S[k] hget
        have hgl := World.block_lt_of_cell? w _ r0
        have k' : ∀ p u, w.cell? p = some u → wr.cell? p = some u := fun p u hp => (HB.out.cell (World.block_lt_of_cell? w _ hp)).trans hp
        have s0 := k' _ _ r0
        have s1 := k' _ _ r1
        have s2 := k' _ _ r2
        have hel := HEQ.out S[k].1 S[k].2.1 (strOf S[k].2.2) hwd.1 hwd.2.1 (by rw [strOf_size]; exact hwd.2.2)
        have hlnx : ln S[k].1 S[k].2.1 (strOf S[k].2.2) = S[k] := rfl
        rw [hlnx] at hel
        clear hv2 hrow r0 r1 r2 k' hget hwd hlnx
        generalize S[k] = y at s0 s1 s2 hel HTK HMM
        generalize strOf y.2.2 = yt at s2 hel
        generalize y.1 = yc at s0 hel
        generalize y.2.1 = yd at s1 hel
        have b0 := HBX.out.cell 0
        have b1 := HBX.out.cell 1
        have b2 := HBX.out.cell 2
        have k0 : (0 : Int) ≤ (k : Int) := by omega
        by_cases he : ln c d t = y
        · have hde : decide (ln c d t = y) = true := decide_eq_true he
          have HFIN := Lib.hid (show decide (ln c d t ∈ S) = true from decide_eq_true (he ▸ HMM.out))
          clear he
          rw [hde] at hel
          go_upto_region 4 with (fail)
          go_quiet (fail)
          rename_i nq
          have HB2 := Lib.hid (HB.out.drewN nq)
          generalize wr.drewN nq = w2 at HB2 ⊢
          clear s0 s1 s2 hel b0 b1 b2 c2r hde
          go_wp2_with fail
          go_ret
          exact ⟨by rw [HFIN.out]; rfl, HB2.out⟩
        · have hde : decide (ln c d t = y) = false := decide_eq_false he
          have HNX := Lib.hid (show ln c d t ∉ S.take (k + 1) from fun h => by
            rw [HTK.out, List.mem_append, List.mem_singleton] at h
            rcases h with h | h
            · exact HNM.out h
            · exact he h)
          clear he
          rw [hde] at hel
          go_upto_region 4 with (fail)
          go_quiet (fail)
          rename_i nq
          have HB2 := Lib.hid (HB.out.drewN nq)
          have HBX2 := Lib.hid (HBX.out.drewN nq)
          generalize wr.drewN nq = w2 at HB2 HBX2 ⊢
          clear s0 s1 s2 hel b0 b1 b2 c2r hde
          go_wp2_with fail
          go_roundw
          case rel => exact ⟨k + 1, by go_num, by omega, HNX.out, HB2.out, HBX2.out⟩
          case measure => simp [intOf]; omega
    · obtain rfl : k = S.length := by omega
      rw [List.take_length] at HNM
      go_wp2_with fail
      go_ret
      exact ⟨by rw [decide_eq_false HNM.out]; rfl, HB.out⟩
end Go.Proofs.YtkbcilfcfbfiaaaDoor
/- The reference's ring: Check, New. -/
namespace Go.Proofs.YtkbcilfcfbfiaaaDoor
open Go.RowKit Go.Proofs
set_option linter.unusedSimpArgs false
set_option linter.unusedVariables false
set_option maxRecDepth 100000 in
set_option maxHeartbeats 4000000 in
theorem checkR_no (c d : Int) (t : ByteArray) (X : Array Value) (x N : Nat) (v : Value) (sd : ByteArray) (S : List Ln) (w : World) (hR : RefAt w x v sd N S) (hm : ¬ MayB N c d t.size) :
    Calls Tryd.prog 53 #[.pointer (some ⟨x, 0, none⟩), .agg #[.int .i64 c, .int .i64 d, .string t], .agg X] w fun e w' => e = .returned (.bool false) ∧ Below w.heap.size w w' := by
  have hmay := fun w hR => mayR_any c d t x N v sd S w hR
  rw [decide_eq_false hm] at hmay
  have HM := Lib.hid hmay
  clear hmay
  go_enter Tryd.func53, Tryd.ntmps53
  go_upto_region 1 with (fail)
  change Code.wp _ _ _ _ ((w.alloc (.cells #[.int .i64 c, .int .i64 d, .string t] 68)).alloc (.cells X 25))
  have R1 : Blk ((w.alloc (.cells #[.int .i64 c, .int .i64 d, .string t] 68)).alloc (.cells X 25)) w.heap.size 68 #[.int .i64 c, .int .i64 d, .string t] := (Blk.new w 68 _).alloc _
  have R2 : Blk ((w.alloc (.cells #[.int .i64 c, .int .i64 d, .string t] 68)).alloc (.cells X 25)) (w.heap.size + 1) 25 X := by
    have := Blk.new (w.alloc (.cells #[.int .i64 c, .int .i64 d, .string t] 68)) 25 X
    rwa [World.size_alloc] at this
  have B : Below w.heap.size w ((w.alloc (.cells #[.int .i64 c, .int .i64 d, .string t] 68)).alloc (.cells X 25)) := ((Below.refl _ _).alloc (Nat.le_refl _) _).alloc (by simp) _
  have hRR := (hR.alloc (.cells #[.int .i64 c, .int .i64 d, .string t] 68)).alloc (.cells X 25)
  clear hR
  generalize (w.alloc (.cells #[.int .i64 c, .int .i64 d, .string t] 68)).alloc (.cells X 25) = w2 at R1 R2 B hRR ⊢
  have HR1 := Lib.hid R1
  have HR2 := Lib.hid R2
  have HB := Lib.hid (show Below w.heap.size w w2.drew from B.drewN 1)
  have HRR := Lib.hid hRR.drew
  have e0 : ∀ w', KeptOn (fun _ => True) w2.drew w' → w'.cell? ⟨w.heap.size, 0, none⟩ = some (.int .i64 c) := fun w' h => h.cell (w := w2.drew) (HR1.out.cell 0) trivial
  have e1 : ∀ w', KeptOn (fun _ => True) w2.drew w' → w'.cell? ⟨w.heap.size, 1, none⟩ = some (.int .i64 d) := fun w' h => h.cell (w := w2.drew) (HR1.out.cell 1) trivial
  have e2 : ∀ w', KeptOn (fun _ => True) w2.drew w' → w'.cell? ⟨w.heap.size, 2, none⟩ = some (.string t) := fun w' h => h.cell (w := w2.drew) (HR1.out.cell 2) trivial
  clear R1 R2 B hRR
  refine wp_region_pure (KeptOn fun _ => True) (KeptOn.refl _) (KeptOn.trans) [(0,3),(1,0),(2,1),(3,3),(4,3),(5,0),(7,0),(6,1),(8,3),(9,3),(10,3)] (by kernel_rfl) (by kernel_rfl) ?_
  iterate 1 (refine pure_pure (v := ?_) rfl (fun _ _ _ h => h) (by rfl) (fun w' => ?_) ?_; rotate_left; (go_simp; try with_reducible rfl); simp only [Act.put, List.setIfInBounds_toArray, List.set_cons_zero, List.set_cons_succ])
  iterate 1 (refine pure_quiet (v := ?_) rfl (fun _ _ _ h => h) (by rfl) (fun w' hR => ?_) ?_; rotate_left; (go_simp; try with_reducible rfl); simp only [Act.put, List.setIfInBounds_toArray, List.set_cons_zero, List.set_cons_succ])
  clear e0 e1 e2
  refine pure_eff rfl ?_
  go_wp2_with fail
  refine (HM.out w2.drew HRR.out).mono ?_
  rintro e w3 ⟨rfl, hb⟩
  have HKe := Lib.hid (show KeptOn (fun _ => True) w2.drew w3 from KeptOn.below hb (fun b hb _ => hb))
  have HB := Lib.hid (HB.out.trans (hb.mono HB.out.size))
  clear hb
  go_wp2_with fail
  refine purePost_need HKe.out ?_
  iterate 1 (refine pure_pure (v := ?_) rfl (fun _ _ _ h => h) (by rfl) (fun w' => ?_) ?_; rotate_left; (go_simp; try with_reducible rfl); simp only [Act.put, List.setIfInBounds_toArray, List.set_cons_zero, List.set_cons_succ])
  iterate 1 (refine pure_skip3 rfl (fun _ _ _ h => h) (by rfl) ?_; simp only [Act.put, List.setIfInBounds_toArray, List.set_cons_zero, List.set_cons_succ])
  iterate 2 (refine pure_skip rfl (fun _ _ _ h => h) (by rfl) ?_; simp only [Act.put, List.setIfInBounds_toArray, List.set_cons_zero, List.set_cons_succ])
  refine pure_eff rfl ?_
  go_wp2_with fail
  refine purePost_need (KeptOn.refl _ _) ?_
  iterate 1 (refine pure_skip3 rfl (fun _ _ _ h => h) (by rfl) ?_; simp only [Act.put, List.setIfInBounds_toArray, List.set_cons_zero, List.set_cons_succ])
  iterate 2 (refine pure_pure (v := ?_) rfl (fun _ _ _ h => h) (by rfl) (fun w' => ?_) ?_; rotate_left; (go_simp; try with_reducible rfl); simp only [Act.put, List.setIfInBounds_toArray, List.set_cons_zero, List.set_cons_succ])
  refine pure_done ?_
  go_wp2_with fail
  go_ret
  exact ⟨rfl, HB.out⟩
set_option maxRecDepth 100000 in
set_option maxHeartbeats 4000000 in
theorem checkR_ok (c d : Int) (t : ByteArray) (D : List UInt8) (hD : D.length = 32) (hc : In64 c) (hd : In64 d) (x N : Nat) (v : Value) (sd : ByteArray) (S : List Ln) (w : World) (hR : RefAt w x v sd N S) (hsd : sd.size ≤ 64) (hm : MayB N c d t.size) :
    Calls Tryd.prog 53 #[.pointer (some ⟨x, 0, none⟩), .agg #[.int .i64 c, .int .i64 d, .string t], .agg (bytesC D)] w fun e w' => e = .returned (.bool (signOf sd c d t == D)) ∧ Below w.heap.size w w' := by
  have hmay := fun w hR => mayR_any c d t x N v sd S w hR
  rw [decide_eq_true hm] at hmay
  have hsz : (bytesC D).size = 32 := by rw [bytesC_size, hD]
  have HQ := Lib.hid (fun w => eql_digest (signOf sd c d t) D (signOf_length sd c d t) hD w)
  have HSG := Lib.hid (fun w hR => ofR_any c d t hc hd (by have := hm.2.2.2.2; omega) x N v sd S w hR hsd)
  clear hm hc hd
  generalize signOf sd c d t = G at HQ HSG ⊢
  generalize bytesC D = X at hsz HQ ⊢
  generalize bytesC G = Y at HQ HSG
  generalize (G == D) = z at HQ ⊢
  have HSZ := Lib.hid hsz
  clear hsz
  have HM := Lib.hid hmay
  clear hmay
  go_enter Tryd.func53, Tryd.ntmps53
  go_upto_region 1 with (fail)
  change Code.wp _ _ _ _ ((w.alloc (.cells #[.int .i64 c, .int .i64 d, .string t] 68)).alloc (.cells X 25))
  have R1 : Blk ((w.alloc (.cells #[.int .i64 c, .int .i64 d, .string t] 68)).alloc (.cells X 25)) w.heap.size 68 #[.int .i64 c, .int .i64 d, .string t] := (Blk.new w 68 _).alloc _
  have R2 : Blk ((w.alloc (.cells #[.int .i64 c, .int .i64 d, .string t] 68)).alloc (.cells X 25)) (w.heap.size + 1) 25 X := by
    have := Blk.new (w.alloc (.cells #[.int .i64 c, .int .i64 d, .string t] 68)) 25 X
    rwa [World.size_alloc] at this
  have B : Below w.heap.size w ((w.alloc (.cells #[.int .i64 c, .int .i64 d, .string t] 68)).alloc (.cells X 25)) := ((Below.refl _ _).alloc (Nat.le_refl _) _).alloc (by simp) _
  have hRR := (hR.alloc (.cells #[.int .i64 c, .int .i64 d, .string t] 68)).alloc (.cells X 25)
  clear hR
  generalize (w.alloc (.cells #[.int .i64 c, .int .i64 d, .string t] 68)).alloc (.cells X 25) = w2 at R1 R2 B hRR ⊢
  have HR1 := Lib.hid R1
  have HR2 := Lib.hid R2
  have HB := Lib.hid (show Below w.heap.size w w2.drew from B.drewN 1)
  have HRR := Lib.hid hRR.drew
  have e0 : ∀ w', KeptOn (fun _ => True) w2.drew w' → w'.cell? ⟨w.heap.size, 0, none⟩ = some (.int .i64 c) := fun w' h => h.cell (w := w2.drew) (HR1.out.cell 0) trivial
  have e1 : ∀ w', KeptOn (fun _ => True) w2.drew w' → w'.cell? ⟨w.heap.size, 1, none⟩ = some (.int .i64 d) := fun w' h => h.cell (w := w2.drew) (HR1.out.cell 1) trivial
  have e2 : ∀ w', KeptOn (fun _ => True) w2.drew w' → w'.cell? ⟨w.heap.size, 2, none⟩ = some (.string t) := fun w' h => h.cell (w := w2.drew) (HR1.out.cell 2) trivial
  clear R1 R2 B hRR
  refine wp_region_pure (KeptOn fun _ => True) (KeptOn.refl _) (KeptOn.trans) [(0,3),(1,0),(2,1),(3,3),(4,3),(5,0),(7,0),(6,1),(8,3),(9,3),(10,3)] (by kernel_rfl) (by kernel_rfl) ?_
  iterate 1 (refine pure_pure (v := ?_) rfl (fun _ _ _ h => h) (by rfl) (fun w' => ?_) ?_; rotate_left; (go_simp; try with_reducible rfl); simp only [Act.put, List.setIfInBounds_toArray, List.set_cons_zero, List.set_cons_succ])
  iterate 1 (refine pure_quiet (v := ?_) rfl (fun _ _ _ h => h) (by rfl) (fun w' hR => ?_) ?_; rotate_left; (go_simp; try with_reducible rfl); simp only [Act.put, List.setIfInBounds_toArray, List.set_cons_zero, List.set_cons_succ])
  clear e0 e1 e2
  refine pure_eff rfl ?_
  go_wp2_with fail
  refine (HM.out w2.drew HRR.out).mono ?_
  rintro e w3 ⟨rfl, hb⟩
  have HKe := Lib.hid (show KeptOn (fun _ => True) w2.drew w3 from KeptOn.below hb (fun b hb _ => hb))
  have HB := Lib.hid (HB.out.trans (hb.mono HB.out.size))
  have HRR := Lib.hid (HRR.out.below hb)
  have HR1 := Lib.hid (Blk.below (show Blk w2.drew w.heap.size 68 _ from HR1.out) hb HR1.out.lt)
  have HR2 := Lib.hid (Blk.below (show Blk w2.drew (w.heap.size + 1) 25 X from HR2.out) hb HR2.out.lt)
  clear hb
  go_wp2_with fail
  refine purePost_need HKe.out ?_
  have e0 : ∀ w', KeptOn (fun _ => True) w3 w' → w'.cell? ⟨w.heap.size, 0, none⟩ = some (.int .i64 c) := fun w' h => h.cell (w := w3) (HR1.out.cell 0) trivial
  have e1 : ∀ w', KeptOn (fun _ => True) w3 w' → w'.cell? ⟨w.heap.size, 1, none⟩ = some (.int .i64 d) := fun w' h => h.cell (w := w3) (HR1.out.cell 1) trivial
  have e2 : ∀ w', KeptOn (fun _ => True) w3 w' → w'.cell? ⟨w.heap.size, 2, none⟩ = some (.string t) := fun w' h => h.cell (w := w3) (HR1.out.cell 2) trivial
  iterate 2 (refine pure_pure (v := ?_) rfl (fun _ _ _ h => h) (by rfl) (fun w' => ?_) ?_; rotate_left; (go_simp; try with_reducible rfl); simp only [Act.put, List.setIfInBounds_toArray, List.set_cons_zero, List.set_cons_succ])
  iterate 1 (refine pure_quiet (v := ?_) rfl (fun _ _ _ h => h) (by rfl) (fun w' hR => ?_) ?_; rotate_left; (go_simp; try with_reducible rfl); simp only [Act.put, List.setIfInBounds_toArray, List.set_cons_zero, List.set_cons_succ])
  refine pure_quiet (v := .agg X) rfl (fun _ _ _ h => h) (by rfl) (fun w' hR => execLoad 25 _ rfl (p := .pointer (some ⟨w.heap.size + 1, 0, none⟩)) rfl (load25 (Blk.kept HR2.out hR trivial) HSZ.out)) ?_
  simp only [Act.put, List.setIfInBounds_toArray, List.set_cons_zero, List.set_cons_succ]
  clear e0 e1 e2
  refine pure_eff rfl ?_
  go_wp2_with fail
  refine (HSG.out w3 HRR.out).mono ?_
  rintro e w4 ⟨rfl, hb⟩
  have HKe4 := Lib.hid (show KeptOn (fun _ => True) w3 w4 from KeptOn.below hb (fun b hb _ => hb))
  have HB := Lib.hid (HB.out.trans (hb.mono HB.out.size))
  clear hb
  go_wp2_with fail
  refine purePost_need HKe4.out ?_
  have heq := HQ.out
  iterate 3 (refine pure_pure (v := ?_) rfl (fun _ _ _ h => h) (by rfl) (fun w' => ?_) ?_; rotate_left; (go_simp; try with_reducible rfl); simp only [Act.put, List.setIfInBounds_toArray, List.set_cons_zero, List.set_cons_succ])
  refine pure_done ?_
  clear heq
  go_wp2_with fail
  go_ret
  exact ⟨rfl, HB.out⟩
set_option maxRecDepth 100000 in
theorem newR_bad (sd : ByteArray) (c : Int) (w : World) (h : ¬ (2 ≤ c ∧ c ≤ 8 ∧ sd.size ≤ 64)) :
    Calls Tryd.prog 47 #[.string sd, .int .i64 c] w fun e w' => e = .returned (.tuple #[.pointer none, .int .i64 2]) ∧ w = w' := by
  by_cases c1 : c < 2
  · have g1 : decide (c < 2) = true := decide_eq_true c1
    go_enter Tryd.func47, Tryd.ntmps47
    go_wp2_with fail
    go_ret2
    exact ⟨rfl, rfl⟩
  · have g1 : decide (c < 2) = false := decide_eq_false c1
    by_cases c2 : 8 < c
    · have g2 : decide (8 < c) = true := decide_eq_true c2
      go_enter Tryd.func47, Tryd.ntmps47
      go_wp2_with fail
      go_ret2
      exact ⟨rfl, rfl⟩
    · have g2 : decide (8 < c) = false := decide_eq_false c2
      have g3 : decide ((64 : Int) < (sd.size : Int)) = true := decide_eq_true (by omega)
      go_enter Tryd.func47, Tryd.ntmps47
      go_wp2_with fail
      go_ret2
      exact ⟨rfl, rfl⟩
/-- What the reference's New leaves. -/
def NewRP (sd : ByteArray) (N : Nat) (w : World) (e : Ending) (w' : World) : Prop :=
  ∃ x, e = .returned (.tuple #[.pointer (some ⟨x, 0, none⟩), .int .i64 0]) ∧ RefAt w' x (.slice none 0 0) sd N [] ∧ Below w.heap.size w w' ∧ w.heap.size ≤ x
set_option maxRecDepth 100000 in
theorem newR_ok (sd : ByteArray) (N : Nat) (w : World) (h2 : 2 ≤ N) (h8 : N ≤ 8) (hs : sd.size ≤ 64) :
    Calls Tryd.prog 47 #[.string sd, .int .i64 N] w (NewRP sd N w) := by
  have g1 : decide ((N : Int) < 2) = false := decide_eq_false (by omega)
  have g2 : decide (8 < (N : Int)) = false := decide_eq_false (by omega)
  have g3 : decide ((64 : Int) < (sd.size : Int)) = false := decide_eq_false (by omega)
  have HX := Lib.hid (show NewRP sd N w (.returned (.tuple #[.pointer (some ⟨w.heap.size, 0, none⟩), .int .i64 0])) (w.alloc (.cells #[.string sd, .int .i64 N, .slice none 0 0] 80)) from ⟨_, rfl, ⟨Blk.new w 80 _, .inl ⟨rfl, rfl⟩, h8⟩, (Below.refl _ _).alloc (Nat.le_refl _) _, Nat.le_refl _⟩)
  go_enter Tryd.func47, Tryd.ntmps47
  go_wp2_with fail
  go_ret2
  exact HX.out
end Go.Proofs.YtkbcilfcfbfiaaaDoor
/- Rows of lines: their cells. -/
namespace Go.Proofs.YtkbcilfcfbfiaaaDoor
open Go.RowKit Go.Proofs
set_option linter.unusedSimpArgs false
set_option linter.unusedVariables false
theorem addr0 (g j : Nat) : (⟨g, 0, none⟩ : Addr).add j = ⟨g, j, none⟩ := by
  unfold Addr.add
  split <;> simp_all
def lnC (y : Ln) : List Value := [.int .i64 y.1, .int .i64 y.2.1, .string (strOf y.2.2)]
def flat3 : List Ln → List Value
  | [] => []
  | y :: S => lnC y ++ flat3 S
theorem flat3_length (S : List Ln) : (flat3 S).length = S.length * 3 := by
  induction S with
  | nil => rfl
  | cons y S ih => simp [flat3, lnC, ih]; omega
theorem flat3_append (S T : List Ln) : flat3 (S ++ T) = flat3 S ++ flat3 T := by
  induction S with
  | nil => rfl
  | cons y S ih => simp [flat3, ih]
theorem flat3_at {S : List Ln} {i : Nat} {y : Ln} (h : S[i]? = some y) (r : Nat) (hr : r < 3) : (flat3 S)[i * 3 + r]? = (lnC y)[r]? := by
  induction S generalizing i with
  | nil => simp at h
  | cons z S ih =>
    unfold flat3
    cases i with
    | zero =>
      simp at h
      subst h
      rw [List.getElem?_append_left (by simp [lnC]; omega)]
      simp
    | succ i =>
      simp at h
      rw [List.getElem?_append_right (by simp [lnC]; omega), show (i + 1) * 3 + r - (lnC z).length = i * 3 + r by simp [lnC]; omega]
      exact ih h
theorem flat3_one (S : List Ln) : ∀ u ∈ flat3 S, u.oneCell' = true := by
  induction S with
  | nil => simp [flat3]
  | cons y S ih =>
    intro u hu
    unfold flat3 at hu
    rcases List.mem_append.1 hu with h | h
    · simp [lnC] at h
      rcases h with rfl | rfl | rfl <;> rfl
    · exact ih u h
theorem lineCell (c d : Int) (t : ByteArray) : lnC (ln c d t) = [.int .i64 c, .int .i64 d, .string t] := rfl
theorem RowL.of_own {w : World} {B : Nat} {v : Value} {S : List Ln} (h : w.ownsRow B 68 3 v S.length (flat3 S)) : RowL w v S := by
  rcases h.2 with ⟨rfl, hn⟩ | ⟨g, cap, cur, rfl, rest⟩
  · exact .inl ⟨rfl, List.eq_nil_of_length_eq_zero hn⟩
  · refine .inr ⟨g, cap, rfl, fun i y hy => ?_⟩
    have hi : i < S.length := by
      rcases Nat.lt_or_ge i S.length with hl | hl
      · exact hl
      · rw [List.getElem?_eq_none hl] at hy; cases hy
    have k : ∀ r, r < 3 → w.cell? ⟨g, i * 3 + r, none⟩ = (lnC y)[r]? := fun r hr => by
      rw [h.cellAt (i * 3 + r) (by omega)]
      exact flat3_at hy r hr
    exact ⟨k 0 (by omega), k 1 (by omega), k 2 (by omega)⟩
theorem RowL.news {w : World} {g m cap : Nat} {S : List Ln} (h : RowL w (.slice (some ⟨g, 0, none⟩) m cap) S) : ∀ j u, (flat3 S)[j]? = some u → w.cell? ((⟨g, 0, none⟩ : Addr).add j) = some u := by
  intro j u hu
  rcases h with ⟨h, _⟩ | ⟨g', cap', hv, hc⟩
  · cases h
  · simp only [Value.slice.injEq, Option.some.injEq, Addr.mk.injEq, and_true, true_and] at hv
    obtain ⟨rfl, rfl, rfl⟩ := hv
    have hj : j < S.length * 3 := by
      rw [← flat3_length]
      rcases Nat.lt_or_ge j (flat3 S).length with hl | hl
      · exact hl
      · rw [List.getElem?_eq_none hl] at hu; cases hu
    have hi : j / 3 < S.length := by omega
    have hy := List.getElem?_eq_getElem hi
    have hjr : j = j / 3 * 3 + j % 3 := by omega
    have hf := flat3_at hy (j % 3) (by omega)
    rw [← hjr, hu] at hf
    obtain ⟨c0, c1, c2⟩ := hc (j / 3) _ hy
    rw [addr0]
    have h3 : j % 3 = 0 ∨ j % 3 = 1 ∨ j % 3 = 2 := by omega
    rcases h3 with h3 | h3 | h3
    · rw [h3] at hf hjr
      rw [hjr, hf]; exact c0
    · rw [h3] at hf hjr
      rw [hjr, hf]; exact c1
    · rw [h3] at hf hjr
      rw [hjr, hf]; exact c2
theorem own_slice3 {w : World} {base e size n : Nat} {v : Value} {xs : List Value} (h : w.ownsRow base e size v n xs) : ∃ a c, v = .slice a n c := by
  rcases h.2 with ⟨rfl, rfl⟩ | ⟨g, cap, _, rfl, _⟩
  · exact ⟨none, 0, rfl⟩
  · exact ⟨_, cap, rfl⟩
theorem info68 : (Tryd.prog.info? 68).map (fun i => (i.zero, i.size, i.bytes)) = some (some (.agg #[.int .i64 0, .int .i64 0, .string ByteArray.empty]), 3, 32) := by kernel_rfl
theorem info_parts3 {e : TypeId} {z : Value} {s b : Nat} (h : (Tryd.prog.info? e).map (fun i => (i.zero, i.size, i.bytes)) = some (some z, s, b)) : ∃ i, Tryd.prog.info? e = some i ∧ i.zero = some z ∧ i.size = s ∧ i.bytes = b := by
  cases hi : Tryd.prog.info? e with
  | none => rw [hi] at h; cases h
  | some i =>
    rw [hi] at h
    simp only [Option.map_some, Option.some.injEq, Prod.mk.injEq] at h
    exact ⟨i, rfl, h.1, h.2.1, h.2.2⟩
theorem news3 {w : World} {q : Nat} {c d : Int} {t : ByteArray} (h : Blk w q 68 #[.int .i64 c, .int .i64 d, .string t]) : ∀ j u, [Value.int .i64 c, Value.int .i64 d, Value.string t][j]? = some u → w.cell? ((⟨q, 0, none⟩ : Addr).add j) = some u := by
  intro j u hu
  rw [addr0, h.cell j]
  simpa using hu
end Go.Proofs.YtkbcilfcfbfiaaaDoor
/- The reference's ring: Tag. -/
namespace Go.Proofs.YtkbcilfcfbfiaaaDoor
open Go.RowKit Go.Proofs
set_option linter.unusedSimpArgs false
set_option linter.unusedVariables false
/-- What Tag leaves. -/
def TagRP (x : Nat) (sd : ByteArray) (N : Nat) (S : List Ln) (X : Array Value) (w : World) (e : Ending) (w' : World) : Prop :=
  e = .returned (.tuple #[.agg X, .int .i64 0]) ∧ ∃ v, RefAt w' x v sd N S ∧ w.grownBy w' (some x)
theorem grown_cell3 (w : World) (p i : Nat) (u : Value) : w.grownBy (w.setCell ⟨p, i, none⟩ u) (some p) :=
  ⟨rfl, rfl, rfl, by simp [World.setCell], fun k _ hr => Below.heap_setCell w ⟨p, i, none⟩ u k (fun e => hr (by rw [e]))⟩
section
variable {w w' : World} {x N q : Nat} {v : Value} {sd : ByteArray} {S S' : List Ln}
theorem RowL.move (h : RowL w v S) (k : ∀ g, (∃ n, w.cell? ⟨g, 0, none⟩ = some (.int .i64 n)) → g < w.heap.size → ∀ j, w'.cell? ⟨g, j, none⟩ = w.cell? ⟨g, j, none⟩) : RowL w' v S := by
  rcases h with h | ⟨g, cap, hv, hc⟩
  · exact .inl h
  · refine .inr ⟨g, cap, hv, fun i y hy => ?_⟩
    have hl : 0 < S.length := by
      rcases Nat.lt_or_ge i S.length with hl | hl
      · omega
      · rw [List.getElem?_eq_none hl] at hy; cases hy
    have h0 := (hc 0 S[0] (List.getElem?_eq_getElem hl)).1
    rw [Nat.zero_mul] at h0
    have kk := k g ⟨_, h0⟩ (World.block_lt_of_cell? w _ h0)
    obtain ⟨c0, c1, c2⟩ := hc i y hy
    exact ⟨(kk _).trans c0, (kk _).trans c1, (kk _).trans c2⟩
theorem z32_0 : z32[0]? = some (.int .u8 0) := by rfl
theorem RefAt.only25 (h : RefAt w x v sd N S) (ho : OnlyAt q w w') (hq : Blk w q 25 z32) (hx : x ≠ q) : RefAt w' x v sd N S :=
  ⟨h.ring.grown ho (fun e => hx (Option.some.inj e)), h.rows.move fun g ⟨n, hg⟩ hl j => by
    have hne : g ≠ q := by
      rintro rfl
      rw [hq.cell 0, z32_0] at hg
      cases hg
    exact World.cell?_of_block (ho.block g hl (fun e => hne (Option.some.inj e))), h.eight⟩
theorem RefAt.put_ {B : Nat} (h : RefAt w x v sd N S) (hb : Below B w w') (hx : x < B) {v' : Value} (hr : RowL w' v' S') : RefAt (w'.setCell ⟨x, 2, none⟩ v') x v' sd N S' := by
  have hk := h.ring.below hb hx
  refine ⟨hk.set_ 2 v', hr.move fun g ⟨n, hg⟩ hl j => ?_, h.eight⟩
  have hne : g ≠ x := by
    rintro rfl
    rw [hk.cell 0] at hg
    cases hg
  exact World.cell?_of_block (Below.heap_setCell w' ⟨x, 2, none⟩ v' g hne)
end
set_option maxRecDepth 100000 in
set_option maxHeartbeats 4000000 in
theorem tagR_bad (c d : Int) (t : ByteArray) (x N : Nat) (v : Value) (sd : ByteArray) (S : List Ln) (w : World) (hR : RefAt w x v sd N S) (hm : ¬ MayB N c d t.size) :
    Calls Tryd.prog 51 #[.pointer (some ⟨x, 0, none⟩), .agg #[.int .i64 c, .int .i64 d, .string t]] w fun e w' => e = .returned (.tuple #[.agg z32, .int .i64 2]) ∧ Below w.heap.size w w' := by
  have hmay := fun w hR => mayR_any c d t x N v sd S w hR
  rw [decide_eq_false hm] at hmay
  have HMAY := Lib.hid hmay
  clear hmay
  go_enter Tryd.func51, Tryd.ntmps51
  go_upto_region 1 with (fail)
  change Code.wp _ _ _ _ ((w.alloc (.cells #[.int .i64 c, .int .i64 d, .string t] 68)).alloc (.cells z32 25))
  have R3 : Blk ((w.alloc (.cells #[.int .i64 c, .int .i64 d, .string t] 68)).alloc (.cells z32 25)) w.heap.size 68 #[.int .i64 c, .int .i64 d, .string t] := (Blk.new w 68 _).alloc _
  have R2 : Blk ((w.alloc (.cells #[.int .i64 c, .int .i64 d, .string t] 68)).alloc (.cells z32 25)) (w.heap.size + 1) 25 z32 := by
    have := Blk.new (w.alloc (.cells #[.int .i64 c, .int .i64 d, .string t] 68)) 25 z32
    rwa [World.size_alloc] at this
  have B : Below w.heap.size w ((w.alloc (.cells #[.int .i64 c, .int .i64 d, .string t] 68)).alloc (.cells z32 25)) := ((Below.refl _ _).alloc (Nat.le_refl _) _).alloc (by simp) _
  have hRR := (hR.alloc (.cells #[.int .i64 c, .int .i64 d, .string t] 68)).alloc (.cells z32 25)
  have HXL := Lib.hid hR.lt
  clear hR
  generalize (w.alloc (.cells #[.int .i64 c, .int .i64 d, .string t] 68)).alloc (.cells z32 25) = w2 at R3 R2 B hRR ⊢
  have HR2 := Lib.hid R2
  have HR3 := Lib.hid R3
  have HB := Lib.hid B
  have HRR := Lib.hid hRR
  clear R2 R3 B hRR
  have r0 := HR3.out.cell 0
  have r1 := HR3.out.cell 1
  have r2 := HR3.out.cell 2
  go_wp2_with fail
  refine (HMAY.out w2 HRR.out).mono ?_
  clear r0 r1 r2
  rintro e w3 ⟨rfl, hb⟩
  have HRR := Lib.hid (HRR.out.below hb)
  have HR3 := Lib.hid (HR3.out.below hb HR3.out.lt)
  have HR2 := Lib.hid (HR2.out.below hb HR2.out.lt)
  have HB := Lib.hid (HB.out.trans (hb.mono HB.out.size))
  clear hb
  go_upto_region 2 with (fail)
  have hsz := z32_size
  have hone : z32.all (·.oneCell') = true := bytesC_one _
  have hi25 : (Tryd.prog.info? 25).map (·.size) = some z32.size := by rw [hsz]; kernel_rfl
  refine wp_region_lit ?_
  iterate 3 go_step
  refine wpList_store_mid rfl 25 _ _ rfl (w.heap.size + 1) 0 z32 rfl rfl (HR2.out.there 0 _ (by rw [z32_size]; exact Nat.le_refl _)) hi25 hone ?_
  have hz := HR2.out.setCells z32.toList 0
  rw [putAll_all _ _ rfl] at hz
  have B4 := Below.setCells' z32.toList (Nat.le_succ _) 0 HB.out
  simp only [Act.put]
  generalize w3.setCells (w.heap.size + 1) 0 z32.toList = w4 at hz B4 ⊢
  have HI := Lib.hid hi25
  have HZ := Lib.hid hz
  have HB := Lib.hid B4
  clear hz B4 hi25 hsz hone
  go_wp2_with fail
  refine bodyPost_ret (v := .tuple #[.agg z32, .int .i64 2]) (results_cell_row_tmp rfl _ _ (w.heap.size + 1) 25 z32 _ _ rfl HZ.out Tryd.underlying25 rfl HI.out (.int .i64 2) rfl) rfl ⟨rfl, HB.out⟩
set_option maxRecDepth 100000 in
set_option maxHeartbeats 8000000 in
theorem tagR_old (c d : Int) (t : ByteArray) (hc : In64 c) (hd : In64 d) (ht : t.size ≤ 140737488351232) (x N : Nat) (v : Value) (sd : ByteArray) (S : List Ln) (w : World) (hR : RefAt w x v sd N S) (hsd : sd.size ≤ 64) (hW : Wide S) (hl : S.length ≤ 1000) (hm : MayB N c d t.size) (hs : ln c d t ∈ S) :
    Calls Tryd.prog 51 #[.pointer (some ⟨x, 0, none⟩), .agg #[.int .i64 c, .int .i64 d, .string t]] w fun e w' => TagRP x sd N S (bytesC (signOf sd c d t)) w e w' := by
  have hmem : decide (ln c d t ∈ S) = true := decide_eq_true hs
  obtain ⟨i0, hi, hz0, hz1, hz2⟩ := info_parts3 info68
  have HI := Lib.hid hi
  clear hi
  have HOF := Lib.hid (fun w v S hR => ofR_any c d t hc hd ht x N v sd S w hR hsd)
  have hsz : (bytesC (signOf sd c d t)).size = 32 := by rw [bytesC_size, signOf_length]
  have hone := bytesC_one (signOf sd c d t)
  have HSZ := Lib.hid hsz
  have HON := Lib.hid hone
  have HI25 := Lib.hid (show (Tryd.prog.info? 25).map (·.size) = some (bytesC (signOf sd c d t)).size by rw [hsz]; kernel_rfl)
  clear hsz hone
  have hmay := fun w hR => mayR_any c d t x N v sd S w hR
  rw [decide_eq_true hm] at hmay
  have HMAY := Lib.hid hmay
  have HMADE := Lib.hid (fun w hR => madeR_any c d t hc hd (by unfold maxLen; omega) x N v sd S w hR hW hl)
  clear hmay hm hc hd ht hsd hW
  generalize bytesC (signOf sd c d t) = X at HOF HSZ HON HI25 ⊢
  go_enter Tryd.func51, Tryd.ntmps51
  go_upto_region 1 with (fail)
  change Code.wp _ _ _ _ ((w.alloc (.cells #[.int .i64 c, .int .i64 d, .string t] 68)).alloc (.cells z32 25))
  have R3 : Blk ((w.alloc (.cells #[.int .i64 c, .int .i64 d, .string t] 68)).alloc (.cells z32 25)) w.heap.size 68 #[.int .i64 c, .int .i64 d, .string t] := (Blk.new w 68 _).alloc _
  have R2 : Blk ((w.alloc (.cells #[.int .i64 c, .int .i64 d, .string t] 68)).alloc (.cells z32 25)) (w.heap.size + 1) 25 z32 := by
    have := Blk.new (w.alloc (.cells #[.int .i64 c, .int .i64 d, .string t] 68)) 25 z32
    rwa [World.size_alloc] at this
  have B : Below w.heap.size w ((w.alloc (.cells #[.int .i64 c, .int .i64 d, .string t] 68)).alloc (.cells z32 25)) := ((Below.refl _ _).alloc (Nat.le_refl _) _).alloc (by simp) _
  have hRR := (hR.alloc (.cells #[.int .i64 c, .int .i64 d, .string t] 68)).alloc (.cells z32 25)
  have HXL := Lib.hid hR.lt
  clear hR
  generalize (w.alloc (.cells #[.int .i64 c, .int .i64 d, .string t] 68)).alloc (.cells z32 25) = w2 at R3 R2 B hRR ⊢
  have HR2 := Lib.hid R2
  have HR3 := Lib.hid R3
  have HB := Lib.hid B
  have HRR := Lib.hid hRR
  clear R2 R3 B hRR
  have r0 := HR3.out.cell 0
  have r1 := HR3.out.cell 1
  have r2 := HR3.out.cell 2
  go_wp2_with fail
  refine (HMAY.out w2 HRR.out).mono ?_
  clear r0 r1 r2
  rintro e w3 ⟨rfl, hb⟩
  have HRR := Lib.hid (HRR.out.below hb)
  have HR3 := Lib.hid (HR3.out.below hb HR3.out.lt)
  have HR2 := Lib.hid (HR2.out.below hb HR2.out.lt)
  have HB := Lib.hid (HB.out.trans (hb.mono HB.out.size))
  clear hb
  have r0 := HR3.out.cell 0
  have r1 := HR3.out.cell 1
  have r2 := HR3.out.cell 2
  go_wp2_with fail
  refine (HMADE.out w3 HRR.out).mono ?_
  clear r0 r1 r2
  rintro e w4 ⟨rfl, hb⟩
  have HRR := Lib.hid (HRR.out.below hb)
  have HR3 := Lib.hid (HR3.out.below hb HR3.out.lt)
  have HR2 := Lib.hid (HR2.out.below hb HR2.out.lt)
  have HB := Lib.hid (HB.out.trans (hb.mono HB.out.size))
  clear hb
  rw [hmem]
  have HRF := HRR
  have HGW := Lib.hid (grownBy_of_below HB.out (some x))
  go_upto_region 5 with (fail)
  have r0 := HR3.out.cell 0
  have r1 := HR3.out.cell 1
  have r2 := HR3.out.cell 2
  go_wp2_with fail
  refine (HOF.out w4 _ S HRF.out).mono ?_
  clear r0 r1 r2
  rintro e wf ⟨rfl, hb⟩
  have HR2 := Lib.hid (HR2.out.below hb HR2.out.lt)
  have HRF := Lib.hid (HRF.out.below hb)
  have HGW := Lib.hid (grownBy_trans HGW.out (grownBy_of_below hb (some x)))
  have HBS := Lib.hid (show w.heap.size + 1 < wf.heap.size from HR2.out.lt)
  clear hb
  dsimp only
  go_step
  refine wpList_store_mid rfl 25 _ _ rfl (w.heap.size + 1) 0 X rfl rfl (HR2.out.there 0 _ (by rw [HSZ.out, z32_size]; exact Nat.le_refl _)) HI25.out HON.out ?_
  have hz := HR2.out.setCells X.toList 0
  rw [putAll_all _ _ (by rw [HSZ.out, z32_size])] at hz
  have ho := only_setCells wf (w.heap.size + 1) 0 X.toList
  simp only [Act.put]
  generalize wf.setCells (w.heap.size + 1) 0 X.toList = wg at hz ho ⊢
  have HZ := Lib.hid hz
  have HO := Lib.hid ho
  clear hz ho
  go_wp2_with fail
  refine bodyPost_ret (v := .tuple #[.agg X, .int .i64 0]) (results_cell_row_tmp rfl _ _ (w.heap.size + 1) 25 X _ _ rfl HZ.out Tryd.underlying25 rfl HI25.out (.int .i64 0) rfl) rfl ⟨rfl, _, HRF.out.only25 HO.out HR2.out (by have := HXL.out; omega), grownBy_only HGW.out HO.out (Nat.le_succ _)⟩
set_option maxRecDepth 100000 in
set_option maxHeartbeats 8000000 in
theorem tagR_new (c d : Int) (t : ByteArray) (hc : In64 c) (hd : In64 d) (ht : t.size ≤ 140737488351232) (x N : Nat) (v : Value) (sd : ByteArray) (S : List Ln) (w : World) (hR : RefAt w x v sd N S) (hsd : sd.size ≤ 64) (hW : Wide S) (hl : S.length ≤ 1000) (hm : MayB N c d t.size) (hs : ln c d t ∉ S) :
    Calls Tryd.prog 51 #[.pointer (some ⟨x, 0, none⟩), .agg #[.int .i64 c, .int .i64 d, .string t]] w fun e w' => TagRP x sd N (S ++ [ln c d t]) (bytesC (signOf sd c d t)) w e w' := by
  have hmem : decide (ln c d t ∈ S) = false := decide_eq_false hs
  obtain ⟨i0, hi, hz0, hz1, hz2⟩ := info_parts3 info68
  have HI := Lib.hid hi
  clear hi
  have HOF := Lib.hid (fun w v S hR => ofR_any c d t hc hd ht x N v sd S w hR hsd)
  have hsz : (bytesC (signOf sd c d t)).size = 32 := by rw [bytesC_size, signOf_length]
  have hone := bytesC_one (signOf sd c d t)
  have HSZ := Lib.hid hsz
  have HON := Lib.hid hone
  have HI25 := Lib.hid (show (Tryd.prog.info? 25).map (·.size) = some (bytesC (signOf sd c d t)).size by rw [hsz]; kernel_rfl)
  clear hsz hone
  have hmay := fun w hR => mayR_any c d t x N v sd S w hR
  rw [decide_eq_true hm] at hmay
  have HMAY := Lib.hid hmay
  have HMADE := Lib.hid (fun w hR => madeR_any c d t hc hd (by unfold maxLen; omega) x N v sd S w hR hW hl)
  clear hmay hm hc hd ht hsd hW
  generalize bytesC (signOf sd c d t) = X at HOF HSZ HON HI25 ⊢
  go_enter Tryd.func51, Tryd.ntmps51
  go_upto_region 1 with (fail)
  change Code.wp _ _ _ _ ((w.alloc (.cells #[.int .i64 c, .int .i64 d, .string t] 68)).alloc (.cells z32 25))
  have R3 : Blk ((w.alloc (.cells #[.int .i64 c, .int .i64 d, .string t] 68)).alloc (.cells z32 25)) w.heap.size 68 #[.int .i64 c, .int .i64 d, .string t] := (Blk.new w 68 _).alloc _
  have R2 : Blk ((w.alloc (.cells #[.int .i64 c, .int .i64 d, .string t] 68)).alloc (.cells z32 25)) (w.heap.size + 1) 25 z32 := by
    have := Blk.new (w.alloc (.cells #[.int .i64 c, .int .i64 d, .string t] 68)) 25 z32
    rwa [World.size_alloc] at this
  have B : Below w.heap.size w ((w.alloc (.cells #[.int .i64 c, .int .i64 d, .string t] 68)).alloc (.cells z32 25)) := ((Below.refl _ _).alloc (Nat.le_refl _) _).alloc (by simp) _
  have hRR := (hR.alloc (.cells #[.int .i64 c, .int .i64 d, .string t] 68)).alloc (.cells z32 25)
  have HXL := Lib.hid hR.lt
  clear hR
  generalize (w.alloc (.cells #[.int .i64 c, .int .i64 d, .string t] 68)).alloc (.cells z32 25) = w2 at R3 R2 B hRR ⊢
  have HR2 := Lib.hid R2
  have HR3 := Lib.hid R3
  have HB := Lib.hid B
  have HRR := Lib.hid hRR
  clear R2 R3 B hRR
  have r0 := HR3.out.cell 0
  have r1 := HR3.out.cell 1
  have r2 := HR3.out.cell 2
  go_wp2_with fail
  refine (HMAY.out w2 HRR.out).mono ?_
  clear r0 r1 r2
  rintro e w3 ⟨rfl, hb⟩
  have HRR := Lib.hid (HRR.out.below hb)
  have HR3 := Lib.hid (HR3.out.below hb HR3.out.lt)
  have HR2 := Lib.hid (HR2.out.below hb HR2.out.lt)
  have HB := Lib.hid (HB.out.trans (hb.mono HB.out.size))
  clear hb
  have r0 := HR3.out.cell 0
  have r1 := HR3.out.cell 1
  have r2 := HR3.out.cell 2
  go_wp2_with fail
  refine (HMADE.out w3 HRR.out).mono ?_
  clear r0 r1 r2
  rintro e w4 ⟨rfl, hb⟩
  have HRR := Lib.hid (HRR.out.below hb)
  have HR3 := Lib.hid (HR3.out.below hb HR3.out.lt)
  have HR2 := Lib.hid (HR2.out.below hb HR2.out.lt)
  have HB := Lib.hid (HB.out.trans (hb.mono HB.out.size))
  clear hb
  rw [hmem]
  go_upto_region 4 with (fail)
  have HRX := Lib.hid HRR.out.drew
  have HR3 := Lib.hid (show Blk w4.drew w.heap.size 68 _ from HR3.out)
  have HR2 := Lib.hid (show Blk w4.drew (w.heap.size + 1) 25 z32 from HR2.out)
  have HGW5 := Lib.hid (grownBy_of_below (show Below w.heap.size w w4.drew from HB.out.drewN 1) (some x))
  obtain ⟨Bn, hBn⟩ : ∃ n, w4.drew.heap.size = n := ⟨_, rfl⟩
  have HBN := Lib.hid hBn
  clear hBn
  have e2 : ∀ w', KeptOn (fun b => b < Bn) w4.drew w' → w'.cell? ⟨x, 2, none⟩ = some v := fun w' h => h.cell (w := w4.drew) (HRX.out.ring.cell 2) (by rw [← HBN.out]; exact HRX.out.lt)
  have s0 : ∀ w', KeptOn (fun b => b < Bn) w4.drew w' → w'.cell? ⟨w.heap.size, 0, none⟩ = some (.int .i64 c) := fun w' h => h.cell (w := w4.drew) (HR3.out.cell 0) (by rw [← HBN.out]; exact HR3.out.lt)
  have s1 : ∀ w', KeptOn (fun b => b < Bn) w4.drew w' → w'.cell? ⟨w.heap.size, 1, none⟩ = some (.int .i64 d) := fun w' h => h.cell (w := w4.drew) (HR3.out.cell 1) (by rw [← HBN.out]; exact HR3.out.lt)
  have s2 : ∀ w', KeptOn (fun b => b < Bn) w4.drew w' → w'.cell? ⟨w.heap.size, 2, none⟩ = some (.string t) := fun w' h => h.cell (w := w4.drew) (HR3.out.cell 2) (by rw [← HBN.out]; exact HR3.out.lt)
  refine wp_region_ways (KeptOn fun b => b < Bn) (KeptOn.refl _) (KeptOn.trans) (.quiet 0 (.quiet 2 (.quiet 3 (.quiet 4 (.quiet 5 (.quiet 7 (.fork 1 8 (.fork 6 8 (.eff 8 0 (.eff 9 0 (.quiet 10 (.quiet 11 (.eff 12 1 .done))))) (.eff 6 0 (.eff 9 0 (.quiet 10 (.quiet 11 (.eff 12 1 .done)))))) (.eff 1 0 (.eff 6 0 (.eff 9 0 (.quiet 10 (.quiet 11 (.eff 12 1 .done)))))))))))))  (by kernel_rfl) (by kernel_rfl) ?_
  iterate 6 (refine ways_quiet (v := ?_) rfl (fun _ _ _ h => h) (by rfl) (fun w' hR => ?_) ?_; rotate_left; (go_simp; try with_reducible rfl); simp only [Act.put, List.setIfInBounds_toArray, List.set_cons_zero, List.set_cons_succ])
  clear e2 s0 s1 s2
  have HKB := Lib.hid (show Below Bn w4.drew w4.drew from Below.refl _ _)
  have HBW := Lib.hid (show Bn ≤ w4.drew.heap.size from Nat.le_of_eq HBN.out.symm)
  have HXL5 := Lib.hid (show x < Bn by rw [← HBN.out]; exact HRX.out.lt)
  have HL3 := Lib.hid (show w.heap.size < Bn by rw [← HBN.out]; exact HR3.out.lt)
  have HL2 := Lib.hid (show w.heap.size + 1 < Bn by rw [← HBN.out]; exact HR2.out.lt)
  generalize w4.drew = w5 at HRX HR3 HR2 HGW5 HKB HBW HBN ⊢
  rcases HRX.out.rows with ⟨rfl, rfl⟩ | ⟨g0, cap, rfl, hrow⟩
  · as_aux_lemma =>
      refine ways_fork rfl rfl ?_ ?_
      · go_wp2_with fail
        refine waysPost_need (KeptOn.alloc _ _) ?_
        have HKB := Lib.hid (HKB.out.alloc HBW.out (.cells #[] 68))
        have HOW := Lib.hid (World.ownsRow_made (e := 68) (size := 3) w5 #[] 0 HBW.out (by unfold maxLen; omega) rfl)
        have HBW := Lib.hid (show Bn ≤ (w5.alloc (.cells #[] 68)).heap.size from by rw [← HBN.out]; exact HKB.out.size)
        have HV := Lib.hid (show Value.ownBlock (.slice (some ⟨w5.heap.size, 0, none⟩) 0 0) = some w5.heap.size from rfl)
        generalize w5.alloc (.cells #[] 68) = wa at HKB HOW HBW ⊢
        generalize w5.heap.size = b0 at HOW HV ⊢
        refine ways_fork rfl rfl ?_ ?_
        · as_aux_lemma =>
            refine wpList_append_own_none rfl (.tmp 16) (.tmp 20) 78 rfl Bn 68 i0 3 Tryd.underlying78 HI.out (.slice (some ⟨b0, 0, none⟩) 0 0) 0 [] rfl HOW.out rfl ?_
            simp only [Act.put, List.setIfInBounds_toArray, List.set_cons_zero, List.set_cons_succ]
            go_wp2_with fail
            refine waysPost_need (KeptOn.refl _ _) ?_
            refine ways_eff rfl ?_
            go_wp2_with fail
            refine waysPost_need (KeptOn.alloc _ _) ?_
            have HKB := Lib.hid (HKB.out.alloc HBW.out (.cells #[.int .i64 c, .int .i64 d, .string t] 68))
            have HONE := Lib.hid (Blk.new wa 68 #[.int .i64 c, .int .i64 d, .string t])
            have HNQ := Lib.hid (fun k (hk : Value.ownBlock (.slice (some ⟨b0, 0, none⟩) 0 0) = some k) => show k < wa.heap.size from (HOW.out.lt k hk).2)
            have HOW := Lib.hid (HOW.out.alloc (.cells #[.int .i64 c, .int .i64 d, .string t] 68))
            have HBW := Lib.hid (show Bn ≤ (wa.alloc (.cells #[.int .i64 c, .int .i64 d, .string t] 68)).heap.size from by rw [← HBN.out]; exact HKB.out.size)
            generalize wa.alloc (.cells #[.int .i64 c, .int .i64 d, .string t] 68) = wc at HKB HONE HBW HOW ⊢
            generalize wa.heap.size = q at HONE HNQ ⊢
            refine ways_eff rfl ?_
            refine wpList_append_own _ rfl (.tmp 21) (.tmp 23) 78 rfl Bn 68 i0 (.agg #[.int .i64 0, .int .i64 0, .string ByteArray.empty]) 3 32 Tryd.underlying78 HI.out hz0 hz1 hz2 rfl (by decide) (.slice (some ⟨b0, 0, none⟩) 0 0) 0 (flat3 []) rfl HOW.out ⟨q, 0, none⟩ 1 1 [.int .i64 c, .int .i64 d, .string t] rfl rfl (news3 HONE.out) (by simp [Value.oneCell']) (by unfold maxLen; omega) (by omega) HBW.out ?_
            intro v9 w9 ho hg _
            simp only [Act.put, List.setIfInBounds_toArray, List.set_cons_zero, List.set_cons_succ]
            have hrow : RowL w9 v9 ([] ++ [ln c d t]) := RowL.of_own (B := Bn) (by rw [flat3_append]; simpa [flat3, lineCell] using ho)
            have ho : w9.ownsRow Bn 68 3 v9 (1) _ := ho
            obtain ⟨a9, c9, rfl⟩ := own_slice3 ho
            have HKB := Lib.hid (HKB.out.grown hg HBW.out (fun k hk => (HOW.out.lt k hk).1))
            have hkp := KeptOn.grown (D := fun b => b < Bn) hg (fun g hg' hD => by have := (HOW.out.lt g hg').1; omega)
            have HRW9 := Lib.hid hrow
            have HOB := Lib.hid (fun k (hk : Value.ownBlock _ = some k) => (ho.lt k hk).1)
            clear ho hg hrow
            go_wp2_with fail
            refine waysPost_need hkp ?_
            clear hkp
            iterate 2 (refine ways_quiet (v := ?_) rfl (fun _ _ _ h => h) (by rfl) (fun w' hR => ?_) ?_; rotate_left; (go_simp; try with_reducible rfl); simp only [Act.put, List.setIfInBounds_toArray, List.set_cons_zero, List.set_cons_succ])
            have hxb := HKB.out
            have hbk9 := HRX.out.ring.below HKB.out HXL5.out
            have q2 := hbk9.cell 2
            have f2 := hbk9.frozen 2
            have l2 := hbk9.lt
            have HRF := Lib.hid (HRX.out.put_ HKB.out HXL5.out HRW9.out)
            have HGW := Lib.hid (grownBy_trans HGW5.out (grownBy_trans (grownBy_of_below (show Below w5.heap.size w5 w9 by rw [HBN.out]; exact HKB.out) (some x)) (grown_cell3 w9 x 2 (.slice a9 (1) c9))))
            have HR3 := Lib.hid ((HR3.out.below HKB.out HL3.out).far (p := ⟨x, 2, none⟩) (by have := HXL.out; simp; omega) (.slice a9 (1) c9))
            have HR2 := Lib.hid ((HR2.out.below HKB.out HL2.out).far (p := ⟨x, 2, none⟩) (by have := HXL.out; simp; omega) (.slice a9 (1) c9))
            clear hxb hbk9
            refine ways_eff rfl ?_
            go_wp2_with fail
            refine waysPost_free ?_
            refine ways_done ?_
            clear q2 f2 l2
            generalize w9.setCell ⟨x, 2, none⟩ _ = wz at HRF HGW HR3 HR2 ⊢
            have r0 := HR3.out.cell 0
            have r1 := HR3.out.cell 1
            have r2 := HR3.out.cell 2
            go_wp2_with fail
            refine (HOF.out wz _ ([] ++ [ln c d t]) HRF.out).mono ?_
            clear r0 r1 r2
            rintro e wf ⟨rfl, hb⟩
            have HR2 := Lib.hid (HR2.out.below hb HR2.out.lt)
            have HRF := Lib.hid (HRF.out.below hb)
            have HGW := Lib.hid (grownBy_trans HGW.out (grownBy_of_below hb (some x)))
            have HBS := Lib.hid (show w.heap.size + 1 < wf.heap.size from HR2.out.lt)
            clear hb
            dsimp only
            go_step
            refine wpList_store_mid rfl 25 _ _ rfl (w.heap.size + 1) 0 X rfl rfl (HR2.out.there 0 _ (by rw [HSZ.out, z32_size]; exact Nat.le_refl _)) HI25.out HON.out ?_
            have hz := HR2.out.setCells X.toList 0
            rw [putAll_all _ _ (by rw [HSZ.out, z32_size])] at hz
            have ho := only_setCells wf (w.heap.size + 1) 0 X.toList
            simp only [Act.put]
            generalize wf.setCells (w.heap.size + 1) 0 X.toList = wg at hz ho ⊢
            have HZ := Lib.hid hz
            have HO := Lib.hid ho
            clear hz ho
            go_wp2_with fail
            refine bodyPost_ret (v := .tuple #[.agg X, .int .i64 0]) (results_cell_row_tmp rfl _ _ (w.heap.size + 1) 25 X _ _ rfl HZ.out Tryd.underlying25 rfl HI25.out (.int .i64 0) rfl) rfl ⟨rfl, _, HRF.out.only25 HO.out HR2.out (by have := HXL.out; omega), grownBy_only HGW.out HO.out (Nat.le_succ _)⟩
        · as_aux_lemma =>
            go_wp2_with fail
            refine waysPost_need (KeptOn.alloc _ _) ?_
            have HKB := Lib.hid (HKB.out.alloc HBW.out (.cells #[.int .i64 c, .int .i64 d, .string t] 68))
            have HONE := Lib.hid (Blk.new wa 68 #[.int .i64 c, .int .i64 d, .string t])
            have HNQ0 := Lib.hid (fun k (hk : Value.ownBlock (.slice (some ⟨b0, 0, none⟩) 0 0) = some k) => show k < wa.heap.size from (HOW.out.lt k hk).2)
            have HOW := Lib.hid (HOW.out.alloc (.cells #[.int .i64 c, .int .i64 d, .string t] 68))
            have HBW := Lib.hid (show Bn ≤ (wa.alloc (.cells #[.int .i64 c, .int .i64 d, .string t] 68)).heap.size from by rw [← HBN.out]; exact HKB.out.size)
            generalize wa.alloc (.cells #[.int .i64 c, .int .i64 d, .string t] 68) = wb at HKB HONE HBW HOW ⊢
            generalize wa.heap.size = q at HONE HNQ0 ⊢
            have HNQ := Lib.hid (show q ≠ b0 from fun e => by have := HNQ0.out b0 HV.out; omega)
            refine ways_eff rfl ?_
            refine wpList_append_own_none rfl (.tmp 16) (.tmp 20) 78 rfl Bn 68 i0 3 Tryd.underlying78 HI.out (.slice (some ⟨b0, 0, none⟩) 0 0) 0 [] rfl HOW.out rfl ?_
            simp only [Act.put, List.setIfInBounds_toArray, List.set_cons_zero, List.set_cons_succ]
            go_wp2_with fail
            refine waysPost_need (KeptOn.refl _ _) ?_
            refine ways_eff rfl ?_
            refine wpList_append_own _ rfl (.tmp 21) (.tmp 23) 78 rfl Bn 68 i0 (.agg #[.int .i64 0, .int .i64 0, .string ByteArray.empty]) 3 32 Tryd.underlying78 HI.out hz0 hz1 hz2 rfl (by decide) (.slice (some ⟨b0, 0, none⟩) 0 0) 0 (flat3 []) rfl HOW.out ⟨q, 0, none⟩ 1 1 [.int .i64 c, .int .i64 d, .string t] rfl rfl (news3 HONE.out) (by simp [Value.oneCell']) (by unfold maxLen; omega) (by omega) HBW.out ?_
            intro v9 w9 ho hg _
            simp only [Act.put, List.setIfInBounds_toArray, List.set_cons_zero, List.set_cons_succ]
            have hrow : RowL w9 v9 ([] ++ [ln c d t]) := RowL.of_own (B := Bn) (by rw [flat3_append]; simpa [flat3, lineCell] using ho)
            have ho : w9.ownsRow Bn 68 3 v9 (1) _ := ho
            obtain ⟨a9, c9, rfl⟩ := own_slice3 ho
            have HKB := Lib.hid (HKB.out.grown hg HBW.out (fun k hk => (HOW.out.lt k hk).1))
            have hkp := KeptOn.grown (D := fun b => b < Bn) hg (fun g hg' hD => by have := (HOW.out.lt g hg').1; omega)
            have HRW9 := Lib.hid hrow
            have HOB := Lib.hid (fun k (hk : Value.ownBlock _ = some k) => (ho.lt k hk).1)
            clear ho hg hrow
            go_wp2_with fail
            refine waysPost_need hkp ?_
            clear hkp
            iterate 2 (refine ways_quiet (v := ?_) rfl (fun _ _ _ h => h) (by rfl) (fun w' hR => ?_) ?_; rotate_left; (go_simp; try with_reducible rfl); simp only [Act.put, List.setIfInBounds_toArray, List.set_cons_zero, List.set_cons_succ])
            have hxb := HKB.out
            have hbk9 := HRX.out.ring.below HKB.out HXL5.out
            have q2 := hbk9.cell 2
            have f2 := hbk9.frozen 2
            have l2 := hbk9.lt
            have HRF := Lib.hid (HRX.out.put_ HKB.out HXL5.out HRW9.out)
            have HGW := Lib.hid (grownBy_trans HGW5.out (grownBy_trans (grownBy_of_below (show Below w5.heap.size w5 w9 by rw [HBN.out]; exact HKB.out) (some x)) (grown_cell3 w9 x 2 (.slice a9 (1) c9))))
            have HR3 := Lib.hid ((HR3.out.below HKB.out HL3.out).far (p := ⟨x, 2, none⟩) (by have := HXL.out; simp; omega) (.slice a9 (1) c9))
            have HR2 := Lib.hid ((HR2.out.below HKB.out HL2.out).far (p := ⟨x, 2, none⟩) (by have := HXL.out; simp; omega) (.slice a9 (1) c9))
            clear hxb hbk9
            refine ways_eff rfl ?_
            go_wp2_with fail
            refine waysPost_free ?_
            refine ways_done ?_
            clear q2 f2 l2
            generalize w9.setCell ⟨x, 2, none⟩ _ = wz at HRF HGW HR3 HR2 ⊢
            have r0 := HR3.out.cell 0
            have r1 := HR3.out.cell 1
            have r2 := HR3.out.cell 2
            go_wp2_with fail
            refine (HOF.out wz _ ([] ++ [ln c d t]) HRF.out).mono ?_
            clear r0 r1 r2
            rintro e wf ⟨rfl, hb⟩
            have HR2 := Lib.hid (HR2.out.below hb HR2.out.lt)
            have HRF := Lib.hid (HRF.out.below hb)
            have HGW := Lib.hid (grownBy_trans HGW.out (grownBy_of_below hb (some x)))
            have HBS := Lib.hid (show w.heap.size + 1 < wf.heap.size from HR2.out.lt)
            clear hb
            dsimp only
            go_step
            refine wpList_store_mid rfl 25 _ _ rfl (w.heap.size + 1) 0 X rfl rfl (HR2.out.there 0 _ (by rw [HSZ.out, z32_size]; exact Nat.le_refl _)) HI25.out HON.out ?_
            have hz := HR2.out.setCells X.toList 0
            rw [putAll_all _ _ (by rw [HSZ.out, z32_size])] at hz
            have ho := only_setCells wf (w.heap.size + 1) 0 X.toList
            simp only [Act.put]
            generalize wf.setCells (w.heap.size + 1) 0 X.toList = wg at hz ho ⊢
            have HZ := Lib.hid hz
            have HO := Lib.hid ho
            clear hz ho
            go_wp2_with fail
            refine bodyPost_ret (v := .tuple #[.agg X, .int .i64 0]) (results_cell_row_tmp rfl _ _ (w.heap.size + 1) 25 X _ _ rfl HZ.out Tryd.underlying25 rfl HI25.out (.int .i64 0) rfl) rfl ⟨rfl, _, HRF.out.only25 HO.out HR2.out (by have := HXL.out; omega), grownBy_only HGW.out HO.out (Nat.le_succ _)⟩
      · as_aux_lemma =>
          go_wp2_with fail
          refine waysPost_need (KeptOn.alloc _ _) ?_
          have HKB := Lib.hid (HKB.out.alloc HBW.out (.cells #[.int .i64 c, .int .i64 d, .string t] 68))
          have HONE := Lib.hid (Blk.new w5 68 #[.int .i64 c, .int .i64 d, .string t])
          have HBW := Lib.hid (show Bn ≤ (w5.alloc (.cells #[.int .i64 c, .int .i64 d, .string t] 68)).heap.size from by rw [← HBN.out]; exact HKB.out.size)
          generalize w5.alloc (.cells #[.int .i64 c, .int .i64 d, .string t] 68) = wa at HKB HONE HBW ⊢
          generalize w5.heap.size = q at HONE ⊢
          refine ways_eff rfl ?_
          go_wp2_with fail
          refine waysPost_need (KeptOn.alloc _ _) ?_
          have HKB := Lib.hid (HKB.out.alloc HBW.out (.cells #[] 68))
          have HOW := Lib.hid (World.ownsRow_made (e := 68) (size := 3) wa #[] 0 HBW.out (by unfold maxLen; omega) rfl)
          have HBW := Lib.hid (show Bn ≤ (wa.alloc (.cells #[] 68)).heap.size from by rw [← HBN.out]; exact HKB.out.size)
          have HV := Lib.hid (show Value.ownBlock (.slice (some ⟨wa.heap.size, 0, none⟩) 0 0) = some wa.heap.size from rfl)
          have HNQ := Lib.hid (show q ≠ wa.heap.size from fun e => by have := HONE.out.lt; omega)
          have HONE := Lib.hid (HONE.out.alloc (.cells #[] 68))
          generalize wa.alloc (.cells #[] 68) = wb at HKB HOW HBW HONE ⊢
          generalize wa.heap.size = b0 at HOW HV HNQ ⊢
          refine ways_eff rfl ?_
          refine wpList_append_own_none rfl (.tmp 16) (.tmp 20) 78 rfl Bn 68 i0 3 Tryd.underlying78 HI.out (.slice (some ⟨b0, 0, none⟩) 0 0) 0 [] rfl HOW.out rfl ?_
          simp only [Act.put, List.setIfInBounds_toArray, List.set_cons_zero, List.set_cons_succ]
          go_wp2_with fail
          refine waysPost_need (KeptOn.refl _ _) ?_
          refine ways_eff rfl ?_
          refine wpList_append_own _ rfl (.tmp 21) (.tmp 23) 78 rfl Bn 68 i0 (.agg #[.int .i64 0, .int .i64 0, .string ByteArray.empty]) 3 32 Tryd.underlying78 HI.out hz0 hz1 hz2 rfl (by decide) (.slice (some ⟨b0, 0, none⟩) 0 0) 0 (flat3 []) rfl HOW.out ⟨q, 0, none⟩ 1 1 [.int .i64 c, .int .i64 d, .string t] rfl rfl (news3 HONE.out) (by simp [Value.oneCell']) (by unfold maxLen; omega) (by omega) HBW.out ?_
          intro v9 w9 ho hg _
          simp only [Act.put, List.setIfInBounds_toArray, List.set_cons_zero, List.set_cons_succ]
          have hrow : RowL w9 v9 ([] ++ [ln c d t]) := RowL.of_own (B := Bn) (by rw [flat3_append]; simpa [flat3, lineCell] using ho)
          have ho : w9.ownsRow Bn 68 3 v9 (1) _ := ho
          obtain ⟨a9, c9, rfl⟩ := own_slice3 ho
          have HKB := Lib.hid (HKB.out.grown hg HBW.out (fun k hk => (HOW.out.lt k hk).1))
          have hkp := KeptOn.grown (D := fun b => b < Bn) hg (fun g hg' hD => by have := (HOW.out.lt g hg').1; omega)
          have HRW9 := Lib.hid hrow
          have HOB := Lib.hid (fun k (hk : Value.ownBlock _ = some k) => (ho.lt k hk).1)
          clear ho hg hrow
          go_wp2_with fail
          refine waysPost_need hkp ?_
          clear hkp
          iterate 2 (refine ways_quiet (v := ?_) rfl (fun _ _ _ h => h) (by rfl) (fun w' hR => ?_) ?_; rotate_left; (go_simp; try with_reducible rfl); simp only [Act.put, List.setIfInBounds_toArray, List.set_cons_zero, List.set_cons_succ])
          have hxb := HKB.out
          have hbk9 := HRX.out.ring.below HKB.out HXL5.out
          have q2 := hbk9.cell 2
          have f2 := hbk9.frozen 2
          have l2 := hbk9.lt
          have HRF := Lib.hid (HRX.out.put_ HKB.out HXL5.out HRW9.out)
          have HGW := Lib.hid (grownBy_trans HGW5.out (grownBy_trans (grownBy_of_below (show Below w5.heap.size w5 w9 by rw [HBN.out]; exact HKB.out) (some x)) (grown_cell3 w9 x 2 (.slice a9 (1) c9))))
          have HR3 := Lib.hid ((HR3.out.below HKB.out HL3.out).far (p := ⟨x, 2, none⟩) (by have := HXL.out; simp; omega) (.slice a9 (1) c9))
          have HR2 := Lib.hid ((HR2.out.below HKB.out HL2.out).far (p := ⟨x, 2, none⟩) (by have := HXL.out; simp; omega) (.slice a9 (1) c9))
          clear hxb hbk9
          refine ways_eff rfl ?_
          go_wp2_with fail
          refine waysPost_free ?_
          refine ways_done ?_
          clear q2 f2 l2
          generalize w9.setCell ⟨x, 2, none⟩ _ = wz at HRF HGW HR3 HR2 ⊢
          have r0 := HR3.out.cell 0
          have r1 := HR3.out.cell 1
          have r2 := HR3.out.cell 2
          go_wp2_with fail
          refine (HOF.out wz _ ([] ++ [ln c d t]) HRF.out).mono ?_
          clear r0 r1 r2
          rintro e wf ⟨rfl, hb⟩
          have HR2 := Lib.hid (HR2.out.below hb HR2.out.lt)
          have HRF := Lib.hid (HRF.out.below hb)
          have HGW := Lib.hid (grownBy_trans HGW.out (grownBy_of_below hb (some x)))
          have HBS := Lib.hid (show w.heap.size + 1 < wf.heap.size from HR2.out.lt)
          clear hb
          dsimp only
          go_step
          refine wpList_store_mid rfl 25 _ _ rfl (w.heap.size + 1) 0 X rfl rfl (HR2.out.there 0 _ (by rw [HSZ.out, z32_size]; exact Nat.le_refl _)) HI25.out HON.out ?_
          have hz := HR2.out.setCells X.toList 0
          rw [putAll_all _ _ (by rw [HSZ.out, z32_size])] at hz
          have ho := only_setCells wf (w.heap.size + 1) 0 X.toList
          simp only [Act.put]
          generalize wf.setCells (w.heap.size + 1) 0 X.toList = wg at hz ho ⊢
          have HZ := Lib.hid hz
          have HO := Lib.hid ho
          clear hz ho
          go_wp2_with fail
          refine bodyPost_ret (v := .tuple #[.agg X, .int .i64 0]) (results_cell_row_tmp rfl _ _ (w.heap.size + 1) 25 X _ _ rfl HZ.out Tryd.underlying25 rfl HI25.out (.int .i64 0) rfl) rfl ⟨rfl, _, HRF.out.only25 HO.out HR2.out (by have := HXL.out; omega), grownBy_only HGW.out HO.out (Nat.le_succ _)⟩
  · have HRWX := Lib.hid (fun wx (hb : Below Bn w5 wx) => (HRX.out.below (show Below w5.heap.size w5 wx by rw [HBN.out]; exact hb)).rows)
    clear hrow
    as_aux_lemma =>
      refine ways_fork rfl rfl ?_ ?_
      · go_wp2_with fail
        refine waysPost_need (KeptOn.alloc _ _) ?_
        have HKB := Lib.hid (HKB.out.alloc HBW.out (.cells #[] 68))
        have HOW := Lib.hid (World.ownsRow_made (e := 68) (size := 3) w5 #[] 0 HBW.out (by unfold maxLen; omega) rfl)
        have HBW := Lib.hid (show Bn ≤ (w5.alloc (.cells #[] 68)).heap.size from by rw [← HBN.out]; exact HKB.out.size)
        have HV := Lib.hid (show Value.ownBlock (.slice (some ⟨w5.heap.size, 0, none⟩) 0 0) = some w5.heap.size from rfl)
        generalize w5.alloc (.cells #[] 68) = wa at HKB HOW HBW ⊢
        generalize w5.heap.size = b0 at HOW HV ⊢
        refine ways_fork rfl rfl ?_ ?_
        · as_aux_lemma =>
            refine wpList_append_own _ rfl (.tmp 16) (.tmp 20) 78 rfl Bn 68 i0 (.agg #[.int .i64 0, .int .i64 0, .string ByteArray.empty]) 3 32 Tryd.underlying78 HI.out hz0 hz1 hz2 rfl (by decide) (.slice (some ⟨b0, 0, none⟩) 0 0) 0 [] rfl HOW.out ⟨g0, 0, none⟩ S.length cap (flat3 S) rfl (flat3_length S) (RowL.news (HRWX.out wa HKB.out)) (flat3_one S) (by unfold maxLen; omega) (by omega) HBW.out ?_
            intro v6 wb ho hg _
            simp only [Act.put, List.setIfInBounds_toArray, List.set_cons_zero, List.set_cons_succ]
            have HKB := Lib.hid (HKB.out.grown hg HBW.out (fun k hk => (HOW.out.lt k hk).1))
            have hkp := KeptOn.grown (D := fun b => b < Bn) hg (fun g hg' hD => by have := (HOW.out.lt g hg').1; omega)
            have HOW := Lib.hid (show wb.ownsRow Bn 68 3 v6 S.length (flat3 S) by simpa using ho)
            have HBW := Lib.hid (show Bn ≤ wb.heap.size from by rw [← HBN.out]; exact HKB.out.size)
            clear ho hg
            go_wp2_with fail
            refine waysPost_need hkp ?_
            clear hkp
            refine ways_eff rfl ?_
            go_wp2_with fail
            refine waysPost_need (KeptOn.alloc _ _) ?_
            have HKB := Lib.hid (HKB.out.alloc HBW.out (.cells #[.int .i64 c, .int .i64 d, .string t] 68))
            have HONE := Lib.hid (Blk.new wb 68 #[.int .i64 c, .int .i64 d, .string t])
            have HNQ := Lib.hid (fun k (hk : Value.ownBlock v6 = some k) => show k < wb.heap.size from (HOW.out.lt k hk).2)
            have HOW := Lib.hid (HOW.out.alloc (.cells #[.int .i64 c, .int .i64 d, .string t] 68))
            have HBW := Lib.hid (show Bn ≤ (wb.alloc (.cells #[.int .i64 c, .int .i64 d, .string t] 68)).heap.size from by rw [← HBN.out]; exact HKB.out.size)
            generalize wb.alloc (.cells #[.int .i64 c, .int .i64 d, .string t] 68) = wc at HKB HONE HBW HOW ⊢
            generalize wb.heap.size = q at HONE HNQ ⊢
            refine ways_eff rfl ?_
            refine wpList_append_own _ rfl (.tmp 21) (.tmp 23) 78 rfl Bn 68 i0 (.agg #[.int .i64 0, .int .i64 0, .string ByteArray.empty]) 3 32 Tryd.underlying78 HI.out hz0 hz1 hz2 rfl (by decide) v6 S.length (flat3 S) rfl HOW.out ⟨q, 0, none⟩ 1 1 [.int .i64 c, .int .i64 d, .string t] rfl rfl (news3 HONE.out) (by simp [Value.oneCell']) (by unfold maxLen; omega) (by omega) HBW.out ?_
            intro v9 w9 ho hg _
            simp only [Act.put, List.setIfInBounds_toArray, List.set_cons_zero, List.set_cons_succ]
            have hrow : RowL w9 v9 (S ++ [ln c d t]) := RowL.of_own (B := Bn) (by rw [flat3_append]; simpa [flat3, lineCell] using ho)
            have ho : w9.ownsRow Bn 68 3 v9 (S.length + 1) _ := ho
            obtain ⟨a9, c9, rfl⟩ := own_slice3 ho
            have HKB := Lib.hid (HKB.out.grown hg HBW.out (fun k hk => (HOW.out.lt k hk).1))
            have hkp := KeptOn.grown (D := fun b => b < Bn) hg (fun g hg' hD => by have := (HOW.out.lt g hg').1; omega)
            have HRW9 := Lib.hid hrow
            have HOB := Lib.hid (fun k (hk : Value.ownBlock _ = some k) => (ho.lt k hk).1)
            clear ho hg hrow
            go_wp2_with fail
            refine waysPost_need hkp ?_
            clear hkp
            iterate 2 (refine ways_quiet (v := ?_) rfl (fun _ _ _ h => h) (by rfl) (fun w' hR => ?_) ?_; rotate_left; (go_simp; try with_reducible rfl); simp only [Act.put, List.setIfInBounds_toArray, List.set_cons_zero, List.set_cons_succ])
            have hxb := HKB.out
            have hbk9 := HRX.out.ring.below HKB.out HXL5.out
            have q2 := hbk9.cell 2
            have f2 := hbk9.frozen 2
            have l2 := hbk9.lt
            have HRF := Lib.hid (HRX.out.put_ HKB.out HXL5.out HRW9.out)
            have HGW := Lib.hid (grownBy_trans HGW5.out (grownBy_trans (grownBy_of_below (show Below w5.heap.size w5 w9 by rw [HBN.out]; exact HKB.out) (some x)) (grown_cell3 w9 x 2 (.slice a9 (S.length + 1) c9))))
            have HR3 := Lib.hid ((HR3.out.below HKB.out HL3.out).far (p := ⟨x, 2, none⟩) (by have := HXL.out; simp; omega) (.slice a9 (S.length + 1) c9))
            have HR2 := Lib.hid ((HR2.out.below HKB.out HL2.out).far (p := ⟨x, 2, none⟩) (by have := HXL.out; simp; omega) (.slice a9 (S.length + 1) c9))
            clear hxb hbk9
            refine ways_eff rfl ?_
            go_wp2_with fail
            refine waysPost_free ?_
            refine ways_done ?_
            clear q2 f2 l2
            generalize w9.setCell ⟨x, 2, none⟩ _ = wz at HRF HGW HR3 HR2 ⊢
            have r0 := HR3.out.cell 0
            have r1 := HR3.out.cell 1
            have r2 := HR3.out.cell 2
            go_wp2_with fail
            refine (HOF.out wz _ (S ++ [ln c d t]) HRF.out).mono ?_
            clear r0 r1 r2
            rintro e wf ⟨rfl, hb⟩
            have HR2 := Lib.hid (HR2.out.below hb HR2.out.lt)
            have HRF := Lib.hid (HRF.out.below hb)
            have HGW := Lib.hid (grownBy_trans HGW.out (grownBy_of_below hb (some x)))
            have HBS := Lib.hid (show w.heap.size + 1 < wf.heap.size from HR2.out.lt)
            clear hb
            dsimp only
            go_step
            refine wpList_store_mid rfl 25 _ _ rfl (w.heap.size + 1) 0 X rfl rfl (HR2.out.there 0 _ (by rw [HSZ.out, z32_size]; exact Nat.le_refl _)) HI25.out HON.out ?_
            have hz := HR2.out.setCells X.toList 0
            rw [putAll_all _ _ (by rw [HSZ.out, z32_size])] at hz
            have ho := only_setCells wf (w.heap.size + 1) 0 X.toList
            simp only [Act.put]
            generalize wf.setCells (w.heap.size + 1) 0 X.toList = wg at hz ho ⊢
            have HZ := Lib.hid hz
            have HO := Lib.hid ho
            clear hz ho
            go_wp2_with fail
            refine bodyPost_ret (v := .tuple #[.agg X, .int .i64 0]) (results_cell_row_tmp rfl _ _ (w.heap.size + 1) 25 X _ _ rfl HZ.out Tryd.underlying25 rfl HI25.out (.int .i64 0) rfl) rfl ⟨rfl, _, HRF.out.only25 HO.out HR2.out (by have := HXL.out; omega), grownBy_only HGW.out HO.out (Nat.le_succ _)⟩
        · as_aux_lemma =>
            go_wp2_with fail
            refine waysPost_need (KeptOn.alloc _ _) ?_
            have HKB := Lib.hid (HKB.out.alloc HBW.out (.cells #[.int .i64 c, .int .i64 d, .string t] 68))
            have HONE := Lib.hid (Blk.new wa 68 #[.int .i64 c, .int .i64 d, .string t])
            have HNQ0 := Lib.hid (fun k (hk : Value.ownBlock (.slice (some ⟨b0, 0, none⟩) 0 0) = some k) => show k < wa.heap.size from (HOW.out.lt k hk).2)
            have HOW := Lib.hid (HOW.out.alloc (.cells #[.int .i64 c, .int .i64 d, .string t] 68))
            have HBW := Lib.hid (show Bn ≤ (wa.alloc (.cells #[.int .i64 c, .int .i64 d, .string t] 68)).heap.size from by rw [← HBN.out]; exact HKB.out.size)
            generalize wa.alloc (.cells #[.int .i64 c, .int .i64 d, .string t] 68) = wb at HKB HONE HBW HOW ⊢
            generalize wa.heap.size = q at HONE HNQ0 ⊢
            have HNQ := Lib.hid (show q ≠ b0 from fun e => by have := HNQ0.out b0 HV.out; omega)
            refine ways_eff rfl ?_
            refine wpList_append_own _ rfl (.tmp 16) (.tmp 20) 78 rfl Bn 68 i0 (.agg #[.int .i64 0, .int .i64 0, .string ByteArray.empty]) 3 32 Tryd.underlying78 HI.out hz0 hz1 hz2 rfl (by decide) (.slice (some ⟨b0, 0, none⟩) 0 0) 0 [] rfl HOW.out ⟨g0, 0, none⟩ S.length cap (flat3 S) rfl (flat3_length S) (RowL.news (HRWX.out wb HKB.out)) (flat3_one S) (by unfold maxLen; omega) (by omega) HBW.out ?_
            intro v6 wc ho hg _
            simp only [Act.put, List.setIfInBounds_toArray, List.set_cons_zero, List.set_cons_succ]
            have HONE := Lib.hid (HONE.out.grown hg (fun e => by rw [HV.out] at e; exact HNQ.out (Option.some.inj e)))
            have HKB := Lib.hid (HKB.out.grown hg HBW.out (fun k hk => (HOW.out.lt k hk).1))
            have hkp := KeptOn.grown (D := fun b => b < Bn) hg (fun g hg' hD => by have := (HOW.out.lt g hg').1; omega)
            have HOW := Lib.hid (show wc.ownsRow Bn 68 3 v6 S.length (flat3 S) by simpa using ho)
            have HBW := Lib.hid (show Bn ≤ wc.heap.size from by rw [← HBN.out]; exact HKB.out.size)
            clear ho hg
            go_wp2_with fail
            refine waysPost_need hkp ?_
            clear hkp
            refine ways_eff rfl ?_
            refine wpList_append_own _ rfl (.tmp 21) (.tmp 23) 78 rfl Bn 68 i0 (.agg #[.int .i64 0, .int .i64 0, .string ByteArray.empty]) 3 32 Tryd.underlying78 HI.out hz0 hz1 hz2 rfl (by decide) v6 S.length (flat3 S) rfl HOW.out ⟨q, 0, none⟩ 1 1 [.int .i64 c, .int .i64 d, .string t] rfl rfl (news3 HONE.out) (by simp [Value.oneCell']) (by unfold maxLen; omega) (by omega) HBW.out ?_
            intro v9 w9 ho hg _
            simp only [Act.put, List.setIfInBounds_toArray, List.set_cons_zero, List.set_cons_succ]
            have hrow : RowL w9 v9 (S ++ [ln c d t]) := RowL.of_own (B := Bn) (by rw [flat3_append]; simpa [flat3, lineCell] using ho)
            have ho : w9.ownsRow Bn 68 3 v9 (S.length + 1) _ := ho
            obtain ⟨a9, c9, rfl⟩ := own_slice3 ho
            have HKB := Lib.hid (HKB.out.grown hg HBW.out (fun k hk => (HOW.out.lt k hk).1))
            have hkp := KeptOn.grown (D := fun b => b < Bn) hg (fun g hg' hD => by have := (HOW.out.lt g hg').1; omega)
            have HRW9 := Lib.hid hrow
            have HOB := Lib.hid (fun k (hk : Value.ownBlock _ = some k) => (ho.lt k hk).1)
            clear ho hg hrow
            go_wp2_with fail
            refine waysPost_need hkp ?_
            clear hkp
            iterate 2 (refine ways_quiet (v := ?_) rfl (fun _ _ _ h => h) (by rfl) (fun w' hR => ?_) ?_; rotate_left; (go_simp; try with_reducible rfl); simp only [Act.put, List.setIfInBounds_toArray, List.set_cons_zero, List.set_cons_succ])
            have hxb := HKB.out
            have hbk9 := HRX.out.ring.below HKB.out HXL5.out
            have q2 := hbk9.cell 2
            have f2 := hbk9.frozen 2
            have l2 := hbk9.lt
            have HRF := Lib.hid (HRX.out.put_ HKB.out HXL5.out HRW9.out)
            have HGW := Lib.hid (grownBy_trans HGW5.out (grownBy_trans (grownBy_of_below (show Below w5.heap.size w5 w9 by rw [HBN.out]; exact HKB.out) (some x)) (grown_cell3 w9 x 2 (.slice a9 (S.length + 1) c9))))
            have HR3 := Lib.hid ((HR3.out.below HKB.out HL3.out).far (p := ⟨x, 2, none⟩) (by have := HXL.out; simp; omega) (.slice a9 (S.length + 1) c9))
            have HR2 := Lib.hid ((HR2.out.below HKB.out HL2.out).far (p := ⟨x, 2, none⟩) (by have := HXL.out; simp; omega) (.slice a9 (S.length + 1) c9))
            clear hxb hbk9
            refine ways_eff rfl ?_
            go_wp2_with fail
            refine waysPost_free ?_
            refine ways_done ?_
            clear q2 f2 l2
            generalize w9.setCell ⟨x, 2, none⟩ _ = wz at HRF HGW HR3 HR2 ⊢
            have r0 := HR3.out.cell 0
            have r1 := HR3.out.cell 1
            have r2 := HR3.out.cell 2
            go_wp2_with fail
            refine (HOF.out wz _ (S ++ [ln c d t]) HRF.out).mono ?_
            clear r0 r1 r2
            rintro e wf ⟨rfl, hb⟩
            have HR2 := Lib.hid (HR2.out.below hb HR2.out.lt)
            have HRF := Lib.hid (HRF.out.below hb)
            have HGW := Lib.hid (grownBy_trans HGW.out (grownBy_of_below hb (some x)))
            have HBS := Lib.hid (show w.heap.size + 1 < wf.heap.size from HR2.out.lt)
            clear hb
            dsimp only
            go_step
            refine wpList_store_mid rfl 25 _ _ rfl (w.heap.size + 1) 0 X rfl rfl (HR2.out.there 0 _ (by rw [HSZ.out, z32_size]; exact Nat.le_refl _)) HI25.out HON.out ?_
            have hz := HR2.out.setCells X.toList 0
            rw [putAll_all _ _ (by rw [HSZ.out, z32_size])] at hz
            have ho := only_setCells wf (w.heap.size + 1) 0 X.toList
            simp only [Act.put]
            generalize wf.setCells (w.heap.size + 1) 0 X.toList = wg at hz ho ⊢
            have HZ := Lib.hid hz
            have HO := Lib.hid ho
            clear hz ho
            go_wp2_with fail
            refine bodyPost_ret (v := .tuple #[.agg X, .int .i64 0]) (results_cell_row_tmp rfl _ _ (w.heap.size + 1) 25 X _ _ rfl HZ.out Tryd.underlying25 rfl HI25.out (.int .i64 0) rfl) rfl ⟨rfl, _, HRF.out.only25 HO.out HR2.out (by have := HXL.out; omega), grownBy_only HGW.out HO.out (Nat.le_succ _)⟩
      · as_aux_lemma =>
          go_wp2_with fail
          refine waysPost_need (KeptOn.alloc _ _) ?_
          have HKB := Lib.hid (HKB.out.alloc HBW.out (.cells #[.int .i64 c, .int .i64 d, .string t] 68))
          have HONE := Lib.hid (Blk.new w5 68 #[.int .i64 c, .int .i64 d, .string t])
          have HBW := Lib.hid (show Bn ≤ (w5.alloc (.cells #[.int .i64 c, .int .i64 d, .string t] 68)).heap.size from by rw [← HBN.out]; exact HKB.out.size)
          generalize w5.alloc (.cells #[.int .i64 c, .int .i64 d, .string t] 68) = wa at HKB HONE HBW ⊢
          generalize w5.heap.size = q at HONE ⊢
          refine ways_eff rfl ?_
          go_wp2_with fail
          refine waysPost_need (KeptOn.alloc _ _) ?_
          have HKB := Lib.hid (HKB.out.alloc HBW.out (.cells #[] 68))
          have HOW := Lib.hid (World.ownsRow_made (e := 68) (size := 3) wa #[] 0 HBW.out (by unfold maxLen; omega) rfl)
          have HBW := Lib.hid (show Bn ≤ (wa.alloc (.cells #[] 68)).heap.size from by rw [← HBN.out]; exact HKB.out.size)
          have HV := Lib.hid (show Value.ownBlock (.slice (some ⟨wa.heap.size, 0, none⟩) 0 0) = some wa.heap.size from rfl)
          have HNQ := Lib.hid (show q ≠ wa.heap.size from fun e => by have := HONE.out.lt; omega)
          have HONE := Lib.hid (HONE.out.alloc (.cells #[] 68))
          generalize wa.alloc (.cells #[] 68) = wb at HKB HOW HBW HONE ⊢
          generalize wa.heap.size = b0 at HOW HV HNQ ⊢
          refine ways_eff rfl ?_
          refine wpList_append_own _ rfl (.tmp 16) (.tmp 20) 78 rfl Bn 68 i0 (.agg #[.int .i64 0, .int .i64 0, .string ByteArray.empty]) 3 32 Tryd.underlying78 HI.out hz0 hz1 hz2 rfl (by decide) (.slice (some ⟨b0, 0, none⟩) 0 0) 0 [] rfl HOW.out ⟨g0, 0, none⟩ S.length cap (flat3 S) rfl (flat3_length S) (RowL.news (HRWX.out wb HKB.out)) (flat3_one S) (by unfold maxLen; omega) (by omega) HBW.out ?_
          intro v6 wc ho hg _
          simp only [Act.put, List.setIfInBounds_toArray, List.set_cons_zero, List.set_cons_succ]
          have HONE := Lib.hid (HONE.out.grown hg (fun e => by rw [HV.out] at e; exact HNQ.out (Option.some.inj e)))
          have HKB := Lib.hid (HKB.out.grown hg HBW.out (fun k hk => (HOW.out.lt k hk).1))
          have hkp := KeptOn.grown (D := fun b => b < Bn) hg (fun g hg' hD => by have := (HOW.out.lt g hg').1; omega)
          have HOW := Lib.hid (show wc.ownsRow Bn 68 3 v6 S.length (flat3 S) by simpa using ho)
          have HBW := Lib.hid (show Bn ≤ wc.heap.size from by rw [← HBN.out]; exact HKB.out.size)
          clear ho hg
          go_wp2_with fail
          refine waysPost_need hkp ?_
          clear hkp
          refine ways_eff rfl ?_
          refine wpList_append_own _ rfl (.tmp 21) (.tmp 23) 78 rfl Bn 68 i0 (.agg #[.int .i64 0, .int .i64 0, .string ByteArray.empty]) 3 32 Tryd.underlying78 HI.out hz0 hz1 hz2 rfl (by decide) v6 S.length (flat3 S) rfl HOW.out ⟨q, 0, none⟩ 1 1 [.int .i64 c, .int .i64 d, .string t] rfl rfl (news3 HONE.out) (by simp [Value.oneCell']) (by unfold maxLen; omega) (by omega) HBW.out ?_
          intro v9 w9 ho hg _
          simp only [Act.put, List.setIfInBounds_toArray, List.set_cons_zero, List.set_cons_succ]
          have hrow : RowL w9 v9 (S ++ [ln c d t]) := RowL.of_own (B := Bn) (by rw [flat3_append]; simpa [flat3, lineCell] using ho)
          have ho : w9.ownsRow Bn 68 3 v9 (S.length + 1) _ := ho
          obtain ⟨a9, c9, rfl⟩ := own_slice3 ho
          have HKB := Lib.hid (HKB.out.grown hg HBW.out (fun k hk => (HOW.out.lt k hk).1))
          have hkp := KeptOn.grown (D := fun b => b < Bn) hg (fun g hg' hD => by have := (HOW.out.lt g hg').1; omega)
          have HRW9 := Lib.hid hrow
          have HOB := Lib.hid (fun k (hk : Value.ownBlock _ = some k) => (ho.lt k hk).1)
          clear ho hg hrow
          go_wp2_with fail
          refine waysPost_need hkp ?_
          clear hkp
          iterate 2 (refine ways_quiet (v := ?_) rfl (fun _ _ _ h => h) (by rfl) (fun w' hR => ?_) ?_; rotate_left; (go_simp; try with_reducible rfl); simp only [Act.put, List.setIfInBounds_toArray, List.set_cons_zero, List.set_cons_succ])
          have hxb := HKB.out
          have hbk9 := HRX.out.ring.below HKB.out HXL5.out
          have q2 := hbk9.cell 2
          have f2 := hbk9.frozen 2
          have l2 := hbk9.lt
          have HRF := Lib.hid (HRX.out.put_ HKB.out HXL5.out HRW9.out)
          have HGW := Lib.hid (grownBy_trans HGW5.out (grownBy_trans (grownBy_of_below (show Below w5.heap.size w5 w9 by rw [HBN.out]; exact HKB.out) (some x)) (grown_cell3 w9 x 2 (.slice a9 (S.length + 1) c9))))
          have HR3 := Lib.hid ((HR3.out.below HKB.out HL3.out).far (p := ⟨x, 2, none⟩) (by have := HXL.out; simp; omega) (.slice a9 (S.length + 1) c9))
          have HR2 := Lib.hid ((HR2.out.below HKB.out HL2.out).far (p := ⟨x, 2, none⟩) (by have := HXL.out; simp; omega) (.slice a9 (S.length + 1) c9))
          clear hxb hbk9
          refine ways_eff rfl ?_
          go_wp2_with fail
          refine waysPost_free ?_
          refine ways_done ?_
          clear q2 f2 l2
          generalize w9.setCell ⟨x, 2, none⟩ _ = wz at HRF HGW HR3 HR2 ⊢
          have r0 := HR3.out.cell 0
          have r1 := HR3.out.cell 1
          have r2 := HR3.out.cell 2
          go_wp2_with fail
          refine (HOF.out wz _ (S ++ [ln c d t]) HRF.out).mono ?_
          clear r0 r1 r2
          rintro e wf ⟨rfl, hb⟩
          have HR2 := Lib.hid (HR2.out.below hb HR2.out.lt)
          have HRF := Lib.hid (HRF.out.below hb)
          have HGW := Lib.hid (grownBy_trans HGW.out (grownBy_of_below hb (some x)))
          have HBS := Lib.hid (show w.heap.size + 1 < wf.heap.size from HR2.out.lt)
          clear hb
          dsimp only
          go_step
          refine wpList_store_mid rfl 25 _ _ rfl (w.heap.size + 1) 0 X rfl rfl (HR2.out.there 0 _ (by rw [HSZ.out, z32_size]; exact Nat.le_refl _)) HI25.out HON.out ?_
          have hz := HR2.out.setCells X.toList 0
          rw [putAll_all _ _ (by rw [HSZ.out, z32_size])] at hz
          have ho := only_setCells wf (w.heap.size + 1) 0 X.toList
          simp only [Act.put]
          generalize wf.setCells (w.heap.size + 1) 0 X.toList = wg at hz ho ⊢
          have HZ := Lib.hid hz
          have HO := Lib.hid ho
          clear hz ho
          go_wp2_with fail
          refine bodyPost_ret (v := .tuple #[.agg X, .int .i64 0]) (results_cell_row_tmp rfl _ _ (w.heap.size + 1) 25 X _ _ rfl HZ.out Tryd.underlying25 rfl HI25.out (.int .i64 0) rfl) rfl ⟨rfl, _, HRF.out.only25 HO.out HR2.out (by have := HXL.out; omega), grownBy_only HGW.out HO.out (Nat.le_succ _)⟩
end Go.Proofs.YtkbcilfcfbfiaaaDoor
/- Both rings: what Tag and Check tell, in one form; what is done to the one leaves the other. -/
namespace Go.Proofs.YtkbcilfcfbfiaaaDoor
open Go.RowKit Go.Proofs
set_option linter.unusedSimpArgs false
set_option linter.unusedVariables false
def tagX (sd : ByteArray) (N : Nat) (c d : Int) (t : ByteArray) : Array Value := if MayB N c d t.size then bytesC (signOf sd c d t) else z32
def tagE (N : Nat) (c d : Int) (t : ByteArray) : Int := if MayB N c d t.size then 0 else 2
def tagS (N : Nat) (S : List Ln) (c d : Int) (t : ByteArray) : List Ln := if MayB N c d t.size then addL S (ln c d t) else S
def chkB (sd : ByteArray) (N : Nat) (c d : Int) (t : ByteArray) (D : List UInt8) : Bool := decide (MayB N c d t.size) && (signOf sd c d t == D)
theorem tagX_bytes (sd : ByteArray) (N : Nat) (c d : Int) (t : ByteArray) : ∃ L : List UInt8, L.length = 32 ∧ tagX sd N c d t = bytesC L := by
  unfold tagX
  split
  · exact ⟨_, signOf_length sd c d t, rfl⟩
  · exact ⟨List.replicate 32 0, by simp, rfl⟩
theorem addL_wide {S : List Ln} (h : Wide S) (c d : Int) (t : ByteArray) (hc : In64 c) (hd : In64 d) (ht : t.size ≤ 9223372036854775807) : Wide (addL S (ln c d t)) := fun y hy => by
  rcases mem_addL.1 hy with e | e
  · exact h y e
  · subst e
    exact ⟨hc, hd, by unfold ln; simp only; rw [← by_size]; exact ht⟩
theorem tagS_wide {S : List Ln} (h : Wide S) (N : Nat) (c d : Int) (t : ByteArray) (hc : In64 c) (hd : In64 d) (ht : t.size ≤ 9223372036854775807) : Wide (tagS N S c d t) := by
  unfold tagS
  split
  · exact addL_wide h c d t hc hd ht
  · exact h
theorem tagS_length (N : Nat) (S : List Ln) (c d : Int) (t : ByteArray) : (tagS N S c d t).length ≤ S.length + 1 := by
  unfold tagS addL
  split
  · split <;> simp
  · omega
/-- What the program's Tag leaves. -/
def TagAP (r g cap b : Nat) (sd : ByteArray) (N : Nat) (S : List Ln) (X : Array Value) (er : Int) (w : World) (e : Ending) (w' : World) : Prop :=
  e = .returned (.tuple #[.agg X, .int .i64 er]) ∧ RingAt w' r g cap b sd N S ∧ w.grownBy w' (some b)
theorem tagA_any (c d : Int) (t : ByteArray) (r g cap b N : Nat) (sd : ByteArray) (S : List Ln) (w : World) (hk : Consts w) (hR : RingAt w r g cap b sd N S) (hS : S.length < 1000) (hb0 : 0 < b) :
    Calls Tryd.prog 50 #[.pointer (some ⟨r, 0, none⟩), .int .i64 c, .int .i64 d, .string t] w fun e w' => TagAP r g cap b sd N (tagS N S c d t) (tagX sd N c d t) (tagE N c d t) w e w' := by
  by_cases hm : MayB N c d t.size
  · obtain ⟨j, rfl⟩ := Int.eq_ofNat_of_zero_le hm.1
    refine (rtag_ok j d t r g cap b N sd S w hk hR hm hS hb0).mono ?_
    rintro e w' ⟨rfl, h1, h2⟩
    refine ⟨?_, ?_, h2⟩
    · unfold tagX tagE; rw [if_pos hm, if_pos hm]
    · unfold tagS; rw [if_pos hm]; exact h1
  · refine (rtag_bad c d t r g cap b N sd S w hR hm).mono ?_
    rintro e w' ⟨rfl, hb⟩
    refine ⟨?_, ?_, grownBy_of_below hb _⟩
    · unfold tagX tagE; rw [if_neg hm, if_neg hm]
    · unfold tagS; rw [if_neg hm]; exact hR.below hb
/-- What the reference's Tag leaves. -/
def TagBP (x N : Nat) (sd : ByteArray) (S : List Ln) (X : Array Value) (er : Int) (w : World) (e : Ending) (w' : World) : Prop :=
  e = .returned (.tuple #[.agg X, .int .i64 er]) ∧ ∃ v, RefAt w' x v sd N S ∧ w.grownBy w' (some x)
theorem tagB_any (c d : Int) (t : ByteArray) (hc : In64 c) (hd : In64 d) (ht : t.size ≤ 140737488351232) (x N : Nat) (v : Value) (sd : ByteArray) (S : List Ln) (w : World) (hR : RefAt w x v sd N S) (hsd : sd.size ≤ 64) (hW : Wide S) (hl : S.length ≤ 1000) :
    Calls Tryd.prog 51 #[.pointer (some ⟨x, 0, none⟩), .agg #[.int .i64 c, .int .i64 d, .string t]] w fun e w' => TagBP x N sd (tagS N S c d t) (tagX sd N c d t) (tagE N c d t) w e w' := by
  by_cases hm : MayB N c d t.size
  · by_cases hs : ln c d t ∈ S
    · refine (tagR_old c d t hc hd ht x N v sd S w hR hsd hW hl hm hs).mono ?_
      rintro e w' ⟨rfl, h⟩
      refine ⟨?_, ?_⟩
      · unfold tagX tagE; rw [if_pos hm, if_pos hm]
      · unfold tagS addL; rw [if_pos hm, if_pos hs]; exact h
    · refine (tagR_new c d t hc hd ht x N v sd S w hR hsd hW hl hm hs).mono ?_
      rintro e w' ⟨rfl, h⟩
      refine ⟨?_, ?_⟩
      · unfold tagX tagE; rw [if_pos hm, if_pos hm]
      · unfold tagS addL; rw [if_pos hm, if_neg hs]; exact h
  · refine (tagR_bad c d t x N v sd S w hR hm).mono ?_
    rintro e w' ⟨rfl, hb⟩
    refine ⟨?_, ?_⟩
    · unfold tagX tagE; rw [if_neg hm, if_neg hm]
    · unfold tagS; rw [if_neg hm]; exact ⟨v, hR.below hb, grownBy_of_below hb _⟩
theorem checkA_any (c d : Int) (t : ByteArray) (D : List UInt8) (hD : D.length = 32) (r g cap b N : Nat) (sd : ByteArray) (S : List Ln) (w : World) (hk : Consts w) (hR : RingAt w r g cap b sd N S) :
    Calls Tryd.prog 52 #[.pointer (some ⟨r, 0, none⟩), .int .i64 c, .int .i64 d, .string t, .agg (bytesC D)] w fun e w' => e = .returned (.bool (chkB sd N c d t D)) ∧ Below w.heap.size w w' := by
  by_cases hm : MayB N c d t.size
  · obtain ⟨j, rfl⟩ := Int.eq_ofNat_of_zero_le hm.1
    refine (rcheck_ok j d t D hD r g cap b N sd S w hk hR hm).mono ?_
    rintro e w' ⟨rfl, hb⟩
    exact ⟨by unfold chkB; rw [decide_eq_true hm, Bool.true_and], hb⟩
  · refine (rcheck_no (some ⟨r, 0, none⟩) c d t (bytesC D) w fun w' hb => ?_).mono ?_
    · have := may_any c d t r g cap b N sd S w' (hR.below hb)
      rw [decide_eq_false hm] at this
      exact this
    · rintro e w' ⟨rfl, hb⟩
      exact ⟨by unfold chkB; rw [decide_eq_false hm, Bool.false_and], hb⟩
theorem checkB_any (c d : Int) (t : ByteArray) (D : List UInt8) (hD : D.length = 32) (hc : In64 c) (hd : In64 d) (x N : Nat) (v : Value) (sd : ByteArray) (S : List Ln) (w : World) (hR : RefAt w x v sd N S) (hsd : sd.size ≤ 64) :
    Calls Tryd.prog 53 #[.pointer (some ⟨x, 0, none⟩), .agg #[.int .i64 c, .int .i64 d, .string t], .agg (bytesC D)] w fun e w' => e = .returned (.bool (chkB sd N c d t D)) ∧ Below w.heap.size w w' := by
  by_cases hm : MayB N c d t.size
  · refine (checkR_ok c d t D hD hc hd x N v sd S w hR hsd hm).mono ?_
    rintro e w' ⟨rfl, hb⟩
    exact ⟨by unfold chkB; rw [decide_eq_true hm, Bool.true_and], hb⟩
  · refine (checkR_no c d t (bytesC D) x N v sd S w hR hm).mono ?_
    rintro e w' ⟨rfl, hb⟩
    exact ⟨by unfold chkB; rw [decide_eq_false hm, Bool.false_and], hb⟩
section
variable {w w' : World} {r g cap b x N N' : Nat} {v : Value} {sd sd' : ByteArray} {S S' : List Ln}
theorem book_no_cell (h : BookAt w b S) (p : Addr) (hp : p.block = b) (u : Value) : w.cell? p ≠ some u := fun hc => by
  obtain ⟨es, clock, hm⟩ := h.map
  simp [World.cell?, hp, hm] at hc
theorem RefAt.other (h : RefAt w x v sd N S) (hb : BookAt w b S') (hg : w.grownBy w' (some b)) : RefAt w' x v sd N S :=
  ⟨h.ring.grown hg (fun e => hb.ne_ h.ring (Option.some.inj e).symm), h.rows.of_ fun p u hc hl => (World.cell?_of_block (hg.block p.block hl (fun e => book_no_cell hb p (Option.some.inj e) u hc))).trans hc, h.eight⟩
theorem RingAt.other (h : RingAt w r g cap b sd N S) (hx : RefAt w x v sd' N' S') (hg : w.grownBy w' (some x)) : RingAt w' r g cap b sd N S := by
  have h1 : r ≠ x := Blk.ne_ h.ring hx.ring (by decide)
  have h2 : g ≠ x := by
    rintro rfl
    have := h.keys 1 (by have := h.two; omega)
    rw [hx.ring.cell 1] at this
    cases this
  have h3 : b ≠ x := h.book.ne_ hx.ring
  exact h.only hg h1 h2 h3
end
end Go.Proofs.YtkbcilfcfbfiaaaDoor
/- A slice of acts that came in reads as a list of acts. -/
namespace Go.Proofs.YtkbcilfcfbfiaaaDoor
open Go Go.RowKit Go.ChangeShapes Go.WideShapes Go.ChangeAt Go.Deep
set_option linter.unusedVariables false
structure ActT where
  k : Int
  c : Int
  e : Int
  t : ByteArray
  D : List UInt8
def ActT.cells (a : ActT) : List Value := actC a.k a.c a.e a.t a.D
def ActT.ok (a : ActT) : Prop := a.D.length = 32 ∧ In64 a.c ∧ In64 a.e ∧ a.t.size ≤ 140737488351232
/-- The slice value v reads as these acts. -/
def ActsAtT (w : World) (v : Value) (acts : List ActT) : Prop :=
  ∃ ao c, v = .slice ao acts.length c ∧ ∀ i (hi : i < acts.length), ∃ b o, ao = some ⟨b, o, none⟩ ∧ acts[i].ok ∧ ∀ j u, acts[i].cells[j]? = some u → w.cell? ⟨b, o + i * 36 + j, none⟩ = some u
theorem weightsAll_mem {H : Type} {P : Program} {e : TypeId} {d : DataW H} {n : Nat} : ∀ {l : List (DataW H)}, d ∈ l → n ∈ d.weights P e → n ∈ DataW.weightsAll P e l
  | [], h, _ => by cases h
  | x :: l, h, hn => by
    unfold DataW.weightsAll
    rw [List.mem_append]
    rcases List.mem_cons.1 h with rfl | h
    · exact .inl hn
    · exact .inr (weightsAll_mem h hn)
set_option maxRecDepth 100000 in
theorem actsT_of {H : Type} {enc : TypeId × Value → H} {W : World} {v : Value} {d : DataW H} {p : List MemPlace} {r : Reach} {b0 : Nat} (hv : Value.okWide Tryd.prog W r b0 60 v) (h : DataW.Trod enc Tryd.prog W 0 (fun _ => true) true 60 v d p)
    (hw : ∀ n ∈ d.weights Tryd.prog 60, n ≤ 140737488351232) : ∃ acts : List ActT, ActsAtT W v acts ∧ acts.length ≤ 9223372036854775807 := by
  obtain ⟨a0, len, cap, rfl⟩ := okWide_slice Tryd.underlying60 hv
  obtain ⟨fuel, hf⟩ := h
  have c70 : Tryd.prog.cellsOf 70 = 36 := by kernel_rfl
  rcases open_slice Tryd.underlying60 hf with ⟨hcs, _⟩ | ⟨a, len', cap', m, n, D, Pl, hcs, _, hl, hm, hmm, hx, hi⟩
  · simp only [Value.cells, List.cons.injEq, and_true] at hcs
    injection hcs with e1 e2 e3
    subst e1 e2 e3
    exact ⟨[], ⟨none, 0, rfl, fun i hi => by simp at hi⟩, by simp⟩
  · simp only [Value.cells, List.cons.injEq, and_true] at hcs
    injection hcs with e1 e2 e3
    subst e1 e2 e3
    simp only [if_true] at hmm
    subst hmm
    rw [Prod.mk.injEq] at hx
    have each : ∀ i, i < len → ∃ x : ActT, ∃ b o, a = ⟨b, o, none⟩ ∧ x.ok ∧ ∀ j u, x.cells[j]? = some u → W.cell? ⟨b, o + i * 36 + j, none⟩ = some u := by
      intro i hil
      obtain ⟨cs', hc, ht⟩ := hi i (by omega)
      rw [c70] at hc
      obtain ⟨k, c, e, t, DD, hD, hcs', h0, h1, h2, h3, y0, y2, hy⟩ := act_cells ht
      obtain ⟨_, hcl, hat⟩ := World.cells?_some hc
      obtain ⟨b, o, sp⟩ := a
      have hsp : sp = none := by
        obtain ⟨cs0, hc0, ht0⟩ := hi 0 (by omega)
        rw [c70] at hc0
        obtain ⟨_, hcl0, hat0⟩ := World.cells?_some hc0
        have := hat0 0 (by omega)
        have e : (((⟨b, o, sp⟩ : Addr).add (0 * 36)).add 0) = ⟨b, o, sp⟩ := by simp [Addr.add]
        rw [e, List.getElem?_eq_getElem (by omega)] at this
        exact spot_none this
      subst hsp
      refine ⟨⟨k, c, e, t, DD⟩, b, o, rfl, ⟨hD, h1, h2, ?_⟩, fun j u hu => ?_⟩
      · refine hw t.size ?_
        rw [hx.1]
        unfold DataW.weights
        rw [Tryd.underlying60]
        refine List.mem_cons_of_mem _ (List.mem_append.2 (.inl (weightsAll_mem (d := D i) (List.mem_map.2 ⟨i, List.mem_range.2 hil, rfl⟩) ?_)))
        have hy' : D i = .agg [y0.1, .agg [.lit (.int .i64 c), .lit (.int .i64 e), .lit (.string t.data.toList)], y2.1] := hy
        rw [hy']
        simp only [DataW.weights, Tryd.underlying70, Tryd.underlying68, DataW.weightsEach, List.map_cons, List.map_nil, List.nil_append, List.append_nil, List.mem_append, List.mem_cons, Array.toList]
        exact .inr (.inl (.inl (by simp)))
      · have hj : j < 36 := by
          rw [← hcl, hcs']
          rcases Nat.lt_or_ge j (actC k c e t DD).length with hlt | hge
          · exact hlt
          · unfold ActT.cells at hu
            rw [List.getElem?_eq_none hge] at hu; cases hu
        have := hat j hj
        rw [hcs'] at this
        have e : ((⟨b, o, none⟩ : Addr).add (i * 36)).add j = ⟨b, o + i * 36 + j, none⟩ := by rw [addr_add, addr_add]
        rw [e] at this
        exact this.trans hu
    refine ⟨(List.range len).attach.map fun i => (each i.1 (List.mem_range.1 i.2)).choose, ⟨some a, m, by simp, fun i hi => ?_⟩, by simp; unfold maxLen at hm; omega⟩
    have hil : i < len := by simpa using hi
    obtain ⟨b, o, ha, h0, h1⟩ := (each i hil).choose_spec
    refine ⟨b, o, by rw [ha], ?_, ?_⟩ <;> simp only [List.getElem_map, List.getElem_attach, List.getElem_range] <;> assumption
/-- In a later world the i-th act is at its cells. -/
theorem ActsAtT.get {w w' : World} {v : Value} {acts : List ActT} (h : ActsAtT w v acts) (hB : Below w.heap.size w w') (i : Nat) (hi : i < acts.length) :
    ∃ b o c, v = .slice (some ⟨b, o, none⟩) acts.length c ∧ b < w.heap.size ∧ acts[i].ok ∧ ∀ j u, acts[i].cells[j]? = some u → w'.cell? ⟨b, o + i * 36 + j, none⟩ = some u := by
  obtain ⟨ao, c, rfl, hc⟩ := h
  obtain ⟨b, o, rfl, h0, h1⟩ := hc i hi
  have hl := World.block_lt_of_cell? w _ (h1 0 (.int .i64 acts[i].k) rfl)
  exact ⟨b, o, c, rfl, hl, h0, fun j u hu => (hB.cell (p := ⟨b, _, none⟩) (show b < _ from hl)).trans (h1 j u hu)⟩
end Go.Proofs.YtkbcilfcfbfiaaaDoor
