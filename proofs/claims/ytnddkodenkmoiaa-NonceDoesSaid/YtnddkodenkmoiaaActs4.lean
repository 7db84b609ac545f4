/- A slice of acts that came in reads as a list of acts. -/
import Derived.Test.YtnddkodenkmoiaaCell8
import Derived.Test.YtnddkodenkmoiaaOpenF
import Derived.ProofKit
import Derived.OpenShut
namespace Go.Proofs.Ytnddkodenkmoiaa
open Go.ChangeShapes Go.WideShapes Go.ChangeAt Go.RowKit Go.Deep
set_option linter.unusedVariables false
structure Act4 where
  k : Int
  n : Int
  s : ByteArray
  v : Value
  ks : List Int
/-- The slice value v reads as these acts. -/
def ActsAt4 (w : World) (v : Value) (acts : List Act4) : Prop :=
  ∃ ao c, v = .slice ao acts.length c ∧ ∀ i (hi : i < acts.length), ∃ b o, ao = some ⟨b, o, none⟩ ∧ w.cell? ⟨b, o + i * 4, none⟩ = some (.int .i64 acts[i].k) ∧ w.cell? ⟨b, o + i * 4 + 1, none⟩ = some (.int .i64 acts[i].n) ∧ w.cell? ⟨b, o + i * 4 + 2, none⟩ = some (.string acts[i].s) ∧ w.cell? ⟨b, o + i * 4 + 3, none⟩ = some acts[i].v ∧
    IntsAt w acts[i].v acts[i].ks ∧ acts[i].ks.length ≤ 9223372036854775807 ∧ acts[i].n ≤ 9223372036854775807 ∧ acts[i].s.size ≤ maxLen
theorem cells63 : Try.prog.cellsOf 63 = 4 := by kernel_rfl
theorem under63 : ∃ fs, Try.prog.underlying 63 = some (.struct fs) ∧ fs.size = 4 ∧ oneCellFields Try.prog fs = true ∧ (fs[0]?).map (·.type) = some 3 ∧ (fs[1]?).map (·.type) = some 3 ∧ (fs[2]?).map (·.type) = some 9 ∧ (fs[3]?).map (·.type) = some 36 := ⟨_, Try.underlying63, by kernel_rfl, by kernel_rfl, by kernel_rfl, by kernel_rfl, by kernel_rfl, by kernel_rfl⟩
set_option maxRecDepth 100000 in
theorem acts4_of {H : Type} {enc : TypeId × Value → H} {W : World} {v : Value} {d : DataW H} {p : List MemPlace} {r : Reach} {b0 : Nat} (hv : Value.okWide Try.prog W r b0 58 v) (h : DataW.Trod enc Try.prog W 0 (fun _ => true) true 58 v d p) :
    ∃ acts : List Act4, ActsAt4 W v acts ∧ acts.length ≤ 9223372036854775807 := by
  obtain ⟨a0, len, cap, rfl⟩ := okWide_slice Try.underlying58 hv
  obtain ⟨fuel, hf⟩ := h
  obtain ⟨fs, hu, hfs, hone, t0, t1, t2, t3⟩ := under63
  rcases open_slice_fields Try.underlying58 hu hone (by rw [cells63, hfs]) hf with ⟨hcs, _⟩ | ⟨a, len', cap', m, D, Pl, hcs, _, hl, hm, hmm, _, hi⟩
  · simp only [Value.cells, List.cons.injEq, and_true] at hcs
    injection hcs with e1 e2 e3
    subst e1 e2 e3
    exact ⟨[], ⟨none, 0, rfl, fun i hi => by simp at hi⟩, by simp⟩
  · simp only [Value.cells, List.cons.injEq, and_true] at hcs
    injection hcs with e1 e2 e3
    subst e1 e2 e3
    simp only [if_true] at hmm
    subst hmm
    have each : ∀ i, i < len → ∃ x : Act4, ∃ b o, a = ⟨b, o, none⟩ ∧ W.cell? ⟨b, o + i * 4, none⟩ = some (.int .i64 x.k) ∧ W.cell? ⟨b, o + i * 4 + 1, none⟩ = some (.int .i64 x.n) ∧ W.cell? ⟨b, o + i * 4 + 2, none⟩ = some (.string x.s) ∧ W.cell? ⟨b, o + i * 4 + 3, none⟩ = some x.v ∧
        IntsAt W x.v x.ks ∧ x.ks.length ≤ 9223372036854775807 ∧ x.n ≤ 9223372036854775807 ∧ x.s.size ≤ maxLen := by
      intro i hil
      obtain ⟨ys, n, _, _, _, hf⟩ := hi i (by omega)
      obtain ⟨f0, hf0⟩ := Option.map_eq_some_iff.1 t0
      obtain ⟨f1, hf1⟩ := Option.map_eq_some_iff.1 t1
      obtain ⟨f2, hf2⟩ := Option.map_eq_some_iff.1 t2
      obtain ⟨f3, hf3⟩ := Option.map_eq_some_iff.1 t3
      obtain ⟨v0, y0, c0, _, ht0⟩ := hf 0 f0 hf0.1
      obtain ⟨v1, y1, c1, _, ht1⟩ := hf 1 f1 hf1.1
      obtain ⟨v2, y2, c2, _, ht2⟩ := hf 2 f2 hf2.1
      obtain ⟨v3, y3, c3, _, ht3⟩ := hf 3 f3 hf3.1
      rw [hf0.2] at ht0
      rw [hf1.2] at ht1
      rw [hf2.2] at ht2
      rw [hf3.2] at ht3
      obtain ⟨k, e0, _, _⟩ := DataW.trod_int Try.underlying3 ht0
      obtain ⟨c, e1, _, wn⟩ := DataW.trod_int Try.underlying3 ht1
      obtain ⟨s, e2, _, hsz⟩ := DataW.trod_string Try.underlying9 ht2
      obtain ⟨ks, hks, hkl⟩ := ints_of ht3
      simp only [List.cons.injEq, and_true] at e0 e1 e2
      subst e0 e1 e2
      rw [hfs] at c0 c1 c2 c3
      obtain ⟨b, o, sp⟩ := a
      obtain ⟨_, _, _, _, _, hf'⟩ := hi 0 (by omega)
      obtain ⟨_, _, cz, _, _⟩ := hf' 0 f0 hf0.1
      have hsp : sp = none := by
        have : (⟨b, o, sp⟩ : Addr).add (0 * fs.size + 0) = ⟨b, o, sp⟩ := by simp [Addr.add]
        rw [this] at cz
        exact spot_none cz
      subst hsp
      have bn := bounds_i64 wn
      refine ⟨⟨k, c, s, v3, ks⟩, b, o, rfl, ?_, ?_, ?_, ?_, hks, hkl, bn.2, hsz⟩
      · have := c0; rw [addr_add] at this; exact this
      · have := c1; rw [addr_add, ← Nat.add_assoc] at this; exact this
      · have := c2; rw [addr_add, ← Nat.add_assoc] at this; exact this
      · have := c3; rw [addr_add, ← Nat.add_assoc] at this; exact this
    refine ⟨(List.range len).attach.map fun i => (each i.1 (List.mem_range.1 i.2)).choose, ⟨some a, m, by simp, fun i hi => ?_⟩, by simp; unfold maxLen at hm; omega⟩
    have hil : i < len := by simpa using hi
    obtain ⟨b, o, ha, h0, h1, h2, h3, h4, h5, h6, h7⟩ := (each i hil).choose_spec
    refine ⟨b, o, by rw [ha], ?_, ?_, ?_, ?_, ?_, ?_, ?_, ?_⟩ <;> simp only [List.getElem_map, List.getElem_attach, List.getElem_range] <;> assumption
/-- In a later world the i-th act is at its cells. -/
theorem ActsAt4.get {w w' : World} {v : Value} {acts : List Act4} (h : ActsAt4 w v acts) (hB : Below w.heap.size w w') (i : Nat) (hi : i < acts.length) :
    ∃ b o c, v = .slice (some ⟨b, o, none⟩) acts.length c ∧ b < w.heap.size ∧ w'.cell? ⟨b, o + i * 4, none⟩ = some (.int .i64 acts[i].k) ∧ w'.cell? ⟨b, o + i * 4 + 1, none⟩ = some (.int .i64 acts[i].n) ∧ w'.cell? ⟨b, o + i * 4 + 2, none⟩ = some (.string acts[i].s) ∧ w'.cell? ⟨b, o + i * 4 + 3, none⟩ = some acts[i].v ∧
      IntsAt w acts[i].v acts[i].ks ∧ acts[i].ks.length ≤ 9223372036854775807 ∧ acts[i].n ≤ 9223372036854775807 ∧ acts[i].s.size ≤ maxLen := by
  obtain ⟨ao, c, rfl, hc⟩ := h
  obtain ⟨b, o, rfl, h0, h1, h2, h3, h4, h5, h6, h7⟩ := hc i hi
  have hl := World.block_lt_of_cell? w _ h0
  have k : ∀ j, w'.cell? ⟨b, j, none⟩ = w.cell? ⟨b, j, none⟩ := fun j => hB.cell (p := ⟨b, j, none⟩) (show b < _ from hl)
  exact ⟨b, o, c, rfl, hl, (k _).trans h0, (k _).trans h1, (k _).trans h2, (k _).trans h3, h4, h5, h6, h7⟩
end Go.Proofs.Ytnddkodenkmoiaa
