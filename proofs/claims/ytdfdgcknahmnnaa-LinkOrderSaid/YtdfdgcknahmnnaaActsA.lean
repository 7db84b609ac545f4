/- A slice of acts that came in reads as a list of acts. -/
import Derived.Test.YtdfdgcknahmnnaaOpen
import Derived.Test.YtdfdgcknahmnnaaOrderA
import Derived.ProofKit
import Derived.OpenShut
namespace Go.Proofs.Ytdfdgcknahmnnaa
open Go.ChangeShapes Go.WideShapes Go.ChangeAt Go.RowKit Go.Deep

theorem cells36 : Try.prog.cellsOf 36 = 3 := by kernel_rfl
theorem under36 : ∃ fs, Try.prog.underlying 36 = some (.struct fs) ∧ fs.size = 3 ∧ oneCellFields Try.prog fs = true ∧ (fs[0]?).map (·.type) = some 3 ∧ (fs[1]?).map (·.type) = some 3 ∧ (fs[2]?).map (·.type) = some 9 := ⟨_, Try.underlying36, by kernel_rfl, by kernel_rfl, by kernel_rfl, by kernel_rfl, by kernel_rfl⟩
theorem acts_of {H : Type} {enc : TypeId × Value → H} {W : World} {v : Value} {d : DataW H} {p : List MemPlace} {r : Reach} {b0 : Nat} (hv : Value.okWide Try.prog W r b0 31 v) (h : DataW.Trod enc Try.prog W 0 (fun _ => true) true 31 v d p) :
    ∃ acts : List ActR, ActsAt W v acts ∧ acts.length ≤ 9223372036854775807 := by
  obtain ⟨a0, len, cap, rfl⟩ := okWide_slice Try.underlying31 hv
  obtain ⟨fuel, hf⟩ := h
  obtain ⟨fs, hu, hfs, hone, t0, t1, t2⟩ := under36
  rcases open_slice_fields Try.underlying31 hu hone (by rw [cells36, hfs]) hf with ⟨hcs, _⟩ | ⟨a, len', cap', m, D, Pl, hcs, _, hl, hm, hmm, _, hi⟩
  · simp only [Value.cells, List.cons.injEq, and_true] at hcs
    injection hcs with e1 e2 e3
    subst e1 e2 e3
    exact ⟨[], ⟨none, 0, rfl, fun i hi => by simp at hi⟩, by simp⟩
  · simp only [Value.cells, List.cons.injEq, and_true] at hcs
    injection hcs with e1 e2 e3
    subst e1 e2 e3
    simp only [if_true] at hmm
    subst hmm
    have each : ∀ i, i < len → ∃ x : ActR, ∃ b o, a = ⟨b, o, none⟩ ∧ W.cell? ⟨b, o + i * 3, none⟩ = some (.int .i64 x.k) ∧ W.cell? ⟨b, o + i * 3 + 1, none⟩ = some (.int .i64 x.c) ∧ W.cell? ⟨b, o + i * 3 + 2, none⟩ = some (.string x.s) := by
      intro i hil
      obtain ⟨ys, n, _, _, _, hf⟩ := hi i (by omega)
      obtain ⟨f0, hf0⟩ := Option.map_eq_some_iff.1 t0
      obtain ⟨f1, hf1⟩ := Option.map_eq_some_iff.1 t1
      obtain ⟨f2, hf2⟩ := Option.map_eq_some_iff.1 t2
      obtain ⟨v0, y0, c0, _, ht0⟩ := hf 0 f0 hf0.1
      obtain ⟨v1, y1, c1, _, ht1⟩ := hf 1 f1 hf1.1
      obtain ⟨v2, y2, c2, _, ht2⟩ := hf 2 f2 hf2.1
      rw [hf0.2] at ht0
      rw [hf1.2] at ht1
      rw [hf2.2] at ht2
      obtain ⟨k, e0, _, _⟩ := DataW.trod_int Try.underlying3 ht0
      obtain ⟨c, e1, _, _⟩ := DataW.trod_int Try.underlying3 ht1
      obtain ⟨s, e2, _, _⟩ := DataW.trod_string Try.underlying9 ht2
      simp only [List.cons.injEq, and_true] at e0 e1 e2
      subst e0 e1 e2
      rw [hfs] at c0 c1 c2
      obtain ⟨b, o, sp⟩ := a
      obtain ⟨_, _, _, _, _, hf'⟩ := hi 0 (by omega)
      obtain ⟨_, _, cz, _, _⟩ := hf' 0 f0 hf0.1
      have hsp : sp = none := by
        have : (⟨b, o, sp⟩ : Addr).add (0 * fs.size + 0) = ⟨b, o, sp⟩ := by simp [Addr.add]
        rw [this] at cz
        exact spot_none cz
      subst hsp
      refine ⟨⟨k, c, s⟩, b, o, rfl, ?_, ?_, ?_⟩
      · have := c0; rw [addr_add] at this; exact this
      · have := c1; rw [addr_add, ← Nat.add_assoc] at this; exact this
      · have := c2; rw [addr_add, ← Nat.add_assoc] at this; exact this
    refine ⟨(List.range len).attach.map fun i => (each i.1 (List.mem_range.1 i.2)).choose, ⟨some a, m, by simp, fun i hi => ?_⟩, by simp; unfold maxLen at hm; omega⟩
    have hil : i < len := by simpa using hi
    obtain ⟨b, o, ha, h0, h1, h2⟩ := (each i hil).choose_spec
    refine ⟨b, o, by rw [ha], ?_, ?_, ?_⟩ <;> simp only [List.getElem_map, List.getElem_attach, List.getElem_range] <;> assumption
end Go.Proofs.Ytdfdgcknahmnnaa
