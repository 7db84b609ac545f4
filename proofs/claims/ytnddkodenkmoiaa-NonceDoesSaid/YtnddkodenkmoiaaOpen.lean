/- Arguments opened: a slice of ints; an act. -/
import Derived.Test.YtnddkodenkmoiaaDisk7
import Derived.Deep.Slices
import Derived.Lib.SmallJoins
import Derived.ProofKit
import Derived.OpenShut
namespace Go.Proofs.Ytnddkodenkmoiaa
open Go.ChangeShapes Go.WideShapes Go.ChangeAt Go.RowKit Go.Deep
set_option linter.unusedVariables false
def IntsAt (w : World) (v : Value) (ks : List Int) : Prop := ∃ o c, v = .slice o ks.length c ∧ ks.length ≤ c ∧ ∀ j k, ks[j]? = some k → ∃ a, o = some a ∧ w.cell? (a.add j) = some (.int .i64 k)
theorem ints_of {H : Type} {enc : TypeId × Value → H} {W : World} {v : Value} {fuel : Nat} {y : DataW H × List MemPlace} (h : DataW.trod enc Try.prog W 0 (fun _ => true) true fuel 36 [v] = some y) :
    ∃ ks : List Int, IntsAt W v ks ∧ ks.length ≤ 9223372036854775807 := by
  rcases open_slice1 Try.underlying36 (by kernel_rfl) h with ⟨hcs, _⟩ | ⟨a, len, cap, m, n, V, D, Pl, hcs, _, hl, hm, hmm, _, hi⟩
  · obtain rfl : v = .slice none 0 0 := by simpa using hcs
    exact ⟨[], ⟨none, 0, rfl, by simp, fun j k h => by simp at h⟩, by simp⟩
  · obtain rfl : v = .slice (some a) len cap := by simpa using hcs
    simp only [if_true] at hmm
    have each : ∀ i, i < len → ∃ x : Int, W.cell? (a.add i) = some (.int .i64 x) := fun i hil => by
      obtain ⟨h1, h2⟩ := hi i (by omega)
      obtain ⟨k, e0, _, _⟩ := DataW.trod_int Try.underlying3 h2
      simp only [List.cons.injEq, and_true] at e0
      exact ⟨k, by rw [h1, e0]⟩
    refine ⟨(List.range len).attach.map fun i => (each i.1 (List.mem_range.1 i.2)).choose, ⟨some a, cap, by simp, by simpa using hl, fun j k hj => ?_⟩, by simp; unfold maxLen at hm; omega⟩
    have hjl : j < len := by
      have := (List.getElem?_eq_some_iff.1 hj).1
      simpa using this
    refine ⟨a, rfl, ?_⟩
    have := (each j hjl).choose_spec
    rw [List.getElem?_map, List.getElem?_eq_getElem (by simpa using hjl)] at hj
    simp only [Option.map_some, Option.some.injEq, List.getElem_attach, List.getElem_range] at hj
    rw [← hj]; exact this
end Go.Proofs.Ytnddkodenkmoiaa
