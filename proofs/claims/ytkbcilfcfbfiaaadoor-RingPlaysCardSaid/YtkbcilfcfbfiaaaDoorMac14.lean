/- A digest that came in, opened. -/
import Derived.Test.YtkbcilfcfbfiaaaDoorMac13
import Derived.ProofKit
import Derived.OpenShut
namespace Go.Proofs.YtkbcilfcfbfiaaaDoor
open Go Go.RowKit Go.ChangeShapes Go.WideShapes
set_option linter.unusedVariables false
theorem cells_agg {v : Value} (h : v.cells.toList.length = 32) : ∃ cs, v = .agg cs ∧ v.cells = cs := by
  cases v <;> first | exact ⟨_, rfl, rfl⟩ | (simp [Value.cells] at h)
theorem bytes_of (P : Program) : ∀ (l : List Value), (∀ i, i < l.length → ∃ n : Int, l[i]? = some (.int .u8 n) ∧ 0 ≤ n ∧ n ≤ 255) → ∃ D : List UInt8, D.length = l.length ∧ l = D.map bb := by
  intro l
  induction l with
  | nil => intro _; exact ⟨[], rfl, rfl⟩
  | cons v l ih =>
    intro h
    obtain ⟨D, hD, hl⟩ := ih (fun i hi => by simpa using h (i + 1) (by simp; omega))
    obtain ⟨n, hn, h0, h1⟩ := h 0 (by simp)
    simp only [List.getElem?_cons_zero, Option.some.injEq] at hn
    refine ⟨UInt8.ofNat n.toNat :: D, by simp [hD], ?_⟩
    rw [hl, hn, List.map_cons]
    congr 1
    unfold bb
    rw [UInt8.toNat_ofNat']
    congr 1; omega
theorem digest_open {H : Type} {enc : TypeId × Value → H} {W : World} {base : Nat} {sp : Nat → Bool} {held : Bool} {v : Value} {d : DataW H} {p : List MemPlace} (h : DataW.Trod enc Tryd.prog W base sp held 25 v d p) :
    ∃ D : List UInt8, D.length = 32 ∧ v = .agg (bytesC D) := by
  obtain ⟨fuel, hf⟩ := h
  obtain ⟨xs, m, _, _, hlen, hxs, hel⟩ := DataW.trod_array Tryd.underlying25 hf
  have c5 : Tryd.prog.cellsOf 5 = 1 := by kernel_rfl
  have c25 : Tryd.prog.cellsOf 25 = 32 := by kernel_rfl
  rw [c25] at hlen
  have each : ∀ i, i < 32 → ∃ n : Int, v.cells.toList[i]? = some (.int .u8 n) ∧ 0 ≤ n ∧ n ≤ 255 := by
    intro i hi
    have h1 := hel i hi
    rw [c5, Nat.mul_one, List.getElem?_eq_getElem (by omega)] at h1
    obtain ⟨n, e1, _, hw⟩ := DataW.trod_int Tryd.underlying5 h1
    have hb := bounds_u8 hw
    refine ⟨n, ?_, hb.1, hb.2⟩
    rw [List.drop_eq_getElem_cons (by omega)] at e1
    simp only [List.take_succ_cons, List.take_zero, List.cons.injEq, and_true] at e1
    rw [List.getElem?_eq_getElem (by omega), e1]
  obtain ⟨cs, rfl, hc⟩ := cells_agg hlen
  obtain ⟨D, hD, hl⟩ := bytes_of Tryd.prog _ (fun i hi => each i (by omega))
  refine ⟨D, by omega, ?_⟩
  rw [hc] at hl
  have e : cs = bytesC D := by
    unfold bytesC
    exact (Array.toArray_toList).symm.trans (congrArg List.toArray hl)
  exact congrArg Value.agg e
end Go.Proofs.YtkbcilfcfbfiaaaDoor
