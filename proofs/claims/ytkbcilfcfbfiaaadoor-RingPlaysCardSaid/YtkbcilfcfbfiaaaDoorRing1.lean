/- A ring's book: the key law, and what a book holds. -/
import Derived.Test.YtkbcilfcfbfiaaaDoorLaid
import Derived.Test.YtkbcilfcfbfiaaaDoorMac14
import Derived.Maps.OwnSet
import Derived.DeepKeys4
namespace Go.Proofs.YtkbcilfcfbfiaaaDoor
open Go.RowKit Go.Proofs
open Go.Maps (Keyed)
set_option linter.unusedSimpArgs false
set_option linter.unusedVariables false
theorem ringLaw : Keyed Tryd.prog 110 := Keyed.of_law (deep_law_laid laidOut (m := 3) (by omega) (of_decide_eq_true (by kernel_rfl)) (by kernel_rfl) (by kernel_rfl))
/-- A line as a value. -/
def lineV (c d : Int) (t : ByteArray) : Value := .agg #[.int .i64 c, .int .i64 d, .string t]
theorem lineV_inj {c d c' d' : Int} {t t' : ByteArray} (h : lineV c d t = lineV c' d' t') : c = c' ∧ d = d' ∧ t = t' := by
  unfold lineV at h
  simpa using h
theorem cells110 : Tryd.prog.cellsOf 110 = 3 := by kernel_rfl
theorem keyType110 : Tryd.prog.keyType 110 = true := by kernel_rfl
def In64 (n : Int) : Prop := -9223372036854775808 ≤ n ∧ n ≤ 9223372036854775807
theorem In64.wf {n : Int} (h : In64 n) : (Lit.int .i64 n).wf = true := WalkArith.wf_i64 h
theorem line_key (c d : Int) (t : ByteArray) (hc : In64 c) (hd : In64 d) (ht : t.size ≤ maxLen) : ∃ l, Go.keyOf Tryd.prog 110 (lineV c d t) = some l := by
  obtain ⟨m, hm⟩ : ∃ m, Tryd.prog.types.size = m + 1 := ⟨Tryd.prog.types.size - 1, by have : 110 < Tryd.prog.types.size := of_decide_eq_true (by kernel_rfl); omega⟩
  have hf : (lineV c d t).formed Tryd.prog 110 = true := by simp [lineV, Value.formed, Tryd.underlying110, cells110]
  have c3 : Tryd.prog.cellsOf 3 = 1 := by kernel_rfl
  have c9 : Tryd.prog.cellsOf 9 = 1 := by kernel_rfl
  have h1 := hc.wf
  have h2 := hd.wf
  refine ⟨.string (keyBytes [.int .i64 c, .int .i64 d, .string t.data.toList]), ?_⟩
  simp only [Go.keyOf, Tryd.underlying110, keyType110, hf, Bool.and_self, if_true]
  rw [hm]
  simp [Program.keyLits, Tryd.underlying110, Tryd.underlying3, Tryd.underlying9, c3, c9, cells110, lineV, Value.cells, h1, h2, ht]
theorem zero3 (w : World) : (zeroValue 3).run Tryd.prog w = .ok (.int .i64 0) w := by kernel_rfl
/-- A line of a book. -/
abbrev Ln := Int × Int × List UInt8
def ln (c d : Int) (t : ByteArray) : Ln := (c, d, by_ t)
theorem by_inj {t t' : ByteArray} (h : by_ t = by_ t') : t = t' := by rw [← strOf_by t, ← strOf_by t', h]
theorem ln_inj {c d c' d' : Int} {t t' : ByteArray} (h : ln c d t = ln c' d' t') : c = c' ∧ d = d' ∧ t = t' := by
  unfold ln at h
  simp only [Prod.mk.injEq] at h
  exact ⟨h.1, h.2.1, by_inj h.2.2⟩
def addL (S : List Ln) (x : Ln) : List Ln := if x ∈ S then S else S ++ [x]
theorem mem_addL {S : List Ln} {x y : Ln} : y ∈ addL S x ↔ y ∈ S ∨ y = x := by
  unfold addL
  split
  · rename_i h
    exact ⟨.inl, fun h' => h'.elim id (fun e => e ▸ h)⟩
  · simp
/-- D holds the lines S, each once. -/
def HoldsL (D : DataW Unit) (S : List Ln) : Prop :=
  Maps.size D = S.length ∧ ∀ (c d : Int) (t : ByteArray) (l : Lit), Go.keyOf Tryd.prog 110 (lineV c d t) = some l →
    Maps.has D l = decide (ln c d t ∈ S) ∧ D.atKey l (.lit (.int .i64 0)) = .lit (.int .i64 (if ln c d t ∈ S then 1 else 0))
theorem holds_nil : HoldsL (.map []) [] := ⟨rfl, fun c d t l hl => ⟨by simp [Maps.has], by simp [DataW.atKey]⟩⟩
theorem holds_put {D : DataW Unit} {S : List Ln} (h : HoldsL D S) (hT : Maps.Tidy D) (c d : Int) (t : ByteArray) (l : Lit) (hl : Go.keyOf Tryd.prog 110 (lineV c d t) = some l) :
    HoldsL (D.put l (.lit (.int .i64 1))) (addL S (ln c d t)) := by
  have hk := ringLaw.key hl
  refine ⟨?_, fun c' d' t' l' hl' => ?_⟩
  · rw [Maps.size_put hT, (h.2 c d t l hl).1, h.1]
    unfold addL
    by_cases hm : ln c d t ∈ S <;> simp [hm]
  · by_cases e : l' = l
    · subst e
      obtain ⟨rfl, rfl, rfl⟩ := lineV_inj (ringLaw.inj hl' hl)
      have hm : ln c' d' t' ∈ addL S (ln c' d' t') := mem_addL.2 (.inr rfl)
      refine ⟨?_, ?_⟩
      · rw [Maps.has_put_same hT.isMap hk]; simp [hm]
      · rw [Maps.atKey_put_same hT.isMap hk, if_pos hm]
    · have hne : ln c' d' t' ≠ ln c d t := fun e' => by
        obtain ⟨rfl, rfl, rfl⟩ := ln_inj e'
        exact e (Option.some.inj (hl'.symm.trans hl))
      have hm : ln c' d' t' ∈ addL S (ln c d t) ↔ ln c' d' t' ∈ S := ⟨fun h => (mem_addL.1 h).elim id (fun e' => absurd e' hne), fun h => mem_addL.2 (.inl h)⟩
      obtain ⟨h1, h2⟩ := h.2 c' d' t' l' hl'
      refine ⟨?_, ?_⟩
      · rw [Maps.has_put_other e, h1]; simp only [hm]
      · rw [Maps.atKey_put_other e, h2]; simp only [hm]
/-- Block b is a book of the lines S. -/
def BookAt (w : World) (b : Nat) (S : List Ln) : Prop := ∃ D : DataW Unit, w.ownsMap Tryd.prog 110 (plainElem Tryd.prog 3) b S.length D ∧ HoldsL D S
section
variable {w w' : World} {b : Nat} {S : List Ln}
theorem BookAt.kept {row : Option Nat} (h : BookAt w b S) (hg : w.grownBy w' row) (hne : some b ≠ row) : BookAt w' b S := by
  obtain ⟨D, h1, h2⟩ := h
  exact ⟨D, h1.kept hg hne, h2⟩
theorem BookAt.block (h : BookAt w b S) (hg : w'.heap[b]? = w.heap[b]?) : BookAt w' b S := by
  obtain ⟨D, ⟨es, clock, hb, r⟩, h2⟩ := h
  exact ⟨D, ⟨es, clock, hg.trans hb, r⟩, h2⟩
theorem BookAt.lt (h : BookAt w b S) : b < w.heap.size := by
  obtain ⟨D, h1, h2⟩ := h
  exact h1.lt
theorem BookAt.below (h : BookAt w b S) (hb : Below w.heap.size w w') : BookAt w' b S := h.block (hb.block b h.lt)
theorem BookAt.alloc (h : BookAt w b S) (o : Obj) : BookAt (w.alloc o) b S := h.block (Below.heap_alloc w o b h.lt)
theorem BookAt.drew (h : BookAt w b S) : BookAt w.drew b S := h
theorem BookAt.map (h : BookAt w b S) : ∃ es clock, w.heap[b]? = some (.map es clock) := by
  obtain ⟨D, ⟨es, clock, hb, r⟩, h2⟩ := h
  exact ⟨es, clock, hb⟩
theorem BookAt.ne_ {g : Nat} {t : TypeId} {cs : Array Value} (h : BookAt w b S) (hg : Blk w g t cs) : b ≠ g := by
  obtain ⟨es, clock, hb⟩ := h.map
  rintro rfl
  rw [show w.heap[b]? = _ from hg] at hb
  cases hb
theorem BookAt.new (w : World) : BookAt (w.alloc (.map #[] 0)) w.heap.size [] := ⟨_, World.ownsMap_made w _ _ _, holds_nil⟩
theorem BookAt.look (h : BookAt w b S) {c d : Int} {t : ByteArray} (hc : In64 c) (hd : In64 d) (ht : t.size ≤ maxLen) :
    (Instr.lookup 106 (.map (some b)) (.agg #[.int .i64 c, .int .i64 d, .string t]) false).run Tryd.prog w = .ok (.int .i64 (if ln c d t ∈ S then 1 else 0)) w := by
  obtain ⟨D, h1, h2⟩ := h
  obtain ⟨l, hl⟩ := line_key c d t hc hd ht
  obtain ⟨x, hrun, hat, _⟩ := h1.lookup_int ringLaw Tryd.underlying106 Tryd.underlying3 (zero3 w) hl
  rw [(h2.2 c d t l hl).2] at hat
  have e : x = if ln c d t ∈ S then 1 else 0 := by
    simp only [DataW.lit.injEq, Lit.int.injEq, true_and] at hat
    exact hat.symm
  rw [e] at hrun
  exact hrun
theorem BookAt.len (h : BookAt w b S) (ty : TypeId) : (Builtin.len_ #[106] ty #[.map (some b)]).run Tryd.prog w = .ok (.int .i64 S.length) w := by
  obtain ⟨D, h1, h2⟩ := h
  rw [h1.len Tryd.underlying106 ty, h2.1]
theorem BookAt.store (h : BookAt w b S) (hn : S.length < maxLen) {c d : Int} {t : ByteArray} (hc : In64 c) (hd : In64 d) (ht : t.size ≤ maxLen) :
    ∃ w', (Instr.mapUpdate 106 (.map (some b)) (.agg #[.int .i64 c, .int .i64 d, .string t]) (.int .i64 1)).run Tryd.prog w = .ok () w' ∧ BookAt w' b (addL S (ln c d t)) ∧ w.grownBy w' (some b) := by
  obtain ⟨D, h1, h2⟩ := h
  obtain ⟨l, hl⟩ := line_key c d t hc hd ht
  obtain ⟨w', hrun, h3, h4⟩ := h1.update ringLaw Tryd.underlying106 hn hl (plainElem_int Tryd.underlying3 (a := 1) (by decide))
  have h5 := holds_put h2 (h1.tidy ringLaw) c d t l hl
  refine ⟨w', hrun, ⟨_, ?_, h5⟩, h4⟩
  obtain ⟨es, clock, hb, F, hs, hD⟩ := h3
  refine ⟨es, clock, hb, F, ?_, hD⟩
  have hz := h5.1
  rw [hD] at hz
  rw [← hz]
  show es.size ≤ (List.foldr DataW.insert [] (es.toList.map (WideElems.rg Tryd.prog 110 (plainElem Tryd.prog 3)))).length
  rw [length_sorted]
  simp
end
end Go.Proofs.YtkbcilfcfbfiaaaDoor
