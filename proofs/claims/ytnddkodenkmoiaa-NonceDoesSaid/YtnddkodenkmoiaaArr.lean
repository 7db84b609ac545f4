/- Arrays in memory: a block whose cells are stored anew, all or a range of them. -/
import Derived.Test.YtnddkodenkmoiaaRep
import Derived.Deep.MidRow
namespace Go.Proofs.Ytnddkodenkmoiaa
open Go Go.RowKit

/-- cs with the cells vs from place o on. -/
def putAll (cs : Array Value) : Nat → List Value → Array Value
  | _, [] => cs
  | o, v :: r => putAll (cs.setIfInBounds o v) (o + 1) r
theorem putAll_size (cs : Array Value) (o : Nat) (vs : List Value) : (putAll cs o vs).size = cs.size := by
  induction vs generalizing cs o with
  | nil => rfl
  | cons v r ih => rw [putAll, ih, Array.size_setIfInBounds]
theorem putAll_get (vs : List Value) : ∀ (cs : Array Value) (o i : Nat), o + vs.length ≤ cs.size → (putAll cs o vs)[i]? = if o ≤ i ∧ i < o + vs.length then vs[i - o]? else cs[i]? := by
  induction vs with
  | nil => intro cs o i _; rw [putAll, if_neg (by simp only [List.length_nil]; omega)]
  | cons v r ih =>
    intro cs o i h
    simp only [List.length_cons] at h
    rw [putAll, ih _ _ _ (by rw [Array.size_setIfInBounds]; omega)]
    by_cases hi : o = i
    · subst hi
      rw [if_neg (by omega), if_pos (by simp), Nat.sub_self, Array.getElem?_setIfInBounds_self_of_lt (by omega)]
      rfl
    · rw [Array.getElem?_setIfInBounds_ne hi]
      by_cases h1 : o + 1 ≤ i ∧ i < o + 1 + r.length
      · rw [if_pos h1, if_pos (by simp; omega)]
        obtain ⟨m, hm⟩ : ∃ m, i - o = m + 1 := ⟨i - o - 1, by omega⟩
        rw [hm, show i - (o + 1) = m by omega]
        rfl
      · rw [if_neg h1, if_neg (by simp; omega)]
theorem putAll_all (cs vs : Array Value) (h : cs.size = vs.size) : putAll cs 0 vs.toList = vs := by
  apply Array.ext_getElem?
  intro i
  rw [putAll_get _ _ _ _ (by simp [h])]
  split
  · simp
  · rename_i hi
    rw [Array.getElem?_eq_none (by simp at hi; omega), Array.getElem?_eq_none (by simp at hi; omega)]

section
variable {w : World} {g : Nat} {t : TypeId} {cs : Array Value}
theorem Blk.setCells (vs : List Value) : ∀ {w : World} {cs : Array Value} (o : Nat), Blk w g t cs → Blk (w.setCells g o vs) g t (putAll cs o vs) := by
  induction vs with
  | nil => intro w cs o h; exact h
  | cons v r ih => intro w cs o h; exact ih (o + 1) (h.set_ o v)
theorem Blk.setCells_far {b : Nat} (vs : List Value) (hb : g ≠ b) : ∀ {w : World} (o : Nat), Blk w g t cs → Blk (w.setCells b o vs) g t cs := by
  induction vs with
  | nil => intro w o h; exact h
  | cons v r ih => intro w o h; exact ih (o + 1) (h.far hb v)
theorem Below.setCells' {B b : Nat} {a : World} (vs : List Value) (hb : B ≤ b) : ∀ {w : World} (o : Nat), Below B a w → Below B a (w.setCells b o vs) := by
  induction vs with
  | nil => intro w o h; exact h
  | cons v r ih => intro w o h; exact ih (o + 1) (h.setCell hb v)
theorem Blk.there (h : Blk w g t cs) (o n : Nat) (hn : o + n ≤ cs.size) : w.there g o n := fun j hj => by
  refine ⟨?_, h.frozen _⟩
  rw [h.cell, Array.getElem?_eq_getElem (by omega)]
  rfl
theorem Blk.rangeAt (h : Blk w g t cs) (o : Nat) (vs : List Value) (hv : ∀ j v, vs[j]? = some v → cs[o + j]? = some v) : w.rangeAt g o vs := fun j v hj => (h.cell _).trans (hv j v hj)
/-- A new world in which block g alone has turned, all its cells at once. -/
theorem only_setCells (w : World) (g o : Nat) (vs : List Value) : OnlyAt g w (w.setCells g o vs) := by
  induction vs generalizing w o with
  | nil => exact World.grownBy.refl w _
  | cons v r ih => exact grownBy_trans (grownBy_setCell (World.grownBy.refl w _) (p := ⟨g, o, none⟩) rfl v) (ih _ _)
end
end Go.Proofs.Ytnddkodenkmoiaa
