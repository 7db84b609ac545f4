/- The check of an order, its cheap limb first. -/
import Derived.Test.YtnddkodenkmoiaaKeep
namespace Go.Proofs.Ytnddkodenkmoiaa
open Go
set_option linter.unusedVariables false
def ordB2 (md : Region.Mode) (ops : Array Oper) (L : List Nat) : List (Nat × Nat) → Array Bool → Bool
  | [], listed => (Region.ready md ops listed).isEmpty
  | (i, 0) :: rest, listed => (Region.ready md ops listed).contains i && Region.free md ops listed i && L.contains i && ordB2 md ops L rest (listed.setIfInBounds i true)
  | (i, k + 1) :: rest, listed => decide (Region.ready md ops listed = [i]) && (decide (k = 0) || !needsR md ops L i) && ordB2 md ops L rest (listed.setIfInBounds i true)
theorem ordB_of2 (md : Region.Mode) (ops : Array Oper) (L : List Nat) : ∀ (ord : List (Nat × Nat)) (listed : Array Bool), ordB2 md ops L ord listed = true → ordB md ops L ord listed = true
  | [], _, h => h
  | (i, 0) :: rest, listed, h => by
    simp only [ordB2, ordB, Bool.and_eq_true] at h ⊢
    exact ⟨h.1, ordB_of2 md ops L rest _ h.2⟩
  | (i, k + 1) :: rest, listed, h => by
    simp only [ordB2, ordB, Bool.and_eq_true] at h ⊢
    exact ⟨⟨h.1.1, by rw [Bool.or_comm]; exact h.1.2⟩, ordB_of2 md ops L rest _ h.2⟩
theorem wp_region_keep2 {P : Program} {Q : Exit → Act → World → Prop} {id : Nat} {l : List Oper} {a : Act} {w : World} (R : World → World → Prop) (rf : ∀ a, R a a) (tr : ∀ a b c, R a b → R b c → R a c) (ord : List (Nat × Nat))
    (hm : P.follows .mixedOrders = true) (hB : (Region.noSelect l.toArray && (ord.length == l.length) && ordB2 .any l.toArray (quiets ord) ord (Array.replicate l.length false)) = true)
    (h : wpKeep P l Q R ord a w.drew) : (Code.region id l.toArray true).wp P Q a w := by
  refine wp_region_keep R rf tr ord hm ?_ h
  simp only [Bool.and_eq_true] at hB ⊢
  exact ⟨hB.1, ordB_of2 _ _ _ _ _ hB.2⟩
end Go.Proofs.Ytnddkodenkmoiaa
