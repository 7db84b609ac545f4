/- A region that draws its order, walked in one fixed order but where two effects may come either way: a tree of orders. -/
import Derived.Test.YtnddkodenkmoiaaKeep
namespace Go.Proofs.Ytnddkodenkmoiaa
open Go
set_option linter.unusedVariables false
inductive Ways where
  | done : Ways
  | quiet (i : Nat) (t : Ways) : Ways
  | eff (i k : Nat) (t : Ways) : Ways
  | fork (i j : Nat) (s t : Ways) : Ways
def Ways.depth : Ways → Nat
  | .done => 0
  | .quiet _ t => t.depth + 1
  | .eff _ _ t => t.depth + 1
  | .fork _ _ s _ => s.depth + 1
def Ways.quiets : Ways → List Nat
  | .done => []
  | .quiet i t => i :: t.quiets
  | .eff _ _ t => t.quiets
  | .fork _ _ s t => s.quiets ++ t.quiets
def waysB (md : Region.Mode) (ops : Array Oper) (L : List Nat) : Ways → Array Bool → Bool
  | .done, listed => (Region.ready md ops listed).isEmpty
  | .quiet i t, listed => (Region.ready md ops listed).contains i && Region.free md ops listed i && L.contains i && waysB md ops L t (listed.setIfInBounds i true)
  | .eff i k t, listed => decide (Region.ready md ops listed = [i]) && (!needsR md ops L i || decide (k = 0)) && waysB md ops L t (listed.setIfInBounds i true)
  | .fork i j s t, listed => decide (Region.ready md ops listed = [i, j]) && decide (s.depth = t.depth) && waysB md ops L s (listed.setIfInBounds i true) && waysB md ops L t (listed.setIfInBounds j true)
section
variable {P : Program} {Q : Exit → Act → World → Prop}
def wpWays (P : Program) (l : List Oper) (Q : Exit → Act → World → Prop) (R : World → World → Prop) : Ways → Act → World → Prop
  | .done, a, w => Q .normal a w
  | .quiet i t, a, w => match l[i]? with
    | some o => ∃ v, YieldsR P l.toArray R w o v a ∧ (∀ c a w, Q (.panic c) (a.put o.dst v) w → Q (.panic c) a w) ∧ wpWays P l Q R t (a.put o.dst v) w
    | none => False
  | .eff i k t, a, w => wpOp P l.toArray Q i (fun a' w' => (k = 0 → R w w') ∧ wpWays P l Q R t a' w') a w
  | .fork i j s t, a, w => wpOp P l.toArray Q i (fun a' w' => R w w' ∧ wpWays P l Q R s a' w') a w ∧ wpOp P l.toArray Q j (fun a' w' => R w w' ∧ wpWays P l Q R t a' w') a w
theorem wpAnyK_of_ways {l : List Oper} {R : World → World → Prop} (rf : ∀ a, R a a) (tr : ∀ a b c, R a b → R b c → R a c) {L : List Nat} (hs : Region.noSelect l.toArray = true) :
    ∀ (t : Ways) (listed : Array Bool) (a : Act) (w : World), ListedClosed .any l.toArray listed → waysB .any l.toArray L t listed = true → wpWays P l Q R t a w →
      wpAnyK P .any l.toArray Q R L t.depth listed a w
  | .done, _, _, _, _, hB, h => ⟨by simpa [waysB] using hB, h⟩
  | .quiet i t, listed, a, w, inv, hB, h => by
    simp only [waysB, Bool.and_eq_true] at hB
    obtain ⟨⟨⟨hr, hf⟩, hL⟩, hB'⟩ := hB
    simp only [wpWays] at h
    split at h
    · rename_i o ho
      obtain ⟨v, hy, hQ, hK⟩ := h
      have ho' : l.toArray[i]? = some o := by simpa using ho
      have hr' : i ∈ Region.ready .any l.toArray listed := by simpa using hr
      exact wpAnyK_first rf tr (by simpa using hL) ho' (Region.noSelect_spec hs) hQ t.depth listed a w inv (Region.free_spec ho' hf) hr' hy
        (wpAnyK_of_ways rf tr hs t _ _ _ (inv.set hr') hB' hK)
    · exact h.elim
  | .eff i k t, listed, a, w, inv, hB, h => by
    simp only [waysB, Bool.and_eq_true, Bool.or_eq_true, decide_eq_true_eq, Bool.not_eq_true'] at hB
    obtain ⟨⟨hr, hn⟩, hB'⟩ := hB
    have hr' : i ∈ Region.ready .any l.toArray listed := by rw [hr]; simp
    refine ⟨fun h0 => (by rw [hr] at h0; cases h0), fun j hj => ?_⟩
    rw [hr] at hj
    have hji : j = i := by simpa using hj
    subst hji
    simp only [wpWays] at h
    refine wpOp_mono (fun a' w' h' => ⟨fun hneed => h'.1 ?_, wpAnyK_of_ways rf tr hs t _ _ _ (inv.set hr') hB' h'.2⟩) h
    rcases hn with hn | hn
    · rw [hneed] at hn; cases hn
    · exact hn
  | .fork i j s t, listed, a, w, inv, hB, h => by
    simp only [waysB, Bool.and_eq_true, decide_eq_true_eq] at hB
    obtain ⟨⟨⟨hr, hd⟩, hB1⟩, hB2⟩ := hB
    have hi : i ∈ Region.ready .any l.toArray listed := by rw [hr]; simp
    have hj : j ∈ Region.ready .any l.toArray listed := by rw [hr]; simp
    refine ⟨fun h0 => (by rw [hr] at h0; cases h0), fun k hk => ?_⟩
    rw [hr] at hk
    simp only [wpWays] at h
    rcases List.mem_cons.1 hk with rfl | hk
    · exact wpOp_mono (fun a' w' h' => ⟨fun _ => h'.1, wpAnyK_of_ways rf tr hs s _ _ _ (inv.set hi) hB1 h'.2⟩) h.1
    · obtain rfl : k = j := by simpa using hk
      have := wpOp_mono (P := P) (Q := Q) (fun a' w' h' => (⟨fun _ => h'.1, wpAnyK_of_ways rf tr hs t _ _ _ (inv.set hj) hB2 h'.2⟩ : (needsR .any l.toArray L k = true → R w w') ∧ wpAnyK P .any l.toArray Q R L t.depth (listed.setIfInBounds k true) a' w')) h.2
      rw [← hd] at this
      exact this
/-- The beginning. -/
theorem wp_region_ways {id : Nat} {l : List Oper} {a : Act} {w : World} (R : World → World → Prop) (rf : ∀ a, R a a) (tr : ∀ a b c, R a b → R b c → R a c) (t : Ways)
    (hm : P.follows .mixedOrders = true) (hB : (Region.noSelect l.toArray && (t.depth == l.length) && waysB .any l.toArray t.quiets t (Array.replicate l.length false)) = true)
    (h : wpWays P l Q R t a w.drew) : (Code.region id l.toArray true).wp P Q a w := by
  simp only [Bool.and_eq_true, beq_iff_eq] at hB
  obtain ⟨⟨hs, hlen⟩, hB⟩ := hB
  refine wp_region_any hm (wpAny_of_K (R := R) (L := t.quiets) _ _ _ _ ?_)
  have := wpAnyK_of_ways (P := P) (Q := Q) rf tr (L := t.quiets) hs t (Array.replicate l.length false) a w.drew ?_ hB h
  · rw [hlen] at this
    simpa using this
  · intro j oj _ hl
    rw [getD_replicate_false] at hl
    cases hl
theorem ways_quiet {l : List Oper} {R : World → World → Prop} {i : Nat} {o : Oper} {t : Ways} {a : Act} {w : World} {v : Value} (ho : l[i]? = some o)
    (hQ : ∀ c a w, Q (.panic c) (a.put o.dst v) w → Q (.panic c) a w)
    (hw : Region.wanted o (yielded l.toArray a.tmps) = true) (hv : ∀ w', R w w' → (execOp a.eval o).run P w' = .ok (.value v) w') (h : wpWays P l Q R t (a.put o.dst v) w) : wpWays P l Q R (.quiet i t) a w := by
  simp only [wpWays, ho]
  exact ⟨v, .inl ⟨hw, hv⟩, hQ, h⟩
def waysPost (P : Program) (l : List Oper) (Q : Exit → Act → World → Prop) (R : World → World → Prop) (t : Ways) (k : Nat) (w : World) : Exit → Act → World → Prop
  | .normal, a', w' => (k = 0 → R w w') ∧ wpWays P l Q R t a' w'
  | e, a', w' => Q e a' w'
theorem ways_op {l : List Oper} {i : Nat} {o : Oper} {a : Act} {w : World} (ho : l[i]? = some o) {K : Act → World → Prop} {S : Exit → Act → World → Prop}
    (hn : ∀ a w, S .normal a w → K a w) (hS : ∀ e a w, e ≠ .normal → S e a w → Q e a w)
    (h : wpList P l.toArray S [o] a w) : wpOp P l.toArray Q i K a w := by
  have ho' : l.toArray[i]? = some o := by simpa using ho
  unfold wpOp
  simp only [ho']
  simp only [wpList] at h
  split at h
  · rename_i hw
    rw [if_pos hw]
    rcases h with h | ⟨h1, a0, w0, h2⟩
    · refine .inl ?_
      unfold Oper.wp at h ⊢
      generalize (execOp a.eval o).run P w = r at *
      cases r with
      | ok n w' =>
        cases n <;> simp only [Oper.upon] at h ⊢
        case value u => exact hn _ _ h
        case skip => exact hn _ _ h
        case defer d => exact hn _ _ h
        case enter f args =>
          refine h.mono fun e w'' he => ?_
          rcases e with u | c | _
          · exact hn _ _ he
          · exact hS _ _ _ (by simp) he
          · obtain ⟨a0, w0, h2⟩ := he
            exact ⟨a0, w0, hS _ _ _ (by simp) h2⟩
        case row row args => exact Rows.mono h fun u w'' he => hn _ _ he
      | halt x w' => cases x <;> simp only [Oper.upon] at h ⊢ <;> exact hS _ _ _ (by simp) h
    · exact .inr ⟨h1, a0, w0, hS _ _ _ (by simp) h2⟩
  · rename_i hw
    rw [if_neg hw]
    exact hn _ _ h
theorem ways_eff {l : List Oper} {R : World → World → Prop} {i k : Nat} {o : Oper} {t : Ways} {a : Act} {w : World} (ho : l[i]? = some o)
    (h : wpList P l.toArray (waysPost P l Q R t k w) [o] a w) : wpWays P l Q R (.eff i k t) a w := by
  simp only [wpWays]
  exact ways_op (S := waysPost P l Q R t k w) ho (fun a w h => h) (fun e a w hne h => by cases e <;> first | exact absurd rfl hne | exact h) h
theorem ways_fork {l : List Oper} {R : World → World → Prop} {i j : Nat} {o o' : Oper} {s t : Ways} {a : Act} {w : World} (ho : l[i]? = some o) (ho' : l[j]? = some o')
    (h : wpList P l.toArray (waysPost P l Q R s 0 w) [o] a w) (h' : wpList P l.toArray (waysPost P l Q R t 0 w) [o'] a w) : wpWays P l Q R (.fork i j s t) a w := by
  simp only [wpWays]
  exact ⟨ways_op (S := waysPost P l Q R s 0 w) ho (fun a w h => ⟨h.1 rfl, h.2⟩) (fun e a w hne h => by cases e <;> first | exact absurd rfl hne | exact h) h,
    ways_op (S := waysPost P l Q R t 0 w) ho' (fun a w h => ⟨h.1 rfl, h.2⟩) (fun e a w hne h => by cases e <;> first | exact absurd rfl hne | exact h) h'⟩
theorem waysPost_need {l : List Oper} {R : World → World → Prop} {t : Ways} {w w' : World} {a' : Act} (hR : R w w') (h : wpWays P l Q R t a' w') : waysPost P l Q R t 0 w .normal a' w' := ⟨fun _ => hR, h⟩
theorem waysPost_free {l : List Oper} {R : World → World → Prop} {t : Ways} {w w' : World} {a' : Act} {k : Nat} (h : wpWays P l Q R t a' w') : waysPost P l Q R t (k + 1) w .normal a' w' := ⟨fun h => (by cases h), h⟩
theorem ways_done {l : List Oper} {R : World → World → Prop} {a : Act} {w : World} (h : Q .normal a w) : wpWays P l Q R .done a w := h
end
end Go.Proofs.Ytnddkodenkmoiaa
