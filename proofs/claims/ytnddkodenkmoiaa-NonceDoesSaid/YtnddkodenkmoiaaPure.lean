/- A region that draws its order, walked in one fixed order: operations that read no memory may stand behind effects (kind 3); 0 reads memory, 1 an effect that keeps R, 2 an effect behind all that reads. -/
import Derived.Test.YtnddkodenkmoiaaKeep
namespace Go.Proofs.Ytnddkodenkmoiaa
open Go
set_option linter.unusedVariables false
section
variable {P : Program} {ops : Array Oper} {Q : Exit → Act → World → Prop} {md : Region.Mode}
def AnyW (_ _ : World) : Prop := True
theorem wpAnyK_pure {R : World → World → Prop} {L : List Nat} {i : Nat} {oi : Oper} {v : Value} (rf : ∀ a, R a a) (hi : ops[i]? = some oi)
    (hsel : ∀ (j : Nat) (o : Oper) cs b, ops[j]? = some o → o.op ≠ .select cs b)
    (hQ : ∀ c a w, Q (.panic c) (a.put oi.dst v) w → Q (.panic c) a w) :
    ∀ (fuel : Nat) (listed : Array Bool) (a : Act) (w : World), ListedClosed md ops listed →
      (∀ j oj, ops[j]? = some oj → j ≠ i → listed.getD j true = false → (∀ e ∈ oj.after, Region.binds md e = true → e.on ≠ i) → oi.apart ops oj = true) →
      i ∈ Region.ready md ops listed → YieldsR P ops AnyW w oi v a →
      wpAnyK P md ops Q R L fuel (listed.setIfInBounds i true) (a.put oi.dst v) w → wpAnyK P md ops Q R L (fuel + 1) listed a w := by
  intro fuel
  induction fuel with
  | zero =>
    intro listed a w inv _ hr hy H
    refine ⟨fun h => (by rw [h] at hr; cases hr), fun j hj => ?_⟩
    by_cases hji : j = i
    · subst hji; exact hy.wpOp hi trivial ⟨fun _ => rf w, H⟩
    · have := ready_mono hj hji
      rw [H.1] at this
      cases this
  | succ fuel ih =>
    intro listed a w inv hfree hr hy H
    refine ⟨fun h => (by rw [h] at hr; cases hr), fun j hj => ?_⟩
    by_cases hji : j = i
    · subst hji; exact hy.wpOp hi trivial ⟨fun _ => rf w, H⟩
    · have h1 := H.2 j (ready_mono hj hji)
      obtain ⟨hjun, oj, hoj, hall⟩ := mem_ready.1 hj
      have hiun : listed.getD i false = false := by
        have h0 := (mem_ready.1 hr).1
        rcases Nat.lt_or_ge i listed.size with h' | h'
        · simp [h'] at h0 ⊢; exact h0
        · simp [Array.getElem?_eq_none h']
      have hnot : ∀ e ∈ oj.after, Region.binds md e = true → e.on ≠ i := fun e he hb heq => by
        have h1 := hall e he hb
        rw [heq, hiun] at h1
        cases h1
      have h2 := wpOp_putR hoj (hfree j oj hoj hji hjun hnot) (fun cs b => hsel i oi cs b hi) (fun cs b => hsel j oj cs b hoj) hQ hy h1
      have hfree' : ∀ k ok, ops[k]? = some ok → k ≠ i → (listed.setIfInBounds j true).getD k true = false →
          (∀ e ∈ ok.after, Region.binds md e = true → e.on ≠ i) → oi.apart ops ok = true := fun k ok hk hki hun hno => by
        refine hfree k ok hk hki ?_ hno
        by_cases hjk : j = k
        · subst hjk; exact hjun
        · rw [getD_set_ne true hjk] at hun; exact hun
      refine wpOp_mono (fun a' w' h3 => ⟨h3.2.1, ih (listed.setIfInBounds j true) a' w' (inv.set hj) hfree' (ready_mono hr (Ne.symm hji)) (h3.1.later (fun _ _ _ _ _ => trivial) (w' := w') trivial) ?_⟩) h2
      rw [Array.setIfInBounds_comm _ _ hji]
      exact h3.2.2
def ordP (md : Region.Mode) (ops : Array Oper) (L : List Nat) : List (Nat × Nat) → Array Bool → Bool
  | [], listed => (Region.ready md ops listed).isEmpty
  | (i, 0) :: rest, listed => (Region.ready md ops listed).contains i && Region.free md ops listed i && L.contains i && ordP md ops L rest (listed.setIfInBounds i true)
  | (i, 1) :: rest, listed => decide (Region.ready md ops listed = [i]) && ordP md ops L rest (listed.setIfInBounds i true)
  | (i, 2) :: rest, listed => decide (Region.ready md ops listed = [i]) && !needsR md ops L i && ordP md ops L rest (listed.setIfInBounds i true)
  | (i, _ + 3) :: rest, listed => (Region.ready md ops listed).contains i && Region.free md ops listed i && ordP md ops L rest (listed.setIfInBounds i true)
def wpPure (P : Program) (l : List Oper) (Q : Exit → Act → World → Prop) (R : World → World → Prop) : List (Nat × Nat) → Act → World → Prop
  | [], a, w => Q .normal a w
  | (i, 0) :: rest, a, w => match l[i]? with
    | some o => ∃ v, YieldsR P l.toArray R w o v a ∧ (∀ c a w, Q (.panic c) (a.put o.dst v) w → Q (.panic c) a w) ∧ wpPure P l Q R rest (a.put o.dst v) w
    | none => False
  | (i, 1) :: rest, a, w => wpOp P l.toArray Q i (fun a' w' => R w w' ∧ wpPure P l Q R rest a' w') a w
  | (i, 2) :: rest, a, w => wpOp P l.toArray Q i (fun a' w' => wpPure P l Q R rest a' w') a w
  | (i, _ + 3) :: rest, a, w => match l[i]? with
    | some o => ∃ v, YieldsR P l.toArray AnyW w o v a ∧ (∀ c a w, Q (.panic c) (a.put o.dst v) w → Q (.panic c) a w) ∧ wpPure P l Q R rest (a.put o.dst v) w
    | none => False
theorem wpAnyK_of_pure {l : List Oper} {R : World → World → Prop} (rf : ∀ a, R a a) (tr : ∀ a b c, R a b → R b c → R a c) {L : List Nat} (hs : Region.noSelect l.toArray = true) :
    ∀ (ord : List (Nat × Nat)) (listed : Array Bool) (a : Act) (w : World), ListedClosed md l.toArray listed → ordP md l.toArray L ord listed = true → wpPure P l Q R ord a w →
      wpAnyK P md l.toArray Q R L ord.length listed a w
  | [], _, _, _, _, hB, h => ⟨by simpa [ordP] using hB, h⟩
  | (i, 0) :: rest, listed, a, w, inv, hB, h => by
    simp only [ordP, Bool.and_eq_true] at hB
    obtain ⟨⟨⟨hr, hf⟩, hL⟩, hB'⟩ := hB
    simp only [wpPure] at h
    split at h
    · rename_i o ho
      obtain ⟨v, hy, hQ, hK⟩ := h
      have ho' : l.toArray[i]? = some o := by simpa using ho
      have hr' : i ∈ Region.ready md l.toArray listed := by simpa using hr
      exact wpAnyK_first rf tr (by simpa using hL) ho' (Region.noSelect_spec hs) hQ rest.length listed a w inv (Region.free_spec ho' hf) hr' hy
        (wpAnyK_of_pure rf tr hs rest _ _ _ (inv.set hr') hB' hK)
    · exact h.elim
  | (i, 1) :: rest, listed, a, w, inv, hB, h => by
    simp only [ordP, Bool.and_eq_true, decide_eq_true_eq] at hB
    obtain ⟨hr, hB'⟩ := hB
    have hr' : i ∈ Region.ready md l.toArray listed := by rw [hr]; simp
    refine ⟨fun h0 => (by rw [hr] at h0; cases h0), fun j hj => ?_⟩
    rw [hr] at hj
    have hji : j = i := by simpa using hj
    subst hji
    simp only [wpPure] at h
    exact wpOp_mono (fun a' w' h' => ⟨fun _ => h'.1, wpAnyK_of_pure rf tr hs rest _ _ _ (inv.set hr') hB' h'.2⟩) h
  | (i, 2) :: rest, listed, a, w, inv, hB, h => by
    simp only [ordP, Bool.and_eq_true, decide_eq_true_eq, Bool.not_eq_true'] at hB
    obtain ⟨⟨hr, hn⟩, hB'⟩ := hB
    have hr' : i ∈ Region.ready md l.toArray listed := by rw [hr]; simp
    refine ⟨fun h0 => (by rw [hr] at h0; cases h0), fun j hj => ?_⟩
    rw [hr] at hj
    have hji : j = i := by simpa using hj
    subst hji
    simp only [wpPure] at h
    exact wpOp_mono (fun a' w' h' => ⟨fun hneed => (by rw [hneed] at hn; cases hn), wpAnyK_of_pure rf tr hs rest _ _ _ (inv.set hr') hB' h'⟩) h
  | (i, n + 3) :: rest, listed, a, w, inv, hB, h => by
    simp only [ordP, Bool.and_eq_true] at hB
    obtain ⟨⟨hr, hf⟩, hB'⟩ := hB
    simp only [wpPure] at h
    split at h
    · rename_i o ho
      obtain ⟨v, hy, hQ, hK⟩ := h
      have ho' : l.toArray[i]? = some o := by simpa using ho
      have hr' : i ∈ Region.ready md l.toArray listed := by simpa using hr
      exact wpAnyK_pure rf ho' (Region.noSelect_spec hs) hQ rest.length listed a w inv (Region.free_spec ho' hf) hr' hy
        (wpAnyK_of_pure rf tr hs rest _ _ _ (inv.set hr') hB' hK)
    · exact h.elim
/-- The beginning. -/
theorem wp_region_pure {id : Nat} {l : List Oper} {a : Act} {w : World} (R : World → World → Prop) (rf : ∀ a, R a a) (tr : ∀ a b c, R a b → R b c → R a c) (ord : List (Nat × Nat))
    (hm : P.follows .mixedOrders = true) (hB : (Region.noSelect l.toArray && (ord.length == l.length) && ordP .any l.toArray (quiets ord) ord (Array.replicate l.length false)) = true)
    (h : wpPure P l Q R ord a w.drew) : (Code.region id l.toArray true).wp P Q a w := by
  simp only [Bool.and_eq_true, beq_iff_eq] at hB
  obtain ⟨⟨hs, hlen⟩, hB⟩ := hB
  refine wp_region_any hm (wpAny_of_K (R := R) (L := quiets ord) _ _ _ _ ?_)
  have := wpAnyK_of_pure (md := .any) (P := P) (Q := Q) rf tr (L := quiets ord) hs ord (Array.replicate l.length false) a w.drew ?_ hB h
  · rw [hlen] at this
    simpa using this
  · intro j oj _ hl
    rw [getD_replicate_false] at hl
    cases hl
theorem pure_quiet {l : List Oper} {R : World → World → Prop} {i : Nat} {o : Oper} {rest : List (Nat × Nat)} {a : Act} {w : World} {v : Value} (ho : l[i]? = some o)
    (hQ : ∀ c a w, Q (.panic c) (a.put o.dst v) w → Q (.panic c) a w)
    (hw : Region.wanted o (yielded l.toArray a.tmps) = true) (hv : ∀ w', R w w' → (execOp a.eval o).run P w' = .ok (.value v) w') (h : wpPure P l Q R rest (a.put o.dst v) w) : wpPure P l Q R ((i, 0) :: rest) a w := by
  simp only [wpPure, ho]
  exact ⟨v, .inl ⟨hw, hv⟩, hQ, h⟩
theorem pure_skip {l : List Oper} {R : World → World → Prop} {i : Nat} {o : Oper} {rest : List (Nat × Nat)} {a : Act} {w : World} (ho : l[i]? = some o)
    (hQ : ∀ c a w, Q (.panic c) (a.put o.dst undef) w → Q (.panic c) a w)
    (hw : Region.wanted o (yielded l.toArray a.tmps) = false) (h : wpPure P l Q R rest (a.put o.dst undef) w) : wpPure P l Q R ((i, 0) :: rest) a w := by
  simp only [wpPure, ho]
  exact ⟨undef, .inr ⟨hw, rfl⟩, hQ, h⟩
theorem pure_pure {l : List Oper} {R : World → World → Prop} {i : Nat} {o : Oper} {rest : List (Nat × Nat)} {a : Act} {w : World} {v : Value} (ho : l[i]? = some o)
    (hQ : ∀ c a w, Q (.panic c) (a.put o.dst v) w → Q (.panic c) a w)
    (hw : Region.wanted o (yielded l.toArray a.tmps) = true) (hv : ∀ w', (execOp a.eval o).run P w' = .ok (.value v) w') (h : wpPure P l Q R rest (a.put o.dst v) w) : wpPure P l Q R ((i, 3) :: rest) a w := by
  simp only [wpPure, ho]
  exact ⟨v, .inl ⟨hw, fun w' _ => hv w'⟩, hQ, h⟩
def purePost (P : Program) (l : List Oper) (Q : Exit → Act → World → Prop) (R : World → World → Prop) (rest : List (Nat × Nat)) (k : Nat) (w : World) : Exit → Act → World → Prop
  | .normal, a', w' => (k = 0 → R w w') ∧ wpPure P l Q R rest a' w'
  | e, a', w' => Q e a' w'
theorem pure_op {l : List Oper} {i : Nat} {o : Oper} {a : Act} {w : World} (ho : l[i]? = some o) {K : Act → World → Prop} {S : Exit → Act → World → Prop}
    (hn : ∀ a w, S .normal a w → K a w) (hS : ∀ e a w, e ≠ .normal → S e a w → Q e a w)
    (h : wpList P l.toArray S [o] a w) : wpOp P l.toArray Q i K a w := by
  have ho' : l.toArray[i]? = some o := by simpa using ho
  unfold wpOp
  simp only [ho']
  simp only [wpList] at h
  split at h
  · rename_i hw
    rw [if_pos hw]
    rcases h with h | ⟨h1, a0, w0, h2⟩
    · refine .inl ?_
      unfold Oper.wp at h ⊢
      generalize (execOp a.eval o).run P w = r at *
      cases r with
      | ok n w' =>
        cases n <;> simp only [Oper.upon] at h ⊢
        case value u => exact hn _ _ h
        case skip => exact hn _ _ h
        case defer d => exact hn _ _ h
        case enter f args =>
          refine h.mono fun e w'' he => ?_
          rcases e with u | c | _
          · exact hn _ _ he
          · exact hS _ _ _ (by simp) he
          · obtain ⟨a0, w0, h2⟩ := he
            exact ⟨a0, w0, hS _ _ _ (by simp) h2⟩
        case row row args => exact Rows.mono h fun u w'' he => hn _ _ he
      | halt x w' => cases x <;> simp only [Oper.upon] at h ⊢ <;> exact hS _ _ _ (by simp) h
    · exact .inr ⟨h1, a0, w0, hS _ _ _ (by simp) h2⟩
  · rename_i hw
    rw [if_neg hw]
    exact hn _ _ h
theorem pure_eff {l : List Oper} {R : World → World → Prop} {i : Nat} {o : Oper} {rest : List (Nat × Nat)} {a : Act} {w : World} (ho : l[i]? = some o)
    (h : wpList P l.toArray (purePost P l Q R rest 0 w) [o] a w) : wpPure P l Q R ((i, 1) :: rest) a w := by
  simp only [wpPure]
  exact pure_op (S := purePost P l Q R rest 0 w) ho (fun a w h => ⟨h.1 rfl, h.2⟩) (fun e a w hne h => by cases e <;> first | exact absurd rfl hne | exact h) h
theorem pure_eff2 {l : List Oper} {R : World → World → Prop} {i : Nat} {o : Oper} {rest : List (Nat × Nat)} {a : Act} {w : World} (ho : l[i]? = some o)
    (h : wpList P l.toArray (purePost P l Q R rest 1 w) [o] a w) : wpPure P l Q R ((i, 2) :: rest) a w := by
  simp only [wpPure]
  exact pure_op (S := purePost P l Q R rest 1 w) ho (fun a w h => h.2) (fun e a w hne h => by cases e <;> first | exact absurd rfl hne | exact h) h
theorem purePost_need {l : List Oper} {R : World → World → Prop} {rest : List (Nat × Nat)} {w w' : World} {a' : Act} (hR : R w w') (h : wpPure P l Q R rest a' w') : purePost P l Q R rest 0 w .normal a' w' := ⟨fun _ => hR, h⟩
theorem purePost_free {l : List Oper} {R : World → World → Prop} {rest : List (Nat × Nat)} {w w' : World} {a' : Act} (h : wpPure P l Q R rest a' w') : purePost P l Q R rest 1 w .normal a' w' := ⟨fun h => (by cases h), h⟩
theorem pure_done {l : List Oper} {R : World → World → Prop} {a : Act} {w : World} (h : Q .normal a w) : wpPure P l Q R [] a w := h
end
end Go.Proofs.Ytnddkodenkmoiaa
