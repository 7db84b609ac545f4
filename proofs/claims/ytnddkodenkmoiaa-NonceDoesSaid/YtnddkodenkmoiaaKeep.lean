/- A region that draws its order: one walk in a fixed order, where loads stand beside allocations, calls and stores. R w w' says what the effects of the region leave as it was. -/
import Derived.Orders
import Derived.RegionTactic
import Derived.StillTail
import Derived.WalkKit
namespace Go.Proofs.Ytnddkodenkmoiaa
open Go

section
variable {P : Program} {ops : Array Oper} {Q : Exit → Act → World → Prop} {md : Region.Mode}

/-- Does j wait for i, through others (n steps)? -/
def waitsT (md : Region.Mode) (ops : Array Oper) (i : Nat) : Nat → Nat → Bool
  | 0, _ => false
  | n + 1, j => match ops[j]? with
    | some oj => oj.after.any fun e => Region.binds md e && (e.on == i || waitsT md ops i n e.on)
    | none => false

def ListedClosed (md : Region.Mode) (ops : Array Oper) (listed : Array Bool) : Prop :=
  ∀ j oj, ops[j]? = some oj → listed.getD j false = true → ∀ e ∈ oj.after, Region.binds md e = true → listed.getD e.on false = true

theorem ListedClosed.set {i : Nat} {listed : Array Bool} (inv : ListedClosed md ops listed) (hi : i ∈ Region.ready md ops listed) : ListedClosed md ops (listed.setIfInBounds i true) := by
  obtain ⟨_, oi, hoi, hall⟩ := mem_ready.1 hi
  intro j oj hj hl e he hb
  by_cases hij : i = j
  · subst hij
    have : oj = oi := Option.some.inj (hj.symm.trans hoi)
    subst this
    exact getD_set_true (hall e he hb)
  · rw [getD_set_ne false hij] at hl
    exact getD_set_true (inv j oj hj hl e he hb)

theorem waitsT_listed {i : Nat} {listed : Array Bool} (inv : ListedClosed md ops listed) : ∀ (n j : Nat), listed.getD j false = true → waitsT md ops i n j = true → listed.getD i false = true
  | 0, _, _, h => by simp [waitsT] at h
  | n + 1, j, hl, h => by
    unfold waitsT at h
    split at h
    · rename_i oj hj
      obtain ⟨e, he, hb⟩ := Array.any_eq_true'.1 h
      simp only [Bool.and_eq_true, Bool.or_eq_true, beq_iff_eq] at hb
      have h1 := inv j oj hj hl e he hb.1
      rcases hb.2 with h2 | h2
      · rw [← h2]; exact h1
      · exact waitsT_listed inv n e.on h1 h2
    · cases h

theorem waitsT_ready {i j n : Nat} {listed : Array Bool} (inv : ListedClosed md ops listed) (hj : j ∈ Region.ready md ops listed) (h : waitsT md ops i (n + 1) j = true) : listed.getD i false = true := by
  obtain ⟨_, oj, hoj, hall⟩ := mem_ready.1 hj
  unfold waitsT at h
  simp only [hoj] at h
  obtain ⟨e, he, hb⟩ := Array.any_eq_true'.1 h
  simp only [Bool.and_eq_true, Bool.or_eq_true, beq_iff_eq] at hb
  have h1 := hall e he hb.1
  rcases hb.2 with h2 | h2
  · rw [← h2]; exact h1
  · exact waitsT_listed inv n e.on h1 h2

/-- An effect j must leave what R says as it was, unless all of L come ahead of it by the edges. -/
def needsR (md : Region.Mode) (ops : Array Oper) (L : List Nat) (j : Nat) : Bool := !(L.all fun i => waitsT md ops i (ops.size + 1) j)

theorem needsR_of {L : List Nat} {i j : Nat} {listed : Array Bool} (inv : ListedClosed md ops listed) (hi : i ∈ L) (hun : listed.getD i false = false) (hj : j ∈ Region.ready md ops listed) : needsR md ops L j = true := by
  cases h : needsR md ops L j with
  | true => rfl
  | false =>
    simp only [needsR, Bool.not_eq_false', List.all_eq_true] at h
    have := waitsT_ready inv hj (h i hi)
    rw [hun] at this
    cases this

/-- In state a, in every world that R leads to from w, o leaves v and does nothing else. -/
def YieldsR (P : Program) (ops : Array Oper) (R : World → World → Prop) (w : World) (o : Oper) (v : Value) (a : Act) : Prop := YieldsIf' P ops (fun w' => R w w') o v a
where YieldsIf' (P : Program) (ops : Array Oper) (S : World → Prop) (o : Oper) (v : Value) (a : Act) : Prop :=
  (Region.wanted o (yielded ops a.tmps) = true ∧ ∀ w, S w → (execOp a.eval o).run P w = .ok (.value v) w) ∨
  (Region.wanted o (yielded ops a.tmps) = false ∧ v = undef)

theorem YieldsR.of_same {R : World → World → Prop} {w : World} {o : Oper} {v : Value} {a a' : Act} (hy : YieldsR P ops R w o v a) (he : execOp a'.eval o = execOp a.eval o)
    (hw : Region.wanted o (yielded ops a'.tmps) = Region.wanted o (yielded ops a.tmps)) : YieldsR P ops R w o v a' := by
  unfold YieldsR YieldsR.YieldsIf' at *
  rw [he, hw]
  exact hy

theorem YieldsR.later {R : World → World → Prop} (tr : ∀ a b c, R a b → R b c → R a c) {w w' : World} {o : Oper} {v : Value} {a : Act} (hy : YieldsR P ops R w o v a) (h : R w w') : YieldsR P ops R w' o v a :=
  hy.imp (fun ⟨hw, hv⟩ => ⟨hw, fun w'' h'' => hv w'' (tr _ _ _ h h'')⟩) id

theorem YieldsR.wpOp {R : World → World → Prop} {i : Nat} {o : Oper} {v : Value} {a : Act} (hi : ops[i]? = some o) {K : Act → World → Prop} {w : World} (rf : R w w) (hy : YieldsR P ops R w o v a)
    (h : K (a.put o.dst v) w) : wpOp P ops Q i K a w := by
  unfold Go.wpOp
  simp only [hi]
  rcases hy with ⟨hw, hv⟩ | ⟨hw, rfl⟩
  · simp only [hw, if_true, Oper.wp, hv w rf, Oper.upon]; exact .inl h
  · simp only [hw, Bool.false_eq_true, if_false]; exact h

theorem wpOp_putR {R : World → World → Prop} {wy : World} {j : Nat} {oi oj : Oper} {v : Value} (hj : ops[j]? = some oj) (hap : oi.apart ops oj = true)
    (hsi : ∀ cs b, oi.op ≠ .select cs b) (hsj : ∀ cs b, oj.op ≠ .select cs b)
    (hQ : ∀ c a w, Q (.panic c) (a.put oi.dst v) w → Q (.panic c) a w) {K : Act → World → Prop} {a : Act} {w : World}
    (hy : YieldsR P ops R wy oi v a) (h : wpOp P ops Q j K (a.put oi.dst v) w) :
    wpOp P ops Q j (fun a' w' => YieldsR P ops R wy oi v a' ∧ K (a'.put oi.dst v) w') a w := by
  obtain ⟨h1, h2, h3⟩ := Oper.apart_spec hap
  have keep : ∀ (a : Act), YieldsR P ops R wy oi v a → ∀ u, YieldsR P ops R wy oi v (a.put oj.dst u) := fun a hy u =>
    hy.of_same (execOp_put oi hsi a oj.dst u h3) (wanted_put oi a oj.dst u h3)
  have keepD : ∀ d, YieldsR P ops R wy oi v { a with defers := d :: a.defers } := fun d => hy.of_same rfl rfl
  unfold Go.wpOp at *
  simp only [hj] at *
  rw [wanted_put oj a oi.dst v h1] at h
  split
  · rename_i hw
    simp only [hw, if_true] at h
    rcases h with h | ⟨hasks, hlets⟩
    case inr => exact .inr ⟨by unfold Oper.asks at *; rw [execOp_put oj hsj a oi.dst v h1] at hasks; exact hasks, hlets⟩
    refine .inl ?_
    unfold Oper.wp at *
    rw [execOp_put oj hsj a oi.dst v h1] at h
    generalize (execOp a.eval oj).run P w = r at *
    cases r with
    | ok n w' =>
      cases n <;> simp only [Oper.upon] at h ⊢
      case value u => exact ⟨keep a hy u, by rw [← Act.put_comm a v u h2]; exact h⟩
      case skip => exact ⟨keep a hy _, by rw [← Act.put_comm a v undef h2]; exact h⟩
      case defer d =>
        refine ⟨keep _ (keepD d) _, ?_⟩
        rw [← Act.put_comm _ v undef h2, ← Act.put_defers]
        exact h
      case enter f args =>
        refine Calls.mono h fun e w'' he => ?_
        cases e with
        | returned u => exact ⟨keep a hy u, by rw [← Act.put_comm a v u h2]; exact he⟩
        | panicked c => exact hQ _ _ _ he
        | outgrown => exact he
      case row row args => exact Rows.mono h fun u w'' he => ⟨keep a hy u, by rw [← Act.put_comm a v u h2]; exact he⟩
    | halt x w' =>
      cases x <;> simp only [Oper.upon] at h ⊢
      case panic u => exact hQ _ _ _ h
  · rename_i hw
    simp only [hw] at h
    exact ⟨keep a hy _, by rw [← Act.put_comm a v undef h2]; exact h⟩

/-- Whatever order is picked; behind each effect that needs it R holds. -/
def wpAnyK (P : Program) (md : Region.Mode) (ops : Array Oper) (Q : Exit → Act → World → Prop) (R : World → World → Prop) (L : List Nat) : Nat → Array Bool → Act → World → Prop
  | 0, listed, a, w => Region.ready md ops listed = [] ∧ Q .normal a w
  | fuel + 1, listed, a, w =>
    (Region.ready md ops listed = [] → Q .normal a w) ∧
    ∀ i ∈ Region.ready md ops listed, wpOp P ops Q i (fun a' w' => (needsR md ops L i = true → R w w') ∧ wpAnyK P md ops Q R L fuel (listed.setIfInBounds i true) a' w') a w

theorem wpAny_of_K {R : World → World → Prop} {L : List Nat} : ∀ (fuel : Nat) (listed : Array Bool) (a : Act) (w : World), wpAnyK P md ops Q R L fuel listed a w → wpAny P md ops Q fuel listed a w
  | 0, _, _, _, h => h
  | fuel + 1, _, _, _, h => ⟨h.1, fun i hi => wpOp_mono (fun a' w' h' => wpAny_of_K fuel _ a' w' h'.2) (h.2 i hi)⟩

theorem wpAnyK_first {R : World → World → Prop} (rf : ∀ a, R a a) (tr : ∀ a b c, R a b → R b c → R a c) {L : List Nat} {i : Nat} {oi : Oper} {v : Value} (hiL : i ∈ L) (hi : ops[i]? = some oi)
    (hsel : ∀ (j : Nat) (o : Oper) cs b, ops[j]? = some o → o.op ≠ .select cs b)
    (hQ : ∀ c a w, Q (.panic c) (a.put oi.dst v) w → Q (.panic c) a w) :
    ∀ (fuel : Nat) (listed : Array Bool) (a : Act) (w : World), ListedClosed md ops listed →
      (∀ j oj, ops[j]? = some oj → j ≠ i → listed.getD j true = false → (∀ e ∈ oj.after, Region.binds md e = true → e.on ≠ i) → oi.apart ops oj = true) →
      i ∈ Region.ready md ops listed → YieldsR P ops R w oi v a →
      wpAnyK P md ops Q R L fuel (listed.setIfInBounds i true) (a.put oi.dst v) w → wpAnyK P md ops Q R L (fuel + 1) listed a w := by
  intro fuel
  induction fuel with
  | zero =>
    intro listed a w inv _ hr hy H
    refine ⟨fun h => (by rw [h] at hr; cases hr), fun j hj => ?_⟩
    by_cases hji : j = i
    · subst hji; exact hy.wpOp hi (rf w) ⟨fun _ => rf w, H⟩
    · have := ready_mono hj hji
      rw [H.1] at this
      cases this
  | succ fuel ih =>
    intro listed a w inv hfree hr hy H
    refine ⟨fun h => (by rw [h] at hr; cases hr), fun j hj => ?_⟩
    by_cases hji : j = i
    · subst hji; exact hy.wpOp hi (rf w) ⟨fun _ => rf w, H⟩
    · have h1 := H.2 j (ready_mono hj hji)
      obtain ⟨hjun, oj, hoj, hall⟩ := mem_ready.1 hj
      have hiun : listed.getD i false = false := by
        have h0 := (mem_ready.1 hr).1
        rcases Nat.lt_or_ge i listed.size with h' | h'
        · simp [h'] at h0 ⊢; exact h0
        · simp [Array.getElem?_eq_none h']
      have hnot : ∀ e ∈ oj.after, Region.binds md e = true → e.on ≠ i := fun e he hb heq => by
        have h1 := hall e he hb
        rw [heq, hiun] at h1
        cases h1
      have h2 := wpOp_putR hoj (hfree j oj hoj hji hjun hnot) (fun cs b => hsel i oi cs b hi) (fun cs b => hsel j oj cs b hoj) hQ hy h1
      have hfree' : ∀ k ok, ops[k]? = some ok → k ≠ i → (listed.setIfInBounds j true).getD k true = false →
          (∀ e ∈ ok.after, Region.binds md e = true → e.on ≠ i) → oi.apart ops ok = true := fun k ok hk hki hun hno => by
        refine hfree k ok hk hki ?_ hno
        by_cases hjk : j = k
        · subst hjk; exact hjun
        · rw [getD_set_ne true hjk] at hun; exact hun
      refine wpOp_mono (fun a' w' h3 => ⟨h3.2.1, ih (listed.setIfInBounds j true) a' w' (inv.set hj) hfree' (ready_mono hr (Ne.symm hji)) (h3.1.later tr (h3.2.1 (needsR_of inv hiL hiun hj))) ?_⟩) h2
      rw [Array.setIfInBounds_comm _ _ hji]
      exact h3.2.2

/-- The chosen order: 0 a quiet operation, 1 an effect behind which R is shown, 2 an effect behind which nothing need be shown. -/
def ordB (md : Region.Mode) (ops : Array Oper) (L : List Nat) : List (Nat × Nat) → Array Bool → Bool
  | [], listed => (Region.ready md ops listed).isEmpty
  | (i, 0) :: rest, listed => (Region.ready md ops listed).contains i && Region.free md ops listed i && L.contains i && ordB md ops L rest (listed.setIfInBounds i true)
  | (i, k + 1) :: rest, listed => decide (Region.ready md ops listed = [i]) && (!needsR md ops L i || decide (k = 0)) && ordB md ops L rest (listed.setIfInBounds i true)

def quiets (ord : List (Nat × Nat)) : List Nat := (ord.filter fun p => p.2 == 0).map (·.1)

def wpKeep (P : Program) (l : List Oper) (Q : Exit → Act → World → Prop) (R : World → World → Prop) : List (Nat × Nat) → Act → World → Prop
  | [], a, w => Q .normal a w
  | (i, 0) :: rest, a, w => match l[i]? with
    | some o => ∃ v, YieldsR P l.toArray R w o v a ∧ (∀ c a w, Q (.panic c) (a.put o.dst v) w → Q (.panic c) a w) ∧ wpKeep P l Q R rest (a.put o.dst v) w
    | none => False
  | (i, k + 1) :: rest, a, w => wpOp P l.toArray Q i (fun a' w' => (k = 0 → R w w') ∧ wpKeep P l Q R rest a' w') a w

theorem wpAnyK_of_keep {l : List Oper} {R : World → World → Prop} (rf : ∀ a, R a a) (tr : ∀ a b c, R a b → R b c → R a c) {L : List Nat} (hs : Region.noSelect l.toArray = true) :
    ∀ (ord : List (Nat × Nat)) (listed : Array Bool) (a : Act) (w : World), ListedClosed md l.toArray listed → ordB md l.toArray L ord listed = true → wpKeep P l Q R ord a w →
      wpAnyK P md l.toArray Q R L ord.length listed a w
  | [], _, _, _, _, hB, h => ⟨by simpa [ordB] using hB, h⟩
  | (i, 0) :: rest, listed, a, w, inv, hB, h => by
    simp only [ordB, Bool.and_eq_true] at hB
    obtain ⟨⟨⟨hr, hf⟩, hL⟩, hB'⟩ := hB
    simp only [wpKeep] at h
    split at h
    · rename_i o ho
      obtain ⟨v, hy, hQ, hK⟩ := h
      have ho' : l.toArray[i]? = some o := by simpa using ho
      have hr' : i ∈ Region.ready md l.toArray listed := by simpa using hr
      exact wpAnyK_first rf tr (by simpa using hL) ho' (Region.noSelect_spec hs) hQ rest.length listed a w inv (Region.free_spec ho' hf) hr' hy
        (wpAnyK_of_keep rf tr hs rest _ _ _ (inv.set hr') hB' hK)
    · exact h.elim
  | (i, k + 1) :: rest, listed, a, w, inv, hB, h => by
    simp only [ordB, Bool.and_eq_true, Bool.or_eq_true, decide_eq_true_eq, Bool.not_eq_true'] at hB
    obtain ⟨⟨hr, hn⟩, hB'⟩ := hB
    have hr' : i ∈ Region.ready md l.toArray listed := by rw [hr]; simp
    refine ⟨fun h0 => (by rw [hr] at h0; cases h0), fun j hj => ?_⟩
    rw [hr] at hj
    have hji : j = i := by simpa using hj
    subst hji
    simp only [wpKeep] at h
    refine wpOp_mono (fun a' w' h' => ⟨fun hneed => h'.1 ?_, wpAnyK_of_keep rf tr hs rest _ _ _ (inv.set hr') hB' h'.2⟩) h
    rcases hn with hn | hn
    · rw [hneed] at hn; cases hn
    · exact hn

/-- The beginning. -/
theorem wp_region_keep {id : Nat} {l : List Oper} {a : Act} {w : World} (R : World → World → Prop) (rf : ∀ a, R a a) (tr : ∀ a b c, R a b → R b c → R a c) (ord : List (Nat × Nat))
    (hm : P.follows .mixedOrders = true) (hB : (Region.noSelect l.toArray && (ord.length == l.length) && ordB .any l.toArray (quiets ord) ord (Array.replicate l.length false)) = true)
    (h : wpKeep P l Q R ord a w.drew) : (Code.region id l.toArray true).wp P Q a w := by
  simp only [Bool.and_eq_true, beq_iff_eq] at hB
  obtain ⟨⟨hs, hlen⟩, hB⟩ := hB
  refine wp_region_any hm (wpAny_of_K (R := R) (L := quiets ord) _ _ _ _ ?_)
  have := wpAnyK_of_keep (md := .any) (P := P) (Q := Q) rf tr (L := quiets ord) hs ord (Array.replicate l.length false) a w.drew ?_ hB h
  · rw [hlen] at this
    simpa using this
  · intro j oj _ hl
    rw [getD_replicate_false] at hl
    cases hl

theorem keep_quiet {l : List Oper} {R : World → World → Prop} {i : Nat} {o : Oper} {rest : List (Nat × Nat)} {a : Act} {w : World} {v : Value} (ho : l[i]? = some o)
    (hQ : ∀ c a w, Q (.panic c) (a.put o.dst v) w → Q (.panic c) a w)
    (hw : Region.wanted o (yielded l.toArray a.tmps) = true) (hv : ∀ w', R w w' → (execOp a.eval o).run P w' = .ok (.value v) w') (h : wpKeep P l Q R rest (a.put o.dst v) w) : wpKeep P l Q R ((i, 0) :: rest) a w := by
  simp only [wpKeep, ho]
  exact ⟨v, .inl ⟨hw, hv⟩, hQ, h⟩
theorem keep_skip {l : List Oper} {R : World → World → Prop} {i : Nat} {o : Oper} {rest : List (Nat × Nat)} {a : Act} {w : World} (ho : l[i]? = some o)
    (hQ : ∀ c a w, Q (.panic c) (a.put o.dst undef) w → Q (.panic c) a w)
    (hw : Region.wanted o (yielded l.toArray a.tmps) = false) (h : wpKeep P l Q R rest (a.put o.dst undef) w) : wpKeep P l Q R ((i, 0) :: rest) a w := by
  simp only [wpKeep, ho]
  exact ⟨undef, .inr ⟨hw, rfl⟩, hQ, h⟩

def keepPost (P : Program) (l : List Oper) (Q : Exit → Act → World → Prop) (R : World → World → Prop) (rest : List (Nat × Nat)) (k : Nat) (w : World) : Exit → Act → World → Prop
  | .normal, a', w' => (k = 0 → R w w') ∧ wpKeep P l Q R rest a' w'
  | e, a', w' => Q e a' w'

theorem keep_eff {l : List Oper} {R : World → World → Prop} {i k : Nat} {o : Oper} {rest : List (Nat × Nat)} {a : Act} {w : World} (ho : l[i]? = some o)
    (h : wpList P l.toArray (keepPost P l Q R rest k w) [o] a w) : wpKeep P l Q R ((i, k + 1) :: rest) a w := by
  have ho' : l.toArray[i]? = some o := by simpa using ho
  simp only [wpKeep]
  unfold wpOp
  simp only [ho']
  simp only [wpList] at h
  split at h
  · rename_i hw
    rw [if_pos hw]
    rcases h with h | ⟨h1, a0, w0, h2⟩
    · refine .inl ?_
      unfold Oper.wp at h ⊢
      generalize (execOp a.eval o).run P w = r at *
      cases r with
      | ok n w' =>
        cases n <;> simp only [Oper.upon, keepPost] at h ⊢
        case value u => exact h
        case skip => exact h
        case defer d => exact h
        case enter f args =>
          refine h.mono fun e w'' he => ?_
          rcases e with u | c | _
          · exact he
          · exact he
          · obtain ⟨a0, w0, h2⟩ := he
            exact ⟨a0, w0, h2⟩
        case row row args => exact h
      | halt x w' => cases x <;> simp only [Oper.upon, keepPost] at h ⊢ <;> exact h
    · exact .inr ⟨h1, a0, w0, h2⟩
  · rename_i hw
    rw [if_neg hw]
    exact h

theorem keepPost_need {l : List Oper} {R : World → World → Prop} {rest : List (Nat × Nat)} {w w' : World} {a' : Act} (hR : R w w') (h : wpKeep P l Q R rest a' w') : keepPost P l Q R rest 0 w .normal a' w' := ⟨fun _ => hR, h⟩
theorem keepPost_free {l : List Oper} {R : World → World → Prop} {rest : List (Nat × Nat)} {w w' : World} {a' : Act} {k : Nat} (h : wpKeep P l Q R rest a' w') : keepPost P l Q R rest (k + 1) w .normal a' w' := ⟨fun h => (by cases h), h⟩
theorem keep_done {l : List Oper} {R : World → World → Prop} {a : Act} {w : World} (h : Q .normal a w) : wpKeep P l Q R [] a w := h

end
end Go.Proofs.Ytnddkodenkmoiaa
