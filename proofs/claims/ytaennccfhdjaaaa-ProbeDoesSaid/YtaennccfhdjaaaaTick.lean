/- A tick of a prober in plain words: what is taken out of the heap, in which order, what goes back. -/
import Derived.Test.YtaennccfhdjaaaaHeap
namespace Go.Proofs.Ytaennccfhdjaaaa
set_option linter.unusedSimpArgs false
set_option linter.unusedVariables false
/-- Who is in the heap. -/
def Who (N me s : Int) : Prop := s = -1 ∨ (0 ≤ s ∧ s < N ∧ s ≠ me)
/-- What is in the heap. -/
def InHeap (N me : Int) (D : Int → Int) (x : En) : Prop := Who N me x.2 ∧ x.1 = D x.2
/-- s is the first client that is due and not told. -/
def FirstIs (N me : Int) (D : Int → Int) (now : Int) (told : List Int) (s : Int) : Prop :=
  (0 ≤ s ∧ s < N ∧ s ≠ me) ∧ D s ≤ now ∧ s ∉ told ∧ ∀ q, 0 ≤ q → q < N → q ≠ me → D q ≤ now → q ∉ told → leE (D s, s) (D q, q)
theorem FirstIs.unique {N me : Int} {D : Int → Int} {now : Int} {told : List Int} {s s' : Int} (h : FirstIs N me D now told s) (h' : FirstIs N me D now told s') : s = s' := by
  have a := h.2.2.2 s' h'.1.1 h'.1.2.1 h'.1.2.2 h'.2.1 h'.2.2.1
  have b := h'.2.2.2 s h.1.1 h.1.2.1 h.1.2.2 h.2.1 h.2.2.1
  unfold leE lessE at a b
  simp only at a b
  omega
/-- The heap behind some takings: P is taken, out are the clients among them. -/
structure PopI (N me : Int) (D : Int → Int) (now : Int) (f : Nat → En) (m : Nat) (P out : List Int) : Prop where
  heap : HeapC f m (fun x => InHeap N me D x ∧ x.2 ∉ P)
  popped : ∀ s, s ∈ P → Who N me s ∧ D s ≤ now
  nodup : P.Nodup
  outs : ∀ s, s ∈ out ↔ (s ∈ P ∧ 0 ≤ s)
  sorted : ∀ k s, out[k]? = some s → FirstIs N me D now (out.take k) s
  count : (m : Int) + P.length = N
section
variable {N me : Int} {D : Int → Int} {now : Int} {f f' : Nat → En} {m : Nat} {P out : List Int}
theorem PopI.start (h : HeapC f m (InHeap N me D)) (hm : (m : Int) = N) : PopI N me D now f m [] [] :=
  ⟨h.congr fun x => by simp, by simp, by simp, by simp, by simp, by simpa using hm⟩
theorem PopI.who (h : PopI N me D now f (m + 1) P out) : Who N me (f 0).2 ∧ (f 0).1 = D (f 0).2 ∧ (f 0).2 ∉ P := by
  have := (h.heap.least (Nat.succ_pos m)).1
  exact ⟨this.1.1, this.1.2, this.2⟩
theorem PopI.first (h : PopI N me D now f (m + 1) P out) (hd : (f 0).1 ≤ now) (h0 : 0 ≤ (f 0).2) : FirstIs N me D now out (f 0).2 := by
  obtain ⟨⟨⟨hw, he⟩, hp⟩, hl⟩ := h.heap.least (Nat.succ_pos m)
  refine ⟨by rcases hw with e | e; (· omega); exact e, he ▸ hd, fun e => hp ((h.outs _).1 e).1, fun q q0 qn qm qd qo => ?_⟩
  have := hl (D q, q) ⟨⟨.inr ⟨q0, qn, qm⟩, rfl⟩, fun e => qo ((h.outs q).2 ⟨e, q0⟩)⟩
  rw [← he]
  exact this
theorem PopI.step_ (h : PopI N me D now f (m + 1) P out) (hd : (f 0).1 ≤ now) (hs : SameC m (swp f 0 m) f') (hh : HeapF f' m) :
    HeapC f' m (fun x => InHeap N me D x ∧ x.2 ∉ P ++ [(f 0).2]) ∧ (∀ s, s ∈ P ++ [(f 0).2] → Who N me s ∧ D s ≤ now) ∧ (P ++ [(f 0).2]).Nodup ∧ (m : Int) + (P ++ [(f 0).2]).length = N := by
  obtain ⟨hw, he, hp⟩ := h.who
  refine ⟨(h.heap.pop hs hh).congr fun x => ?_, fun s hm => ?_, ?_, ?_⟩
  · simp only [List.mem_append, List.mem_singleton, not_or]
    exact ⟨fun k => ⟨k.1.1, k.1.2, k.2⟩, fun k => ⟨⟨k.1, k.2.1⟩, k.2.2⟩⟩
  · rcases List.mem_append.1 hm with e | e
    · exact h.popped s e
    · rw [List.mem_singleton] at e; subst e; exact ⟨hw, he ▸ hd⟩
  · rw [List.nodup_append]
    refine ⟨h.nodup, by simp, fun a ha b hb e => ?_⟩
    rw [List.mem_singleton] at hb
    subst hb; subst e; exact hp ha
  · have := h.count
    simp only [List.length_append, List.length_singleton]
    omega
theorem PopI.client (h : PopI N me D now f (m + 1) P out) (hd : (f 0).1 ≤ now) (h0 : 0 ≤ (f 0).2) (hs : SameC m (swp f 0 m) f') (hh : HeapF f' m) :
    PopI N me D now f' m (P ++ [(f 0).2]) (out ++ [(f 0).2]) := by
  obtain ⟨a, b, c, d⟩ := h.step_ hd hs hh
  refine ⟨a, b, c, fun s => ?_, fun k s hk => ?_, d⟩
  · simp only [List.mem_append, List.mem_singleton]
    constructor
    · rintro (e | rfl)
      · have := (h.outs s).1 e; exact ⟨.inl this.1, this.2⟩
      · exact ⟨.inr rfl, h0⟩
    · rintro ⟨e | rfl, k⟩
      · exact .inl ((h.outs s).2 ⟨e, k⟩)
      · exact .inr rfl
  · rw [List.getElem?_append] at hk
    split at hk
    · next hlt => rw [List.take_append_of_le_length (Nat.le_of_lt hlt)]; exact h.sorted k s hk
    · next hge =>
      have e : k = out.length := by
        rcases Nat.eq_or_lt_of_le (Nat.le_of_not_lt hge) with e | e
        · exact e.symm
        · rw [List.getElem?_eq_none (by simp; omega)] at hk; cases hk
      subst e
      simp only [Nat.sub_self, List.getElem?_cons_zero, Option.some.injEq] at hk
      rw [List.take_append_of_le_length (Nat.le_refl _), List.take_length, ← hk]
      exact h.first hd h0
theorem PopI.read (h : PopI N me D now f (m + 1) P out) (hd : (f 0).1 ≤ now) (h0 : ¬ 0 ≤ (f 0).2) (hs : SameC m (swp f 0 m) f') (hh : HeapF f' m) :
    (f 0).2 = -1 ∧ PopI N me D now f' m (P ++ [(f 0).2]) out := by
  obtain ⟨a, b, c, d⟩ := h.step_ hd hs hh
  refine ⟨by rcases h.who.1 with e | e <;> omega, a, b, c, fun s => ?_, h.sorted, d⟩
  simp only [List.mem_append, List.mem_singleton]
  constructor
  · intro e; have := (h.outs s).1 e; exact ⟨.inl this.1, this.2⟩
  · rintro ⟨e | rfl, k⟩
    · exact (h.outs s).2 ⟨e, k⟩
    · exact absurd k h0
theorem PopI.done (h : PopI N me D now f m P out) (hd : 0 < m → now < (f 0).1) (s : Int) (hw : Who N me s) : s ∈ P ↔ D s ≤ now := by
  refine ⟨fun e => (h.popped s e).2, fun e => Decidable.byContradiction fun hn => ?_⟩
  obtain ⟨k, hk, he⟩ := (h.heap.mem (D s, s)).1 ⟨⟨hw, rfl⟩, hn⟩
  have h1 := (h.heap.least (by omega)).2 (D s, s) ⟨⟨hw, rfl⟩, hn⟩
  have h2 := hd (by omega)
  unfold leE lessE at h1
  simp only at h1
  omega
theorem PopI.none_ (h : PopI N me D now f m P out) (hd : 0 < m → now < (f 0).1) (s : Int) : ¬ FirstIs N me D now out s := fun k =>
  k.2.2.1 ((h.outs s).2 ⟨(h.done hd s (.inr k.1)).2 k.2.1, k.1.1⟩)
/-- When something is due behind a tick. -/
def dueT (D : Int → Int) (now : Int) (busy : Bool) (s : Int) : Int := if D s ≤ now then (if 0 ≤ s then now + 4 else if busy then D s else now + 7) else D s
/-- What goes back. -/
def backT (D : Int → Int) (now : Int) (busy : Bool) (P : List Int) : List En := P.map fun s => (if 0 ≤ s then now + 4 else if busy then D s else now + 7, s)
/-- The heap, k of them put back. -/
def BackI (N me : Int) (D : Int → Int) (now : Int) (busy : Bool) (f : Nat → En) (m : Nat) (P : List Int) (k : Nat) : Prop :=
  HeapC f m (fun x => (InHeap N me D x ∧ x.2 ∉ P) ∨ ∃ j, j < k ∧ (backT D now busy P)[j]? = some x)
theorem PopI.back (h : PopI N me D now f m P out) (busy : Bool) : BackI N me D now busy f m P 0 := h.heap.congr fun x => by simp
theorem BackI.step {busy : Bool} {k : Nat} {x : En} (h : BackI N me D now busy f m P k) (hP : P.Nodup) (hx : (backT D now busy P)[k]? = some x) (hs : SameC (m + 1) (putE f m x) f') (hh : HeapF f' (m + 1)) : BackI N me D now busy f' (m + 1) P (k + 1) := by
  unfold backT at hx
  rw [List.getElem?_map] at hx
  obtain ⟨s, hs', hx'⟩ := Option.map_eq_some_iff.1 hx
  have e2 : x.2 = s := by rw [← hx']
  refine (HeapC.push h x ?_ hs hh).congr fun y => ?_
  · rintro y (hy | ⟨j, hj, hy⟩)
    · exact fun e => hy.2 (by rw [e, e2]; exact List.mem_of_getElem? hs')
    · unfold backT at hy
      rw [List.getElem?_map] at hy
      obtain ⟨s', hs'', hy'⟩ := Option.map_eq_some_iff.1 hy
      rw [← hy', e2]
      intro e
      simp only at e
      subst e
      have hlt : k < P.length := by
        rcases Nat.lt_or_ge k P.length with hl | hl
        · exact hl
        · rw [List.getElem?_eq_none hl] at hs'; cases hs'
      have := (List.getElem?_inj (by omega) hP).1 (hs''.trans hs'.symm)
      omega
  · constructor
    · rintro ((hy | ⟨j, hj, hy⟩) | rfl)
      · exact .inl hy
      · exact .inr ⟨j, by omega, hy⟩
      · refine .inr ⟨k, by omega, ?_⟩
        unfold backT
        rw [List.getElem?_map, hs']
        exact congrArg some hx'
    · rintro (hy | ⟨j, hj, hy⟩)
      · exact .inl (.inl hy)
      · by_cases e : j = k
        · subst e
          refine .inr ?_
          unfold backT at hy
          rw [List.getElem?_map, hs'] at hy
          exact (Option.some.inj hy).symm.trans hx'
        · exact .inl (.inr ⟨j, by omega, hy⟩)
theorem BackI.done {busy : Bool} (h : BackI N me D now busy f m P P.length) (hP : ∀ s, Who N me s → (s ∈ P ↔ D s ≤ now)) (hW : ∀ s, s ∈ P → Who N me s) : HeapC f m (InHeap N me (dueT D now busy)) := by
  refine HeapC.congr h fun x => ?_
  unfold InHeap dueT
  constructor
  · rintro (⟨⟨hw, he⟩, hn⟩ | ⟨j, hj, hx⟩)
    · have := mt (hP _ hw).2 hn
      exact ⟨hw, by rw [if_neg this]; exact he⟩
    · unfold backT at hx
      rw [List.getElem?_map] at hx
      obtain ⟨s, hs, hx'⟩ := Option.map_eq_some_iff.1 hx
      have hm := List.mem_of_getElem? hs
      have hw := hW s hm
      subst hx'
      exact ⟨hw, by rw [if_pos ((hP s hw).1 hm)]⟩
  · rintro ⟨hw, he⟩
    by_cases hd : D x.2 ≤ now
    · rw [if_pos hd] at he
      obtain ⟨j, hj⟩ := List.mem_iff_getElem?.1 ((hP _ hw).2 hd)
      refine .inr ⟨j, ?_, ?_⟩
      · rcases Nat.lt_or_ge j P.length with hl | hl
        · exact hl
        · rw [List.getElem?_eq_none hl] at hj; cases hj
      · unfold backT
        rw [List.getElem?_map, hj]
        exact congrArg some (Prod.ext he.symm rfl)
    · rw [if_neg hd] at he
      exact .inl ⟨⟨hw, he⟩, mt (hP _ hw).1 hd⟩
/-- Another time for s. -/
def setD (D : Int → Int) (s d : Int) : Int → Int := fun q => if q = s then d else D q
/-- Who has another time. -/
theorem HeapC.set_ (h : HeapC f m (InHeap N me D)) {s d : Int} (hw : Who N me s) {i : Nat} (hi : i < m) (he : (f i).2 = s) (hs : SameC m (putE f i (d, s)) f') (hh : HeapF f' m) :
    HeapC f' m (InHeap N me (setD D s d)) := by
  refine (h.fix hi (d, s) he.symm hs hh).congr fun x => ?_
  unfold InHeap setD
  constructor
  · rintro (⟨⟨hw', he'⟩, hn⟩ | rfl)
    · exact ⟨hw', by rw [if_neg hn]; exact he'⟩
    · exact ⟨hw, by rw [if_pos rfl]⟩
  · rintro ⟨hw', he'⟩
    by_cases e : x.2 = s
    · rw [if_pos e] at he'; exact .inr (Prod.ext he' e)
    · rw [if_neg e] at he'; exact .inl ⟨⟨hw', he'⟩, e⟩
end
end Go.Proofs.Ytaennccfhdjaaaa
