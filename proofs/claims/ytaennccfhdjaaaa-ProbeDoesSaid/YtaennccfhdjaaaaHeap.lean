/- A binary heap on functions of the index: what a swap, a way up and a way down keep. -/
import Init
namespace Go.Proofs.Ytaennccfhdjaaaa
set_option linter.unusedSimpArgs false
set_option linter.unusedVariables false
/-- When something is due, and who. -/
abbrev En := Int × Int
def lessE (a b : En) : Prop := a.1 < b.1 ∨ a.1 = b.1 ∧ a.2 < b.2
instance (a b : En) : Decidable (lessE a b) := by unfold lessE; infer_instance
def leE (a b : En) : Prop := ¬ lessE b a
theorem leE.refl (a : En) : leE a a := by unfold leE lessE; omega
theorem leE.trans {a b c : En} (h : leE a b) (k : leE b c) : leE a c := by unfold leE lessE at *; omega
theorem leE.of_less {a b : En} (h : lessE a b) : leE a b := by unfold leE lessE at *; omega
theorem leE.of_not {a b : En} (h : ¬ lessE a b) : leE b a := h
/-- Two places changed round. -/
def swp (f : Nat → En) (i j : Nat) : Nat → En := fun k => if k = i then f j else if k = j then f i else f k
theorem swp_left (f : Nat → En) (i j : Nat) : swp f i j i = f j := by simp [swp]
theorem swp_right (f : Nat → En) (i j : Nat) : swp f i j j = f i := by unfold swp; split <;> simp_all
theorem swp_else (f : Nat → En) {i j k : Nat} (h : k ≠ i) (h' : k ≠ j) : swp f i j k = f k := by simp [swp, h, h']
/-- One place written. -/
def putE (f : Nat → En) (i : Nat) (x : En) : Nat → En := fun k => if k = i then x else f k
theorem putE_same (f : Nat → En) (i : Nat) (x : En) : putE f i x i = x := by simp [putE]
theorem putE_else (f : Nat → En) {i k : Nat} (x : En) (h : k ≠ i) : putE f i x k = f k := by simp [putE, h]
/-- The same things in another order. -/
def SameC (n : Nat) (f g : Nat → En) : Prop :=
  (∀ x, (∃ k, k < n ∧ f k = x) ↔ ∃ k, k < n ∧ g k = x) ∧ ((∀ i j, i < j → j < n → (f i).2 ≠ (f j).2) → ∀ i j, i < j → j < n → (g i).2 ≠ (g j).2)
theorem SameC.refl (n : Nat) (f : Nat → En) : SameC n f f := ⟨fun _ => .rfl, fun h => h⟩
theorem SameC.trans {n : Nat} {f g h : Nat → En} (a : SameC n f g) (b : SameC n g h) : SameC n f h := ⟨fun x => (a.1 x).trans (b.1 x), fun k => b.2 (a.2 k)⟩
theorem SameC.of_swp (n : Nat) (f : Nat → En) {i j : Nat} (hi : i < n) (hj : j < n) : SameC n f (swp f i j) := by
  constructor
  · intro x
    constructor
    · rintro ⟨k, hk, rfl⟩
      by_cases h : k = i
      · exact ⟨j, hj, by rw [h, swp_right]⟩
      · by_cases h' : k = j
        · exact ⟨i, hi, by rw [h', swp_left]⟩
        · exact ⟨k, hk, swp_else f h h'⟩
    · rintro ⟨k, hk, rfl⟩
      by_cases h : k = i
      · exact ⟨j, hj, by rw [h, swp_left]⟩
      · by_cases h' : k = j
        · exact ⟨i, hi, by rw [h', swp_right]⟩
        · exact ⟨k, hk, (swp_else f h h').symm⟩
  · intro h a b hab hb
    have hne : ∀ a b, a ≠ b → a < n → b < n → (f a).2 ≠ (f b).2 := by
      intro a b hab ha hb
      rcases Nat.lt_or_ge a b with hl | hl
      · exact h a b hl hb
      · exact fun e => h b a (by omega) ha e.symm
    unfold swp
    split <;> split <;> (try split) <;> (try split) <;> first | (apply hne <;> omega) | omega
def par (k : Nat) : Nat := (k - 1) / 2
/-- Nothing is ahead of what is above it. -/
def HeapF (f : Nat → En) (n : Nat) : Prop := ∀ k, 0 < k → k < n → leE (f (par k)) (f k)
/-- A heap but for the place j, which may be too low. -/
def UpI (f : Nat → En) (n j : Nat) : Prop :=
  (∀ k, 0 < k → k < n → k ≠ j → leE (f (par k)) (f k)) ∧ (0 < j → ∀ k, 0 < k → k < n → par k = j → leE (f (par j)) (f k))
/-- A heap but for the place i, which may be too low or too high. -/
def BotI (f : Nat → En) (n i : Nat) : Prop :=
  (∀ k, 0 < k → k < n → k ≠ i → par k ≠ i → leE (f (par k)) (f k)) ∧ (0 < i → ∀ k, 0 < k → k < n → par k = i → leE (f (par i)) (f k))
theorem HeapF.top {f : Nat → En} {n : Nat} (h : HeapF f n) (k : Nat) (hk : k < n) : leE (f 0) (f k) := by
  induction k using Nat.strongRecOn with
  | ind k ih =>
    rcases Nat.eq_zero_or_pos k with h0 | h0
    · subst h0; exact .refl _
    · exact (ih (par k) (by unfold par; omega) (by unfold par; omega)).trans (h k h0 hk)
theorem UpI.zero {f : Nat → En} {n : Nat} (h : UpI f n 0) : HeapF f n := fun k h0 hk => h.1 k h0 hk (by omega)
theorem UpI.done {f : Nat → En} {n j : Nat} (h : UpI f n j) (hj : leE (f (par j)) (f j)) : HeapF f n := fun k h0 hk => by
  by_cases e : k = j
  · rw [e]; exact hj
  · exact h.1 k h0 hk e
theorem UpI.step {f : Nat → En} {n j : Nat} (h : UpI f n j) (h0 : 0 < j) (hj : j < n) (hl : lessE (f j) (f (par j))) : UpI (swp f (par j) j) n (par j) := by
  have hp : par j < j := by unfold par; omega
  have hpp : ∀ k, 0 < k → par k < k := fun k hk => by unfold par; omega
  constructor
  · intro k k0 kn ke
    by_cases e : k = j
    · rw [e, swp_right, swp_left]; exact .of_less hl
    · rw [swp_else f ke e]
      by_cases e1 : par k = par j
      · rw [e1, swp_left]; exact (leE.of_less hl).trans (e1 ▸ h.1 k k0 kn e)
      · by_cases e2 : par k = j
        · rw [e2, swp_right]; exact h.2 h0 k k0 kn e2
        · rw [swp_else f e1 e2]; exact h.1 k k0 kn e
  · intro p0 k k0 kn kp
    have hq := hpp (par j) p0
    rw [swp_else f (i := par j) (j := j) (k := par (par j)) (by omega) (by omega)]
    have hg := h.1 (par j) p0 (by omega) (by omega)
    by_cases e : k = j
    · rw [e, swp_right]; exact hg
    · rw [swp_else f (by have := hpp k k0; omega) e]
      exact hg.trans (kp ▸ h.1 k k0 kn e)
theorem HeapF.up {f : Nat → En} {n : Nat} (h : HeapF f n) (x : En) : UpI (putE f n x) (n + 1) n := by
  constructor
  · intro k k0 kn ke
    rw [putE_else f x ke, putE_else f x (by unfold par; omega)]
    exact h k k0 (by omega)
  · intro n0 k k0 kn kp
    unfold par at kp
    omega
theorem HeapF.fix {f : Nat → En} {n i : Nat} (h : HeapF f n) (x : En) : BotI (putE f i x) n i := by
  constructor
  · intro k k0 kn ke kp
    rw [putE_else f x ke, putE_else f x kp]
    exact h k k0 kn
  · intro i0 k k0 kn kp
    have e : par i ≠ i := by unfold par; omega
    have e' : k ≠ i := by unfold par at kp; omega
    rw [putE_else f x e, putE_else f x e']
    have h1 := h k k0 kn
    rw [kp] at h1
    exact (h i i0 (by unfold par at kp; omega)).trans h1
theorem HeapF.pop {f : Nat → En} {n : Nat} (h : HeapF f (n + 1)) : BotI (swp f 0 n) n 0 := by
  constructor
  · intro k k0 kn ke kp
    rw [swp_else f kp (by unfold par; omega), swp_else f ke (by omega)]
    exact h k k0 (by omega)
  · intro h0; omega
/-- The way down from i0 stands at j. -/
structure DownI (f : Nat → En) (n i0 j : Nat) : Prop where
  bot : BotI f n j
  ge : i0 ≤ j
  up : j ≠ i0 → 0 < j ∧ leE (f (par j)) (f j)
theorem DownI.step {f : Nat → En} {n i0 j c : Nat} (h : DownI f n i0 j) (hc : 0 < c) (hn : c < n) (hp : par c = j) (hl : lessE (f c) (f j)) (hs : ∀ k, 0 < k → k < n → par k = j → leE (f c) (f k)) : DownI (swp f j c) n i0 c := by
  have hjc : j < c := by unfold par at hp; omega
  have hpp : ∀ k, 0 < k → par k < k := fun k hk => by unfold par; omega
  refine ⟨⟨?_, ?_⟩, by have := h.ge; omega, fun _ => ⟨hc, ?_⟩⟩
  · intro k k0 kn ke kp
    by_cases e : k = j
    · subst e
      rw [swp_left, swp_else f (by have := hpp k k0; omega) kp]
      exact h.bot.2 k0 c hc hn hp
    · rw [swp_else f e ke]
      by_cases e1 : par k = j
      · rw [e1, swp_left]; exact hs k k0 kn e1
      · rw [swp_else f e1 kp]; exact h.bot.1 k k0 kn e e1
  · intro _ k k0 kn kp
    have h1 := hpp k k0
    rw [hp, swp_left, swp_else f (by omega) (by omega)]
    have h2 := h.bot.1 k k0 kn (by omega) (by omega)
    rw [kp] at h2
    exact h2
  · rw [hp, swp_left, swp_right]; exact .of_less hl
theorem DownI.done {f : Nat → En} {n i0 j : Nat} (h : DownI f n i0 j) (hs : ∀ k, 0 < k → k < n → par k = j → leE (f j) (f k)) (hj : j ≠ i0) : HeapF f n := fun k k0 kn => by
  by_cases e : k = j
  · rw [e]; exact (h.up hj).2
  · by_cases e1 : par k = j
    · rw [e1]; exact hs k k0 kn e1
    · exact h.bot.1 k k0 kn e e1
theorem DownI.still {f : Nat → En} {n i0 : Nat} (h : DownI f n i0 i0) (hs : ∀ k, 0 < k → k < n → par k = i0 → leE (f i0) (f k)) : UpI f n i0 := by
  refine ⟨fun k k0 kn ke => ?_, h.bot.2⟩
  by_cases e1 : par k = i0
  · rw [e1]; exact hs k k0 kn e1
  · exact h.bot.1 k k0 kn ke e1
theorem BotI.down {f : Nat → En} {n i : Nat} (h : BotI f n i) : DownI f n i i := ⟨h, Nat.le_refl _, fun e => absurd rfl e⟩
theorem par_kids {k j : Nat} (h0 : 0 < k) : par k = j ↔ k = 2 * j + 1 ∨ k = 2 * j + 2 := by unfold par; omega
/-- A heap of just these things, each of another one. -/
structure HeapC (f : Nat → En) (m : Nat) (C : En → Prop) : Prop where
  heap : HeapF f m
  mem : ∀ x, C x ↔ ∃ k, k < m ∧ f k = x
  inj : ∀ i j, i < j → j < m → (f i).2 ≠ (f j).2
section
variable {f f' : Nat → En} {m : Nat} {C C' : En → Prop}
theorem HeapC.inj' (h : HeapC f m C) {i j : Nat} (hi : i < m) (hj : j < m) (e : (f i).2 = (f j).2) : i = j := by
  rcases Nat.lt_trichotomy i j with hl | hl | hl
  · exact absurd e (h.inj i j hl hj)
  · exact hl
  · exact absurd e.symm (h.inj j i hl hi)
theorem HeapC.congr (h : HeapC f m C) (k : ∀ x, C x ↔ C' x) : HeapC f m C' := ⟨h.heap, fun x => (k x).symm.trans (h.mem x), h.inj⟩
theorem HeapC.push (h : HeapC f m C) (x : En) (hx : ∀ y, C y → y.2 ≠ x.2) (hs : SameC (m + 1) (putE f m x) f') (hh : HeapF f' (m + 1)) : HeapC f' (m + 1) (fun y => C y ∨ y = x) := by
  refine ⟨hh, fun y => ?_, hs.2 fun i j hij hj => ?_⟩
  · rw [← hs.1 y, h.mem y]
    constructor
    · rintro (⟨k, hk, rfl⟩ | rfl)
      · exact ⟨k, by omega, putE_else f x (by omega)⟩
      · exact ⟨m, by omega, putE_same f m y⟩
    · rintro ⟨k, hk, rfl⟩
      by_cases e : k = m
      · subst e; exact .inr (putE_same f k x)
      · rw [putE_else f x e]; exact .inl ⟨k, by omega, rfl⟩
  · rw [putE_else f x (show i ≠ m by omega)]
    by_cases e : j = m
    · rw [e, putE_same]; exact hx _ ((h.mem _).2 ⟨i, by omega, rfl⟩)
    · rw [putE_else f x e]; exact h.inj i j hij (by omega)
theorem HeapC.pop (h : HeapC f (m + 1) C) (hs : SameC m (swp f 0 m) f') (hh : HeapF f' m) : HeapC f' m (fun y => C y ∧ y.2 ≠ (f 0).2) := by
  have hne : ∀ k, k < m → swp f 0 m k = f (if k = 0 then m else k) := fun k hk => by
    by_cases e : k = 0
    · rw [if_pos e, e, swp_left]
    · rw [if_neg e, swp_else f e (by omega)]
  refine ⟨hh, fun y => ?_, hs.2 fun i j hij hj => ?_⟩
  · rw [← hs.1 y, h.mem y]
    constructor
    · rintro ⟨⟨k, hk, rfl⟩, hy⟩
      have hk0 : k ≠ 0 := fun e => hy (by rw [e])
      by_cases e : k = m
      · exact ⟨0, by omega, by rw [swp_left, e]⟩
      · exact ⟨k, by omega, swp_else f hk0 e⟩
    · rintro ⟨k, hk, rfl⟩
      rw [hne k hk]
      have hj : (if k = 0 then m else k) < m + 1 := by split <;> omega
      refine ⟨⟨_, hj, rfl⟩, fun e => ?_⟩
      have := h.inj' hj (Nat.succ_pos m) e
      split at this <;> omega
  · rw [hne i (by omega), hne j hj]
    intro e
    have := h.inj' (by split <;> omega) (by split <;> omega) e
    split at this <;> split at this <;> omega
theorem HeapC.least (h : HeapC f m C) (hm : 0 < m) : C (f 0) ∧ ∀ y, C y → leE (f 0) y :=
  ⟨(h.mem _).2 ⟨0, hm, rfl⟩, fun y hy => by
    obtain ⟨k, hk, rfl⟩ := (h.mem y).1 hy
    exact h.heap.top k hk⟩
theorem HeapC.fix (h : HeapC f m C) {i : Nat} (hi : i < m) (x : En) (hx : x.2 = (f i).2) (hs : SameC m (putE f i x) f') (hh : HeapF f' m) : HeapC f' m (fun y => (C y ∧ y.2 ≠ x.2) ∨ y = x) := by
  refine ⟨hh, fun y => ?_, hs.2 fun a b hab hb => ?_⟩
  · rw [← hs.1 y, h.mem y]
    constructor
    · rintro (⟨⟨k, hk, rfl⟩, hy⟩ | rfl)
      · exact ⟨k, hk, putE_else f x (fun e => hy (by rw [e, hx]))⟩
      · exact ⟨i, hi, putE_same f i y⟩
    · rintro ⟨k, hk, rfl⟩
      by_cases e : k = i
      · subst e; exact .inr (putE_same f k x)
      · rw [putE_else f x e]
        exact .inl ⟨⟨k, hk, rfl⟩, fun e' => e (h.inj' hk hi (e'.trans hx))⟩
  · have he : ∀ k, (putE f i x k).2 = (f k).2 := fun k => by
      by_cases e : k = i
      · rw [e, putE_same, hx]
      · rw [putE_else f x e]
    rw [he, he]
    exact h.inj a b hab hb
theorem HeapC.nil (f : Nat → En) : HeapC f 0 (fun _ => False) := ⟨fun k _ h => by omega, fun x => ⟨fun h => h.elim, fun ⟨k, h, _⟩ => by omega⟩, fun i j _ h => by omega⟩
end
end Go.Proofs.Ytaennccfhdjaaaa
