/- The cell in plain Lean: behind Save the text is there; behind a crash in its midst, the old one or the new one. -/
import Derived.Test.YtnddkodenkmoiaaCelp
namespace Go.Proofs.Ytnddkodenkmoiaa
open Go.RowKit Go.Proofs
set_option linter.unusedSimpArgs false
set_option linter.unusedVariables false
/-! The disk. -/
theorem tearSt_get (LI : List Nat) (ks : List Int) (L : List Sec) (hn : LI.Nodup) : ∀ c, c ≤ LI.length → ∀ i, (tearSt LI ks L c)[i]? = if i ∈ LI.take c then (L[i]?).map (fun s => s.tear (kAt ks (LI.idxOf i))) else L[i]?
  | 0, _, i => by simp [tearSt]
  | c + 1, hc, i => by
    have ih := tearSt_get LI ks L hn c (by omega)
    obtain ⟨t, ht⟩ : ∃ t, LI[c]? = some t := ⟨_, List.getElem?_eq_getElem (by omega)⟩
    have hte : LI[c]'(by omega) = t := by have := List.getElem?_eq_getElem (show c < LI.length by omega); rw [this] at ht; exact Option.some.inj ht
    have hg : LI.getD c 0 = t := by rw [List.getD_eq_getElem?_getD, ht]; rfl
    have htk : LI.take (c + 1) = LI.take c ++ [t] := by rw [List.take_add_one, ht]; rfl
    have hni : t ∉ LI.take c := by
      have h2 : (LI.take (c + 1)).Nodup := hn.sublist (List.take_sublist _ _)
      rw [htk, List.nodup_append] at h2
      intro hm; exact h2.2.2 t hm t (by simp) rfl
    show (tearAt (tearSt LI ks L c) (LI.getD c 0) (kAt ks c))[i]? = _
    rw [hg, htk]
    unfold tearAt
    have ht0 := ih t
    rw [if_neg hni] at ht0
    have hidx : LI.idxOf t = c := by
      have := hn.idxOf_getElem c (by omega)
      rw [hte] at this; exact this
    by_cases hti : t = i
    · subst hti
      rw [if_pos (by simp), hidx, ht0]
      cases hq : L[t]? with
      | none => rw [hq] at ht0; simpa using ht0
      | some s =>
        rw [hq] at ht0
        show ((tearSt LI ks L c).set t (s.tear (kAt ks c)))[t]? = _
        rw [List.getElem?_set_self (List.getElem?_eq_some_iff.1 ht0).1]; rfl
    · have hmem : (i ∈ LI.take c ++ [t]) ↔ i ∈ LI.take c := by simp [Ne.symm hti]
      simp only [hmem]
      rw [ht0]
      cases hq : L[t]? with
      | none => exact ih i
      | some s =>
        show ((tearSt LI ks L c).set t (s.tear (kAt ks c)))[i]? = _
        rw [List.getElem?_set_ne hti]; exact ih i
theorem looseTo_nodup (L : List Sec) (n : Nat) : (looseTo L n).Nodup := List.Nodup.sublist List.filter_sublist List.nodup_range
theorem mem_looseTo (L : List Sec) (i : Nat) : i ∈ looseTo L L.length ↔ ∃ s, L[i]? = some s ∧ s.loose = true := by
  unfold looseTo
  rw [List.mem_filter, List.mem_range]
  constructor
  · rintro ⟨h, hl⟩
    refine ⟨L[i], List.getElem?_eq_getElem h, ?_⟩
    rw [List.getElem?_eq_getElem h] at hl; simpa using hl
  · rintro ⟨s, hs, hl⟩
    refine ⟨(List.getElem?_eq_some_iff.1 hs).1, by rw [hs]; simpa using hl⟩
theorem crash_get (x : Dk) (ks : List Int) (i : Nat) (s : Sec) (h : x.L[i]? = some s) : (x.crash ks).L[i]? = some (if s.loose then s.tear (kAt ks ((looseTo x.L x.L.length).idxOf i)) else s) := by
  show (tearSt (looseTo x.L x.L.length) ks x.L (looseTo x.L x.L.length).length)[i]? = _
  rw [tearSt_get _ _ _ (looseTo_nodup _ _) _ (Nat.le_refl _), List.take_length, h]
  by_cases hl : s.loose = true
  · rw [if_pos ((mem_looseTo _ _).2 ⟨s, h, hl⟩), if_pos hl]; rfl
  · rw [if_neg (fun hm => by obtain ⟨s', h1, h2⟩ := (mem_looseTo _ _).1 hm; rw [h] at h1; cases h1; exact hl h2), if_neg hl]
theorem crash_length (x : Dk) (ks : List Int) : (x.crash ks).L.length = x.L.length := tearSt_length _ _ _ _
theorem B_of {x : Dk} {i : Nat} {s : Sec} (h : x.L[i]? = some s) : x.B i = s.b := by unfold Dk.B; rw [h]; rfl
/-- It works, and all is safe. -/
structure Up (x : Dk) : Prop where
  up : x.down = false
  safe : ∀ s ∈ x.L, s.loose = false
  ok : okL x.L
theorem mem_of_get {L : List Sec} {i : Nat} {s : Sec} (h : L[i]? = some s) : s ∈ L := List.mem_of_getElem? h
theorem crash_up (x : Dk) (ks : List Int) (h : okL x.L) : Up (x.crash ks) := by
  have each : ∀ s' ∈ (x.crash ks).L, s'.loose = false ∧ s'.ok := by
    intro s' hs'
    obtain ⟨i, hi, rfl⟩ := List.mem_iff_getElem.1 hs'
    rw [crash_length] at hi
    have h1 := crash_get x ks i _ (List.getElem?_eq_getElem hi)
    rw [List.getElem?_eq_getElem (by rw [crash_length]; exact hi)] at h1
    have h2 := Option.some.inj h1
    rw [h2]
    have hk := h _ (List.getElem_mem hi)
    split
    · exact ⟨rfl, tear_ok hk _ (kAt_le _ _)⟩
    · rename_i hl; exact ⟨by simpa using hl, hk⟩
  exact ⟨rfl, fun s hs => (each s hs).1, fun s hs => (each s hs).2⟩
theorem crash_B_safe (x : Dk) (ks : List Int) (i : Nat) (h : ∀ s, x.L[i]? = some s → s.loose = false) : (x.crash ks).B i = x.B i := by
  cases hq : x.L[i]? with
  | none =>
    have : (x.crash ks).L[i]? = none := by
      rw [List.getElem?_eq_none_iff, crash_length]; exact List.getElem?_eq_none_iff.1 hq
    unfold Dk.B; rw [this, hq]
  | some s =>
    have h1 := crash_get x ks i s hq
    rw [if_neg (by rw [h s hq]; decide)] at h1
    rw [B_of h1, B_of hq]
theorem put_ok {s : Sec} (h : s.ok) {t : List UInt8} (ht : t.length ≤ 64) : (s.put t).ok := by
  unfold Sec.put Sec.loosen
  refine ⟨fillOf_length ht, ?_⟩
  split
  · exact h.2
  · exact h.1
theorem write_spec {x : Dk} {i : Nat} {t : ByteArray} (hd : x.down = false) (hi : i < x.L.length) (ht : t.size ≤ 64) (hk : okL x.L) :
    okL (x.write (i : Int) t).L ∧ (x.write (i : Int) t).L.length = x.L.length ∧ (∀ j, j ≠ i → (x.write (i : Int) t).L[j]? = x.L[j]?) ∧
    (∃ s, x.L[i]? = some s ∧ (x.write (i : Int) t).L[i]? = some (s.put (by_ t))) ∧ x.writeR (i : Int) t = (if (x.write (i : Int) t).down then 12 else 0) := by
  have hw : x.write (i : Int) t = (x.putAt i t).goes := by
    unfold Dk.write
    rw [if_neg (by rw [hd]; decide), if_neg (by omega), if_neg (by omega)]; rfl
  have hg : x.L[i]? = some x.L[i] := List.getElem?_eq_getElem hi
  have hp : x.putAt i t = { x with L := x.L.set i (x.L[i].put (by_ t)) } := by unfold Dk.putAt; rw [hg]
  have hL : (x.write (i : Int) t).L = x.L.set i (x.L[i].put (by_ t)) := by rw [hw, goes_L, hp]
  refine ⟨?_, ?_, ?_, ⟨_, hg, ?_⟩, ?_⟩
  · rw [hL]; exact hk.set i (put_ok (hk _ (List.getElem_mem hi)) (by rw [← by_size]; exact ht))
  · rw [hL, List.length_set]
  · intro j hj; rw [hL, List.getElem?_set_ne (Ne.symm hj)]
  · rw [hL, List.getElem?_set_self hi]
  · unfold Dk.writeR
    rw [if_neg (by rw [hd]; decide), if_neg (by omega), if_neg (by omega), hw, hp, goes_down_L x (x.L.set i (x.L[i].put (by_ t)))]
theorem sync_spec {x : Dk} (hd : x.down = false) : (x.syncR = 12 ∧ x.sync.down = true ∧ x.sync.L = x.L) ∨ (x.syncR = 0 ∧ x.sync.down = false ∧ x.sync.L = x.L.map Sec.safe) := by
  have hR : x.syncR = if x.goes.down then 12 else 0 := by unfold Dk.syncR; rw [if_neg (by rw [hd]; decide)]
  have hS : x.sync = if x.goes.down then x.goes else { x.goes with L := x.L.map Sec.safe } := by unfold Dk.sync; rw [if_neg (by rw [hd]; decide)]
  rw [hR, hS]
  by_cases h : x.goes.down = true
  · rw [if_pos h, if_pos h]; exact .inl ⟨rfl, h, goes_L x⟩
  · rw [if_neg h, if_neg h]; exact .inr ⟨rfl, by simpa using h, rfl⟩
/-- It is not armed. -/
def Calm (x : Dk) : Prop := x.down = false ∧ x.armed ≤ 0
theorem Calm.goes {x : Dk} (h : Calm x) : x.goes = x := by unfold Dk.goes; rw [if_neg (by have := h.2; omega)]
theorem Calm.write {x : Dk} (h : Calm x) (i : Int) (t : ByteArray) : Calm (x.write i t) := by
  unfold Dk.write
  split
  · exact h
  · split
    · exact h
    · split
      · exact h
      · have : Calm (x.putAt i.toNat t) := by unfold Dk.putAt; split <;> exact h
        rw [this.goes]; exact this
theorem Calm.sync {x : Dk} (h : Calm x) : Calm x.sync := by
  unfold Dk.sync
  rw [if_neg (by rw [h.1]; decide), h.goes, if_neg (by rw [h.1]; decide)]
  exact h
theorem Calm.crash (x : Dk) (ks : List Int) : Calm (x.crash ks) := ⟨rfl, Int.le_refl _⟩
theorem safe_B (x : Dk) (i : Nat) (y : Dk) (h : y.L = x.L.map Sec.safe) : y.B i = x.B i := by
  unfold Dk.B
  rw [h, List.getElem?_map, Option.map_map]; rfl
theorem safe_up {x y : Dk} (hk : okL x.L) (hd : y.down = false) (h : y.L = x.L.map Sec.safe) : Up y := by
  refine ⟨hd, fun s hs => ?_, fun s hs => ?_⟩
  · rw [h] at hs; obtain ⟨s0, _, rfl⟩ := List.mem_map.1 hs; rfl
  · rw [h] at hs; obtain ⟨s0, h0, rfl⟩ := List.mem_map.1 hs; exact hk s0 h0
theorem put_b (s : Sec) (t : List UInt8) : (s.put t).b = fillOf t := rfl
/-! The parts. -/
theorem partsF_spec (base size : Nat) (t : ByteArray) : ∀ (m c : Nat) (x : Dk), x.down = false → okL x.L → base + size ≤ x.L.length → c + m = size → t.size ≤ 64 * size →
    okL (partsF base t m c x).1.L ∧ (partsF base t m c x).1.L.length = x.L.length ∧ (∀ j, ¬ (base + c ≤ j ∧ j < base + size) → (partsF base t m c x).1.L[j]? = x.L[j]?) ∧
    (((partsF base t m c x).2 = 12 ∧ (partsF base t m c x).1.down = true) ∨ ((partsF base t m c x).2 = 0 ∧ (partsF base t m c x).1.down = false ∧ ∀ j, c ≤ j → 64 * j < t.size → (partsF base t m c x).1.B (base + j) = fillOf (by_ (partOf t j))))
  | 0, c, x, hd, hk, hl, hc, ht => by
    refine ⟨hk, rfl, fun _ _ => rfl, .inr ⟨rfl, hd, fun j h1 h2 => ?_⟩⟩
    omega
  | m + 1, c, x, hd, hk, hl, hc, ht => by
    unfold partsF
    by_cases h1 : 64 * c < t.size
    · rw [if_pos h1]
      obtain ⟨a1, a2, a3, ⟨s, a4, a5⟩, a6⟩ := write_spec (x := x) (i := base + c) (t := partOf t c) hd (by omega) (partOf_size t c) hk
      generalize x.write ((base + c : Nat) : Int) (partOf t c) = y at a1 a2 a3 a5 a6 ⊢
      rw [a6]
      by_cases h2 : y.down = true
      · rw [if_pos h2, if_neg (by omega)]
        exact ⟨a1, a2, fun j hj => a3 j (by omega), .inl ⟨rfl, h2⟩⟩
      · have h2 : y.down = false := by simpa using h2
        rw [if_neg (show ¬ (y.down = true) by rw [h2]; decide), if_pos rfl]
        obtain ⟨b1, b2, b3, b4⟩ := partsF_spec base size t m (c + 1) y h2 a1 (by omega) (by omega) ht
        refine ⟨b1, b2.trans a2, fun j hj => (b3 j (by omega)).trans (a3 j (by omega)), ?_⟩
        rcases b4 with b4 | ⟨b4, b5, b6⟩
        · exact .inl b4
        · refine .inr ⟨b4, b5, fun j hj1 hj2 => ?_⟩
          by_cases hjc : j = c
          · subst hjc
            have := b3 (base + j) (by omega)
            rw [a5] at this
            rw [B_of this, put_b]
          · exact b6 j (by omega) hj2
    · rw [if_neg h1]
      exact ⟨hk, rfl, fun _ _ => rfl, .inr ⟨rfl, hd, fun j h3 h4 => absurd h4 (by omega)⟩⟩
theorem partsF_calm (base : Nat) (t : ByteArray) : ∀ (m c : Nat) (x : Dk), Calm x → Calm (partsF base t m c x).1
  | 0, c, x, h => h
  | m + 1, c, x, h => by
    unfold partsF
    split
    · split
      · exact partsF_calm base t m (c + 1) _ (h.write _ _)
      · exact h.write _ _
    · exact h
theorem headF_calm (i n l : Nat) (p : Dk × Int) (h : Calm p.1) : Calm (headF i n l p).1 := by
  unfold headF
  split
  · split
    · split
      · exact (h.sync.write _ _).sync
      · exact h.sync.write _ _
    · exact h.sync
  · exact h
theorem saveF_calm (x : Dk) (f size : Nat) (t : ByteArray) (h : Calm x) : Calm (x.saveF f size t).1 := by
  unfold Dk.saveF
  split
  · exact h
  · split
    · exact h
    · split
      · exact h
      · exact headF_calm _ _ _ _ (partsF_calm _ _ _ _ _ h)
/-! What a cell holds. -/
def Content (B : Nat → List UInt8) (f size n : Nat) (t : ByteArray) : Prop :=
  ∃ live, (live = 0 ∨ live = 1) ∧ (n = 0 → live = 1 ∧ t.size = 0) ∧ t.size ≤ 64 * size ∧ B (f + live) = headL n t.size ∧ Other (B (f + (1 - live))) n ∧ ∀ c, 64 * c < t.size → B (f + 2 + live * size + c) = fillOf (by_ (partOf t c))
theorem Content.congr {B B' : Nat → List UInt8} {f size n : Nat} {t : ByteArray} (h : Content B f size n t) (hs : 1 ≤ size) (hB : ∀ i, f ≤ i → i < f + 2 + 2 * size → B' i = B i) : Content B' f size n t := by
  obtain ⟨live, hl, h0, h1, h2, h3, h4⟩ := h
  refine ⟨live, hl, h0, h1, ?_, ?_, fun c hc => ?_⟩
  · rw [hB _ (by omega) (by omega)]; exact h2
  · rw [hB _ (by omega) (by omega)]; exact h3
  · rw [hB _ (by omega) (by rcases hl with rfl | rfl <;> omega)]; exact h4 c hc
theorem Content.fresh (B : Nat → List UInt8) (f size : Nat) (t : ByteArray) (ht : t.size = 0) (h0 : B f = z64) (h1 : B (f + 1) = z64) : Content B f size 0 t := by
  refine ⟨1, .inr rfl, fun _ => ⟨rfl, ht⟩, by omega, ?_, ?_, fun c hc => by omega⟩
  · rw [h1, ht]; exact z64_head
  · show Other (B f) 0
    rw [h0, z64_head]; exact Other.head 0 0 0 (by omega) (.inr rfl)
theorem slotS_B (x : Dk) (i : Nat) (size : Int) : slotS x i size = says (x.B i) size := by
  unfold slotS Dk.B
  cases x.L[i]? with
  | none => rfl
  | some s => rfl
/-- What the slots say then. -/
theorem Content.slots {x : Dk} {f size n : Nat} {t : ByteArray} (h : Content x.B f size n t) (hs : size ≤ 255) (hn : n ≤ 1099511627776) :
    (n = 0 ∧ x.kOf f size = -1) ∨ (1 ≤ n ∧ x.kOf f size = 0 ∧ slotS x f size = ((n : Int), (t.size : Int)) ∧ x.B f = headL n t.size ∧ Other (x.B (f + 1)) n ∧ ∀ c, 64 * c < t.size → x.B (f + 2 + c) = fillOf (by_ (partOf t c))) ∨
    (1 ≤ n ∧ x.kOf f size = 1 ∧ slotS x (f + 1) size = ((n : Int), (t.size : Int)) ∧ x.B (f + 1) = headL n t.size ∧ Other (x.B f) n ∧ ∀ c, 64 * c < t.size → x.B (f + 2 + size + c) = fillOf (by_ (partOf t c))) := by
  obtain ⟨live, hl, h0, h1, h2, h3, h4⟩ := h
  by_cases hn0 : n = 0
  · left
    subst hn0
    obtain ⟨rfl, ht0⟩ := h0 rfl
    refine ⟨rfl, ?_⟩
    have e1 : slotS x (f + 1) size = (0, 0) := by rw [slotS_B, h2]; exact says_head0 _ _
    have e0 : slotS x f size = (0, 0) := by
      rw [slotS_B]
      rcases Other.says (size : Int) hn h3 with h | h
      · exact h
      · omega
    unfold Dk.kOf
    rw [e0, e1]; rfl
  · right
    have hsy : says (headL n t.size) size = ((n : Int), (t.size : Int)) := says_head n t.size size (by omega) hn h1 hs
    have ho := Other.says (size : Int) hn h3
    rcases hl with rfl | rfl
    · left
      have e0 : slotS x f size = ((n : Int), (t.size : Int)) := by rw [slotS_B, show x.B f = headL n t.size from h2]; exact hsy
      refine ⟨by omega, ?_, e0, h2, h3, fun c hc => by have := h4 c hc; rw [Nat.zero_mul, Nat.add_zero] at this; exact this⟩
      have e1 : slotS x (f + 1) size = says (x.B (f + (1 - 0))) size := slotS_B _ _ _
      unfold Dk.kOf lastOf
      rw [e0, e1]
      rw [if_neg (by simp only; omega), if_neg]
      rcases ho with h | h
      · rw [h]; simp only; omega
      · simp only; omega
    · right
      have e0 : slotS x (f + 1) size = ((n : Int), (t.size : Int)) := by rw [slotS_B, show x.B (f + 1) = headL n t.size from h2]; exact hsy
      refine ⟨by omega, ?_, e0, h2, h3, fun c hc => by have := h4 c hc; rw [Nat.one_mul] at this; exact this⟩
      have e1 : slotS x f size = says (x.B (f + (1 - 1))) size := slotS_B _ _ _
      unfold Dk.kOf lastOf
      rw [e0, e1]
      rw [if_neg (by simp only; omega), if_pos]
      rcases ho with h | h
      · rw [h]; simp only; omega
      · simp only; omega
/-! Save. -/
theorem toN_of {x : Dk} {f size : Nat} : x.toN f size = if x.kOf f size = 0 then 1 else 0 := rfl
/-- Behind the parts. -/
theorem headF_spec {x y : Dk} {f size n live : Nat} {t s : ByteArray} (hs1 : 1 ≤ size) (hlive : live = 0 ∨ live = 1) (hn : n + 1 ≤ 1099511627776)
    (h0 : n = 0 → live = 1 ∧ t.size = 0) (h1 : t.size ≤ 64 * size) (h2 : x.B (f + live) = headL n t.size) (h3 : Other (x.B (f + (1 - live))) n) (h4 : ∀ c, 64 * c < t.size → x.B (f + 2 + live * size + c) = fillOf (by_ (partOf t c)))
    (hU : Up x) (hf : f + 2 + 2 * size ≤ x.L.length) (hs : s.size ≤ 64 * size) (hd : y.down = false) (hk : okL y.L) (hl : y.L.length = x.L.length)
    (hj : ∀ j, ¬ (f + 2 + (1 - live) * size ≤ j ∧ j < f + 2 + (1 - live) * size + size) → y.L[j]? = x.L[j]?) (hw : ∀ j, 64 * j < s.size → y.B (f + 2 + (1 - live) * size + j) = fillOf (by_ (partOf s j))) :
    (headF (f + (1 - live)) (n + 1) s.size (y, 0)).1.L.length = x.L.length ∧
    (((headF (f + (1 - live)) (n + 1) s.size (y, 0)).2 = 0 ∧ Up (headF (f + (1 - live)) (n + 1) s.size (y, 0)).1 ∧ Content (headF (f + (1 - live)) (n + 1) s.size (y, 0)).1.B f size (n + 1) s ∧
        ∀ i, ¬ (f ≤ i ∧ i < f + 2 + 2 * size) → (headF (f + (1 - live)) (n + 1) s.size (y, 0)).1.B i = x.B i) ∨
     ((headF (f + (1 - live)) (n + 1) s.size (y, 0)).2 = 12 ∧ (headF (f + (1 - live)) (n + 1) s.size (y, 0)).1.down = true ∧ okL (headF (f + (1 - live)) (n + 1) s.size (y, 0)).1.L ∧
        ∀ ks, Content ((headF (f + (1 - live)) (n + 1) s.size (y, 0)).1.crash ks).B f size n t ∨ Content ((headF (f + (1 - live)) (n + 1) s.size (y, 0)).1.crash ks).B f size (n + 1) s)) := by
  have hyB : ∀ j, ¬ (f + 2 + (1 - live) * size ≤ j ∧ j < f + 2 + (1 - live) * size + size) → y.B j = x.B j := fun j hc => by unfold Dk.B; rw [hj j hc]
  -- with what is in y the old text is there still
  have hold : ∀ B' : Nat → List UInt8, (∀ j, ¬ (f + 2 + (1 - live) * size ≤ j ∧ j < f + 2 + (1 - live) * size + size) → j ≠ f + (1 - live) → B' j = x.B j) → Other (B' (f + (1 - live))) n → Content B' f size n t := by
    intro B' hB' hO
    refine ⟨live, hlive, h0, h1, ?_, hO, fun c hc => ?_⟩
    · rw [hB' _ (by rcases hlive with rfl | rfl <;> omega) (by omega)]; exact h2
    · rw [hB' _ (by rcases hlive with rfl | rfl <;> omega) (by rcases hlive with rfl | rfl <;> omega)]; exact h4 c hc
  -- the new text
  have hnew : ∀ B' : Nat → List UInt8, (∀ j, ¬ (f + 2 + (1 - live) * size ≤ j ∧ j < f + 2 + (1 - live) * size + size) → j ≠ f + (1 - live) → B' j = x.B j) → (∀ j, (f + 2 + (1 - live) * size ≤ j ∧ j < f + 2 + (1 - live) * size + size) → B' j = y.B j) → B' (f + (1 - live)) = headL (n + 1) s.size → Content B' f size (n + 1) s := by
    intro B' hB' hB2 hH
    refine ⟨1 - live, by omega, by omega, hs, hH, ?_, fun c hc => ?_⟩
    · rw [show f + (1 - (1 - live)) = f + live by omega, hB' _ (by rcases hlive with rfl | rfl <;> omega) (by omega), h2]
      exact Other.head n (n + 1) t.size hn (by omega)
    · rw [hB2 _ (by omega)]; exact hw c hc
  have hin : f + (1 - live) < y.L.length := by omega
  have hyS : ∀ ks i, ¬ (f + 2 + (1 - live) * size ≤ i ∧ i < f + 2 + (1 - live) * size + size) → (y.crash ks).B i = x.B i := by
    intro ks i hc
    rw [crash_B_safe y ks i (fun s hq => by rw [hj i hc] at hq; exact hU.safe s (mem_of_get hq)), hyB i hc]
  have hOy : Other (x.B (f + (1 - live))) n := h3
  unfold headF
  rw [if_pos rfl]
  show ((if y.syncR = 0 then _ else _ : Dk × Int)).1.L.length = _ ∧ _
  rcases sync_spec hd with ⟨q1, q2, q3⟩ | ⟨q1, q2, q3⟩
  · rw [q1, if_neg (by decide)]
    refine ⟨by rw [q3]; exact hl, .inr ⟨rfl, q2, by rw [q3]; exact hk, fun ks => .inl ?_⟩⟩
    have hL : (y.sync.crash ks).L = (y.crash ks).L := by unfold Dk.crash; rw [q3]
    have hB : ∀ i, (y.sync.crash ks).B i = (y.crash ks).B i := fun i => by unfold Dk.B; rw [hL]
    refine hold _ (fun j hc _ => by rw [hB]; exact hyS ks j hc) ?_
    rw [hB, hyS ks _ (by rcases hlive with rfl | rfl <;> omega)]; exact hOy
  · rw [q1, if_pos rfl]
    have hzU : Up y.sync := safe_up hk q2 q3
    have hzB : ∀ i, y.sync.B i = y.B i := fun i => safe_B y i _ q3
    have hzl : y.sync.L.length = x.L.length := by rw [q3, List.length_map]; exact hl
    generalize y.sync = z at hzU hzB hzl ⊢
    obtain ⟨a1, a2, a3, ⟨s0, a4, a5⟩, a6⟩ := write_spec (x := z) (i := f + (1 - live)) (t := headOf (n + 1) s.size) hzU.up (by omega) (by rw [headOf_size]; omega) hzU.ok
    have hpb : ∀ v, (s0.put (by_ (headOf (n + 1) s.size))) = v → v.b = headL (n + 1) s.size ∧ v.loose = true ∧ v.old = x.B (f + (1 - live)) := by
      rintro v rfl
      refine ⟨by rw [put_b]; exact fillOf_head _ _, ?_, ?_⟩
      · have h := hzU.safe s0 (mem_of_get a4)
        unfold Sec.put Sec.loosen; rw [if_neg (by rw [h]; decide)]
      · have h := hzU.safe s0 (mem_of_get a4)
        have e : s0.b = x.B (f + (1 - live)) := by rw [← B_of a4, hzB, hyB _ (by rcases hlive with rfl | rfl <;> omega)]
        unfold Sec.put Sec.loosen; rw [if_neg (by rw [h]; decide)]; exact e
    generalize s0.put (by_ (headOf (n + 1) s.size)) = v at a5 hpb
    obtain ⟨v1, v2, v3⟩ := hpb v rfl
    generalize z.write ((f + (1 - live) : Nat) : Int) (headOf (n + 1) s.size) = u at a1 a2 a3 a5 a6 ⊢
    have huB : ∀ j, j ≠ f + (1 - live) → u.B j = y.B j := fun j hc => by rw [← hzB]; unfold Dk.B; rw [a3 j hc]
    have huH : u.B (f + (1 - live)) = headL (n + 1) s.size := by rw [B_of a5, v1]
    -- torn
    have htorn : ∀ (u' : Dk), u'.L = u.L → ∀ ks, Content (u'.crash ks).B f size n t ∨ Content (u'.crash ks).B f size (n + 1) s := by
      intro u' hu' ks
      have hL : (u'.crash ks).L = (u.crash ks).L := by unfold Dk.crash; rw [hu']
      have hB : ∀ i, (u'.crash ks).B i = (u.crash ks).B i := fun i => by unfold Dk.B; rw [hL]
      have hfar : ∀ j, j ≠ f + (1 - live) → (u'.crash ks).B j = y.B j := fun j hc => by
        rw [hB, crash_B_safe u ks j (fun s hq => by rw [a3 j hc] at hq; exact hzU.safe s (mem_of_get hq)), huB j hc]
      have hc1 := crash_get u ks (f + (1 - live)) v a5
      rw [if_pos v2] at hc1
      have hc2 : (u'.crash ks).B (f + (1 - live)) = v.b.take (kAt ks ((looseTo u.L u.L.length).idxOf (f + (1 - live)))) ++ v.old.drop (kAt ks ((looseTo u.L u.L.length).idxOf (f + (1 - live)))) := by rw [hB, B_of hc1]; rfl
      rw [v1, v3] at hc2
      rcases Other.torn s.size _ (kAt_le ks ((looseTo u.L u.L.length).idxOf (f + (1 - live)))) hOy with e | e
      · right
        rw [e] at hc2
        exact hnew _ (fun j h1 h2 => by rw [hfar j h2, hyB j h1]) (fun j h1 => hfar j (by omega)) hc2
      · left
        rw [← hc2] at e
        exact hold _ (fun j h1 h2 => by rw [hfar j h2, hyB j h1]) e
    rw [a6]
    by_cases hud : u.down = true
    · rw [if_pos hud, if_neg (by omega)]
      exact ⟨a2.trans hzl, .inr ⟨rfl, hud, a1, htorn u rfl⟩⟩
    · have hud : u.down = false := by simpa using hud
      rw [if_neg (show ¬ (u.down = true) by rw [hud]; decide), if_pos rfl]
      rcases sync_spec hud with ⟨r1, r2, r3⟩ | ⟨r1, r2, r3⟩
      · exact ⟨(by rw [r3]; exact a2.trans hzl), .inr ⟨r1, r2, by rw [r3]; exact a1, htorn u.sync r3⟩⟩
      · have hfB : ∀ i, u.sync.B i = u.B i := fun i => safe_B u i _ r3
        refine ⟨by rw [r3, List.length_map]; exact a2.trans hzl, .inl ⟨r1, safe_up a1 r2 r3, ?_, fun i hi => ?_⟩⟩
        · exact hnew _ (fun j h1 h2 => by rw [hfB, huB j h2, hyB j h1]) (fun j h1 => by rw [hfB]; exact huB j (by omega)) (by rw [hfB]; exact huH)
        · show u.sync.B i = _
          rw [hfB, huB i (by omega), hyB i (by rcases hlive with rfl | rfl <;> omega)]
theorem save_law {x : Dk} {f size n : Nat} {t s : ByteArray} (hU : Up x) (hC : Content x.B f size n t) (hf : f + 2 + 2 * size ≤ x.L.length) (hs1 : 1 ≤ size) (hs2 : size ≤ 255) (hn : n + 1 ≤ 1099511627776) (hs : s.size ≤ 64 * size) :
    (x.saveF f size s).1.L.length = x.L.length ∧
    (((x.saveF f size s).2 = 0 ∧ Up (x.saveF f size s).1 ∧ Content (x.saveF f size s).1.B f size (n + 1) s ∧ ∀ i, ¬ (f ≤ i ∧ i < f + 2 + 2 * size) → (x.saveF f size s).1.B i = x.B i) ∨
     ((x.saveF f size s).2 = 12 ∧ (x.saveF f size s).1.down = true ∧ okL (x.saveF f size s).1.L ∧
        ∀ ks, Content ((x.saveF f size s).1.crash ks).B f size n t ∨ Content ((x.saveF f size s).1.crash ks).B f size (n + 1) s)) := by
  have hsl := hC.slots hs2 (by omega)
  obtain ⟨live, hl, h0, h1, h2, h3, h4⟩ := hC
  have hto : x.toN f size = 1 - live ∧ x.cnt f size = n + 1 := by
    rcases hsl with ⟨rfl, hk⟩ | ⟨h, hk, hsy, hh, _⟩ | ⟨h, hk, hsy, hh, _⟩
    · obtain ⟨rfl, _⟩ := h0 rfl
      unfold Dk.toN Dk.cnt
      rw [hk]; exact ⟨rfl, rfl⟩
    · have hl0 : live = 0 := by
        rcases hl with hl | rfl
        · exact hl
        · exfalso
          have h5 : x.B f = headL n t.size := hh
          have h3' : Other (x.B f) n := h3
          rw [h5] at h3'
          obtain ⟨_, _, m, k, hk8, hm, e1, e2⟩ := h3'
          rcases Other.says (size : Int) (by omega) (show Other (headL n t.size) n from ⟨headL_length _ _, by assumption, m, k, hk8, hm, e1, e2⟩) with h | h
          · rw [says_head n t.size size (by omega) (by omega) h1 hs2] at h; simp only [Prod.mk.injEq] at h; omega
          · rw [says_head n t.size size (by omega) (by omega) h1 hs2] at h; simp only at h; omega
      subst hl0
      unfold Dk.toN Dk.cnt
      rw [hk, hsy]
      refine ⟨rfl, ?_⟩
      rw [if_neg (by decide), if_pos rfl]; simp only; omega
    · have hl1 : live = 1 := by
        rcases hl with rfl | hl
        · exfalso
          have h5 : x.B (f + 1) = headL n t.size := hh
          have h3' : Other (x.B (f + 1)) n := h3
          rw [h5] at h3'
          rcases Other.says (size : Int) (by omega) h3' with h | h
          · rw [says_head n t.size size (by omega) (by omega) h1 hs2] at h; simp only [Prod.mk.injEq] at h; omega
          · rw [says_head n t.size size (by omega) (by omega) h1 hs2] at h; simp only at h; omega
        · exact hl
      subst hl1
      unfold Dk.toN Dk.cnt
      rw [hk, hsy]
      refine ⟨rfl, ?_⟩
      rw [if_neg (by decide), if_neg (by decide)]; simp only; omega
  unfold Dk.saveF
  rw [if_neg (by omega), if_neg (by rw [hU.up]; decide), hto.1, hto.2, if_neg (by omega)]
  obtain ⟨b1, b2, b3, b4⟩ := partsF_spec (f + 2 + (1 - live) * size) size s size 0 x hU.up hU.ok (by rcases hl with rfl | rfl <;> omega) (by omega) hs
  rcases b4 with ⟨b4, b5⟩ | ⟨b4, b5, b6⟩
  · generalize partsF (f + 2 + (1 - live) * size) s size 0 x = p at b1 b2 b3 b4 b5 ⊢
    have hp : headF (f + (1 - live)) (n + 1) s.size p = p := by unfold headF; rw [if_neg (by rw [b4]; decide)]
    rw [hp]
    refine ⟨b2, .inr ⟨b4, b5, b1, fun ks => .inl ?_⟩⟩
    have hyS : ∀ i, ¬ (f + 2 + (1 - live) * size ≤ i ∧ i < f + 2 + (1 - live) * size + size) → (p.1.crash ks).B i = x.B i := by
      intro i hc
      rw [crash_B_safe p.1 ks i (fun s hq => by rw [b3 i (by omega)] at hq; exact hU.safe s (mem_of_get hq))]
      unfold Dk.B; rw [b3 i (by omega)]
    refine ⟨live, hl, h0, h1, ?_, ?_, fun c hc => ?_⟩
    · rw [hyS _ (by rcases hl with rfl | rfl <;> omega)]; exact h2
    · rw [hyS _ (by rcases hl with rfl | rfl <;> omega)]; exact h3
    · rw [hyS _ (by rcases hl with rfl | rfl <;> omega)]; exact h4 c hc
  · have hp : partsF (f + 2 + (1 - live) * size) s size 0 x = ((partsF (f + 2 + (1 - live) * size) s size 0 x).1, 0) := by rw [← b4]
    rw [hp]
    exact headF_spec hs1 hl hn h0 h1 h2 h3 h4 hU hf hs b5 b1 b2 (fun j hj => b3 j (by omega)) (fun j hj => b6 j (by omega) hj)
/-! Load. -/
theorem partOf_by (t : ByteArray) (c : Nat) : by_ (partOf t c) = ((by_ t).drop (64 * c)).take 64 := by
  unfold partOf
  rw [by_extract]
  have hs := by_size t
  rw [List.drop_take]
  by_cases h : 64 * c + 64 ≤ t.size
  · rw [Nat.min_eq_left h]; congr 1; omega
  · rw [Nat.min_eq_right (by omega), List.take_of_length_le (by rw [List.length_drop]; omega), List.take_of_length_le (by rw [List.length_drop]; omega)]
theorem flat_take (g : Nat → List UInt8) (l : List UInt8) : ∀ (size : Nat), (∀ c, c < size → 64 * c < l.length → (g c).length = 64 ∧ ∀ j, j < 64 → 64 * c + j < l.length → (g c)[j]? = l[64 * c + j]?) → ∀ i, i < 64 * size → i < l.length → ((List.range size).flatMap g)[i]? = l[i]? := by
  intro size h i hi hl
  induction size with
  | zero => omega
  | succ size ih =>
    rw [List.range_succ, List.flatMap_append]
    by_cases hlt : 64 * size < l.length
    · have hfl : ∀ m, m ≤ size → ((List.range m).flatMap g).length = 64 * m := by
        intro m hm
        induction m with
        | zero => rfl
        | succ m ihm => rw [List.range_succ, List.flatMap_append, List.length_append, ihm (by omega)]; simp [(h m (by omega) (by omega)).1]; omega
      by_cases hi2 : i < 64 * size
      · rw [List.getElem?_append_left (by rw [hfl size (Nat.le_refl _)]; exact hi2)]
        exact ih (fun c hc => h c (by omega)) hi2
      · rw [List.getElem?_append_right (by rw [hfl size (Nat.le_refl _)]; omega), hfl size (Nat.le_refl _)]
        simp only [List.flatMap_cons, List.flatMap_nil, List.append_nil]
        rw [(h size (by omega) hlt).2 (i - 64 * size) (by omega) (by omega)]
        congr 1; omega
    · have hi2 : i < 64 * size := by omega
      have ih' := ih (fun c hc => h c (by omega)) hi2
      have hlen : i < ((List.range size).flatMap g).length := by
        rw [List.getElem?_eq_getElem hl] at ih'
        exact (List.getElem?_eq_some_iff.1 ih').1
      rw [List.getElem?_append_left hlen]; exact ih'
theorem field_text {x : Dk} {base size : Nat} {t : ByteArray} (hs : t.size ≤ 64 * size) (h : ∀ c, 64 * c < t.size → x.B (base + c) = fillOf (by_ (partOf t c))) : (fieldB x base size).take t.size = by_ t := by
  have hsz := by_size t
  have key : ∀ i, i < t.size → (fieldB x base size)[i]? = (by_ t)[i]? := by
    intro i hi
    refine flat_take (fun c => x.B (base + c)) (by_ t) size (fun c _ hc => ?_) i (by omega) (by omega)
    have hp := partOf_size t c
    have e := h c (by omega)
    refine ⟨by show (x.B (base + c)).length = 64; rw [e]; exact fillOf_length (by rw [← by_size]; exact hp), fun j hj hl => ?_⟩
    show (x.B (base + c))[j]? = _
    have hpl : (by_ (partOf t c)).length = min 64 ((by_ t).length - 64 * c) := by rw [partOf_by, List.length_take, List.length_drop]
    rw [e]
    unfold fillOf
    rw [List.getElem?_append_left (by omega), partOf_by, List.getElem?_take, if_pos hj, List.getElem?_drop]
  refine List.ext_getElem? fun i => ?_
  rw [List.getElem?_take]
  by_cases hi : i < t.size
  · rw [if_pos hi]; exact key i hi
  · rw [if_neg hi, List.getElem?_eq_none (by omega)]
theorem strOf_by (t : ByteArray) : strOf (by_ t) = t := rfl
theorem load_law {x : Dk} {f size n : Nat} {t : ByteArray} (hU : x.down = false) (hC : Content x.B f size n t) (hs2 : size ≤ 255) (hn : n ≤ 1099511627776) :
    x.loadF f size = if n = 0 then (⟨#[]⟩, 0, 9) else (t, (n : Int), 0) := by
  have hsz : t.size ≤ 64 * size := by obtain ⟨_, _, _, h, _⟩ := hC; exact h
  unfold Dk.loadF
  rw [if_neg (by rw [hU]; decide)]
  rcases hC.slots hs2 hn with ⟨rfl, hk⟩ | ⟨h, hk, hsy, hh, hO, hp⟩ | ⟨h, hk, hsy, hh, hO, hp⟩
  · rw [hk, if_pos (by decide), if_pos rfl]
  · rw [hk, if_neg (by decide), if_pos rfl, hsy, if_neg (by omega)]
    simp only [Int.toNat_natCast]
    rw [field_text hsz hp, strOf_by]
  · rw [hk, if_neg (by decide), if_neg (by decide), hsy, if_neg (by omega)]
    simp only [Int.toNat_natCast]
    rw [field_text hsz hp, strOf_by]
end Go.Proofs.Ytnddkodenkmoiaa
