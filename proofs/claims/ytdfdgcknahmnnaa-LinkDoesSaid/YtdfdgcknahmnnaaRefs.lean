/- The reference's calls, over rows of strings; its New. -/
import Derived.Test.YtdfdgcknahmnnaaRef
import Derived.RegionTactic
namespace Go.Proofs.Ytdfdgcknahmnnaa
open Go.RowKit Go.Proofs
set_option linter.unusedSimpArgs false
set_option linter.unusedVariables false

/-- The rows up (d = 0), down (d = 1), by clients. -/
def row (L : Nat → List ByteArray) (d : Nat) : Nat → List ByteArray := fun j => L (j * 2 + d)
theorem row_upd (L : Nat → List ByteArray) (n d : Nat) (xs : List ByteArray) (hd : d < 2) : row (upd L (n * 2 + d) xs) d = upd (row L d) n xs := by
  funext j
  unfold row upd
  by_cases h : j = n
  · subst h; simp
  · rw [if_neg (by omega), if_neg h]
theorem row_other (L : Nat → List ByteArray) (n d d' : Nat) (xs : List ByteArray) (hd : d < 2) (hd' : d' < 2) (h : d ≠ d') : row (upd L (n * 2 + d) xs) d' = row L d' := by
  funext j
  unfold row upd
  rw [if_neg (by omega)]
theorem vals_one (xs : List ByteArray) : ∀ u ∈ xs.map Value.string, u.oneCell' = true := by
  intro u hu
  obtain ⟨s, _, rfl⟩ := List.mem_map.1 hu
  rfl

theorem RPut_any (x u t N : Nat) (d : Nat) (hd : d < 2) (n : Int) (s : ByteArray) (w : World) (L : Nat → List ByteArray) (hc : w.cell? ⟨x, 0, none⟩ = some (.slice (some ⟨u, 0, none⟩) N N)) (hT : Tab w t 40 9 [] N (vals (row L d))) :
    Calls Try.prog 27 #[.pointer (some ⟨x, 0, none⟩), .slice (some ⟨t, 0, none⟩) N N, .int .i64 n, .string s] w fun e w' => e = .returned (.int .i64 (putE N n s L d)) ∧ Tab w' t 40 9 [] N (vals (row (putM N n s L d) d)) ∧ OnlyAt t w w' := by
  by_cases hb : isB n N = true
  · by_cases hs : s.size ≤ 16384
    · obtain ⟨h0, hN⟩ := isB_true hb
      obtain ⟨m, rfl⟩ := Int.eq_ofNat_of_zero_le h0
      have hm : m < N := by omega
      have em : (m : Int).toNat = m := by omega
      obtain ⟨v, hv, hrow⟩ := hT.get hm
      simp only [List.length_nil, Nat.zero_add] at hv
      obtain ⟨ao, k, c, rfl, hnone, hlen, hkc, hcell⟩ := row_parts hrow
      have hk' : (L (m * 2 + d)).length = k := by simpa [vals, row] using hlen
      by_cases hl : (L (m * 2 + d)).length < 128
      · have e1 : putE N m s L d = 0 := by simp only [putE, em, hb, hs, hl, and_self, if_true]
        have e2 : putM N m s L d = upd L (m * 2 + d) (L (m * 2 + d) ++ [s]) := by
          unfold putM
          rw [em, if_pos ⟨hb, hs, hl⟩]
        rw [e1, e2]
        have fin : ∀ (e : Ending) (w' : World), (e = .returned (.int .i64 0) ∧ ∃ v w1, Below w.heap.size w w1 ∧ w1.ownsRow w.heap.size 9 1 v (k + 1) (vals (row L d) m ++ [.string s]) ∧ w' = w1.setCell ⟨t, m, none⟩ v) →
            e = .returned (.int .i64 0) ∧ Tab w' t 40 9 [] N (vals (row (upd L (m * 2 + d) (L (m * 2 + d) ++ [s])) d)) ∧ OnlyAt t w w' := by
          rintro e w' ⟨he, v', w1, hB, ho, rfl⟩
          refine ⟨he, ?_, grownBy_setCell (grownBy_of_below hB _) rfl _⟩
          rw [row_upd _ _ _ _ hd, ← vals_upd]
          have := (hT.below hB).set (by decide) hm (k := m) (by simp) (RowV.of_own ho)
          simpa [vals, row] using this
        rcases ao with _ | a
        · obtain ⟨rfl, rfl⟩ := hnone rfl
          exact (RPut_none x u t N m s w hc hm hb hs hT.lt hv (hT.frozen _) _ (by simpa using hlen : _ = 0 * 1) hcell (vals_one _)).mono fun e w' he => fin e w' he
        · exact (RPut_some x u t N m s w hc hm hb hs hT.lt a k c (by omega) hv (hT.frozen _) _ (by simpa using hlen : _ = k * 1) hcell (vals_one _)).mono fun e w' he => fin e w' he
      · have e1 : putE N m s L d = 11 := by simp only [putE, em, hb, hs, hl, and_self, if_true, if_false]
        have e2 : putM N m s L d = L := by
          unfold putM
          rw [em, if_neg (fun hh => hl hh.2.2)]
        rw [e1, e2]
        refine (RPut_full x u t N m s w hc hm hb hs ao k c hv (by omega)).mono fun e w' ⟨he, hw⟩ => ⟨he, ?_⟩
        subst hw
        exact ⟨hT, World.grownBy.refl _ _⟩
    · have e1 : putE N n s L d = 2 := by simp only [putE, hs, and_false, if_false]
      have e2 : putM N n s L d = L := by
        unfold putM
        rw [if_neg (fun hh => hs hh.2.1)]
      rw [e1, e2]
      refine (RPut_bad x u N _ n s w hc (.inr (by omega))).mono fun e w' ⟨he, hw⟩ => ⟨he, ?_⟩
      subst hw
      exact ⟨hT, World.grownBy.refl _ _⟩
  · have e1 : putE N n s L d = 2 := by
      unfold putE
      rw [if_neg (fun hh => hb hh.1)]
    have e2 : putM N n s L d = L := by
      unfold putM
      rw [if_neg (fun hh => hb hh.1)]
    rw [e1, e2]
    refine (RPut_bad x u N _ n s w hc (.inl (by simpa using hb))).mono fun e w' ⟨he, hw⟩ => ⟨he, ?_⟩
    subst hw
    exact ⟨hT, World.grownBy.refl _ _⟩

theorem RTake_any (x u t N : Nat) (d : Nat) (hd : d < 2) (n : Int) (w : World) (L : Nat → List ByteArray) (hc : w.cell? ⟨x, 0, none⟩ = some (.slice (some ⟨u, 0, none⟩) N N)) (hT : Tab w t 40 9 [] N (vals (row L d))) :
    Calls Try.prog 21 #[.pointer (some ⟨x, 0, none⟩), .slice (some ⟨t, 0, none⟩) N N, .int .i64 n] w fun e w' => e = .returned (.tuple #[.string (takeS N n L d), .bool (takeB N n L d)]) ∧ Tab w' t 40 9 [] N (vals (row (takeM N n L d) d)) ∧ OnlyAt t w w' := by
  cases hb : isB n N with
  | false =>
    have e1 : takeS N n L d = ByteArray.empty := by simp [takeS, hb]
    have e2 : takeB N n L d = false := by simp [takeB, hb]
    have e3 : takeM N n L d = L := by simp [takeM, hb]
    rw [e1, e2, e3]
    refine (RTake_bad x u N _ n w hc hb).mono fun e w' ⟨he, hw⟩ => ⟨he, ?_⟩
    subst hw
    exact ⟨hT, World.grownBy.refl _ _⟩
  | true =>
    obtain ⟨h0, hN⟩ := isB_true hb
    obtain ⟨m, rfl⟩ := Int.eq_ofNat_of_zero_le h0
    have hm : m < N := by omega
    have em : (m : Int).toNat = m := by omega
    obtain ⟨v, hv, hrow⟩ := hT.get hm
    simp only [List.length_nil, Nat.zero_add] at hv
    have e3 : takeM N m L d = upd L (m * 2 + d) (L (m * 2 + d)).tail := by simp [takeM, hb, em]
    rw [e3]
    cases hl : L (m * 2 + d) with
    | nil =>
      have e1 : takeS N m L d = ByteArray.empty := by simp [takeS, hb, em, hl]
      have e2 : takeB N m L d = false := by simp [takeB, hb, em, hl]
      rw [e1, e2, upd_id L _ (by rw [hl]; rfl)]
      obtain ⟨ao, k, c, rfl, _, hlen, _, _⟩ := row_parts hrow
      obtain rfl : k = 0 := by rw [← hlen]; simp [vals, row, hl]
      refine (RTake_none x u t N m w hc hm hb ao c hv).mono fun e w' ⟨he, hw⟩ => ⟨he, ?_⟩
      subst hw
      exact ⟨hT, World.grownBy.refl _ _⟩
    | cons y ys =>
      have e1 : takeS N m L d = y := by simp [takeS, hb, em, hl]
      have e2 : takeB N m L d = true := by simp [takeB, hb, em, hl]
      rw [e1, e2, List.tail_cons, row_upd _ _ _ _ hd, ← vals_upd]
      have hr2 : RowV w 9 v (.string y :: ys.map Value.string) := by
        have e : vals (row L d) m = .string y :: ys.map Value.string := by simp [vals, row, hl]
        rw [← e]
        exact hrow
      obtain ⟨b, o, k, c, rfl⟩ := hr2.full
      obtain ⟨h1, h2, h3, h4, h5⟩ := hr2.cut
      have fin : ∀ v', RowV w 9 v' (ys.map Value.string) → Tab (w.setCell ⟨t, m, none⟩ v') t 40 9 [] N (upd (vals (row L d)) m (ys.map Value.string)) ∧ OnlyAt t w (w.setCell ⟨t, m, none⟩ v') := fun v' hv' =>
        ⟨hT.set (by decide) hm (by simp) hv', grownBy_setCell (World.grownBy.refl w _) rfl _⟩
      have hk : k = ys.length + 1 := by simpa using h2
      by_cases hc1 : c = 1
      · subst hc1
        have hys : ys = [] := List.eq_nil_of_length_eq_zero (by omega)
        subst hys
        refine (RTake_one x u t N m w hc hm hb b o k hv (hT.frozen _) (by omega) h3 y h1).mono fun e w' ⟨he, hw⟩ => ⟨he, ?_⟩
        subst hw
        have : k - 1 = 0 := by omega
        rw [this]
        exact fin _ (h5 rfl o)
      · refine (RTake_more x u t N m w hc hm hb b o k c (by omega) hv (hT.frozen _) (by omega) h3 y h1).mono fun e w' ⟨he, hw⟩ => ⟨he, ?_⟩
        subst hw
        have : k - 1 = (ys.map Value.string).length := by simp; omega
        rw [this]
        exact fin _ (h4 (c - 1) (by simp; omega))

theorem run_make_rowN {P : Program} (t e : TypeId) (i : TypeInfo) (z : Value) (ht : P.underlying t = some (.slice e)) (hi : P.info? e = some i) (hz : i.zero = some z)
    (kl kc : IntKind) (n c : Nat) (hnc : n ≤ c) (hbytes : i.bytes * c ≤ 281474976710656) (h63 : c ≤ 9223372036854775807) (w : World) :
    (Instr.makeSlice t (.int kl (n : Int)) (.int kc (c : Int))).run P w = .ok (.slice (some ⟨w.heap.size, 0, none⟩) n c) (w.alloc (.cells (madeCells z.cells (c * i.size)) e)) := by
  have hb : (i.bytes : Int) * (c : Int) ≤ 281474976710656 := by
    have h : ((i.bytes * c : Nat) : Int) ≤ 281474976710656 := by omega
    rwa [Int.natCast_mul] at h
  have hr := run_make (P := P) w t e i z ht hi hz kl kc n c (by omega) (by omega) hb (by omega)
  simp only [Int.toNat_natCast] at hr
  exact hr

/-- The links that both keep. -/
structure Sync (w : World) (g x u d N : Nat) (L : Nat → List ByteArray) : Prop where
  link : LinkA w g N L
  ref : RefAt w x u d N (row L 0) (row L 1)

theorem made_eq (N : Nat) : madeCells #[Value.slice none 0 0] N = (List.replicate N (Value.slice none 0 0)).toArray := by
  apply Array.ext'
  simp only [madeCells, Array.toList_map, List.size_toArray, List.length_cons, List.length_nil, Nat.zero_add, Nat.mod_one]
  apply List.ext_getElem
  · simp
  · intro i h1 h2
    simp
theorem new_ref (w : World) (N p q : Nat) (h : (p = w.heap.size ∧ q = w.heap.size + 1) ∨ (p = w.heap.size + 1 ∧ q = w.heap.size)) :
    RefAt (((w.alloc (.cells (madeCells #[Value.slice none 0 0] N) 40)).alloc (.cells (madeCells #[Value.slice none 0 0] N) 40)).alloc (.cells #[.slice (some ⟨p, 0, none⟩) N N, .slice (some ⟨q, 0, none⟩) N N] 48)) (w.heap.size + 2) p q N (row (fun _ => []) 0) (row (fun _ => []) 1) := by
  rw [made_eq]
  have t1 : Tab (w.alloc (.cells (List.replicate N (Value.slice none 0 0)).toArray 40)) w.heap.size 40 9 [] N (vals (fun _ => [])) := Tab.new w 40 9 [] N
  have t2 : Tab ((w.alloc (.cells (List.replicate N (Value.slice none 0 0)).toArray 40)).alloc (.cells (List.replicate N (Value.slice none 0 0)).toArray 40)) (w.heap.size + 1) 40 9 [] N (vals (fun _ => [])) := by
    have := Tab.new (w.alloc (.cells (List.replicate N (Value.slice none 0 0)).toArray 40)) 40 9 [] N
    rw [World.size_alloc] at this
    exact this
  have t1' := (t1.grown (World.grownBy_alloc _ (.cells (List.replicate N (Value.slice none 0 0)).toArray 40) none)).grown (World.grownBy_alloc _ (.cells #[.slice (some ⟨p, 0, none⟩) N N, .slice (some ⟨q, 0, none⟩) N N] 48) none)
  have t2' := t2.grown (World.grownBy_alloc _ (.cells #[.slice (some ⟨p, 0, none⟩) N N, .slice (some ⟨q, 0, none⟩) N N] 48) none)
  have hb : Blk (((w.alloc (.cells (List.replicate N (Value.slice none 0 0)).toArray 40)).alloc (.cells (List.replicate N (Value.slice none 0 0)).toArray 40)).alloc (.cells #[.slice (some ⟨p, 0, none⟩) N N, .slice (some ⟨q, 0, none⟩) N N] 48)) (w.heap.size + 2) 48 #[.slice (some ⟨p, 0, none⟩) N N, .slice (some ⟨q, 0, none⟩) N N] := by
    have := Blk.new ((w.alloc (.cells (List.replicate N (Value.slice none 0 0)).toArray 40)).alloc (.cells (List.replicate N (Value.slice none 0 0)).toArray 40)) 48 #[.slice (some ⟨p, 0, none⟩) N N, .slice (some ⟨q, 0, none⟩) N N]
    simpa using this
  rcases h with ⟨rfl, rfl⟩ | ⟨rfl, rfl⟩
  · exact ⟨hb, t1', t2', by omega⟩
  · exact ⟨hb, t2', t1', by omega⟩

set_option maxRecDepth 100000 in
set_option maxHeartbeats 2000000 in
theorem RNew (N : Nat) (hN : 2 ≤ N) (hN8 : N ≤ 8) (w : World) :
    Calls Try.prog 14 #[.int .i64 N] w fun e w' => ∃ u d, e = .returned (.pointer (some ⟨w.heap.size + 2, 0, none⟩)) ∧ RefAt w' (w.heap.size + 2) u d N (row (fun _ => []) 0) (row (fun _ => []) 1) ∧ w.grownBy w' none ∧ w.heap.size ≤ u ∧ w.heap.size ≤ d := by
  obtain ⟨i0, hi, hz0, hz1, hz2⟩ := info_parts info40
  have hmk := fun W => run_make_rowN (P := Try.prog) 46 40 i0 (.slice none 0 0) Try.underlying46 hi hz0 .i64 .i64 N N (Nat.le_refl _) (by rw [hz2]; omega) (by omega) W
  rw [hz1] at hmk
  have HI := Lib.hid hi
  clear hi
  go_enter Try.func14, Try.ntmps14
  go_wp2_with fail
  go_region
  all_goals go_wp2_with fail
  all_goals go_ret
  · have h := new_ref w N w.heap.size (w.heap.size + 1) (.inl ⟨rfl, rfl⟩)
    exact ⟨_, _, rfl, ⟨h.blk, h.up, h.down, h.ne⟩, ⟨rfl, rfl, rfl, by simp; omega, fun k hk _ => by rw [show ∀ W : World, W.drew.heap = W.heap from fun _ => rfl, Below.heap_alloc _ _ _ (by simp; omega), Below.heap_alloc _ _ _ (by simp; omega), Below.heap_alloc _ _ _ hk]⟩, by omega, by omega⟩
  · have h := new_ref w N (w.heap.size + 1) w.heap.size (.inr ⟨rfl, rfl⟩)
    exact ⟨_, _, rfl, ⟨h.blk, h.up, h.down, h.ne⟩, ⟨rfl, rfl, rfl, by simp; omega, fun k hk _ => by rw [show ∀ W : World, W.drew.heap = W.heap from fun _ => rfl, Below.heap_alloc _ _ _ (by simp; omega), Below.heap_alloc _ _ _ (by simp; omega), Below.heap_alloc _ _ _ hk]⟩, by omega, by omega⟩
end Go.Proofs.Ytdfdgcknahmnnaa
