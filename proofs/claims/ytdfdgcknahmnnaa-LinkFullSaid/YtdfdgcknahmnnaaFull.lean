/- The walk of LinkFull: it comes to true. -/
import Derived.Test.YtdfdgcknahmnnaaAwake
namespace Go.Proofs.Ytdfdgcknahmnnaa
open Go.RowKit Go.Proofs
set_option linter.unusedSimpArgs false
set_option linter.unusedVariables false

theorem rowsOf_at (j n : Nat) : rowsOf j n j = List.replicate n sA := upd_same _ _ _
theorem rowsOf_else {i j : Nat} (n : Nat) (h : i ≠ j) : rowsOf j n i = [] := upd_other _ _ h
theorem rowsOf_le (j n : Nat) (h : n ≤ 128) : ∀ i, (rowsOf j n i).length ≤ 128 := by
  intro i
  by_cases e : i = j
  · rw [e, rowsOf_at]; simpa using h
  · rw [rowsOf_else n e]; simp
theorem put_room (c n d : Nat) (hc : c < 8) (h : n < 128) : putE 8 c sA (rowsOf (c * 2 + d) n) d = 0 ∧ putM 8 c sA (rowsOf (c * 2 + d) n) d = rowsOf (c * 2 + d) (n + 1) := by
  have hb : isB (c : Int) 8 = true := isB_of (by omega) (by omega)
  have hs : sA.size ≤ 16384 := by decide
  have e : (c : Int).toNat = c := by omega
  unfold putE putM
  rw [e, rowsOf_at, if_pos ⟨hb, hs⟩, List.length_replicate, if_pos h, if_pos ⟨hb, hs, h⟩]
  refine ⟨rfl, ?_⟩
  funext i
  by_cases hi : i = c * 2 + d
  · subst hi; rw [upd_same, rowsOf_at, List.replicate_succ']
  · rw [upd_other _ _ hi, rowsOf_else _ hi, rowsOf_else _ hi]
theorem put_none (c n d : Nat) (hc : c < 8) (h : 128 ≤ n) : putE 8 c sA (rowsOf (c * 2 + d) n) d = 11 ∧ putM 8 c sA (rowsOf (c * 2 + d) n) d = rowsOf (c * 2 + d) n := by
  have hb : isB (c : Int) 8 = true := isB_of (by omega) (by omega)
  have hs : sA.size ≤ 16384 := by decide
  have e : (c : Int).toNat = c := by omega
  have h' : ¬ n < 128 := by omega
  unfold putE putM
  rw [e, rowsOf_at, if_pos ⟨hb, hs⟩, List.length_replicate, if_neg h', if_neg (fun hh => h' hh.2.2)]
  exact ⟨rfl, rfl⟩
theorem len_rows (c n d : Nat) (hc : c < 8) : lenM 8 c (rowsOf (c * 2 + d) n) d = n := by
  have hb : isB (c : Int) 8 = true := isB_of (by omega) (by omega)
  have e : (c : Int).toNat = c := by omega
  unfold lenM
  rw [e, rowsOf_at, if_pos hb, List.length_replicate]
theorem len_rows' (c n d d' : Nat) (hd : d ≠ d') (hc : c < 8) : lenM 8 c (rowsOf (c * 2 + d) n) d' = 0 := by
  have hb : isB (c : Int) 8 = true := isB_of (by omega) (by omega)
  have e : (c : Int).toNat = c := by omega
  unfold lenM
  rw [e, rowsOf_else _ (by omega), if_pos hb, List.length_nil]
theorem empty_rows (j n c : Nat) (hn : 0 < n) (hj : j < 16) (hc : c < 8) : emptyAt 8 (rowsOf j n) c = decide (c ≠ j / 2) := by
  have hb : isB (c : Int) 8 = true := isB_of (by omega) (by omega)
  have e : (c : Int).toNat = c := by omega
  unfold emptyAt lenM
  rw [e, if_pos hb, if_pos hb]
  by_cases h : c = j / 2
  · by_cases h0 : c * 2 + 0 = j
    · rw [h0, rowsOf_at, List.length_replicate, decide_eq_false (by omega), decide_eq_false (fun hh => hh h)]
    · have h1 : c * 2 + 1 = j := by omega
      rw [h1, rowsOf_at, List.length_replicate, decide_eq_false (by omega), decide_eq_false (fun hh => hh h)]
  · rw [rowsOf_else _ (by omega), rowsOf_else _ (by omega)]; simp [h]
theorem quiet_some (j n : Nat) (hn : 0 < n) (hj : j < 16) : quietTo 8 (rowsOf j n) 8 = false := by
  have h0 := empty_rows j n 0 hn hj (by omega)
  have h1 := empty_rows j n 1 hn hj (by omega)
  have h2 := empty_rows j n 2 hn hj (by omega)
  have h3 := empty_rows j n 3 hn hj (by omega)
  have h4 := empty_rows j n 4 hn hj (by omega)
  have h5 := empty_rows j n 5 hn hj (by omega)
  have h6 := empty_rows j n 6 hn hj (by omega)
  have h7 := empty_rows j n 7 hn hj (by omega)
  simp only [quietTo, h0, h1, h2, h3, h4, h5, h6, h7]
  have : j / 2 < 8 := by omega
  generalize j / 2 = q at *
  match q, this with
  | 0, _ => rfl
  | 1, _ => rfl
  | 2, _ => rfl
  | 3, _ => rfl
  | 4, _ => rfl
  | 5, _ => rfl
  | 6, _ => rfl
  | 7, _ => rfl
theorem quiet_none (j : Nat) : quietTo 8 (rowsOf j 0) 8 = true := by
  have : rowsOf j 0 = L0 := upd_id _ _ rfl
  rw [this]
  decide

theorem fUp (g c k : Nat) (ci : Int) (hci : ci = (c : Int)) (r : Int) (hr : r = if k < 128 then 0 else 11) (hc : c < 8) (w : World) (h : LinkA w g 8 (rowsOf (c * 2 + 0) (min k 128))) :
    Calls Try.prog 10 #[.pointer (some ⟨g, 0, none⟩), .int .i64 ci, .string ⟨#[97]⟩] w fun e w' => e = .returned (.int .i64 r) ∧ Moved g 8 (rowsOf (c * 2 + 0) (min (k + 1) 128)) w w' := by
  subst hci
  subst hr
  have := Up_any g c 8 sA w _ h
  by_cases hk : k < 128
  · have e := put_room c (min k 128) 0 hc (by omega)
    rw [e.1, e.2] at this
    rw [if_pos hk, show min (k + 1) 128 = min k 128 + 1 from by omega]
    exact this
  · have e := put_none c (min k 128) 0 hc (by omega)
    rw [e.1, e.2] at this
    rw [if_neg hk, show min (k + 1) 128 = min k 128 from by omega]
    exact this
theorem fLenUp (g c n : Nat) (ci : Int) (hci : ci = (c : Int)) (hc : c < 8) (w : World) (h : LinkA w g 8 (rowsOf (c * 2 + 0) n)) :
    Calls Try.prog 12 #[.pointer (some ⟨g, 0, none⟩), .int .i64 ci] w fun e w' => e = .returned (.tuple #[.int .i64 (n : Nat), .int .i64 (0 : Nat)]) ∧ ∃ k, w' = w.drewN k := by
  subst hci
  have := Len_a g c 8 w _ h
  rw [len_rows c n 0 hc, len_rows' c n 0 1 (by omega) hc] at this
  exact this

theorem fDown (g c k : Nat) (ci : Int) (hci : ci = (c : Int)) (r : Int) (hr : r = if k < 128 then 0 else 11) (hc : c < 8) (w : World) (h : LinkA w g 8 (rowsOf (c * 2 + 1) (min k 128))) :
    Calls Try.prog 11 #[.pointer (some ⟨g, 0, none⟩), .int .i64 ci, .string ⟨#[97]⟩] w fun e w' => e = .returned (.int .i64 r) ∧ Moved g 8 (rowsOf (c * 2 + 1) (min (k + 1) 128)) w w' := by
  subst hci
  subst hr
  have := Down_any g c 8 sA w _ h
  by_cases hk : k < 128
  · have e := put_room c (min k 128) 1 hc (by omega)
    rw [e.1, e.2] at this
    rw [if_pos hk, show min (k + 1) 128 = min k 128 + 1 from by omega]
    exact this
  · have e := put_none c (min k 128) 1 hc (by omega)
    rw [e.1, e.2] at this
    rw [if_neg hk, show min (k + 1) 128 = min k 128 from by omega]
    exact this
theorem fLenDown (g c n : Nat) (ci : Int) (hci : ci = (c : Int)) (hc : c < 8) (w : World) (h : LinkA w g 8 (rowsOf (c * 2 + 1) n)) :
    Calls Try.prog 12 #[.pointer (some ⟨g, 0, none⟩), .int .i64 ci] w fun e w' => e = .returned (.tuple #[.int .i64 (0 : Nat), .int .i64 (n : Nat)]) ∧ ∃ k, w' = w.drewN k := by
  subst hci
  have := Len_a g c 8 w _ h
  rw [len_rows c n 1 hc, len_rows' c n 1 0 (by omega) hc] at this
  exact this

theorem fQuiet (g j n : Nat) (hn : 0 < n) (hj : j < 16) (w : World) (h : LinkA w g 8 (rowsOf j n)) :
    Calls Try.prog 13 #[.pointer (some ⟨g, 0, none⟩)] w fun e w' => e = .returned (.bool false) ∧ w.grownBy w' none := by
  have := Quiet_any g 8 w _ h
  rw [quiet_some j n hn hj] at this
  exact this
theorem fQuiet0 (g j : Nat) (w : World) (h : LinkA w g 8 (rowsOf j 0)) :
    Calls Try.prog 13 #[.pointer (some ⟨g, 0, none⟩)] w fun e w' => e = .returned (.bool true) ∧ w.grownBy w' none := by
  have := Quiet_any g 8 w _ h
  rw [quiet_none j] at this
  exact this

set_option maxRecDepth 100000 in
set_option maxHeartbeats 2000000 in
theorem LinkFull_Up (m c : Nat) (hm : m < 256) (hc : c < 256) (w : World) :
    Calls Try.prog 3 #[.int .u8 m, .int .u8 c, .bool true] w fun e w' => e = .returned (.bool true) ∧ Below w.heap.size w w' := by
  have hc8 : c % 8 < 8 := by omega
  go_enter Try.func3, Try.ntmps3
  go_wp2_with fail
  refine (New_a 8 w (by omega) (by omega)).mono ?_
  rintro e w1 ⟨rfl, hL0, hg, hsz⟩
  have hB := Lib.hid (below_of_grown (B := w.heap.size) hg (Nat.le_refl _))
  have hz : w.heap.size ≤ w1.heap.size := by omega
  have HL : Hid (LinkA w1 w.heap.size 8 (rowsOf (c % 8 * 2 + 0) 0)) := by
    have e : rowsOf (c % 8 * 2 + 0) 0 = L0 := upd_id _ _ rfl
    rw [e]; exact hL0
  clear hL0 hg hsz
  go_wp2_with fail
  refine (awake_any w1).mono ?_
  rintro e w2 ⟨rfl, hb2⟩
  have HL := Lib.hid (HL.out.below hb2)
  have hB := Lib.hid (hB.out.trans (hb2.mono hz))
  have hz := hB.out.size
  clear hb2
  go_wp2_with fail
  go_loopw [10] (fun i wr => ∃ k : Nat, k ≤ m ∧ i = .int .i64 k ∧ Below w.heap.size w wr ∧ LinkA wr w.heap.size 8 (rowsOf (c % 8 * 2 + 0) (min k 128))) (fun i _ => m - (intOf i).toNat)
  case atStart =>
    exact ⟨0, by omega, rfl, hB.out, HL.out⟩
  case round =>
    obtain ⟨k, hk, rfl, hBr, hLr⟩ := hrel
    clear hB HL
    have hB := Lib.hid hBr
    have HL := Lib.hid hLr
    have hz := hBr.size
    clear hBr hLr
    by_cases hlt : k < m
    · by_cases hk : k < 128
      · go_wp2_with fail
        refine (fUp w.heap.size (c % 8) k _ (by omega) 0 (by rw [if_pos hk]) hc8 wr HL.out).mono ?_
        rintro e w' ⟨rfl, hm⟩
        have HL := Lib.hid hm.link
        have hB := Lib.hid (hm.below hB.out (Nat.le_refl _) hz)
        clear hm
        go_wp2_with fail
        go_roundw
        case rel => exact ⟨k + 1, by omega, by go_num, hB.out, HL.out⟩
        case measure => simp [intOf]; omega
      · go_wp2_with fail
        refine (fUp w.heap.size (c % 8) k _ (by omega) 11 (by rw [if_neg hk]) hc8 wr HL.out).mono ?_
        rintro e w' ⟨rfl, hm⟩
        have HL := Lib.hid hm.link
        have hB := Lib.hid (hm.below hB.out (Nat.le_refl _) hz)
        clear hm
        go_wp2_with fail
        go_roundw
        case rel => exact ⟨k + 1, by omega, by go_num, hB.out, HL.out⟩
        case measure => simp [intOf]; omega
    · have hkm : k = m := by omega
      subst hkm
      by_cases h0 : k = 0
      · subst h0
        have HL : Hid (LinkA wr w.heap.size 8 (rowsOf (c % 8 * 2 + 0) 0)) := HL.out
        go_wp2_with fail
        refine (fLenUp w.heap.size (c % 8) 0 _ (by omega) hc8 wr HL.out).mono ?_
        rintro e w' ⟨rfl, q, rfl⟩
        go_wp2_with fail
        refine (fQuiet0 w.heap.size (c % 8 * 2 + 0) _ (HL.out.drewN q)).mono ?_
        rintro e w' ⟨rfl, hg⟩
        have hB := Lib.hid ((hB.out.drewN q).trans (below_of_grown hg hz))
        clear hg
        go_wp2_with fail
        go_ret
        exact ⟨rfl, hB.out⟩
      · have hkp : 0 < k := by omega
        have hkb : ((k : Int) == 0) = false := beq_eq_false_iff_ne.2 (by omega)
        have go : ∀ v : Nat, min k 128 = v → 0 < v → v ≤ 128 → Hid (LinkA wr w.heap.size 8 (rowsOf (c % 8 * 2 + 0) v)) := fun v hv _ _ => by have := HL.out; rwa [hv] at this
        rcases (by omega : k < 128 ∨ k = 128 ∨ 128 < k) with hk128 | hk128 | hk128
        · have HL := go k (by omega) (by omega) (by omega)
          clear go
          go_wp2_with fail
          refine (fLenUp w.heap.size (c % 8) k _ (by omega) hc8 wr HL.out).mono ?_
          rintro e w' ⟨rfl, q, rfl⟩
          go_wp2_with fail
          refine (fQuiet w.heap.size (c % 8 * 2 + 0) k (by omega) (by omega) _ (HL.out.drewN q)).mono ?_
          rintro e w' ⟨rfl, hg⟩
          have hB := Lib.hid ((hB.out.drewN q).trans (below_of_grown hg hz))
          clear hg
          go_wp2_with fail
          go_ret
          exact ⟨rfl, hB.out⟩
        · have HL := go 128 (by omega) (by omega) (by omega)
          clear go
          subst hk128
          go_wp2_with fail
          refine (fLenUp w.heap.size (c % 8) 128 _ (by omega) hc8 wr HL.out).mono ?_
          rintro e w' ⟨rfl, q, rfl⟩
          go_wp2_with fail
          refine (fQuiet w.heap.size (c % 8 * 2 + 0) 128 (by omega) (by omega) _ (HL.out.drewN q)).mono ?_
          rintro e w' ⟨rfl, hg⟩
          have hB := Lib.hid ((hB.out.drewN q).trans (below_of_grown hg hz))
          clear hg
          go_wp2_with fail
          go_ret
          exact ⟨rfl, hB.out⟩
        · have HL := go 128 (by omega) (by omega) (by omega)
          clear go
          go_wp2_with fail
          refine (fLenUp w.heap.size (c % 8) 128 _ (by omega) hc8 wr HL.out).mono ?_
          rintro e w' ⟨rfl, q, rfl⟩
          go_wp2_with fail
          refine (fQuiet w.heap.size (c % 8 * 2 + 0) 128 (by omega) (by omega) _ (HL.out.drewN q)).mono ?_
          rintro e w' ⟨rfl, hg⟩
          have hB := Lib.hid ((hB.out.drewN q).trans (below_of_grown hg hz))
          clear hg
          go_wp2_with fail
          go_ret
          exact ⟨rfl, hB.out⟩

set_option maxRecDepth 100000 in
set_option maxHeartbeats 2000000 in
theorem LinkFull_Down (m c : Nat) (hm : m < 256) (hc : c < 256) (w : World) :
    Calls Try.prog 3 #[.int .u8 m, .int .u8 c, .bool false] w fun e w' => e = .returned (.bool true) ∧ Below w.heap.size w w' := by
  have hc8 : c % 8 < 8 := by omega
  go_enter Try.func3, Try.ntmps3
  go_wp2_with fail
  refine (New_a 8 w (by omega) (by omega)).mono ?_
  rintro e w1 ⟨rfl, hL0, hg, hsz⟩
  have hB := Lib.hid (below_of_grown (B := w.heap.size) hg (Nat.le_refl _))
  have hz : w.heap.size ≤ w1.heap.size := by omega
  have HL : Hid (LinkA w1 w.heap.size 8 (rowsOf (c % 8 * 2 + 1) 0)) := by
    have e : rowsOf (c % 8 * 2 + 1) 0 = L0 := upd_id _ _ rfl
    rw [e]; exact hL0
  clear hL0 hg hsz
  go_wp2_with fail
  refine (awake_any w1).mono ?_
  rintro e w2 ⟨rfl, hb2⟩
  have HL := Lib.hid (HL.out.below hb2)
  have hB := Lib.hid (hB.out.trans (hb2.mono hz))
  have hz := hB.out.size
  clear hb2
  go_wp2_with fail
  go_loopw [10] (fun i wr => ∃ k : Nat, k ≤ m ∧ i = .int .i64 k ∧ Below w.heap.size w wr ∧ LinkA wr w.heap.size 8 (rowsOf (c % 8 * 2 + 1) (min k 128))) (fun i _ => m - (intOf i).toNat)
  case atStart =>
    exact ⟨0, by omega, rfl, hB.out, HL.out⟩
  case round =>
    obtain ⟨k, hk, rfl, hBr, hLr⟩ := hrel
    clear hB HL
    have hB := Lib.hid hBr
    have HL := Lib.hid hLr
    have hz := hBr.size
    clear hBr hLr
    by_cases hlt : k < m
    · by_cases hk : k < 128
      · go_wp2_with fail
        refine (fDown w.heap.size (c % 8) k _ (by omega) 0 (by rw [if_pos hk]) hc8 wr HL.out).mono ?_
        rintro e w' ⟨rfl, hm⟩
        have HL := Lib.hid hm.link
        have hB := Lib.hid (hm.below hB.out (Nat.le_refl _) hz)
        clear hm
        go_wp2_with fail
        go_roundw
        case rel => exact ⟨k + 1, by omega, by go_num, hB.out, HL.out⟩
        case measure => simp [intOf]; omega
      · go_wp2_with fail
        refine (fDown w.heap.size (c % 8) k _ (by omega) 11 (by rw [if_neg hk]) hc8 wr HL.out).mono ?_
        rintro e w' ⟨rfl, hm⟩
        have HL := Lib.hid hm.link
        have hB := Lib.hid (hm.below hB.out (Nat.le_refl _) hz)
        clear hm
        go_wp2_with fail
        go_roundw
        case rel => exact ⟨k + 1, by omega, by go_num, hB.out, HL.out⟩
        case measure => simp [intOf]; omega
    · have hkm : k = m := by omega
      subst hkm
      by_cases h0 : k = 0
      · subst h0
        have HL : Hid (LinkA wr w.heap.size 8 (rowsOf (c % 8 * 2 + 1) 0)) := HL.out
        go_wp2_with fail
        refine (fLenDown w.heap.size (c % 8) 0 _ (by omega) hc8 wr HL.out).mono ?_
        rintro e w' ⟨rfl, q, rfl⟩
        go_wp2_with fail
        refine (fQuiet0 w.heap.size (c % 8 * 2 + 1) _ (HL.out.drewN q)).mono ?_
        rintro e w' ⟨rfl, hg⟩
        have hB := Lib.hid ((hB.out.drewN q).trans (below_of_grown hg hz))
        clear hg
        go_wp2_with fail
        go_ret
        exact ⟨rfl, hB.out⟩
      · have hkp : 0 < k := by omega
        have hkb : ((k : Int) == 0) = false := beq_eq_false_iff_ne.2 (by omega)
        have go : ∀ v : Nat, min k 128 = v → 0 < v → v ≤ 128 → Hid (LinkA wr w.heap.size 8 (rowsOf (c % 8 * 2 + 1) v)) := fun v hv _ _ => by have := HL.out; rwa [hv] at this
        rcases (by omega : k < 128 ∨ k = 128 ∨ 128 < k) with hk128 | hk128 | hk128
        · have HL := go k (by omega) (by omega) (by omega)
          clear go
          go_wp2_with fail
          refine (fLenDown w.heap.size (c % 8) k _ (by omega) hc8 wr HL.out).mono ?_
          rintro e w' ⟨rfl, q, rfl⟩
          go_wp2_with fail
          refine (fQuiet w.heap.size (c % 8 * 2 + 1) k (by omega) (by omega) _ (HL.out.drewN q)).mono ?_
          rintro e w' ⟨rfl, hg⟩
          have hB := Lib.hid ((hB.out.drewN q).trans (below_of_grown hg hz))
          clear hg
          go_wp2_with fail
          go_ret
          exact ⟨rfl, hB.out⟩
        · have HL := go 128 (by omega) (by omega) (by omega)
          clear go
          subst hk128
          go_wp2_with fail
          refine (fLenDown w.heap.size (c % 8) 128 _ (by omega) hc8 wr HL.out).mono ?_
          rintro e w' ⟨rfl, q, rfl⟩
          go_wp2_with fail
          refine (fQuiet w.heap.size (c % 8 * 2 + 1) 128 (by omega) (by omega) _ (HL.out.drewN q)).mono ?_
          rintro e w' ⟨rfl, hg⟩
          have hB := Lib.hid ((hB.out.drewN q).trans (below_of_grown hg hz))
          clear hg
          go_wp2_with fail
          go_ret
          exact ⟨rfl, hB.out⟩
        · have HL := go 128 (by omega) (by omega) (by omega)
          clear go
          go_wp2_with fail
          refine (fLenDown w.heap.size (c % 8) 128 _ (by omega) hc8 wr HL.out).mono ?_
          rintro e w' ⟨rfl, q, rfl⟩
          go_wp2_with fail
          refine (fQuiet w.heap.size (c % 8 * 2 + 1) 128 (by omega) (by omega) _ (HL.out.drewN q)).mono ?_
          rintro e w' ⟨rfl, hg⟩
          have hB := Lib.hid ((hB.out.drewN q).trans (below_of_grown hg hz))
          clear hg
          go_wp2_with fail
          go_ret
          exact ⟨rfl, hB.out⟩
end Go.Proofs.Ytdfdgcknahmnnaa
