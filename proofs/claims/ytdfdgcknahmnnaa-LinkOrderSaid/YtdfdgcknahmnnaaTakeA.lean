/- The contracts of link's functions that take, tell and empty rows. -/
import Derived.Test.YtdfdgcknahmnnaaPutA
namespace Go.Proofs.Ytdfdgcknahmnnaa
open Go.RowKit Go.Proofs
set_option linter.unusedSimpArgs false
set_option linter.unusedVariables false
variable {Av : Nat → Prop}

/-- Of a row: its first element at its cell, and the row without it. -/
theorem RowV.cut {w : World} {e : TypeId} {b o k c : Nat} {x : Value} {xs : List Value} (h : RowV Av w e (.slice (some ⟨b, o, none⟩) k c) (x :: xs)) :
    w.cell? ⟨b, o, none⟩ = some x ∧ k = xs.length + 1 ∧ k ≤ c ∧ (∀ c', xs.length ≤ c' → RowV Av w e (.slice (some ⟨b, o + 1, none⟩) xs.length c') xs) ∧ (xs = [] → ∀ o', RowV Av w e (.slice (some ⟨b, o', none⟩) 0 0) xs) := by
  rcases h with ⟨c', h, _⟩ | ⟨b', o', n, c', cs, hv, hn, hc, hb, hx⟩
  · cases h
  · cases hv
    refine ⟨?_, by simpa using hn, hc, fun c' hc' => .inr ⟨b, o + 1, xs.length, c', cs, rfl, rfl, hc', hb, fun j u hu => ?_, hx.2⟩, fun hxs o' => ?_⟩
    · rw [hb.cell]
      exact hx.1 0 x rfl
    · have := hx.1 (j + 1) u (by simpa using hu)
      rw [← this]
      congr 1
      omega
    · subst hxs
      exact .inr ⟨b, o', 0, 0, cs, rfl, rfl, Nat.le_refl _, hb, fun j u hu => by simp at hu, hx.2⟩
theorem RowV.empty {w : World} {e : TypeId} {ao : Option Addr} {k c : Nat} (h : RowV Av w e (.slice ao k c) []) : k = 0 := by
  rcases h with ⟨c', h, _⟩ | ⟨b', o', n, c', cs, hv, hn, hc, hb, hx⟩
  · cases h; rfl
  · cases hv; simpa using hn
theorem RowV.full {w : World} {e : TypeId} {v : Value} {x : Value} {xs : List Value} (h : RowV Av w e v (x :: xs)) : ∃ b o k c, v = .slice (some ⟨b, o, none⟩) k c := by
  rcases h with ⟨c', _, _, h⟩ | ⟨b', o', n, c', cs, hv, hn, hc, hb, hx⟩
  · cases h
  · exact ⟨b', o', n, c', hv⟩

set_option maxRecDepth 100000 in
set_option maxHeartbeats 2000000 in
theorem take_up_one (g : Nat) (n N : Int) (w : World) (hfz : w.frozen? ⟨g, 1 + n.toNat * 2, none⟩ = false) (hc : w.cell? ⟨g, 0, none⟩ = some (.int .i64 N)) (hn : isB n N = true) (h0 : 0 ≤ n) (h1 : n < 8)
    (b o c : Nat)  (hr : w.cell? ⟨g, 1 + n.toNat * 2, none⟩ = some (.slice (some ⟨b, o, none⟩) 1 c)) (hkc : 1 ≤ c) (s : ByteArray) (hx : w.cell? ⟨b, o, none⟩ = some (.string s)) :
    Calls Try.prog 29 #[.pointer (some ⟨g, 0, none⟩), .int .i64 n, .func (.func 23) #[] #[]] w fun e w' => e = .returned (.tuple #[.string s, .bool true]) ∧ w.drew.setCell ⟨g, 1 + n.toNat * 2, none⟩ (.slice (some ⟨b, o, none⟩) 0 0) = w' := by
  have hK : ∀ w', KeptOn (fun _ => True) w.drew w' → w'.cell? ⟨g, 1 + n.toNat * 2, none⟩ = some (.slice (some ⟨b, o, none⟩) 1 c) := fun w' h => h.cell (w := w.drew) hr trivial
  have hi1 : (1 : Int) ≤ (c : Int) := by omega
  have hi2 : (1 : Int) ≤ (1 : Int) := by omega
  go_enter Try.func29, Try.ntmps29
  go_wp2_with fail
  refine (is_any _ _ _ _ hc).mono ?_; rintro e w' ⟨rfl, rfl⟩
  go_wp2_with fail
  refine (up_any _ _ _).mono ?_; rintro e w' ⟨rfl, rfl⟩
  go_wp2_with fail
  refine wp_region_keep (KeptOn fun _ => True) (KeptOn.refl _) (KeptOn.trans) [(0, 0), (1, 0), (2, 0), (3, 0), (4, 0), (5, 0), (6, 0), (7, 0), (8, 0), (9, 0), (10, 0), (11, 0), (12, 0), (13, 0), (14, 2)] (by kernel_rfl) (by kernel_rfl) ?_
  iterate 14 (refine keep_quiet (v := ?_) rfl (fun _ _ _ h => h) (by rfl) (fun w' hR => ?_) ?_; rotate_left; (go_simp; try with_reducible rfl); simp only [Act.put, List.setIfInBounds_toArray, List.set_cons_zero, List.set_cons_succ])
  refine keep_eff rfl ?_
  go_wp2
  refine keepPost_free ?_
  refine keep_done ?_
  go_wp2
  go_ret2
  exact ⟨rfl, rfl⟩

set_option maxRecDepth 100000 in
set_option maxHeartbeats 2000000 in
theorem take_up_more (g : Nat) (n N : Int) (w : World) (hfz : w.frozen? ⟨g, 1 + n.toNat * 2, none⟩ = false) (hc : w.cell? ⟨g, 0, none⟩ = some (.int .i64 N)) (hn : isB n N = true) (h0 : 0 ≤ n) (h1 : n < 8)
    (b o c : Nat) (k : Nat) (hk : 2 ≤ k) (hr : w.cell? ⟨g, 1 + n.toNat * 2, none⟩ = some (.slice (some ⟨b, o, none⟩) k c)) (hkc : k ≤ c) (s : ByteArray) (hx : w.cell? ⟨b, o, none⟩ = some (.string s)) :
    Calls Try.prog 29 #[.pointer (some ⟨g, 0, none⟩), .int .i64 n, .func (.func 23) #[] #[]] w fun e w' => e = .returned (.tuple #[.string s, .bool true]) ∧ w.drew.setCell ⟨g, 1 + n.toNat * 2, none⟩ (.slice (some ⟨b, o + 1, none⟩) (k - 1) (k - 1)) = w' := by
  have hK : ∀ w', KeptOn (fun _ => True) w.drew w' → w'.cell? ⟨g, 1 + n.toNat * 2, none⟩ = some (.slice (some ⟨b, o, none⟩) k c) := fun w' h => h.cell (w := w.drew) hr trivial
  have hi1 : (k : Int) ≤ (c : Int) := by omega
  have hi2 : (1 : Int) ≤ (k : Int) := by omega
  go_enter Try.func29, Try.ntmps29
  go_wp2_with fail
  refine (is_any _ _ _ _ hc).mono ?_; rintro e w' ⟨rfl, rfl⟩
  go_wp2_with fail
  refine (up_any _ _ _).mono ?_; rintro e w' ⟨rfl, rfl⟩
  go_wp2_with fail
  refine wp_region_keep (KeptOn fun _ => True) (KeptOn.refl _) (KeptOn.trans) [(0, 0), (1, 0), (2, 0), (3, 0), (4, 0), (5, 0), (6, 0), (7, 0), (8, 0), (9, 0), (10, 0), (11, 0), (12, 0), (13, 0), (14, 2)] (by kernel_rfl) (by kernel_rfl) ?_
  iterate 14 (refine keep_quiet (v := ?_) rfl (fun _ _ _ h => h) (by rfl) (fun w' hR => ?_) ?_; rotate_left; (go_simp; try with_reducible rfl); simp only [Act.put, List.setIfInBounds_toArray, List.set_cons_zero, List.set_cons_succ])
  refine keep_eff rfl ?_
  go_wp2
  refine keepPost_free ?_
  refine keep_done ?_
  go_wp2
  go_ret2
  exact ⟨rfl, rfl⟩

theorem take_up_ok (g : Nat) (n N : Int) (x : ByteArray) (xs : List Value) (w : World) (L : Nat → List Value) (h : LinkAt Av w g N L) (hn : isB n N = true) (hk : Hid (L (n.toNat * 2 + 0) = .string x :: xs)) :
    Calls Try.prog 29 #[.pointer (some ⟨g, 0, none⟩), .int .i64 n, .func (.func 23) #[] #[]] w fun e w' => e = .returned (.tuple #[.string x, .bool true]) ∧ LinkAt Av w' g N (upd L (n.toNat * 2 + 0) xs) ∧ OnlyAt g w w' := by
  have hb := isB_true hn
  have hN := h.2.2
  obtain ⟨v, hv, hrow⟩ := h.1.get (j := n.toNat * 2 + 0) (by omega)
  have e1 : [Value.int IntKind.i64 N].length + (n.toNat * 2 + 0) = 1 + n.toNat * 2 := by simp only [List.length_cons, List.length_nil]; omega
  rw [e1] at hv
  rw [hk.out] at hrow
  obtain ⟨b, o, k, c, rfl⟩ := hrow.full
  obtain ⟨h1, h2, h3, h4, h5⟩ := hrow.cut
  have fin : ∀ v', RowV Av w 9 v' xs → LinkAt Av (w.drew.setCell ⟨g, 1 + n.toNat * 2, none⟩ v') g N (upd L (n.toNat * 2 + 0) xs) ∧ OnlyAt g w (w.drew.setCell ⟨g, 1 + n.toNat * 2, none⟩ v') := fun v' hv' =>
    ⟨⟨h.1.drew.set (by decide) (by omega) e1.symm hv'.drew, h.2⟩, grownBy_setCell (grownBy_drew w _) rfl _⟩
  rcases xs with _ | ⟨y, ys⟩
  · obtain rfl : k = 1 := h2
    exact (take_up_one g n N w (h.1.frozen _) h.num hn hb.1 (by omega) b o c hv h3 x h1).mono fun e w' ⟨he, hw⟩ => ⟨he, by subst hw; exact fin _ (h5 rfl o)⟩
  · have h2' : k = ys.length + 2 := by simpa using h2
    have h4' := h4 (ys.length + 1) (by simp)
    exact (take_up_more g n N w (h.1.frozen _) h.num hn hb.1 (by omega) b o c k (by omega) hv h3 x h1).mono fun e w' ⟨he, hw⟩ => ⟨he, by
      subst hw
      have : k - 1 = ys.length + 1 := by omega
      rw [this]
      exact fin _ h4'⟩

set_option maxRecDepth 100000 in
set_option maxHeartbeats 1000000 in
theorem take_up_none (g : Nat) (n N : Int) (w : World) (L : Nat → List Value) (h : LinkAt Av w g N L) (hn : isB n N = true) (hk : Hid (L (n.toNat * 2 + 0) = [])) :
    Calls Try.prog 29 #[.pointer (some ⟨g, 0, none⟩), .int .i64 n, .func (.func 23) #[] #[]] w fun e w' => e = .returned (.tuple #[.string ByteArray.empty, .bool false]) ∧ w = w' := by
  obtain ⟨h0, hb⟩ := isB_true hn
  have hN := h.2.2
  have h8 : n < 8 := by omega
  obtain ⟨v, hv, hrow⟩ := h.1.get (j := n.toNat * 2 + 0) (by omega)
  have e1 : [Value.int IntKind.i64 N].length + (n.toNat * 2 + 0) = 1 + n.toNat * 2 := by simp only [List.length_cons, List.length_nil]; omega
  rw [e1] at hv
  clear e1
  rw [hk.out] at hrow
  obtain ⟨ao, k, c, rfl, _, hlen, _, _⟩ := row_parts hrow
  obtain rfl : k = 0 := hlen.symm
  have hcn := h.num
  clear hrow hlen hk hN hb h
  go_enter Try.func29, Try.ntmps29
  go_wp2_with fail
  refine (is_any _ _ _ _ hcn).mono ?_; rintro e w' ⟨rfl, rfl⟩
  go_wp2_with fail
  refine (up_any _ _ _).mono ?_; rintro e w' ⟨rfl, rfl⟩
  go_wp2_with fail
  go_ret2
  exact ⟨rfl, rfl⟩

set_option maxRecDepth 100000 in
set_option maxHeartbeats 2000000 in
theorem take_down_one (g : Nat) (n N : Int) (w : World) (hfz : w.frozen? ⟨g, 1 + n.toNat * 2 + 1, none⟩ = false) (hc : w.cell? ⟨g, 0, none⟩ = some (.int .i64 N)) (hn : isB n N = true) (h0 : 0 ≤ n) (h1 : n < 8)
    (b o c : Nat)  (hr : w.cell? ⟨g, 1 + n.toNat * 2 + 1, none⟩ = some (.slice (some ⟨b, o, none⟩) 1 c)) (hkc : 1 ≤ c) (s : ByteArray) (hx : w.cell? ⟨b, o, none⟩ = some (.string s)) :
    Calls Try.prog 29 #[.pointer (some ⟨g, 0, none⟩), .int .i64 n, .func (.func 24) #[] #[]] w fun e w' => e = .returned (.tuple #[.string s, .bool true]) ∧ w.drew.setCell ⟨g, 1 + n.toNat * 2 + 1, none⟩ (.slice (some ⟨b, o, none⟩) 0 0) = w' := by
  have hK : ∀ w', KeptOn (fun _ => True) w.drew w' → w'.cell? ⟨g, 1 + n.toNat * 2 + 1, none⟩ = some (.slice (some ⟨b, o, none⟩) 1 c) := fun w' h => h.cell (w := w.drew) hr trivial
  have hi1 : (1 : Int) ≤ (c : Int) := by omega
  have hi2 : (1 : Int) ≤ (1 : Int) := by omega
  go_enter Try.func29, Try.ntmps29
  go_wp2_with fail
  refine (is_any _ _ _ _ hc).mono ?_; rintro e w' ⟨rfl, rfl⟩
  go_wp2_with fail
  refine (down_any _ _ _).mono ?_; rintro e w' ⟨rfl, rfl⟩
  go_wp2_with fail
  refine wp_region_keep (KeptOn fun _ => True) (KeptOn.refl _) (KeptOn.trans) [(0, 0), (1, 0), (2, 0), (3, 0), (4, 0), (5, 0), (6, 0), (7, 0), (8, 0), (9, 0), (10, 0), (11, 0), (12, 0), (13, 0), (14, 2)] (by kernel_rfl) (by kernel_rfl) ?_
  iterate 14 (refine keep_quiet (v := ?_) rfl (fun _ _ _ h => h) (by rfl) (fun w' hR => ?_) ?_; rotate_left; (go_simp; try with_reducible rfl); simp only [Act.put, List.setIfInBounds_toArray, List.set_cons_zero, List.set_cons_succ])
  refine keep_eff rfl ?_
  go_wp2
  refine keepPost_free ?_
  refine keep_done ?_
  go_wp2
  go_ret2
  exact ⟨rfl, rfl⟩

set_option maxRecDepth 100000 in
set_option maxHeartbeats 2000000 in
theorem take_down_more (g : Nat) (n N : Int) (w : World) (hfz : w.frozen? ⟨g, 1 + n.toNat * 2 + 1, none⟩ = false) (hc : w.cell? ⟨g, 0, none⟩ = some (.int .i64 N)) (hn : isB n N = true) (h0 : 0 ≤ n) (h1 : n < 8)
    (b o c : Nat) (k : Nat) (hk : 2 ≤ k) (hr : w.cell? ⟨g, 1 + n.toNat * 2 + 1, none⟩ = some (.slice (some ⟨b, o, none⟩) k c)) (hkc : k ≤ c) (s : ByteArray) (hx : w.cell? ⟨b, o, none⟩ = some (.string s)) :
    Calls Try.prog 29 #[.pointer (some ⟨g, 0, none⟩), .int .i64 n, .func (.func 24) #[] #[]] w fun e w' => e = .returned (.tuple #[.string s, .bool true]) ∧ w.drew.setCell ⟨g, 1 + n.toNat * 2 + 1, none⟩ (.slice (some ⟨b, o + 1, none⟩) (k - 1) (k - 1)) = w' := by
  have hK : ∀ w', KeptOn (fun _ => True) w.drew w' → w'.cell? ⟨g, 1 + n.toNat * 2 + 1, none⟩ = some (.slice (some ⟨b, o, none⟩) k c) := fun w' h => h.cell (w := w.drew) hr trivial
  have hi1 : (k : Int) ≤ (c : Int) := by omega
  have hi2 : (1 : Int) ≤ (k : Int) := by omega
  go_enter Try.func29, Try.ntmps29
  go_wp2_with fail
  refine (is_any _ _ _ _ hc).mono ?_; rintro e w' ⟨rfl, rfl⟩
  go_wp2_with fail
  refine (down_any _ _ _).mono ?_; rintro e w' ⟨rfl, rfl⟩
  go_wp2_with fail
  refine wp_region_keep (KeptOn fun _ => True) (KeptOn.refl _) (KeptOn.trans) [(0, 0), (1, 0), (2, 0), (3, 0), (4, 0), (5, 0), (6, 0), (7, 0), (8, 0), (9, 0), (10, 0), (11, 0), (12, 0), (13, 0), (14, 2)] (by kernel_rfl) (by kernel_rfl) ?_
  iterate 14 (refine keep_quiet (v := ?_) rfl (fun _ _ _ h => h) (by rfl) (fun w' hR => ?_) ?_; rotate_left; (go_simp; try with_reducible rfl); simp only [Act.put, List.setIfInBounds_toArray, List.set_cons_zero, List.set_cons_succ])
  refine keep_eff rfl ?_
  go_wp2
  refine keepPost_free ?_
  refine keep_done ?_
  go_wp2
  go_ret2
  exact ⟨rfl, rfl⟩

theorem take_down_ok (g : Nat) (n N : Int) (x : ByteArray) (xs : List Value) (w : World) (L : Nat → List Value) (h : LinkAt Av w g N L) (hn : isB n N = true) (hk : Hid (L (n.toNat * 2 + 1) = .string x :: xs)) :
    Calls Try.prog 29 #[.pointer (some ⟨g, 0, none⟩), .int .i64 n, .func (.func 24) #[] #[]] w fun e w' => e = .returned (.tuple #[.string x, .bool true]) ∧ LinkAt Av w' g N (upd L (n.toNat * 2 + 1) xs) ∧ OnlyAt g w w' := by
  have hb := isB_true hn
  have hN := h.2.2
  obtain ⟨v, hv, hrow⟩ := h.1.get (j := n.toNat * 2 + 1) (by omega)
  have e1 : [Value.int IntKind.i64 N].length + (n.toNat * 2 + 1) = 1 + n.toNat * 2 + 1 := by simp only [List.length_cons, List.length_nil]; omega
  rw [e1] at hv
  rw [hk.out] at hrow
  obtain ⟨b, o, k, c, rfl⟩ := hrow.full
  obtain ⟨h1, h2, h3, h4, h5⟩ := hrow.cut
  have fin : ∀ v', RowV Av w 9 v' xs → LinkAt Av (w.drew.setCell ⟨g, 1 + n.toNat * 2 + 1, none⟩ v') g N (upd L (n.toNat * 2 + 1) xs) ∧ OnlyAt g w (w.drew.setCell ⟨g, 1 + n.toNat * 2 + 1, none⟩ v') := fun v' hv' =>
    ⟨⟨h.1.drew.set (by decide) (by omega) e1.symm hv'.drew, h.2⟩, grownBy_setCell (grownBy_drew w _) rfl _⟩
  rcases xs with _ | ⟨y, ys⟩
  · obtain rfl : k = 1 := h2
    exact (take_down_one g n N w (h.1.frozen _) h.num hn hb.1 (by omega) b o c hv h3 x h1).mono fun e w' ⟨he, hw⟩ => ⟨he, by subst hw; exact fin _ (h5 rfl o)⟩
  · have h2' : k = ys.length + 2 := by simpa using h2
    have h4' := h4 (ys.length + 1) (by simp)
    exact (take_down_more g n N w (h.1.frozen _) h.num hn hb.1 (by omega) b o c k (by omega) hv h3 x h1).mono fun e w' ⟨he, hw⟩ => ⟨he, by
      subst hw
      have : k - 1 = ys.length + 1 := by omega
      rw [this]
      exact fin _ h4'⟩

set_option maxRecDepth 100000 in
set_option maxHeartbeats 1000000 in
theorem take_down_none (g : Nat) (n N : Int) (w : World) (L : Nat → List Value) (h : LinkAt Av w g N L) (hn : isB n N = true) (hk : Hid (L (n.toNat * 2 + 1) = [])) :
    Calls Try.prog 29 #[.pointer (some ⟨g, 0, none⟩), .int .i64 n, .func (.func 24) #[] #[]] w fun e w' => e = .returned (.tuple #[.string ByteArray.empty, .bool false]) ∧ w = w' := by
  obtain ⟨h0, hb⟩ := isB_true hn
  have hN := h.2.2
  have h8 : n < 8 := by omega
  obtain ⟨v, hv, hrow⟩ := h.1.get (j := n.toNat * 2 + 1) (by omega)
  have e1 : [Value.int IntKind.i64 N].length + (n.toNat * 2 + 1) = 1 + n.toNat * 2 + 1 := by simp only [List.length_cons, List.length_nil]; omega
  rw [e1] at hv
  clear e1
  rw [hk.out] at hrow
  obtain ⟨ao, k, c, rfl, _, hlen, _, _⟩ := row_parts hrow
  obtain rfl : k = 0 := hlen.symm
  have hcn := h.num
  clear hrow hlen hk hN hb h
  go_enter Try.func29, Try.ntmps29
  go_wp2_with fail
  refine (is_any _ _ _ _ hcn).mono ?_; rintro e w' ⟨rfl, rfl⟩
  go_wp2_with fail
  refine (down_any _ _ _).mono ?_; rintro e w' ⟨rfl, rfl⟩
  go_wp2_with fail
  go_ret2
  exact ⟨rfl, rfl⟩

set_option maxRecDepth 100000 in
set_option maxHeartbeats 1000000 in
theorem take_bad (g : Nat) (n N : Int) (f : Value) (w : World) (L : Nat → List Value) (h : LinkAt Av w g N L) (hn : isB n N = false) :
    Calls Try.prog 29 #[.pointer (some ⟨g, 0, none⟩), .int .i64 n, f] w fun e w' => e = .returned (.tuple #[.string ByteArray.empty, .bool false]) ∧ w = w' := by
  have hcn := h.num
  clear h
  go_enter Try.func29, Try.ntmps29
  go_wp2_with fail
  refine (is_any _ _ _ _ hcn).mono ?_; rintro e w' ⟨rfl, rfl⟩
  go_wp2_with fail
  go_ret2
  exact ⟨rfl, rfl⟩
set_option maxHeartbeats 1000000 in
theorem take_nil (n : Int) (f : Value) (w : World) :
    Calls Try.prog 29 #[.pointer none, .int .i64 n, f] w fun e w' => e = .returned (.tuple #[.string ByteArray.empty, .bool false]) ∧ w = w' := by
  go_enter Try.func29, Try.ntmps29
  go_wp2_with fail
  refine (is_nil _ _).mono ?_; rintro e w' ⟨rfl, rfl⟩
  go_wp2_with fail
  go_ret2
  exact ⟨rfl, rfl⟩

def lenL (L : Nat → List Value) (n N : Int) (d : Nat) : Nat := if isB n N = true then (L (n.toNat * 2 + d)).length else 0

set_option maxRecDepth 100000 in
set_option maxHeartbeats 1000000 in
theorem Len_in (g : Nat) (n N : Int) (w : World) (hc : w.cell? ⟨g, 0, none⟩ = some (.int .i64 N)) (hn : isB n N = true) (h0 : 0 ≤ n) (h8 : n < 8) (ao bo : Option Addr) (k c k' c' : Nat)
    (hu : w.cell? ⟨g, 1 + n.toNat * 2, none⟩ = some (.slice ao k c)) (hd : w.cell? ⟨g, 1 + n.toNat * 2 + 1, none⟩ = some (.slice bo k' c')) :
    Calls Try.prog 12 #[.pointer (some ⟨g, 0, none⟩), .int .i64 n] w fun e w' => e = .returned (.tuple #[.int .i64 k, .int .i64 k']) ∧ w.drew = w' := by
  have hK : ∀ w', KeptOn (fun _ => True) w.drew w' → w'.cell? ⟨g, 1 + n.toNat * 2, none⟩ = some (.slice ao k c) := fun w' h => h.cell (w := w.drew) hu trivial
  have hK' : ∀ w', KeptOn (fun _ => True) w.drew w' → w'.cell? ⟨g, 1 + n.toNat * 2 + 1, none⟩ = some (.slice bo k' c') := fun w' h => h.cell (w := w.drew) hd trivial
  go_enter Try.func12, Try.ntmps12
  go_wp2_with fail
  refine (is_any _ _ _ _ hc).mono ?_; rintro e w' ⟨rfl, rfl⟩
  go_wp2_with fail
  refine wp_region_keep (KeptOn fun _ => True) (KeptOn.refl _) (KeptOn.trans) [(0, 0), (1, 0), (2, 0), (3, 0), (4, 0), (5, 0), (6, 0), (7, 0), (8, 0), (9, 0), (10, 0), (11, 0), (12, 0), (13, 0), (14, 0), (15, 0), (16, 0), (17, 0)] (by kernel_rfl) (by kernel_rfl) ?_
  iterate 18 (refine keep_quiet (v := ?_) rfl (fun _ _ _ h => h) (by rfl) (fun w' hR => ?_) ?_; rotate_left; (go_simp; try with_reducible rfl); simp only [Act.put, List.setIfInBounds_toArray, List.set_cons_zero, List.set_cons_succ])
  refine keep_done ?_
  go_wp2
  go_ret2
  exact ⟨rfl, rfl⟩
set_option maxHeartbeats 1000000 in
theorem Len_out (g : Nat) (n N : Int) (w : World) (hc : w.cell? ⟨g, 0, none⟩ = some (.int .i64 N)) (hn : isB n N = false) :
    Calls Try.prog 12 #[.pointer (some ⟨g, 0, none⟩), .int .i64 n] w fun e w' => e = .returned (.tuple #[.int .i64 0, .int .i64 0]) ∧ w = w' := by
  go_enter Try.func12, Try.ntmps12
  go_wp2_with fail
  refine (is_any _ _ _ _ hc).mono ?_; rintro e w' ⟨rfl, rfl⟩
  go_wp2_with fail
  go_ret2
  exact ⟨rfl, rfl⟩
set_option maxHeartbeats 1000000 in
theorem Len_nil (n : Int) (w : World) :
    Calls Try.prog 12 #[.pointer none, .int .i64 n] w fun e w' => e = .returned (.tuple #[.int .i64 0, .int .i64 0]) ∧ w = w' := by
  go_enter Try.func12, Try.ntmps12
  go_wp2_with fail
  refine (is_nil _ _).mono ?_; rintro e w' ⟨rfl, rfl⟩
  go_wp2_with fail
  go_ret2
  exact ⟨rfl, rfl⟩
/-- 'Len' draws at most: the world is the same but for the count of draws. -/
theorem Len_any (g : Nat) (n N : Int) (w : World) (L : Nat → List Value) (h : LinkAt Av w g N L) :
    Calls Try.prog 12 #[.pointer (some ⟨g, 0, none⟩), .int .i64 n] w fun e w' => e = .returned (.tuple #[.int .i64 (lenL L n N 0 : Nat), .int .i64 (lenL L n N 1 : Nat)]) ∧ ∃ k, w' = w.drewN k := by
  cases hn : isB n N with
  | true =>
    obtain ⟨h0, hb⟩ := isB_true hn
    have hN := h.2.2
    obtain ⟨v, hv, hrow⟩ := h.1.get (j := n.toNat * 2) (by omega)
    obtain ⟨v', hv', hrow'⟩ := h.1.get (j := n.toNat * 2 + 1) (by omega)
    have e1 : [Value.int IntKind.i64 N].length + (n.toNat * 2) = 1 + n.toNat * 2 := by simp only [List.length_cons, List.length_nil, Nat.zero_add]
    have e2 : [Value.int IntKind.i64 N].length + (n.toNat * 2 + 1) = 1 + n.toNat * 2 + 1 := by simp only [List.length_cons, List.length_nil]; omega
    rw [e1] at hv
    rw [e2] at hv'
    obtain ⟨ao, k, c, rfl, _, hlen, _, _⟩ := row_parts hrow
    obtain ⟨bo, k', c', rfl, _, hlen', _, _⟩ := row_parts hrow'
    refine (Len_in g n N w h.num hn h0 (by omega) ao bo k c k' c' hv hv').mono fun e w' ⟨he, hw⟩ => ⟨?_, 1, hw.symm⟩
    rw [he]
    simp [lenL, hn, hlen, hlen']
  | false =>
    exact (Len_out g n N w h.num hn).mono fun e w' ⟨he, hw⟩ => ⟨by rw [he]; simp [lenL, hn], 0, hw.symm⟩

theorem Reset_bad (g : Nat) (n N : Int) (w : World) (hc : w.cell? ⟨g, 0, none⟩ = some (.int .i64 N)) (hn : isB n N = false) :
    Calls Try.prog 20 #[.pointer (some ⟨g, 0, none⟩), .int .i64 n] w fun e w' => e = .returned (.bool false) ∧ w = w' := by
  go_enter Try.func20, Try.ntmps20
  go_wp2_with fail
  refine (is_any _ _ _ _ hc).mono ?_; rintro e w' ⟨rfl, rfl⟩
  go_wp2_with fail
  go_ret
  exact ⟨rfl, rfl⟩
theorem Reset_nil (n : Int) (w : World) :
    Calls Try.prog 20 #[.pointer none, .int .i64 n] w fun e w' => e = .returned (.bool false) ∧ w = w' := by
  go_enter Try.func20, Try.ntmps20
  go_wp2_with fail
  refine (is_nil _ _).mono ?_; rintro e w' ⟨rfl, rfl⟩
  go_wp2_with fail
  go_ret
  exact ⟨rfl, rfl⟩
set_option maxRecDepth 100000 in
set_option maxHeartbeats 1000000 in
theorem Reset_in (g : Nat) (n N : Int) (w : World) (hc : w.cell? ⟨g, 0, none⟩ = some (.int .i64 N)) (hn : isB n N = true) (h0 : 0 ≤ n) (h8 : n < 8) (v v' : Value)
    (hu : w.cell? ⟨g, 1 + n.toNat * 2, none⟩ = some v) (hd : w.cell? ⟨g, 1 + n.toNat * 2 + 1, none⟩ = some v') (hf : w.frozen? ⟨g, 1 + n.toNat * 2, none⟩ = false) (hf' : w.frozen? ⟨g, 1 + n.toNat * 2 + 1, none⟩ = false) :
    Calls Try.prog 20 #[.pointer (some ⟨g, 0, none⟩), .int .i64 n] w fun e w' => e = .returned (.bool true) ∧ (w.setCell ⟨g, 1 + n.toNat * 2, none⟩ (.slice none 0 0)).setCell ⟨g, 1 + n.toNat * 2 + 1, none⟩ (.slice none 0 0) = w' := by
  go_enter Try.func20, Try.ntmps20
  go_wp2_with fail
  refine (is_any _ _ _ _ hc).mono ?_; rintro e w' ⟨rfl, rfl⟩
  go_wp2_with fail
  go_ret
  exact ⟨rfl, rfl⟩
end Go.Proofs.Ytdfdgcknahmnnaa
