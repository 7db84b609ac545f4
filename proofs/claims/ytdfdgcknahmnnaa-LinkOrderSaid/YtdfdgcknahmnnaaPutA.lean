/- The contracts of link's functions: what each call of Links answers, and what it leaves in memory. -/
import Derived.Test.YtdfdgcknahmnnaaProg
import Derived.Test.YtdfdgcknahmnnaaKeep
import Derived.Test.YtdfdgcknahmnnaaRepA
import Derived.WalkSpells
import Derived.WalkLawsBesides
import Derived.Deep.QuietTactic
import Derived.BigQuiet
import Derived.Lib.Hide
import Derived.ArgAppend
namespace Go.Proofs.Ytdfdgcknahmnnaa
open Go.RowKit Go.Proofs
set_option linter.unusedSimpArgs false
set_option linter.unusedVariables false
variable {Av : Nat → Prop}

def isB (n N : Int) : Bool := decide (0 ≤ n) && decide (n < N)
theorem isB_of {n N : Int} (h0 : 0 ≤ n) (h : n < N) : isB n N = true := by simp [isB, h0, h]
theorem isB_not {n N : Int} (h : n < 0 ∨ N ≤ n) : isB n N = false := by simp [isB]; omega
theorem isB_true {n N : Int} (h : isB n N = true) : 0 ≤ n ∧ n < N := by simpa [isB] using h

/-- Block g is links of N clients, whose rows read as L: up of n at 2n, down at 2n + 1. -/
def LinkAt (Av : Nat → Prop) (w : World) (g : Nat) (N : Int) (L : Nat → List Value) : Prop := Tab Av w g 54 9 [.int .i64 N] 16 L ∧ 2 ≤ N ∧ N ≤ 8
theorem LinkAt.num {w : World} {g : Nat} {N : Int} {L : Nat → List Value} (h : LinkAt Av w g N L) : w.cell? ⟨g, 0, none⟩ = some (.int .i64 N) := h.1.head rfl

theorem info9 : (Try.prog.info? 9).map (fun i => (i.zero, i.size, i.bytes)) = some (some (.string ByteArray.empty), 1, 16) := by kernel_rfl

set_option maxHeartbeats 400000 in
theorem is_any (g : Nat) (n N : Int) (w : World) (hc : w.cell? ⟨g, 0, none⟩ = some (.int .i64 N)) :
    Calls Try.prog 25 #[.pointer (some ⟨g, 0, none⟩), .int .i64 n] w fun e w' => e = .returned (.bool (isB n N)) ∧ w = w' := by
  by_cases h0 : 0 ≤ n
  · go_enter Try.func25, Try.ntmps25
    go_wp2
    go_ret
    exact ⟨by simp [isB, h0], rfl⟩
  · go_enter Try.func25, Try.ntmps25
    go_wp2
    go_ret
    exact ⟨by simp [isB]; omega, rfl⟩
set_option maxHeartbeats 400000 in
theorem is_nil (n : Int) (w : World) :
    Calls Try.prog 25 #[.pointer none, .int .i64 n] w fun e w' => e = .returned (.bool false) ∧ w = w' := by
  go_enter Try.func25, Try.ntmps25
  go_wp2
  go_ret
  exact ⟨rfl, rfl⟩
set_option maxHeartbeats 400000 in
theorem up_any (b o : Nat) (w : World) :
    Calls Try.prog 23 #[.pointer (some ⟨b, o, none⟩)] w fun e w' => e = .returned (.pointer (some ⟨b, o, none⟩)) ∧ w = w' := by
  go_enter Try.func23, Try.ntmps23
  go_wp2
  go_ret
  exact ⟨rfl, rfl⟩
set_option maxHeartbeats 400000 in
theorem down_any (b o : Nat) (w : World) :
    Calls Try.prog 24 #[.pointer (some ⟨b, o, none⟩)] w fun e w' => e = .returned (.pointer (some ⟨b, o + 1, none⟩)) ∧ w = w' := by
  go_enter Try.func24, Try.ntmps24
  go_wp2
  go_ret
  exact ⟨rfl, rfl⟩
set_option maxHeartbeats 400000 in
theorem New_bad (n : Int) (w : World) (h : n < 2 ∨ 8 < n) :
    Calls Try.prog 8 #[.int .i64 n] w fun e w' => e = .returned (.tuple #[.pointer none, .int .i64 2]) ∧ w = w' := by
  rcases h with h | h
  · go_enter Try.func8, Try.ntmps8
    go_wp2
    go_ret2
    exact ⟨rfl, rfl⟩
  · have h2 : ¬ n < 2 := by omega
    go_enter Try.func8, Try.ntmps8
    go_wp2
    go_ret2
    exact ⟨rfl, rfl⟩
set_option maxHeartbeats 400000 in
theorem New_ok (n : Int) (w : World) (h1 : 2 ≤ n) (h2 : n ≤ 8) :
    Calls Try.prog 8 #[.int .i64 n] w fun e w' => e = .returned (.tuple #[.pointer (some ⟨w.heap.size, 0, none⟩), .int .i64 0]) ∧ LinkAt Av w' w.heap.size n (fun _ => []) ∧ w.grownBy w' none ∧ w'.heap.size = w.heap.size + 1 := by
  have h3 : ¬ n < 2 := by omega
  have h4 : ¬ 8 < n := by omega
  go_enter Try.func8, Try.ntmps8
  go_wp2
  go_ret2
  exact ⟨rfl, ⟨Tab.new w 54 9 [.int .i64 n] 16, h1, h2⟩, World.grownBy_alloc _ _ _, by simp⟩

theorem hold_alloc {w : World} {ao : Option Addr} {xs : List Value} (h : Hid (∀ b, ao = some b → ∀ j u, xs[j]? = some u → w.cell? (b.add j) = some u)) (o : Obj) : ∀ b, ao = some b → ∀ j u, xs[j]? = some u → ((w.alloc o).drew).cell? (b.add j) = some u := by
  intro b hb j u hu
  have := h.out b hb j u hu
  show (w.alloc o).cell? _ = _
  rw [World.cell?_alloc_lt _ _ _ (World.block_lt_of_cell? w _ this)]
  exact this

/-- A row of LinkAt at its cell, in the parts that append wants. -/
theorem row_parts {w : World} {e : TypeId} {v : Value} {xs : List Value} (h : RowV Av w e v xs) :
    ∃ ao k c, v = .slice ao k c ∧ (ao = none → k = 0 ∧ c = 0) ∧ xs.length = k ∧ k ≤ c ∧ Hid (∀ b, ao = some b → ∀ j u, xs[j]? = some u → w.cell? (b.add j) = some u) := by
  rcases h with ⟨c, rfl, rfl, rfl⟩ | ⟨b, o, n, c, cs, rfl, hn, hc, hb, hx⟩
  · exact ⟨none, 0, 0, rfl, fun _ => ⟨rfl, rfl⟩, rfl, Nat.le_refl _, fun b hb => by cases hb⟩
  · refine ⟨_, n, c, rfl, fun h => (by cases h), hn.symm, hc, fun b' hb' j u hu => ?_⟩
    cases hb'
    have : (⟨b, o, none⟩ : Addr).add j = ⟨b, o + j, none⟩ := by unfold Addr.add; split <;> simp_all
    rw [this, hb.cell]
    exact hx.1 j u hu

set_option maxRecDepth 100000 in
set_option maxHeartbeats 2000000 in
theorem put_up_some (g : Nat) (n N : Int) (s : ByteArray) (w : World) (hg : g < w.heap.size) (hfz : w.frozen? ⟨g, 1 + n.toNat * 2, none⟩ = false) (hc : w.cell? ⟨g, 0, none⟩ = some (.int .i64 N)) (hn : isB n N = true) (h0 : 0 ≤ n) (h1 : n < 8) (hs : s.size ≤ 16384)
    (a : Addr) (k c : Nat) (hr : w.cell? ⟨g, 1 + n.toNat * 2, none⟩ = some (.slice (some a) k c)) (hkc : k ≤ c) (hk : k < 128) (xs : List Value) (hx : Hid (xs.length = k * 1)) (hcell : Hid (∀ b, ((some a) : Option Addr) = some b → ∀ j u, xs[j]? = some u → w.cell? (b.add j) = some u)) :
    Calls Try.prog 22 #[.pointer (some ⟨g, 0, none⟩), .int .i64 n, .string s, .func (.func 23) #[] #[]] w fun e w' => e = .returned (.int .i64 0) ∧ ∃ v w1, w.grownBy w1 none ∧ w1.ownsRow w.heap.size 9 1 v (k + 1) (xs ++ [.string s]) ∧ w' = w1.setCell ⟨g, 1 + n.toNat * 2, none⟩ v := by
  obtain ⟨i0, hi, hz0, hz1, hz2⟩ := info_parts info9
  have hK : ∀ w', KeptOn (fun _ => True) w.drew w' → w'.cell? ⟨g, 1 + n.toNat * 2, none⟩ = some (.slice (some a) k c) := fun w' h => h.cell (w := w.drew) hr trivial
  have HI := Lib.hid hi
  clear hi
  go_enter Try.func22, Try.ntmps22
  go_wp2_with fail
  refine (is_any _ _ _ _ hc).mono ?_; rintro e w' ⟨rfl, rfl⟩
  go_wp2_with fail
  refine (up_any _ _ _).mono ?_; rintro e w' ⟨rfl, rfl⟩
  go_wp2_with fail
  refine wp_region_keep (KeptOn fun _ => True) (KeptOn.refl _) (KeptOn.trans) [(0, 0), (1, 0), (2, 0), (3, 0), (4, 0), (5, 0), (6, 0), (7, 0), (8, 0), (9, 0), (10, 0), (11, 0), (12, 0), (13, 0), (14, 1), (15, 1), (16, 0), (17, 2)] (by kernel_rfl) (by kernel_rfl) ?_
  iterate 14 (refine keep_quiet (v := ?_) rfl (fun _ _ _ h => h) (by rfl) (fun w' hR => ?_) ?_; rotate_left; (go_simp; try with_reducible rfl); simp only [Act.put, List.setIfInBounds_toArray, List.set_cons_zero, List.set_cons_succ])
  refine keep_eff rfl ?_
  go_wp2
  refine keepPost_need ?_ ?_
  · exact KeptOn.alloc w.drew _
  refine keep_eff rfl ?_
  refine wpList_append_grows _ rfl (.tmp 47) (.tmp 49) 40 rfl 9 i0 _ 1 16 Try.underlying40 HI.out hz0 hz1 hz2 rfl (by decide) (some a) k k xs rfl (by simp) hx.out (hold_alloc hcell _) ⟨w.heap.size, 0, none⟩ 1 1 [.string s] rfl rfl (cell_one_new _ _ _) (by simp [Value.oneCell']) (by omega) (by unfold maxLen; omega) (by omega) ?_
  intro v1 w1 hown hgr
  obtain ⟨g1, c1, hv⟩ := own_form hown (by omega)
  subst hv
  have hr1 : w1.cell? ⟨g, 1 + n.toNat * 2, none⟩ = some (.slice (some a) k c) := hgr.cell (by have := World.cell?_alloc_lt w (.cells #[.string s] 9) ⟨g, 1 + n.toNat * 2, none⟩ hg; exact this.trans hr) (by simp)
  have hfz1 : w1.frozen? ⟨g, 1 + n.toNat * 2, none⟩ = false := by
    rw [World.frozen?_of_block (hgr.block _ (by simp; omega) (by simp))]
    rw [← hfz]
    exact World.frozen?_of_block (Below.heap_alloc w _ _ hg)
  refine wpList_nil ?_
  refine keepPost_need (KeptOn.grown hgr (by simp)) ?_
  simp only [Act.put, List.setIfInBounds_toArray, List.set_cons_zero, List.set_cons_succ]
  iterate 1 (refine keep_quiet (v := ?_) rfl (fun _ _ _ h => h) (by rfl) (fun w' hR => ?_) ?_; rotate_left; (go_simp; try with_reducible rfl); simp only [Act.put, List.setIfInBounds_toArray, List.set_cons_zero, List.set_cons_succ])
  refine keep_eff rfl ?_
  go_wp2
  refine keepPost_free ?_
  refine keep_done ?_
  go_wp2
  go_ret
  refine ⟨rfl, _, w1, ?_, ⟨hown.1, ?_⟩, rfl⟩
  · exact grownBy_trans (World.grownBy_alloc w (.cells #[.string s] 9) none) (grownBy_trans (grownBy_drew _ _) hgr)
  · rcases hown.2 with h | ⟨g', cap, cur, h1', h2', h3'⟩
    · exact .inl h
    · exact .inr ⟨g', cap, cur, h1', by simp at h2'; omega, h3'⟩

set_option maxRecDepth 100000 in
set_option maxHeartbeats 2000000 in
theorem put_up_none (g : Nat) (n N : Int) (s : ByteArray) (w : World) (hg : g < w.heap.size) (hfz : w.frozen? ⟨g, 1 + n.toNat * 2, none⟩ = false) (hc : w.cell? ⟨g, 0, none⟩ = some (.int .i64 N)) (hn : isB n N = true) (h0 : 0 ≤ n) (h1 : n < 8) (hs : s.size ≤ 16384)
     (hr : w.cell? ⟨g, 1 + n.toNat * 2, none⟩ = some (.slice none 0 0))  (xs : List Value) (hx : Hid (xs.length = 0 * 1)) (hcell : Hid (∀ b, (none : Option Addr) = some b → ∀ j u, xs[j]? = some u → w.cell? (b.add j) = some u)) :
    Calls Try.prog 22 #[.pointer (some ⟨g, 0, none⟩), .int .i64 n, .string s, .func (.func 23) #[] #[]] w fun e w' => e = .returned (.int .i64 0) ∧ ∃ v w1, w.grownBy w1 none ∧ w1.ownsRow w.heap.size 9 1 v (0 + 1) (xs ++ [.string s]) ∧ w' = w1.setCell ⟨g, 1 + n.toNat * 2, none⟩ v := by
  obtain ⟨i0, hi, hz0, hz1, hz2⟩ := info_parts info9
  have hK : ∀ w', KeptOn (fun _ => True) w.drew w' → w'.cell? ⟨g, 1 + n.toNat * 2, none⟩ = some (.slice none 0 0) := fun w' h => h.cell (w := w.drew) hr trivial
  have HI := Lib.hid hi
  clear hi
  go_enter Try.func22, Try.ntmps22
  go_wp2_with fail
  refine (is_any _ _ _ _ hc).mono ?_; rintro e w' ⟨rfl, rfl⟩
  go_wp2_with fail
  refine (up_any _ _ _).mono ?_; rintro e w' ⟨rfl, rfl⟩
  go_wp2_with fail
  refine wp_region_keep (KeptOn fun _ => True) (KeptOn.refl _) (KeptOn.trans) [(0, 0), (1, 0), (2, 0), (3, 0), (4, 0), (5, 0), (6, 0), (7, 0), (8, 0), (9, 0), (10, 0), (11, 0), (12, 0), (13, 0), (14, 1), (15, 1), (16, 0), (17, 2)] (by kernel_rfl) (by kernel_rfl) ?_
  iterate 14 (refine keep_quiet (v := ?_) rfl (fun _ _ _ h => h) (by rfl) (fun w' hR => ?_) ?_; rotate_left; (go_simp; try with_reducible rfl); simp only [Act.put, List.setIfInBounds_toArray, List.set_cons_zero, List.set_cons_succ])
  refine keep_eff rfl ?_
  go_wp2
  refine keepPost_need ?_ ?_
  · exact KeptOn.alloc w.drew _
  refine keep_eff rfl ?_
  refine wpList_append_grows _ rfl (.tmp 47) (.tmp 49) 40 rfl 9 i0 _ 1 16 Try.underlying40 HI.out hz0 hz1 hz2 rfl (by decide) none 0 0 xs rfl (by simp) hx.out (hold_alloc hcell _) ⟨w.heap.size, 0, none⟩ 1 1 [.string s] rfl rfl (cell_one_new _ _ _) (by simp [Value.oneCell']) (by omega) (by unfold maxLen; omega) (by omega) ?_
  intro v1 w1 hown hgr
  obtain ⟨g1, c1, hv⟩ := own_form hown (by omega)
  subst hv
  have hr1 : w1.cell? ⟨g, 1 + n.toNat * 2, none⟩ = some (.slice none 0 0) := hgr.cell (by have := World.cell?_alloc_lt w (.cells #[.string s] 9) ⟨g, 1 + n.toNat * 2, none⟩ hg; exact this.trans hr) (by simp)
  have hfz1 : w1.frozen? ⟨g, 1 + n.toNat * 2, none⟩ = false := by
    rw [World.frozen?_of_block (hgr.block _ (by simp; omega) (by simp))]
    rw [← hfz]
    exact World.frozen?_of_block (Below.heap_alloc w _ _ hg)
  refine wpList_nil ?_
  refine keepPost_need (KeptOn.grown hgr (by simp)) ?_
  simp only [Act.put, List.setIfInBounds_toArray, List.set_cons_zero, List.set_cons_succ]
  iterate 1 (refine keep_quiet (v := ?_) rfl (fun _ _ _ h => h) (by rfl) (fun w' hR => ?_) ?_; rotate_left; (go_simp; try with_reducible rfl); simp only [Act.put, List.setIfInBounds_toArray, List.set_cons_zero, List.set_cons_succ])
  refine keep_eff rfl ?_
  go_wp2
  refine keepPost_free ?_
  refine keep_done ?_
  go_wp2
  go_ret
  refine ⟨rfl, _, w1, ?_, ⟨hown.1, ?_⟩, rfl⟩
  · exact grownBy_trans (World.grownBy_alloc w (.cells #[.string s] 9) none) (grownBy_trans (grownBy_drew _ _) hgr)
  · rcases hown.2 with h | ⟨g', cap, cur, h1', h2', h3'⟩
    · exact .inl h
    · exact .inr ⟨g', cap, cur, h1', by simp at h2'; omega, h3'⟩

theorem put_up_ok (g : Nat) (n N : Int) (s : ByteArray) (w : World) (L : Nat → List Value) (h : LinkAt Av w g N L) (hAv : ∀ b, w.heap.size ≤ b → Av b) (hn : isB n N = true) (hs : s.size ≤ 16384) (hk : (L (n.toNat * 2 + 0)).length < 128) :
    Calls Try.prog 22 #[.pointer (some ⟨g, 0, none⟩), .int .i64 n, .string s, .func (.func 23) #[] #[]] w fun e w' => e = .returned (.int .i64 0) ∧ LinkAt Av w' g N (upd L (n.toNat * 2 + 0) (L (n.toNat * 2 + 0) ++ [.string s])) ∧ OnlyAt g w w' := by
  have hb := isB_true hn
  have hN := h.2.2
  obtain ⟨v, hv, hrow⟩ := h.1.get (j := n.toNat * 2 + 0) (by omega)
  have e1 : [Value.int IntKind.i64 N].length + (n.toNat * 2 + 0) = 1 + n.toNat * 2 := by simp only [List.length_cons, List.length_nil]; omega
  rw [e1] at hv
  have fin : ∀ (e : Ending) (w' : World) (m : Nat) (hm : (L (n.toNat * 2 + 0)).length = m), (e = .returned (.int .i64 0) ∧ ∃ v w1, w.grownBy w1 none ∧ w1.ownsRow w.heap.size 9 1 v (m + 1) (L (n.toNat * 2 + 0) ++ [.string s]) ∧ w' = w1.setCell ⟨g, 1 + n.toNat * 2, none⟩ v) →
      e = .returned (.int .i64 0) ∧ LinkAt Av w' g N (upd L (n.toNat * 2 + 0) (L (n.toNat * 2 + 0) ++ [.string s])) ∧ OnlyAt g w w' := by
    rintro e w' m _ ⟨he, v', w1, hg, ho, rfl⟩
    exact ⟨he, ⟨(h.1.grown hg).set (by decide) (by omega) e1.symm (RowV.of_own hAv ho), h.2⟩, grownBy_setCell (grownBy_some hg _) rfl _⟩
  obtain ⟨ao, k, c, rfl, hnone, hlen, hkc, hcell⟩ := row_parts hrow
  rcases ao with _ | a
  · obtain ⟨rfl, rfl⟩ := hnone rfl
    exact (put_up_none g n N s w h.1.lt (h.1.frozen _) h.num hn hb.1 (by omega) hs hv _ (by simpa using hlen : _ = 0 * 1) hcell).mono fun e w' he => fin e w' 0 hlen he
  · exact (put_up_some g n N s w h.1.lt (h.1.frozen _) h.num hn hb.1 (by omega) hs a k c hv hkc (by omega) _ (by simpa using hlen : _ = k * 1) hcell).mono fun e w' he => fin e w' k hlen he

set_option maxRecDepth 100000 in
set_option maxHeartbeats 1000000 in
theorem put_up_full (g : Nat) (n N : Int) (s : ByteArray) (w : World) (L : Nat → List Value) (h : LinkAt Av w g N L) (hn : isB n N = true) (hs : s.size ≤ 16384) (hk : 128 ≤ (L (n.toNat * 2 + 0)).length) :
    Calls Try.prog 22 #[.pointer (some ⟨g, 0, none⟩), .int .i64 n, .string s, .func (.func 23) #[] #[]] w fun e w' => e = .returned (.int .i64 11) ∧ w = w' := by
  obtain ⟨h0, hb⟩ := isB_true hn
  have hN := h.2.2
  have h8 : n < 8 := by omega
  obtain ⟨v, hv, hrow⟩ := h.1.get (j := n.toNat * 2 + 0) (by omega)
  have e1 : [Value.int IntKind.i64 N].length + (n.toNat * 2 + 0) = 1 + n.toNat * 2 := by simp only [List.length_cons, List.length_nil]; omega
  rw [e1] at hv
  clear e1
  obtain ⟨ao, k, c, rfl, _, hlen, _, _⟩ := row_parts hrow
  have hk' : 128 ≤ k := by omega
  have hcn := h.num
  clear hrow hlen hk hN hb h
  go_enter Try.func22, Try.ntmps22
  go_wp2_with fail
  refine (is_any _ _ _ _ hcn).mono ?_; rintro e w' ⟨rfl, rfl⟩
  go_wp2_with fail
  refine (up_any _ _ _).mono ?_; rintro e w' ⟨rfl, rfl⟩
  go_wp2_with fail
  go_ret
  exact ⟨rfl, rfl⟩

set_option maxRecDepth 100000 in
set_option maxHeartbeats 1000000 in
theorem put_up_bad (g : Nat) (n N : Int) (s : ByteArray) (w : World) (L : Nat → List Value) (h : LinkAt Av w g N L) (hn : isB n N = false ∨ 16384 < s.size) :
    Calls Try.prog 22 #[.pointer (some ⟨g, 0, none⟩), .int .i64 n, .string s, .func (.func 23) #[] #[]] w fun e w' => e = .returned (.int .i64 2) ∧ w = w' := by
  have hcn := h.num
  clear h
  cases hb : isB n N with
  | false =>
    go_enter Try.func22, Try.ntmps22
    go_wp2_with fail
    refine (is_any _ _ _ _ hcn).mono ?_; rintro e w' ⟨rfl, rfl⟩
    go_wp2_with fail
    go_ret
    exact ⟨rfl, rfl⟩
  | true =>
    have hs : 16384 < s.size := by
      rcases hn with h | h
      · rw [hb] at h; cases h
      · exact h
    clear hn
    go_enter Try.func22, Try.ntmps22
    go_wp2_with fail
    refine (is_any _ _ _ _ hcn).mono ?_; rintro e w' ⟨rfl, rfl⟩
    go_wp2_with fail
    go_ret
    exact ⟨rfl, rfl⟩

set_option maxRecDepth 100000 in
set_option maxHeartbeats 2000000 in
theorem put_down_some (g : Nat) (n N : Int) (s : ByteArray) (w : World) (hg : g < w.heap.size) (hfz : w.frozen? ⟨g, 1 + n.toNat * 2 + 1, none⟩ = false) (hc : w.cell? ⟨g, 0, none⟩ = some (.int .i64 N)) (hn : isB n N = true) (h0 : 0 ≤ n) (h1 : n < 8) (hs : s.size ≤ 16384)
    (a : Addr) (k c : Nat) (hr : w.cell? ⟨g, 1 + n.toNat * 2 + 1, none⟩ = some (.slice (some a) k c)) (hkc : k ≤ c) (hk : k < 128) (xs : List Value) (hx : Hid (xs.length = k * 1)) (hcell : Hid (∀ b, ((some a) : Option Addr) = some b → ∀ j u, xs[j]? = some u → w.cell? (b.add j) = some u)) :
    Calls Try.prog 22 #[.pointer (some ⟨g, 0, none⟩), .int .i64 n, .string s, .func (.func 24) #[] #[]] w fun e w' => e = .returned (.int .i64 0) ∧ ∃ v w1, w.grownBy w1 none ∧ w1.ownsRow w.heap.size 9 1 v (k + 1) (xs ++ [.string s]) ∧ w' = w1.setCell ⟨g, 1 + n.toNat * 2 + 1, none⟩ v := by
  obtain ⟨i0, hi, hz0, hz1, hz2⟩ := info_parts info9
  have hK : ∀ w', KeptOn (fun _ => True) w.drew w' → w'.cell? ⟨g, 1 + n.toNat * 2 + 1, none⟩ = some (.slice (some a) k c) := fun w' h => h.cell (w := w.drew) hr trivial
  have HI := Lib.hid hi
  clear hi
  go_enter Try.func22, Try.ntmps22
  go_wp2_with fail
  refine (is_any _ _ _ _ hc).mono ?_; rintro e w' ⟨rfl, rfl⟩
  go_wp2_with fail
  refine (down_any _ _ _).mono ?_; rintro e w' ⟨rfl, rfl⟩
  go_wp2_with fail
  refine wp_region_keep (KeptOn fun _ => True) (KeptOn.refl _) (KeptOn.trans) [(0, 0), (1, 0), (2, 0), (3, 0), (4, 0), (5, 0), (6, 0), (7, 0), (8, 0), (9, 0), (10, 0), (11, 0), (12, 0), (13, 0), (14, 1), (15, 1), (16, 0), (17, 2)] (by kernel_rfl) (by kernel_rfl) ?_
  iterate 14 (refine keep_quiet (v := ?_) rfl (fun _ _ _ h => h) (by rfl) (fun w' hR => ?_) ?_; rotate_left; (go_simp; try with_reducible rfl); simp only [Act.put, List.setIfInBounds_toArray, List.set_cons_zero, List.set_cons_succ])
  refine keep_eff rfl ?_
  go_wp2
  refine keepPost_need ?_ ?_
  · exact KeptOn.alloc w.drew _
  refine keep_eff rfl ?_
  refine wpList_append_grows _ rfl (.tmp 47) (.tmp 49) 40 rfl 9 i0 _ 1 16 Try.underlying40 HI.out hz0 hz1 hz2 rfl (by decide) (some a) k k xs rfl (by simp) hx.out (hold_alloc hcell _) ⟨w.heap.size, 0, none⟩ 1 1 [.string s] rfl rfl (cell_one_new _ _ _) (by simp [Value.oneCell']) (by omega) (by unfold maxLen; omega) (by omega) ?_
  intro v1 w1 hown hgr
  obtain ⟨g1, c1, hv⟩ := own_form hown (by omega)
  subst hv
  have hr1 : w1.cell? ⟨g, 1 + n.toNat * 2 + 1, none⟩ = some (.slice (some a) k c) := hgr.cell (by have := World.cell?_alloc_lt w (.cells #[.string s] 9) ⟨g, 1 + n.toNat * 2 + 1, none⟩ hg; exact this.trans hr) (by simp)
  have hfz1 : w1.frozen? ⟨g, 1 + n.toNat * 2 + 1, none⟩ = false := by
    rw [World.frozen?_of_block (hgr.block _ (by simp; omega) (by simp))]
    rw [← hfz]
    exact World.frozen?_of_block (Below.heap_alloc w _ _ hg)
  refine wpList_nil ?_
  refine keepPost_need (KeptOn.grown hgr (by simp)) ?_
  simp only [Act.put, List.setIfInBounds_toArray, List.set_cons_zero, List.set_cons_succ]
  iterate 1 (refine keep_quiet (v := ?_) rfl (fun _ _ _ h => h) (by rfl) (fun w' hR => ?_) ?_; rotate_left; (go_simp; try with_reducible rfl); simp only [Act.put, List.setIfInBounds_toArray, List.set_cons_zero, List.set_cons_succ])
  refine keep_eff rfl ?_
  go_wp2
  refine keepPost_free ?_
  refine keep_done ?_
  go_wp2
  go_ret
  refine ⟨rfl, _, w1, ?_, ⟨hown.1, ?_⟩, rfl⟩
  · exact grownBy_trans (World.grownBy_alloc w (.cells #[.string s] 9) none) (grownBy_trans (grownBy_drew _ _) hgr)
  · rcases hown.2 with h | ⟨g', cap, cur, h1', h2', h3'⟩
    · exact .inl h
    · exact .inr ⟨g', cap, cur, h1', by simp at h2'; omega, h3'⟩

set_option maxRecDepth 100000 in
set_option maxHeartbeats 2000000 in
theorem put_down_none (g : Nat) (n N : Int) (s : ByteArray) (w : World) (hg : g < w.heap.size) (hfz : w.frozen? ⟨g, 1 + n.toNat * 2 + 1, none⟩ = false) (hc : w.cell? ⟨g, 0, none⟩ = some (.int .i64 N)) (hn : isB n N = true) (h0 : 0 ≤ n) (h1 : n < 8) (hs : s.size ≤ 16384)
     (hr : w.cell? ⟨g, 1 + n.toNat * 2 + 1, none⟩ = some (.slice none 0 0))  (xs : List Value) (hx : Hid (xs.length = 0 * 1)) (hcell : Hid (∀ b, (none : Option Addr) = some b → ∀ j u, xs[j]? = some u → w.cell? (b.add j) = some u)) :
    Calls Try.prog 22 #[.pointer (some ⟨g, 0, none⟩), .int .i64 n, .string s, .func (.func 24) #[] #[]] w fun e w' => e = .returned (.int .i64 0) ∧ ∃ v w1, w.grownBy w1 none ∧ w1.ownsRow w.heap.size 9 1 v (0 + 1) (xs ++ [.string s]) ∧ w' = w1.setCell ⟨g, 1 + n.toNat * 2 + 1, none⟩ v := by
  obtain ⟨i0, hi, hz0, hz1, hz2⟩ := info_parts info9
  have hK : ∀ w', KeptOn (fun _ => True) w.drew w' → w'.cell? ⟨g, 1 + n.toNat * 2 + 1, none⟩ = some (.slice none 0 0) := fun w' h => h.cell (w := w.drew) hr trivial
  have HI := Lib.hid hi
  clear hi
  go_enter Try.func22, Try.ntmps22
  go_wp2_with fail
  refine (is_any _ _ _ _ hc).mono ?_; rintro e w' ⟨rfl, rfl⟩
  go_wp2_with fail
  refine (down_any _ _ _).mono ?_; rintro e w' ⟨rfl, rfl⟩
  go_wp2_with fail
  refine wp_region_keep (KeptOn fun _ => True) (KeptOn.refl _) (KeptOn.trans) [(0, 0), (1, 0), (2, 0), (3, 0), (4, 0), (5, 0), (6, 0), (7, 0), (8, 0), (9, 0), (10, 0), (11, 0), (12, 0), (13, 0), (14, 1), (15, 1), (16, 0), (17, 2)] (by kernel_rfl) (by kernel_rfl) ?_
  iterate 14 (refine keep_quiet (v := ?_) rfl (fun _ _ _ h => h) (by rfl) (fun w' hR => ?_) ?_; rotate_left; (go_simp; try with_reducible rfl); simp only [Act.put, List.setIfInBounds_toArray, List.set_cons_zero, List.set_cons_succ])
  refine keep_eff rfl ?_
  go_wp2
  refine keepPost_need ?_ ?_
  · exact KeptOn.alloc w.drew _
  refine keep_eff rfl ?_
  refine wpList_append_grows _ rfl (.tmp 47) (.tmp 49) 40 rfl 9 i0 _ 1 16 Try.underlying40 HI.out hz0 hz1 hz2 rfl (by decide) none 0 0 xs rfl (by simp) hx.out (hold_alloc hcell _) ⟨w.heap.size, 0, none⟩ 1 1 [.string s] rfl rfl (cell_one_new _ _ _) (by simp [Value.oneCell']) (by omega) (by unfold maxLen; omega) (by omega) ?_
  intro v1 w1 hown hgr
  obtain ⟨g1, c1, hv⟩ := own_form hown (by omega)
  subst hv
  have hr1 : w1.cell? ⟨g, 1 + n.toNat * 2 + 1, none⟩ = some (.slice none 0 0) := hgr.cell (by have := World.cell?_alloc_lt w (.cells #[.string s] 9) ⟨g, 1 + n.toNat * 2 + 1, none⟩ hg; exact this.trans hr) (by simp)
  have hfz1 : w1.frozen? ⟨g, 1 + n.toNat * 2 + 1, none⟩ = false := by
    rw [World.frozen?_of_block (hgr.block _ (by simp; omega) (by simp))]
    rw [← hfz]
    exact World.frozen?_of_block (Below.heap_alloc w _ _ hg)
  refine wpList_nil ?_
  refine keepPost_need (KeptOn.grown hgr (by simp)) ?_
  simp only [Act.put, List.setIfInBounds_toArray, List.set_cons_zero, List.set_cons_succ]
  iterate 1 (refine keep_quiet (v := ?_) rfl (fun _ _ _ h => h) (by rfl) (fun w' hR => ?_) ?_; rotate_left; (go_simp; try with_reducible rfl); simp only [Act.put, List.setIfInBounds_toArray, List.set_cons_zero, List.set_cons_succ])
  refine keep_eff rfl ?_
  go_wp2
  refine keepPost_free ?_
  refine keep_done ?_
  go_wp2
  go_ret
  refine ⟨rfl, _, w1, ?_, ⟨hown.1, ?_⟩, rfl⟩
  · exact grownBy_trans (World.grownBy_alloc w (.cells #[.string s] 9) none) (grownBy_trans (grownBy_drew _ _) hgr)
  · rcases hown.2 with h | ⟨g', cap, cur, h1', h2', h3'⟩
    · exact .inl h
    · exact .inr ⟨g', cap, cur, h1', by simp at h2'; omega, h3'⟩

theorem put_down_ok (g : Nat) (n N : Int) (s : ByteArray) (w : World) (L : Nat → List Value) (h : LinkAt Av w g N L) (hAv : ∀ b, w.heap.size ≤ b → Av b) (hn : isB n N = true) (hs : s.size ≤ 16384) (hk : (L (n.toNat * 2 + 1)).length < 128) :
    Calls Try.prog 22 #[.pointer (some ⟨g, 0, none⟩), .int .i64 n, .string s, .func (.func 24) #[] #[]] w fun e w' => e = .returned (.int .i64 0) ∧ LinkAt Av w' g N (upd L (n.toNat * 2 + 1) (L (n.toNat * 2 + 1) ++ [.string s])) ∧ OnlyAt g w w' := by
  have hb := isB_true hn
  have hN := h.2.2
  obtain ⟨v, hv, hrow⟩ := h.1.get (j := n.toNat * 2 + 1) (by omega)
  have e1 : [Value.int IntKind.i64 N].length + (n.toNat * 2 + 1) = 1 + n.toNat * 2 + 1 := by simp only [List.length_cons, List.length_nil]; omega
  rw [e1] at hv
  have fin : ∀ (e : Ending) (w' : World) (m : Nat) (hm : (L (n.toNat * 2 + 1)).length = m), (e = .returned (.int .i64 0) ∧ ∃ v w1, w.grownBy w1 none ∧ w1.ownsRow w.heap.size 9 1 v (m + 1) (L (n.toNat * 2 + 1) ++ [.string s]) ∧ w' = w1.setCell ⟨g, 1 + n.toNat * 2 + 1, none⟩ v) →
      e = .returned (.int .i64 0) ∧ LinkAt Av w' g N (upd L (n.toNat * 2 + 1) (L (n.toNat * 2 + 1) ++ [.string s])) ∧ OnlyAt g w w' := by
    rintro e w' m _ ⟨he, v', w1, hg, ho, rfl⟩
    exact ⟨he, ⟨(h.1.grown hg).set (by decide) (by omega) e1.symm (RowV.of_own hAv ho), h.2⟩, grownBy_setCell (grownBy_some hg _) rfl _⟩
  obtain ⟨ao, k, c, rfl, hnone, hlen, hkc, hcell⟩ := row_parts hrow
  rcases ao with _ | a
  · obtain ⟨rfl, rfl⟩ := hnone rfl
    exact (put_down_none g n N s w h.1.lt (h.1.frozen _) h.num hn hb.1 (by omega) hs hv _ (by simpa using hlen : _ = 0 * 1) hcell).mono fun e w' he => fin e w' 0 hlen he
  · exact (put_down_some g n N s w h.1.lt (h.1.frozen _) h.num hn hb.1 (by omega) hs a k c hv hkc (by omega) _ (by simpa using hlen : _ = k * 1) hcell).mono fun e w' he => fin e w' k hlen he

set_option maxRecDepth 100000 in
set_option maxHeartbeats 1000000 in
theorem put_down_full (g : Nat) (n N : Int) (s : ByteArray) (w : World) (L : Nat → List Value) (h : LinkAt Av w g N L) (hn : isB n N = true) (hs : s.size ≤ 16384) (hk : 128 ≤ (L (n.toNat * 2 + 1)).length) :
    Calls Try.prog 22 #[.pointer (some ⟨g, 0, none⟩), .int .i64 n, .string s, .func (.func 24) #[] #[]] w fun e w' => e = .returned (.int .i64 11) ∧ w = w' := by
  obtain ⟨h0, hb⟩ := isB_true hn
  have hN := h.2.2
  have h8 : n < 8 := by omega
  obtain ⟨v, hv, hrow⟩ := h.1.get (j := n.toNat * 2 + 1) (by omega)
  have e1 : [Value.int IntKind.i64 N].length + (n.toNat * 2 + 1) = 1 + n.toNat * 2 + 1 := by simp only [List.length_cons, List.length_nil]; omega
  rw [e1] at hv
  clear e1
  obtain ⟨ao, k, c, rfl, _, hlen, _, _⟩ := row_parts hrow
  have hk' : 128 ≤ k := by omega
  have hcn := h.num
  clear hrow hlen hk hN hb h
  go_enter Try.func22, Try.ntmps22
  go_wp2_with fail
  refine (is_any _ _ _ _ hcn).mono ?_; rintro e w' ⟨rfl, rfl⟩
  go_wp2_with fail
  refine (down_any _ _ _).mono ?_; rintro e w' ⟨rfl, rfl⟩
  go_wp2_with fail
  go_ret
  exact ⟨rfl, rfl⟩

set_option maxRecDepth 100000 in
set_option maxHeartbeats 1000000 in
theorem put_down_bad (g : Nat) (n N : Int) (s : ByteArray) (w : World) (L : Nat → List Value) (h : LinkAt Av w g N L) (hn : isB n N = false ∨ 16384 < s.size) :
    Calls Try.prog 22 #[.pointer (some ⟨g, 0, none⟩), .int .i64 n, .string s, .func (.func 24) #[] #[]] w fun e w' => e = .returned (.int .i64 2) ∧ w = w' := by
  have hcn := h.num
  clear h
  cases hb : isB n N with
  | false =>
    go_enter Try.func22, Try.ntmps22
    go_wp2_with fail
    refine (is_any _ _ _ _ hcn).mono ?_; rintro e w' ⟨rfl, rfl⟩
    go_wp2_with fail
    go_ret
    exact ⟨rfl, rfl⟩
  | true =>
    have hs : 16384 < s.size := by
      rcases hn with h | h
      · rw [hb] at h; cases h
      · exact h
    clear hn
    go_enter Try.func22, Try.ntmps22
    go_wp2_with fail
    refine (is_any _ _ _ _ hcn).mono ?_; rintro e w' ⟨rfl, rfl⟩
    go_wp2_with fail
    go_ret
    exact ⟨rfl, rfl⟩

set_option maxRecDepth 100000 in
set_option maxHeartbeats 1000000 in
theorem put_nil (n : Int) (s : ByteArray) (f : Value) (w : World) :
    Calls Try.prog 22 #[.pointer none, .int .i64 n, .string s, f] w fun e w' => e = .returned (.int .i64 1) ∧ w = w' := by
  go_enter Try.func22, Try.ntmps22
  go_wp2_with fail
  go_ret
  exact ⟨rfl, rfl⟩
end Go.Proofs.Ytdfdgcknahmnnaa
