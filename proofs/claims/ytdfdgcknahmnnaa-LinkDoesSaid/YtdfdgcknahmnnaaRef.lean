/- The contracts of the reference's links. -/
import Derived.Test.YtdfdgcknahmnnaaAwake
import Derived.Laws.MakeOwn
import Derived.Laws.AppendOwnNone
namespace Go.Proofs.Ytdfdgcknahmnnaa
open Go.RowKit Go.Proofs
set_option linter.unusedSimpArgs false
set_option linter.unusedVariables false

/-- The reference's links at x: tables u (up) and d (down) of N rows. -/
structure RefAt (w : World) (x u d N : Nat) (U D : Nat → List ByteArray) : Prop where
  blk : Blk w x 48 #[.slice (some ⟨u, 0, none⟩) N N, .slice (some ⟨d, 0, none⟩) N N]
  up : Tab w u 40 9 [] N (vals U)
  down : Tab w d 40 9 [] N (vals D)
  ne : u ≠ d

theorem info40 : (Try.prog.info? 40).map (fun i => (i.zero, i.size, i.bytes)) = some (some (.slice none 0 0), 1, 24) := by kernel_rfl

theorem news2 (w : World) (o : Obj) (s : ByteArray) : ∀ j u, [Value.string s][j]? = some u → ((w.alloc o).alloc (.cells #[.string s] 9)).cell? ((⟨w.heap.size + 1, 0, none⟩ : Addr).add j) = some u := by
  have := cell_one_new (w.alloc o) (.string s) 9
  simpa using this
set_option maxHeartbeats 400000 in
theorem RIs (x u N : Nat) (dv : Value) (n : Int) (w : World) (hc : w.cell? ⟨x, 0, none⟩ = some (.slice (some ⟨u, 0, none⟩) N N)) :
    Calls Try.prog 28 #[.pointer (some ⟨x, 0, none⟩), .int .i64 n] w fun e w' => e = .returned (.bool (isB n N)) ∧ w = w' := by
  by_cases h0 : 0 ≤ n
  · go_enter Try.func28, Try.ntmps28
    go_wp2
    go_ret
    exact ⟨by simp [isB, h0], rfl⟩
  · go_enter Try.func28, Try.ntmps28
    go_wp2
    go_ret
    exact ⟨by simp [isB]; omega, rfl⟩

set_option maxRecDepth 100000 in
set_option maxHeartbeats 1000000 in
theorem RPut_bad (x u N : Nat) (r : Value) (n : Int) (s : ByteArray) (w : World) (hc : w.cell? ⟨x, 0, none⟩ = some (.slice (some ⟨u, 0, none⟩) N N)) (hn : isB n N = false ∨ 16384 < s.size) :
    Calls Try.prog 27 #[.pointer (some ⟨x, 0, none⟩), r, .int .i64 n, .string s] w fun e w' => e = .returned (.int .i64 2) ∧ w = w' := by
  cases hb : isB n N with
  | false =>
    go_enter Try.func27, Try.ntmps27
    go_wp2_with fail
    refine (RIs x u N .nilFunc _ _ hc).mono ?_; rintro e w' ⟨rfl, rfl⟩
    go_wp2_with fail
    go_ret
    exact ⟨rfl, rfl⟩
  | true =>
    have hs : 16384 < s.size := by
      rcases hn with h | h
      · rw [hb] at h; cases h
      · exact h
    clear hn
    go_enter Try.func27, Try.ntmps27
    go_wp2_with fail
    refine (RIs x u N .nilFunc _ _ hc).mono ?_; rintro e w' ⟨rfl, rfl⟩
    go_wp2_with fail
    go_ret
    exact ⟨rfl, rfl⟩

set_option maxRecDepth 100000 in
set_option maxHeartbeats 1000000 in
theorem RPut_full (x u t N : Nat) (n : Nat) (s : ByteArray) (w : World) (hc : w.cell? ⟨x, 0, none⟩ = some (.slice (some ⟨u, 0, none⟩) N N)) (hn : n < N) (hb : isB n N = true) (hs : s.size ≤ 16384)
    (ao : Option Addr) (k c : Nat) (hr : w.cell? ⟨t, n, none⟩ = some (.slice ao k c)) (hk : 128 ≤ k) :
    Calls Try.prog 27 #[.pointer (some ⟨x, 0, none⟩), .slice (some ⟨t, 0, none⟩) N N, .int .i64 n, .string s] w fun e w' => e = .returned (.int .i64 11) ∧ w = w' := by
  go_enter Try.func27, Try.ntmps27
  go_wp2_with fail
  refine (RIs x u N .nilFunc _ _ hc).mono ?_; rintro e w' ⟨rfl, rfl⟩
  go_wp2_with fail
  go_ret
  exact ⟨rfl, rfl⟩


set_option maxRecDepth 100000 in
set_option maxHeartbeats 2000000 in
theorem RPut_some (x u t N : Nat) (n : Nat) (s : ByteArray) (w : World) (hc : w.cell? ⟨x, 0, none⟩ = some (.slice (some ⟨u, 0, none⟩) N N)) (hn : n < N) (hb : isB n N = true) (hs : s.size ≤ 16384) (ht : t < w.heap.size)
    (a : Addr) (k c : Nat) (hk : k < 128) (hr : w.cell? ⟨t, n, none⟩ = some (.slice (some a) k c)) (hf : w.frozen? ⟨t, n, none⟩ = false) (xs : List Value) (hx : Hid (xs.length = k * 1)) (hcell : Hid (∀ b, ((some a) : Option Addr) = some b → ∀ j u, xs[j]? = some u → w.cell? (b.add j) = some u)) (h1c : Hid (∀ u ∈ xs, u.oneCell' = true)) :
    Calls Try.prog 27 #[.pointer (some ⟨x, 0, none⟩), .slice (some ⟨t, 0, none⟩) N N, .int .i64 n, .string s] w fun e w' => e = .returned (.int .i64 0) ∧ ∃ v w1, Below w.heap.size w w1 ∧ w1.ownsRow w.heap.size 9 1 v (k + 1) (xs ++ [.string s]) ∧ w' = w1.setCell ⟨t, n, none⟩ v := by
  obtain ⟨i0, hi, hz0, hz1, hz2⟩ := info_parts info9
  have HI := Lib.hid hi
  clear hi
  have hr' : (w.alloc (.cells #[] 9)).cell? ⟨t, n, none⟩ = some (.slice (some a) k c) := (World.cell?_alloc_lt w _ _ ht).trans hr
  go_enter Try.func27, Try.ntmps27
  go_wp2_with fail
  refine (RIs x u N .nilFunc _ _ hc).mono ?_; rintro e w' ⟨rfl, rfl⟩
  have hown0 : (w.alloc (.cells #[] 9)).ownsRow w.heap.size 9 1 (.slice (some ⟨w.heap.size, 0, none⟩) 0 0) 0 [] := World.ownsRow_made w #[] 0 (Nat.le_refl _) (by unfold maxLen; omega) rfl
  go_wp2_with (at_builtin; refine wpList_append_own _ rfl (.tmp 26) (.tmp 30) 40 rfl w.heap.size 9 i0 (.string ByteArray.empty) 1 16 Try.underlying40 HI.out hz0 hz1 hz2 rfl (by decide) (.slice (some ⟨w.heap.size, 0, none⟩) 0 0) 0 [] rfl hown0 a k c xs rfl hx.out (hold_alloc hcell _ _ rfl) h1c.out (by unfold maxLen; omega) (by omega) (by simp) ?_)
  intro v1 w1 hown1 hg1 _
  have hown1 : w1.ownsRow w.heap.size 9 1 v1 k xs := by simpa using hown1
  have hb1 : Below w.heap.size w w1 := ((Below.refl _ _).alloc (Nat.le_refl _) _).grown hg1 (by simp) (fun k hk => by simp [Value.ownBlock] at hk; omega)
  have hz : w.heap.size ≤ w1.heap.size := hb1.size
  have HB := Lib.hid hb1
  have HG := Lib.hid hg1
  have HO := Lib.hid hown1
  clear hb1 hg1 hown1 hown0
  go_wp2_with (at_builtin; refine wpList_append_own _ rfl (.tmp 31) (.tmp 33) 40 rfl w.heap.size 9 i0 (.string ByteArray.empty) 1 16 Try.underlying40 HI.out hz0 hz1 hz2 rfl (by decide) v1 k xs rfl (HO.out.alloc _) ⟨w1.heap.size, 0, none⟩ 1 1 [.string s] rfl rfl (cell_one_new _ _ _) (by simp [Value.oneCell']) (by unfold maxLen; omega) (by omega) (by simp; omega) ?_)
  intro v2 w2 hown2 hg2 _
  have hb2 : Below w.heap.size w w2 := (HB.out.alloc hz _).grown hg2 (by simp; omega) (fun k hk => (HO.out.lt k hk).1)
  obtain ⟨g2, c2, hv2⟩ := own_form hown2 (by omega)
  have hr2 : w2.cell? ⟨t, n, none⟩ = some (.slice (some a) k c) := (hb2.cell (p := ⟨t, n, none⟩) ht).trans hr
  have hf2 : w2.frozen? ⟨t, n, none⟩ = false := (hb2.frozen (p := ⟨t, n, none⟩) ht).trans hf
  have HB2 := Lib.hid hb2
  have HO2 := Lib.hid hown2
  subst hv2
  clear hb2 hown2 hg2 HO
  go_wp2_with fail
  go_ret
  exact ⟨rfl, _, w2, HB2.out, HO2.out, rfl⟩

set_option maxRecDepth 100000 in
set_option maxHeartbeats 2000000 in
theorem RPut_none (x u t N : Nat) (n : Nat) (s : ByteArray) (w : World) (hc : w.cell? ⟨x, 0, none⟩ = some (.slice (some ⟨u, 0, none⟩) N N)) (hn : n < N) (hb : isB n N = true) (hs : s.size ≤ 16384) (ht : t < w.heap.size)
     (hr : w.cell? ⟨t, n, none⟩ = some (.slice none 0 0)) (hf : w.frozen? ⟨t, n, none⟩ = false) (xs : List Value) (hx : Hid (xs.length = 0 * 1)) (hcell : Hid (∀ b, (none : Option Addr) = some b → ∀ j u, xs[j]? = some u → w.cell? (b.add j) = some u)) (h1c : Hid (∀ u ∈ xs, u.oneCell' = true)) :
    Calls Try.prog 27 #[.pointer (some ⟨x, 0, none⟩), .slice (some ⟨t, 0, none⟩) N N, .int .i64 n, .string s] w fun e w' => e = .returned (.int .i64 0) ∧ ∃ v w1, Below w.heap.size w w1 ∧ w1.ownsRow w.heap.size 9 1 v (0 + 1) (xs ++ [.string s]) ∧ w' = w1.setCell ⟨t, n, none⟩ v := by
  obtain ⟨i0, hi, hz0, hz1, hz2⟩ := info_parts info9
  have HI := Lib.hid hi
  clear hi
  have hr' : (w.alloc (.cells #[] 9)).cell? ⟨t, n, none⟩ = some (.slice none 0 0) := (World.cell?_alloc_lt w _ _ ht).trans hr
  go_enter Try.func27, Try.ntmps27
  go_wp2_with fail
  refine (RIs x u N .nilFunc _ _ hc).mono ?_; rintro e w' ⟨rfl, rfl⟩
  have hown0 : (w.alloc (.cells #[] 9)).ownsRow w.heap.size 9 1 (.slice (some ⟨w.heap.size, 0, none⟩) 0 0) 0 [] := World.ownsRow_made w #[] 0 (Nat.le_refl _) (by unfold maxLen; omega) rfl
  have hx0 : xs = [] := List.eq_nil_of_length_eq_zero (by simpa using hx.out)
  subst hx0
  have HO : Hid ((w.alloc (.cells #[] 9)).ownsRow w.heap.size 9 1 (.slice (some ⟨w.heap.size, 0, none⟩) 0 0) 0 []) := hown0
  clear hown0
  go_wp2_with (first | (at_builtin; refine wpList_append_own_none rfl (.tmp 26) (.tmp 30) 40 rfl w.heap.size 9 i0 1 Try.underlying40 HI.out (.slice (some ⟨w.heap.size, 0, none⟩) 0 0) 0 [] rfl HO.out rfl ?_) | (at_builtin; refine wpList_append_own _ rfl (.tmp 31) (.tmp 33) 40 rfl w.heap.size 9 i0 (.string ByteArray.empty) 1 16 Try.underlying40 HI.out hz0 hz1 hz2 rfl (by decide) (.slice (some ⟨w.heap.size, 0, none⟩) 0 0) 0 [] rfl (HO.out.alloc _) ⟨w.heap.size + 1, 0, none⟩ 1 1 [.string s] (by simp [Act.eval, Act.put]) rfl (news2 _ _ _) (by simp [Value.oneCell']) (by unfold maxLen; omega) (by omega) (by simp; omega) ?_))
  intro v2 w2 hown2 hg2 _
  have hb2 : Below w.heap.size w w2 := (((Below.refl _ _).alloc (Nat.le_refl _) _).alloc (by simp) _).grown hg2 (by simp; omega) (fun k hk => by simp [Value.ownBlock] at hk; omega)
  obtain ⟨g2, c2, hv2⟩ := own_form hown2 (by omega)
  have hr2 : w2.cell? ⟨t, n, none⟩ = some (.slice none 0 0) := (hb2.cell (p := ⟨t, n, none⟩) ht).trans hr
  have hf2 : w2.frozen? ⟨t, n, none⟩ = false := (hb2.frozen (p := ⟨t, n, none⟩) ht).trans hf
  have HB2 := Lib.hid hb2
  have HO2 := Lib.hid hown2
  subst hv2
  clear hb2 hown2 hg2 HO
  go_wp2_with fail
  go_ret
  exact ⟨rfl, _, w2, HB2.out, HO2.out, rfl⟩

set_option maxRecDepth 100000 in
set_option maxHeartbeats 2000000 in
theorem RTake_one (x u t N : Nat) (n : Nat) (w : World) (hc : w.cell? ⟨x, 0, none⟩ = some (.slice (some ⟨u, 0, none⟩) N N)) (hn : n < N) (hb : isB n N = true)
    (b o k : Nat)  (hr : w.cell? ⟨t, n, none⟩ = some (.slice (some ⟨b, o, none⟩) k 1)) (hf : w.frozen? ⟨t, n, none⟩ = false) (hk : 1 ≤ k) (hkc : k ≤ 1) (s : ByteArray) (hx : w.cell? ⟨b, o, none⟩ = some (.string s)) :
    Calls Try.prog 21 #[.pointer (some ⟨x, 0, none⟩), .slice (some ⟨t, 0, none⟩) N N, .int .i64 n] w fun e w' => e = .returned (.tuple #[.string s, .bool true]) ∧ w.setCell ⟨t, n, none⟩ (.slice (some ⟨b, o, none⟩) (k - 1) 0) = w' := by
  have hi1 : (1 : Int) ≤ (k : Int) := by omega
  have hi3 : ((k : Int) == 0) = false := beq_eq_false_iff_ne.2 (by omega)
  have hk1 : k = 1 := by omega
  subst hk1
  skip
  skip
  go_enter Try.func21, Try.ntmps21
  go_wp2_with fail
  refine (RIs x u N .nilFunc _ _ hc).mono ?_; rintro e w' ⟨rfl, rfl⟩
  go_wp2_with fail
  go_ret2
  exact ⟨rfl, rfl⟩

set_option maxRecDepth 100000 in
set_option maxHeartbeats 2000000 in
theorem RTake_more (x u t N : Nat) (n : Nat) (w : World) (hc : w.cell? ⟨x, 0, none⟩ = some (.slice (some ⟨u, 0, none⟩) N N)) (hn : n < N) (hb : isB n N = true)
    (b o k : Nat) (c : Nat) (hc2 : 2 ≤ c) (hr : w.cell? ⟨t, n, none⟩ = some (.slice (some ⟨b, o, none⟩) k c)) (hf : w.frozen? ⟨t, n, none⟩ = false) (hk : 1 ≤ k) (hkc : k ≤ c) (s : ByteArray) (hx : w.cell? ⟨b, o, none⟩ = some (.string s)) :
    Calls Try.prog 21 #[.pointer (some ⟨x, 0, none⟩), .slice (some ⟨t, 0, none⟩) N N, .int .i64 n] w fun e w' => e = .returned (.tuple #[.string s, .bool true]) ∧ w.setCell ⟨t, n, none⟩ (.slice (some ⟨b, o + 1, none⟩) (k - 1) (c - 1)) = w' := by
  have hi1 : (1 : Int) ≤ (k : Int) := by omega
  have hi3 : ((k : Int) == 0) = false := beq_eq_false_iff_ne.2 (by omega)
  have hi2 : (k : Int) ≤ (c : Int) := by omega
  have hi4 : (1 : Int) ≤ (c : Int) := by omega
  have hi5 : ((c : Int) == 1) = false := beq_eq_false_iff_ne.2 (by omega)
  have hi6 : (c = 1) = False := by simp; omega
  go_enter Try.func21, Try.ntmps21
  go_wp2_with fail
  refine (RIs x u N .nilFunc _ _ hc).mono ?_; rintro e w' ⟨rfl, rfl⟩
  go_wp2_with fail
  go_ret2
  exact ⟨rfl, rfl⟩

set_option maxRecDepth 100000 in
set_option maxHeartbeats 2000000 in
theorem RTake_none (x u t N : Nat) (n : Nat) (w : World) (hc : w.cell? ⟨x, 0, none⟩ = some (.slice (some ⟨u, 0, none⟩) N N)) (hn : n < N) (hb : isB n N = true)
    (ao : Option Addr) (c : Nat) (hr : w.cell? ⟨t, n, none⟩ = some (.slice ao 0 c)) :
    Calls Try.prog 21 #[.pointer (some ⟨x, 0, none⟩), .slice (some ⟨t, 0, none⟩) N N, .int .i64 n] w fun e w' => e = .returned (.tuple #[.string ByteArray.empty, .bool false]) ∧ w = w' := by
  go_enter Try.func21, Try.ntmps21
  go_wp2_with fail
  refine (RIs x u N .nilFunc _ _ hc).mono ?_; rintro e w' ⟨rfl, rfl⟩
  go_wp2_with fail
  go_ret2
  exact ⟨rfl, rfl⟩
set_option maxRecDepth 100000 in
set_option maxHeartbeats 2000000 in
theorem RTake_bad (x u N : Nat) (r : Value) (n : Int) (w : World) (hc : w.cell? ⟨x, 0, none⟩ = some (.slice (some ⟨u, 0, none⟩) N N)) (hb : isB n N = false) :
    Calls Try.prog 21 #[.pointer (some ⟨x, 0, none⟩), r, .int .i64 n] w fun e w' => e = .returned (.tuple #[.string ByteArray.empty, .bool false]) ∧ w = w' := by
  go_enter Try.func21, Try.ntmps21
  go_wp2_with fail
  refine (RIs x u N .nilFunc _ _ hc).mono ?_; rintro e w' ⟨rfl, rfl⟩
  go_wp2_with fail
  go_ret2
  exact ⟨rfl, rfl⟩
end Go.Proofs.Ytdfdgcknahmnnaa
