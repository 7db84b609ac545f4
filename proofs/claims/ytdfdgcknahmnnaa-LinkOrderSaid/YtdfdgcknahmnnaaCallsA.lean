/- The contracts of link's exported calls, over rows of strings: what each answers, what the rows are behind it. -/
import Derived.Test.YtdfdgcknahmnnaaTakeA
namespace Go.Proofs.Ytdfdgcknahmnnaa
open Go.RowKit Go.Proofs
set_option linter.unusedSimpArgs false
set_option linter.unusedVariables false
variable {Av : Nat → Prop}

def vals (L : Nat → List ByteArray) : Nat → List Value := fun j => (L j).map Value.string
theorem vals_upd (L : Nat → List ByteArray) (j : Nat) (xs : List ByteArray) : upd (vals L) j (xs.map Value.string) = vals (upd L j xs) := by
  funext i
  unfold vals upd
  split <;> rfl
theorem vals_length (L : Nat → List ByteArray) (j : Nat) : (vals L j).length = (L j).length := by simp [vals]

/-- Links of N clients at g, whose rows are L. -/
def LinkA (Av : Nat → Prop) (w : World) (g : Nat) (N : Int) (L : Nat → List ByteArray) : Prop := LinkAt Av w g N (vals L) ∧ ∀ j, (L j).length ≤ 128
theorem upd_le {L : Nat → List ByteArray} (h : ∀ j, (L j).length ≤ 128) (j : Nat) {xs : List ByteArray} (hx : xs.length ≤ 128) : ∀ i, (upd L j xs i).length ≤ 128 := by
  intro i
  unfold upd
  split
  · exact hx
  · exact h i
/-- Behind a call: the rows are L', and nothing else that was there has turned. -/
structure Moved (Av : Nat → Prop) (g : Nat) (N : Int) (L' : Nat → List ByteArray) (w w' : World) : Prop where
  link : LinkA Av w' g N L'
  only : OnlyAt g w w'
theorem Moved.refl {g : Nat} {N : Int} {L : Nat → List ByteArray} {w : World} (h : LinkA Av w g N L) : Moved Av g N L w w := ⟨h, World.grownBy.refl w _⟩
theorem LinkA.drewN {g : Nat} {N : Int} {L : Nat → List ByteArray} {w : World} (h : LinkA Av w g N L) (k : Nat) : LinkA Av (w.drewN k) g N L := h

def putE (N n : Int) (s : ByteArray) (L : Nat → List ByteArray) (d : Nat) : Int :=
  if isB n N = true ∧ s.size ≤ 16384 then (if (L (n.toNat * 2 + d)).length < 128 then 0 else 11) else 2
def putM (N n : Int) (s : ByteArray) (L : Nat → List ByteArray) (d : Nat) : Nat → List ByteArray :=
  if isB n N = true ∧ s.size ≤ 16384 ∧ (L (n.toNat * 2 + d)).length < 128 then upd L (n.toNat * 2 + d) (L (n.toNat * 2 + d) ++ [s]) else L
def takeS (N n : Int) (L : Nat → List ByteArray) (d : Nat) : ByteArray := if isB n N = true then (L (n.toNat * 2 + d)).headD ByteArray.empty else ByteArray.empty
def takeB (N n : Int) (L : Nat → List ByteArray) (d : Nat) : Bool := isB n N && !(L (n.toNat * 2 + d)).isEmpty
def takeM (N n : Int) (L : Nat → List ByteArray) (d : Nat) : Nat → List ByteArray := if isB n N = true then upd L (n.toNat * 2 + d) (L (n.toNat * 2 + d)).tail else L
def resetM (N n : Int) (L : Nat → List ByteArray) : Nat → List ByteArray := if isB n N = true then upd (upd L (n.toNat * 2) []) (n.toNat * 2 + 1) [] else L
def lenM (N n : Int) (L : Nat → List ByteArray) (d : Nat) : Nat := if isB n N = true then (L (n.toNat * 2 + d)).length else 0
theorem lenL_vals (N n : Int) (L : Nat → List ByteArray) (d : Nat) : lenL (vals L) n N d = lenM N n L d := by unfold lenL lenM; rw [vals_length]
theorem upd_id {α : Type} (L : Nat → α) (j : Nat) {x : α} (h : L j = x) : upd L j x = L := by
  funext i
  unfold upd
  split
  · rename_i e; rw [e, h]
  · rfl

theorem put_up (g : Nat) (n N : Int) (s : ByteArray) (w : World) (L : Nat → List ByteArray) (h : LinkA Av w g N L) (hAv : ∀ b, w.heap.size ≤ b → Av b) :
    Calls Try.prog 22 #[.pointer (some ⟨g, 0, none⟩), .int .i64 n, .string s, .func (.func 23) #[] #[]] w fun e w' => e = .returned (.int .i64 (putE N n s L 0)) ∧ Moved Av g N (putM N n s L 0) w w' := by
  by_cases hb : isB n N = true
  · by_cases hs : s.size ≤ 16384
    · by_cases hl : (L (n.toNat * 2 + 0)).length < 128
      · refine (put_up_ok g n N s w (vals L) h.1 hAv hb hs (by rw [vals_length]; exact hl)).mono fun e w' ⟨he, hL, ho⟩ => ⟨?_, ?_, ho⟩
        · rw [he]; simp only [putE, hb, hs, hl, and_self, if_true, if_false]
        · unfold LinkA putM
          rw [if_pos ⟨hb, hs, hl⟩, ← vals_upd]
          exact ⟨by simpa [vals] using hL, upd_le h.2 _ (by rw [List.length_append, List.length_singleton]; omega)⟩
      · refine (put_up_full g n N s w (vals L) h.1 hb hs (by rw [vals_length]; omega)).mono fun e w' ⟨he, hw⟩ => ⟨?_, ?_⟩
        · rw [he]; simp only [putE, hb, hs, hl, and_self, if_true, if_false]
        · subst hw
          unfold putM
          rw [if_neg (fun hh => hl hh.2.2)]
          exact Moved.refl h
    · refine (put_up_bad g n N s w (vals L) h.1 (.inr (by omega))).mono fun e w' ⟨he, hw⟩ => ⟨?_, ?_⟩
      · rw [he]; simp [putE, hs]
      · subst hw
        unfold putM
        rw [if_neg (fun hh => hs hh.2.1)]
        exact Moved.refl h
  · refine (put_up_bad g n N s w (vals L) h.1 (.inl (by simpa using hb))).mono fun e w' ⟨he, hw⟩ => ⟨?_, ?_⟩
    · rw [he]; simp [putE, hb]
    · subst hw
      unfold putM
      rw [if_neg (fun hh => hb hh.1)]
      exact Moved.refl h

theorem take_up (g : Nat) (n N : Int) (w : World) (L : Nat → List ByteArray) (h : LinkA Av w g N L) :
    Calls Try.prog 29 #[.pointer (some ⟨g, 0, none⟩), .int .i64 n, .func (.func 23) #[] #[]] w fun e w' => e = .returned (.tuple #[.string (takeS N n L 0), .bool (takeB N n L 0)]) ∧ Moved Av g N (takeM N n L 0) w w' := by
  cases hb : isB n N with
  | true =>
    cases hl : L (n.toNat * 2 + 0) with
    | nil =>
      refine (take_up_none g n N w (vals L) h.1 hb (by show (L _).map _ = _; rw [hl]; rfl)).mono fun e w' ⟨he, hw⟩ => ⟨?_, ?_⟩
      · rw [he]; simp only [takeS, takeB, hb, hl, if_true]; rfl
      · subst hw
        unfold takeM
        rw [if_pos hb, upd_id L _ (by rw [hl]; rfl)]
        exact Moved.refl h
    | cons x xs =>
      refine (take_up_ok g n N x (xs.map Value.string) w (vals L) h.1 hb (by show (L _).map _ = _; rw [hl]; rfl)).mono fun e w' ⟨he, hL, ho⟩ => ⟨?_, ?_, ho⟩
      · rw [he]; simp only [takeS, takeB, hb, hl, if_true]; rfl
      · unfold LinkA takeM
        rw [if_pos hb, hl, List.tail_cons, ← vals_upd]
        exact ⟨hL, upd_le h.2 _ (by have := h.2 (n.toNat * 2 + 0); rw [hl] at this; simp at this; omega)⟩
  | false =>
    refine (take_bad g n N _ w (vals L) h.1 hb).mono fun e w' ⟨he, hw⟩ => ⟨?_, ?_⟩
    · rw [he]; simp [takeS, takeB, hb]
    · subst hw
      unfold takeM
      rw [if_neg (by rw [hb]; simp)]
      exact Moved.refl h

theorem put_down (g : Nat) (n N : Int) (s : ByteArray) (w : World) (L : Nat → List ByteArray) (h : LinkA Av w g N L) (hAv : ∀ b, w.heap.size ≤ b → Av b) :
    Calls Try.prog 22 #[.pointer (some ⟨g, 0, none⟩), .int .i64 n, .string s, .func (.func 24) #[] #[]] w fun e w' => e = .returned (.int .i64 (putE N n s L 1)) ∧ Moved Av g N (putM N n s L 1) w w' := by
  by_cases hb : isB n N = true
  · by_cases hs : s.size ≤ 16384
    · by_cases hl : (L (n.toNat * 2 + 1)).length < 128
      · refine (put_down_ok g n N s w (vals L) h.1 hAv hb hs (by rw [vals_length]; exact hl)).mono fun e w' ⟨he, hL, ho⟩ => ⟨?_, ?_, ho⟩
        · rw [he]; simp only [putE, hb, hs, hl, and_self, if_true, if_false]
        · unfold LinkA putM
          rw [if_pos ⟨hb, hs, hl⟩, ← vals_upd]
          exact ⟨by simpa [vals] using hL, upd_le h.2 _ (by rw [List.length_append, List.length_singleton]; omega)⟩
      · refine (put_down_full g n N s w (vals L) h.1 hb hs (by rw [vals_length]; omega)).mono fun e w' ⟨he, hw⟩ => ⟨?_, ?_⟩
        · rw [he]; simp only [putE, hb, hs, hl, and_self, if_true, if_false]
        · subst hw
          unfold putM
          rw [if_neg (fun hh => hl hh.2.2)]
          exact Moved.refl h
    · refine (put_down_bad g n N s w (vals L) h.1 (.inr (by omega))).mono fun e w' ⟨he, hw⟩ => ⟨?_, ?_⟩
      · rw [he]; simp [putE, hs]
      · subst hw
        unfold putM
        rw [if_neg (fun hh => hs hh.2.1)]
        exact Moved.refl h
  · refine (put_down_bad g n N s w (vals L) h.1 (.inl (by simpa using hb))).mono fun e w' ⟨he, hw⟩ => ⟨?_, ?_⟩
    · rw [he]; simp [putE, hb]
    · subst hw
      unfold putM
      rw [if_neg (fun hh => hb hh.1)]
      exact Moved.refl h

theorem take_down (g : Nat) (n N : Int) (w : World) (L : Nat → List ByteArray) (h : LinkA Av w g N L) :
    Calls Try.prog 29 #[.pointer (some ⟨g, 0, none⟩), .int .i64 n, .func (.func 24) #[] #[]] w fun e w' => e = .returned (.tuple #[.string (takeS N n L 1), .bool (takeB N n L 1)]) ∧ Moved Av g N (takeM N n L 1) w w' := by
  cases hb : isB n N with
  | true =>
    cases hl : L (n.toNat * 2 + 1) with
    | nil =>
      refine (take_down_none g n N w (vals L) h.1 hb (by show (L _).map _ = _; rw [hl]; rfl)).mono fun e w' ⟨he, hw⟩ => ⟨?_, ?_⟩
      · rw [he]; simp only [takeS, takeB, hb, hl, if_true]; rfl
      · subst hw
        unfold takeM
        rw [if_pos hb, upd_id L _ (by rw [hl]; rfl)]
        exact Moved.refl h
    | cons x xs =>
      refine (take_down_ok g n N x (xs.map Value.string) w (vals L) h.1 hb (by show (L _).map _ = _; rw [hl]; rfl)).mono fun e w' ⟨he, hL, ho⟩ => ⟨?_, ?_, ho⟩
      · rw [he]; simp only [takeS, takeB, hb, hl, if_true]; rfl
      · unfold LinkA takeM
        rw [if_pos hb, hl, List.tail_cons, ← vals_upd]
        exact ⟨hL, upd_le h.2 _ (by have := h.2 (n.toNat * 2 + 1); rw [hl] at this; simp at this; omega)⟩
  | false =>
    refine (take_bad g n N _ w (vals L) h.1 hb).mono fun e w' ⟨he, hw⟩ => ⟨?_, ?_⟩
    · rw [he]; simp [takeS, takeB, hb]
    · subst hw
      unfold takeM
      rw [if_neg (by rw [hb]; simp)]
      exact Moved.refl h

theorem Reset_any (g : Nat) (n N : Int) (w : World) (L : Nat → List ByteArray) (h : LinkA Av w g N L) :
    Calls Try.prog 20 #[.pointer (some ⟨g, 0, none⟩), .int .i64 n] w fun e w' => e = .returned (.bool (isB n N)) ∧ Moved Av g N (resetM N n L) w w' := by
  cases hn : isB n N with
  | true =>
    obtain ⟨h0, hb⟩ := isB_true hn
    have hN := h.1.2.2
    obtain ⟨v, hv, _⟩ := h.1.1.get (j := n.toNat * 2) (by omega)
    obtain ⟨v', hv', _⟩ := h.1.1.get (j := n.toNat * 2 + 1) (by omega)
    have e1 : [Value.int IntKind.i64 N].length + (n.toNat * 2) = 1 + n.toNat * 2 := by simp only [List.length_cons, List.length_nil, Nat.zero_add]
    have e2 : [Value.int IntKind.i64 N].length + (n.toNat * 2 + 1) = 1 + n.toNat * 2 + 1 := by simp only [List.length_cons, List.length_nil]; omega
    rw [e1] at hv
    rw [e2] at hv'
    refine (Reset_in g n N w h.1.num hn h0 (by omega) v v' hv hv' (h.1.1.frozen _) (h.1.1.frozen _)).mono fun e w' ⟨he, hw⟩ => ⟨he, ?_, ?_⟩
    · subst hw
      unfold LinkA resetM
      rw [if_pos hn, ← vals_upd, ← vals_upd]
      exact ⟨⟨(h.1.1.set (by decide) (by omega) e1.symm (RowV.nil _ _)).set (by decide) (by omega) e2.symm (RowV.nil _ _), h.1.2⟩, upd_le (upd_le h.2 _ (by simp)) _ (by simp)⟩
    · subst hw
      exact grownBy_setCell (g := g) (grownBy_setCell (g := g) (World.grownBy.refl w _) (p := ⟨g, 1 + n.toNat * 2, none⟩) rfl _) (p := ⟨g, 1 + n.toNat * 2 + 1, none⟩) rfl _
  | false =>
    refine (Reset_bad g n N w h.1.num hn).mono fun e w' ⟨he, hw⟩ => ⟨he, ?_⟩
    subst hw
    unfold resetM
    rw [if_neg (by rw [hn]; simp)]
    exact Moved.refl h

set_option maxHeartbeats 400000 in
theorem Up_any (g : Nat) (n N : Int) (s : ByteArray) (w : World) (L : Nat → List ByteArray) (h : LinkA Av w g N L) (hAv : ∀ b, w.heap.size ≤ b → Av b) :
    Calls Try.prog 10 #[.pointer (some ⟨g, 0, none⟩), .int .i64 n, .string s] w fun e w' => e = .returned (.int .i64 (putE N n s L 0)) ∧ Moved Av g N (putM N n s L 0) w w' := by
  have H := Lib.hid h
  have HAV := Lib.hid hAv
  clear h hAv
  go_enter Try.func10, Try.ntmps10
  go_wp2_with fail
  refine (put_up g n N s w L H.out HAV.out).mono ?_
  rintro e w' ⟨rfl, hm⟩
  have HM := Lib.hid hm
  clear hm
  go_wp2_with fail
  go_ret
  exact ⟨rfl, HM.out⟩
set_option maxHeartbeats 400000 in
theorem Up_nil (n : Int) (s : ByteArray) (w : World) :
    Calls Try.prog 10 #[.pointer none, .int .i64 n, .string s] w fun e w' => e = .returned (.int .i64 1) ∧ w = w' := by
  go_enter Try.func10, Try.ntmps10
  go_wp2_with fail
  refine (put_nil _ _ _ _).mono ?_
  rintro e w' ⟨rfl, rfl⟩
  go_wp2_with fail
  go_ret
  exact ⟨rfl, rfl⟩
set_option maxHeartbeats 400000 in
theorem TakeUp_any (g : Nat) (n N : Int) (w : World) (L : Nat → List ByteArray) (h : LinkA Av w g N L) :
    Calls Try.prog 18 #[.pointer (some ⟨g, 0, none⟩), .int .i64 n] w fun e w' => e = .returned (.tuple #[.string (takeS N n L 0), .bool (takeB N n L 0)]) ∧ Moved Av g N (takeM N n L 0) w w' := by
  have H := Lib.hid h
  clear h
  go_enter Try.func18, Try.ntmps18
  go_wp2_with fail
  refine (take_up g n N w L H.out).mono ?_
  rintro e w' ⟨rfl, hm⟩
  have HM := Lib.hid hm
  clear hm
  go_wp2_with fail
  go_ret2
  exact ⟨rfl, HM.out⟩
set_option maxHeartbeats 400000 in
theorem TakeUp_nil (n : Int) (w : World) :
    Calls Try.prog 18 #[.pointer none, .int .i64 n] w fun e w' => e = .returned (.tuple #[.string ByteArray.empty, .bool false]) ∧ w = w' := by
  go_enter Try.func18, Try.ntmps18
  go_wp2_with fail
  refine (take_nil _ _ _).mono ?_
  rintro e w' ⟨rfl, rfl⟩
  go_wp2_with fail
  go_ret2
  exact ⟨rfl, rfl⟩

set_option maxHeartbeats 400000 in
theorem Down_any (g : Nat) (n N : Int) (s : ByteArray) (w : World) (L : Nat → List ByteArray) (h : LinkA Av w g N L) (hAv : ∀ b, w.heap.size ≤ b → Av b) :
    Calls Try.prog 11 #[.pointer (some ⟨g, 0, none⟩), .int .i64 n, .string s] w fun e w' => e = .returned (.int .i64 (putE N n s L 1)) ∧ Moved Av g N (putM N n s L 1) w w' := by
  have H := Lib.hid h
  have HAV := Lib.hid hAv
  clear h hAv
  go_enter Try.func11, Try.ntmps11
  go_wp2_with fail
  refine (put_down g n N s w L H.out HAV.out).mono ?_
  rintro e w' ⟨rfl, hm⟩
  have HM := Lib.hid hm
  clear hm
  go_wp2_with fail
  go_ret
  exact ⟨rfl, HM.out⟩
set_option maxHeartbeats 400000 in
theorem Down_nil (n : Int) (s : ByteArray) (w : World) :
    Calls Try.prog 11 #[.pointer none, .int .i64 n, .string s] w fun e w' => e = .returned (.int .i64 1) ∧ w = w' := by
  go_enter Try.func11, Try.ntmps11
  go_wp2_with fail
  refine (put_nil _ _ _ _).mono ?_
  rintro e w' ⟨rfl, rfl⟩
  go_wp2_with fail
  go_ret
  exact ⟨rfl, rfl⟩
set_option maxHeartbeats 400000 in
theorem TakeDown_any (g : Nat) (n N : Int) (w : World) (L : Nat → List ByteArray) (h : LinkA Av w g N L) :
    Calls Try.prog 19 #[.pointer (some ⟨g, 0, none⟩), .int .i64 n] w fun e w' => e = .returned (.tuple #[.string (takeS N n L 1), .bool (takeB N n L 1)]) ∧ Moved Av g N (takeM N n L 1) w w' := by
  have H := Lib.hid h
  clear h
  go_enter Try.func19, Try.ntmps19
  go_wp2_with fail
  refine (take_down g n N w L H.out).mono ?_
  rintro e w' ⟨rfl, hm⟩
  have HM := Lib.hid hm
  clear hm
  go_wp2_with fail
  go_ret2
  exact ⟨rfl, HM.out⟩
set_option maxHeartbeats 400000 in
theorem TakeDown_nil (n : Int) (w : World) :
    Calls Try.prog 19 #[.pointer none, .int .i64 n] w fun e w' => e = .returned (.tuple #[.string ByteArray.empty, .bool false]) ∧ w = w' := by
  go_enter Try.func19, Try.ntmps19
  go_wp2_with fail
  refine (take_nil _ _ _).mono ?_
  rintro e w' ⟨rfl, rfl⟩
  go_wp2_with fail
  go_ret2
  exact ⟨rfl, rfl⟩

theorem Len_a (g : Nat) (n N : Int) (w : World) (L : Nat → List ByteArray) (h : LinkA Av w g N L) :
    Calls Try.prog 12 #[.pointer (some ⟨g, 0, none⟩), .int .i64 n] w fun e w' => e = .returned (.tuple #[.int .i64 (lenM N n L 0 : Nat), .int .i64 (lenM N n L 1 : Nat)]) ∧ ∃ k, w' = w.drewN k := by
  have := Len_any g n N w (vals L) h.1
  rw [lenL_vals, lenL_vals] at this
  exact this
theorem New_a (n : Int) (w : World) (h1 : 2 ≤ n) (h2 : n ≤ 8) :
    Calls Try.prog 8 #[.int .i64 n] w fun e w' => e = .returned (.tuple #[.pointer (some ⟨w.heap.size, 0, none⟩), .int .i64 0]) ∧ LinkA Av w' w.heap.size n (fun _ => []) ∧ w.grownBy w' none ∧ w'.heap.size = w.heap.size + 1 :=
  (New_ok n w h1 h2).mono fun _ _ ⟨a, b, c, d⟩ => ⟨a, ⟨b, fun _ => Nat.zero_le _⟩, c, d⟩

end Go.Proofs.Ytdfdgcknahmnnaa
