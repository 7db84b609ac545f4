/- A prober: Heard, Asked, Next, Due. -/
import Derived.Test.YtaennccfhdjaaaaPr8
namespace Go.Proofs.Ytaennccfhdjaaaa
open Go.RowKit Go.Proofs
set_option linter.unusedSimpArgs false
set_option linter.unusedVariables false
theorem ProbAt.blk' {w : World} {base p g N me : Nat} {now next : Int} {D : Int → Int} (h : ProbAt w base p g N me now next D) : ∃ v : Value, Blk w p 49 #[.int .i64 N, .int .i64 me, .int .i64 now, .int .i64 next, v] := by
  obtain ⟨cap, f, hP, _⟩ := h.here
  exact ⟨_, hP.blk⟩
theorem ProbAt.below {w w' : World} {base p g N me : Nat} {now next : Int} {D : Int → Int} (h : ProbAt w base p g N me now next D) (hb : Below w.heap.size w w') : ProbAt w' base p g N me now next D := by
  obtain ⟨cap, f, hP, hC⟩ := h.here
  exact ⟨⟨cap, f, hP.below hb, hC⟩, h.two, h.eight, h.lt⟩
theorem ProbAt.is {w : World} {base p g N me : Nat} {now next : Int} {D : Int → Int} (h : ProbAt w base p g N me now next D) (n : Int) :
    Calls Try.prog 20 #[.pointer (some ⟨p, 0, none⟩), .int .i64 n] w fun e w' => e = .returned (.bool (isB N me n)) ∧ w = w' := by
  obtain ⟨cap, f, hP, hC⟩ := h.here
  exact is_any _ _ _ _ _ _ _ _ _ n w hP
theorem who_isB {N me : Nat} {n : Int} (h : isB N me n = true) : Who N me n := .inr (of_decide_eq_true h)
theorem heard_no (base p g N me : Nat) (now next : Int) (D : Int → Int) (n : Int) (w : World) (hA : ProbAt w base p g N me now next D) (hn : isB N me n = false) :
    Calls Try.prog 10 #[.pointer (some ⟨p, 0, none⟩), .int .i64 n] w fun e w' => e = .returned (.bool false) ∧ w = w' := by
  go_enter Try.func10, Try.ntmps10
  go_wp2_with fail
  refine (hA.is n).mono ?_
  rintro e w' ⟨rfl, rfl⟩
  go_wp2_with fail
  go_ret
  exact ⟨rfl, rfl⟩
theorem heard_nil (n : Int) (w : World) : Calls Try.prog 10 #[.pointer none, .int .i64 n] w fun e w' => e = .returned (.bool false) ∧ w = w' := by
  go_enter Try.func10, Try.ntmps10
  go_wp2_with fail
  refine (is_nil n w).mono ?_
  rintro e w' ⟨rfl, rfl⟩
  go_wp2_with fail
  go_ret
  exact ⟨rfl, rfl⟩
theorem heard_yes (base p g N me : Nat) (now next : Int) (D : Int → Int) (n : Int) (w : World) (hA : ProbAt w base p g N me now next D) (hn : isB N me n = true) (h0 : 0 ≤ now) (h1 : now ≤ 1000000) :
    Calls Try.prog 10 #[.pointer (some ⟨p, 0, none⟩), .int .i64 n] w fun e w' => e = .returned (.bool true) ∧ SetP base p g N me now next (setD D n (now + 4)) w w' := by
  obtain ⟨v, hb⟩ := hA.blk'
  have c2 : w.cell? ⟨p, 2, none⟩ = some (.int .i64 now) := hb.cell 2
  clear hb
  go_enter Try.func10, Try.ntmps10
  go_wp2_with fail
  refine (hA.is n).mono ?_
  rintro e w' ⟨rfl, rfl⟩
  go_wp2_with fail
  refine (set_any base p g N me now next D n (now + 4) (who_isB hn) w hA).mono ?_
  rintro e w' ⟨rfl, hS⟩
  have HS := Lib.hid hS
  clear hS hA c2
  go_wp2_with fail
  go_ret
  exact ⟨rfl, HS.out⟩
theorem asked_nil (w : World) : Calls Try.prog 17 #[.pointer none] w fun e w' => e = .returned (.bool false) ∧ w = w' := by
  go_enter Try.func17, Try.ntmps17
  go_wp2_with fail
  go_ret
  exact ⟨rfl, rfl⟩
theorem asked_any (base p g N me : Nat) (now next : Int) (D : Int → Int) (w : World) (hA : ProbAt w base p g N me now next D) (h0 : 0 ≤ now) (h1 : now ≤ 1000000) :
    Calls Try.prog 17 #[.pointer (some ⟨p, 0, none⟩)] w fun e w' => e = .returned (.bool true) ∧ SetP base p g N me now next (setD D (-1) (now + 7)) w w' := by
  obtain ⟨v, hb⟩ := hA.blk'
  have c2 : w.cell? ⟨p, 2, none⟩ = some (.int .i64 now) := hb.cell 2
  clear hb
  go_enter Try.func17, Try.ntmps17
  go_wp2_with fail
  refine (set_any base p g N me now next D (-1) (now + 7) (.inl rfl) w hA).mono ?_
  rintro e w' ⟨rfl, hS⟩
  have HS := Lib.hid hS
  clear hS hA c2
  go_wp2_with fail
  go_ret
  exact ⟨rfl, HS.out⟩
theorem next_nil (w : World) : Calls Try.prog 14 #[.pointer none] w fun e w' => e = .returned (.int .i64 0) ∧ w = w' := by
  go_enter Try.func14, Try.ntmps14
  go_wp2_with fail
  go_ret
  exact ⟨rfl, rfl⟩
theorem next_any (base p g N me : Nat) (now next : Int) (D : Int → Int) (w : World) (hA : ProbAt w base p g N me now next D) :
    Calls Try.prog 14 #[.pointer (some ⟨p, 0, none⟩)] w fun e w' => e = .returned (.int .i64 next) ∧ w = w' := by
  obtain ⟨v, hb⟩ := hA.blk'
  have c3 : w.cell? ⟨p, 3, none⟩ = some (.int .i64 next) := hb.cell 3
  clear hb
  go_enter Try.func14, Try.ntmps14
  go_wp2_with fail
  go_ret
  exact ⟨rfl, rfl⟩
theorem due_nil (n : Int) (w : World) : Calls Try.prog 16 #[.pointer none, .int .i64 n] w fun e w' => e = .returned (.int .i64 0) ∧ w = w' := by
  go_enter Try.func16, Try.ntmps16
  go_wp2_with fail
  refine (is_nil n w).mono ?_
  rintro e w' ⟨rfl, rfl⟩
  go_wp2_with fail
  go_ret
  exact ⟨rfl, rfl⟩
theorem due_no (base p g N me : Nat) (now next : Int) (D : Int → Int) (n : Int) (w : World) (hA : ProbAt w base p g N me now next D) (hn : isB N me n = false) :
    Calls Try.prog 16 #[.pointer (some ⟨p, 0, none⟩), .int .i64 n] w fun e w' => e = .returned (.int .i64 0) ∧ Below w.heap.size w w' := by
  go_enter Try.func16, Try.ntmps16
  go_wp2_with fail
  refine (hA.is n).mono ?_
  rintro e w' ⟨rfl, rfl⟩
  go_wp2_with fail
  go_ret
  exact ⟨rfl, Below.refl _ _⟩
set_option maxRecDepth 100000 in
set_option maxHeartbeats 1000000 in
theorem due_yes (base p g N me : Nat) (now next : Int) (D : Int → Int) (n : Int) (w : World) (hA : ProbAt w base p g N me now next D) (hn : isB N me n = true) :
    Calls Try.prog 16 #[.pointer (some ⟨p, 0, none⟩), .int .i64 n] w fun e w' => e = .returned (.int .i64 (D n)) ∧ Below w.heap.size w w' := by
  obtain ⟨cap, f, hP, hC⟩ := hA.here
  have HF := Lib.hid ((hC.mem (D n, n)).1 ⟨who_isB hn, rfl⟩)
  have HD := Lib.hid (fun k (hk : k < N) => ((hC.mem (f k)).2 ⟨k, hk, rfl⟩).2)
  have HI := Lib.hid (hA.is n)
  have c4 := hP.sl
  have HP := Lib.hid hP
  have hN := hA.eight
  clear hA hC hP
  go_enter Try.func16, Try.ntmps16
  go_wp2_with fail
  refine HI.out.mono ?_
  rintro e w' ⟨rfl, rfl⟩
  clear HI
  go_wp2_with fail
  go_loopw [6, 16] (fun _ v16 wr => ∃ k : Nat, v16 = .int .i64 (k : Int) ∧ k ≤ N ∧ (∀ j, j < k → (f j).2 ≠ n) ∧ Below w.heap.size w wr) (fun _ v16 _ => N - (intOf v16).toNat)
  case atStart => exact ⟨0, rfl, by omega, fun j hj => by omega, Below.refl _ _⟩
  case round =>
    obtain ⟨k, rfl, hk, hne, hb⟩ := hrel
    have HNE := Lib.hid hne
    have HP2 := Lib.hid (HP.out.below hb)
    have HB := Lib.hid hb
    clear hne hb
    by_cases hlt : (k : Int) < (N : Int)
    · obtain ⟨h1, h2⟩ := owns_cells HP2.out.own (k := k) (by omega)
      by_cases hw : (f k).2 = n
      · have HW := Lib.hid (show (f k).1 = D n by rw [HD.out k (by omega), hw])
        go_wp2_with fail
        go_ret
        exact ⟨by first | rfl | (rw [← HW.out]; rfl), HB.out.alloc HB.out.size _⟩
      · go_wp2_with fail
        go_roundw
        case rel => exact ⟨k + 1, by go_num, by omega, fun j hj => by
          by_cases e : j = k
          · rw [e]; exact hw
          · exact HNE.out j (by omega), HB.out.alloc HB.out.size _⟩
        case measure => simp [intOf]; omega
    · go_wp2_with fail
      go_ret
      obtain ⟨i, hi, he⟩ := HF.out
      exact absurd (by rw [he]) (HNE.out i (by omega))
end Go.Proofs.Ytaennccfhdjaaaa
