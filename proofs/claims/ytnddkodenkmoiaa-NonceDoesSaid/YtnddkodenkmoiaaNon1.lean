/- The allocator: a number's text reads as the number; Open, Next, Limit. -/
import Derived.Test.YtnddkodenkmoiaaNum5
namespace Go.Proofs.Ytnddkodenkmoiaa
open Go.RowKit Go.Proofs
set_option linter.unusedSimpArgs false
set_option linter.unusedVariables false
theorem getD_left {a b : List UInt8} {i : Nat} (h : i < a.length) : (a ++ b).getD i 0 = a.getD i 0 := by
  rw [List.getD_eq_getElem?_getD, List.getElem?_append_left h, ← List.getD_eq_getElem?_getD]
theorem getD_at {a b : List UInt8} : (a ++ b).getD a.length 0 = b.getD 0 0 := by
  rw [List.getD_eq_getElem?_getD, List.getElem?_append_right (Nat.le_refl _), Nat.sub_self, ← List.getD_eq_getElem?_getD]
theorem isD_dig (k : Nat) (h : k < 10) : isD (UInt8.ofNat (48 + k)) = true := by
  unfold isD; rw [u8n]; simp; omega
theorem digs_ne (n : Nat) : digs n ≠ [] := by
  by_cases h : n < 10
  · rw [digs_low h]; simp
  · rw [digs_high (by omega)]; simp
theorem digs_all : ∀ (n : Nat), ∀ c ∈ digs n, isD c = true := by
  intro n
  induction n using Nat.strongRecOn with
  | _ n ih =>
  intro c hc
  by_cases h : n < 10
  · rw [digs_low h, List.mem_singleton] at hc; rw [hc]; exact isD_dig n h
  · rw [digs_high (by omega), List.mem_append, List.mem_singleton] at hc
    rcases hc with hc | hc
    · exact ih (n / 10) (by omega) c hc
    · rw [hc]; exact isD_dig _ (by omega)
theorem digs_val : ∀ (n : Nat), (digs n).foldl (fun n c => n * 10 + (c.toNat - 48)) 0 = n := by
  intro n
  induction n using Nat.strongRecOn with
  | _ n ih =>
  by_cases h : n < 10
  · rw [digs_low h]; show 0 * 10 + ((UInt8.ofNat (48 + n)).toNat - 48) = n; rw [u8n]; omega
  · rw [digs_high (by omega), List.foldl_append, ih (n / 10) (by omega)]
    show n / 10 * 10 + ((UInt8.ofNat (48 + n % 10)).toNat - 48) = n
    rw [u8n]; omega
theorem digs_head : ∀ (n : Nat), 1 ≤ n → (digs n).getD 0 0 ≠ 48 := by
  intro n
  induction n using Nat.strongRecOn with
  | _ n ih =>
  intro h1
  by_cases h : n < 10
  · rw [digs_low h]
    intro hh
    have : (UInt8.ofNat (48 + n)).toNat = 48 := by rw [show UInt8.ofNat (48 + n) = 48 from hh]; rfl
    rw [u8n] at this; omega
  · rw [digs_high (by omega), getD_left (List.length_pos_iff.2 (digs_ne _))]
    exact ih (n / 10) (by omega) (by omega)
theorem digs_len1 (n : Nat) (h : 1 < (digs n).length) : 1 ≤ n := by
  by_cases h0 : n = 0
  · subst h0; rw [digs_low (by omega)] at h; simp at h
  · omega
theorem takeWhile_digs (n : Nat) (l : List UInt8) (h : isD (l.headD 0) = false) : (digs n ++ l).takeWhile isD = digs n := by
  rw [List.takeWhile_append_of_pos (digs_all n)]
  cases l with
  | nil => simp
  | cons a l => rw [List.takeWhile_cons, if_neg (by simpa using h)]; simp
theorem numOf_pos (n : Nat) : numOf (n : Int) = digs n ++ [59] := by
  unfold numOf; rw [if_neg (by omega), Int.natAbs_natCast]
theorem readP_num (n : Nat) (h : n ≤ 9223372036854775807) : readP (numOf (n : Int)) = ((n : Int), ((numOf (n : Int)).length : Int), 0) := by
  have hne := digs_ne n
  have hpos : 0 < (digs n).length := List.length_pos_iff.2 hne
  have hd : digsAt (numOf (n : Int)) 0 = digs n := by
    unfold digsAt; rw [List.drop_zero, numOf_pos]; exact takeWhile_digs n [59] (by decide)
  have hlen : (numOf (n : Int)).length = (digs n).length + 1 := by rw [numOf_pos, List.length_append]; rfl
  have h0 : (numOf (n : Int)).getD 0 0 = (digs n).getD 0 0 := by rw [numOf_pos, getD_left hpos]
  have hD0 : isD ((digs n).getD 0 0) = true := by
    refine digs_all n _ ?_
    rw [List.getD_eq_getElem?_getD, List.getElem?_eq_getElem hpos]; exact List.getElem_mem _
  have ha : aOf (numOf (n : Int)) = 0 := by
    unfold aOf
    rw [if_neg]
    intro hh
    rw [h0] at hh
    rw [hh] at hD0; revert hD0; decide
  have he : endN (numOf (n : Int)) 0 = (digs n).length := by unfold endN; rw [hd]; omega
  have hv : valFrom (numOf (n : Int)) 0 0 = n := by unfold valFrom; rw [hd]; exact digs_val n
  have hlast : (numOf (n : Int)).getD (digs n).length 0 = 59 := by
    rw [numOf_pos, getD_at]; rfl
  have hs : shapeE (numOf (n : Int)) 0 (digs n).length 59 = 0 := by
    unfold shapeE
    rw [if_neg (by omega), if_neg]
    rintro (h1 | h1 | ⟨h1, h2⟩)
    · omega
    · exact h1 hlast
    · rw [h0] at h2
      exact digs_head n (digs_len1 n (by omega)) h2
  unfold readP
  rw [ha, he, hv, hs, if_neg (by decide), if_neg (by omega), if_neg (by omega), if_neg (by decide), hlen]
  simp
/-- An allocator. -/
def AllocAt (w : World) (a c : Nat) (next limit : Int) : Prop := Blk w a 107 #[.pointer (some ⟨c, 0, none⟩), .int .i64 next, .int .i64 limit]
/-- Open: what is answered, and the number. -/
def openE (p : ByteArray × Int × Int) : Int :=
  if p.2.2 = 9 then 0 else if p.2.2 ≠ 0 then p.2.2 else
  if (readP (by_ p.1)).2.2 ≠ 0 ∨ (readP (by_ p.1)).2.1 < (p.1.size : Int) ∨ (readP (by_ p.1)).1 < 0 ∨ 1099511627776 < (readP (by_ p.1)).1 then 6 else 0
def openN (p : ByteArray × Int × Int) : Int := if p.2.2 = 9 then 0 else (readP (by_ p.1)).1
theorem fieldB_len_le {x : Dk} (h : okL x.L) (base n : Nat) : (fieldB x base n).length ≤ 64 * n := by
  induction n with
  | zero => simp [fieldB]
  | succ n ih =>
    unfold fieldB at ih ⊢
    rw [List.range_succ, List.flatMap_append, List.length_append]
    have : (x.B (base + n)).length ≤ 64 := by
      unfold Dk.B
      cases hq : x.L[base + n]? with
      | none => simp
      | some s => show s.b.length ≤ 64; have := (h s (mem_of_get hq)).1; omega
    simp only [List.flatMap_cons, List.flatMap_nil, List.append_nil]
    omega
theorem loadF_size {x : Dk} (h : okL x.L) (f size : Nat) : (x.loadF f size).1.size ≤ 64 * size := by
  have hp : ∀ base k, (strOf ((fieldB x base size).take k)).size ≤ 64 * size := fun base k => by
    rw [strOf_size, List.length_take]; have := fieldB_len_le h base size; omega
  unfold Dk.loadF
  split
  · exact Nat.zero_le _
  · split
    · exact Nat.zero_le _
    · split
      · exact hp _ _
      · exact hp _ _
set_option maxRecDepth 100000 in
set_option maxHeartbeats 4000000 in
theorem openA_any (c d g f size : Nat) (x : Dk) (w : World) (hc : CellAt w c d (f : Int) (size : Int)) (hD : DiskAt w d g x) (h1 : 1 ≤ size) (h2 : size ≤ 255) (hf : f + 2 + 2 * size ≤ x.L.length) :
    Calls Try.prog 32 #[.pointer (some ⟨c, 0, none⟩)] w fun e w' =>
      ((openE (x.loadF f size) = 0 ∧ ∃ a, w.heap.size ≤ a ∧ e = .returned (.tuple #[.pointer (some ⟨a, 0, none⟩), .int .i64 0]) ∧ AllocAt w' a c (openN (x.loadF f size)) (openN (x.loadF f size))) ∨
       (openE (x.loadF f size) ≠ 0 ∧ e = .returned (.tuple #[.pointer none, .int .i64 (openE (x.loadF f size))]))) ∧ Below w.heap.size w w' := by
  have hsz := loadF_size hD.2.2.1 f size
  have HC := Lib.hid hc
  have HD := Lib.hid hD
  clear hc hD
  go_enter Try.func32, Try.ntmps32
  go_wp2_with fail
  refine (load_any c d g f size x w HC.out HD.out h1 h2 hf).mono ?_
  rintro e w1 ⟨rfl, hB⟩
  have HB := Lib.hid hB
  clear hB
  obtain ⟨⟨txt, n, code⟩, hp⟩ : ∃ p, x.loadF f size = p := ⟨_, rfl⟩
  rw [hp] at hsz ⊢
  have HP := Lib.hid hp
  clear hp
  simp only at hsz ⊢
  by_cases h9 : code = 9
  · have HE := Lib.hid (show openE (x.loadF f size) = 0 by rw [HP.out]; unfold openE; rw [if_pos h9])
    have HN := Lib.hid (show openN (x.loadF f size) = 0 by rw [HP.out]; unfold openN; rw [if_pos h9])
    subst h9
    go_wp2_with fail
    go_ret2
    refine ⟨.inl ⟨HE.out, _, HB.out.size, rfl, ?_⟩, HB.out.alloc HB.out.size _⟩
    rw [HN.out]; exact Blk.new w1 107 _
  · by_cases h0 : code = 0
    · subst h0
      have HE := Lib.hid (show openE (x.loadF f size) = if (readP (by_ txt)).2.2 ≠ 0 ∨ (readP (by_ txt)).2.1 < (txt.size : Int) ∨ (readP (by_ txt)).1 < 0 ∨ 1099511627776 < (readP (by_ txt)).1 then 6 else 0 by rw [HP.out]; unfold openE; rw [if_neg h9, if_neg (by simp)])
      have HN := Lib.hid (show openN (x.loadF f size) = (readP (by_ txt)).1 by rw [HP.out]; unfold openN; rw [if_neg h9])
      go_wp2_with fail
      refine (readL_any txt w1 (by unfold maxLen; omega)).mono ?_
      rintro e w' ⟨rfl, rfl⟩
      generalize readP (by_ txt) = r at HE HN ⊢
      obtain ⟨r1, r2, r3⟩ := r
      simp only at HE HN ⊢
      by_cases k3 : r3 = 0
      · by_cases k2 : r2 < (txt.size : Int)
        · have HE2 := Lib.hid (HE.out.trans (if_pos (.inr (.inl k2))))
          subst k3
          go_wp2_with fail
          go_ret2
          exact ⟨.inr ⟨by rw [HE2.out]; decide, by rw [HE2.out]; rfl⟩, HB.out⟩
        · by_cases k1 : r1 < 0
          · have HE2 := Lib.hid (HE.out.trans (if_pos (.inr (.inr (.inl k1)))))
            subst k3
            go_wp2_with fail
            go_ret2
            exact ⟨.inr ⟨by rw [HE2.out]; decide, by rw [HE2.out]; rfl⟩, HB.out⟩
          · by_cases k4 : 1099511627776 < r1
            · have HE2 := Lib.hid (HE.out.trans (if_pos (.inr (.inr (.inr k4)))))
              subst k3
              go_wp2_with fail
              go_ret2
              exact ⟨.inr ⟨by rw [HE2.out]; decide, by rw [HE2.out]; rfl⟩, HB.out⟩
            · have HE2 := Lib.hid (HE.out.trans (if_neg (by rintro (h | h | h | h) <;> first | exact h k3 | omega)))
              subst k3
              go_wp2_with fail
              go_ret2
              refine ⟨.inl ⟨HE2.out, _, HB.out.size, rfl, ?_⟩, HB.out.alloc HB.out.size _⟩
              rw [HN.out]; exact Blk.new _ 107 _
      · have HE2 := Lib.hid (HE.out.trans (if_pos (.inl k3)))
        have k3b : (r3 == 0) = false := beq_eq_false_iff_ne.2 k3
        go_wp2_with fail
        go_ret2
        exact ⟨.inr ⟨by rw [HE2.out]; decide, by rw [HE2.out]; rfl⟩, HB.out⟩
    · have HE := Lib.hid (show openE (x.loadF f size) = code by rw [HP.out]; unfold openE; rw [if_neg h9, if_pos h0])
      have b9 : (code == 9) = false := beq_eq_false_iff_ne.2 h9
      have b0 : (code == 0) = false := beq_eq_false_iff_ne.2 h0
      go_wp2_with fail
      go_ret2
      exact ⟨.inr ⟨by rw [HE.out]; exact h0, by rw [HE.out]; rfl⟩, HB.out⟩
theorem openA_nil (w : World) :
    Calls Try.prog 32 #[.pointer none] w fun e w' => e = .returned (.tuple #[.pointer none, .int .i64 1]) ∧ w = w' := by
  go_enter Try.func32, Try.ntmps32
  go_wp2_with fail
  go_ret2
  exact ⟨rfl, rfl⟩
theorem next_any (a c : Nat) (n l : Int) (w : World) (h : AllocAt w a c n l) :
    Calls Try.prog 35 #[.pointer (some ⟨a, 0, none⟩)] w fun e w' => e = .returned (.int .i64 n) ∧ w = w' := by
  have c1 := Blk.cell h 1
  have c1 : w.cell? ⟨a, 1, none⟩ = some (.int .i64 n) := Blk.cell h 1
  clear h
  go_enter Try.func35, Try.ntmps35
  go_wp2_with fail
  go_ret
  exact ⟨rfl, rfl⟩
theorem next_nil (w : World) :
    Calls Try.prog 35 #[.pointer none] w fun e w' => e = .returned (.int .i64 0) ∧ w = w' := by
  go_enter Try.func35, Try.ntmps35
  go_wp2_with fail
  go_ret
  exact ⟨rfl, rfl⟩
theorem limit_any (a c : Nat) (n l : Int) (w : World) (h : AllocAt w a c n l) :
    Calls Try.prog 37 #[.pointer (some ⟨a, 0, none⟩)] w fun e w' => e = .returned (.int .i64 l) ∧ w = w' := by
  have c1 : w.cell? ⟨a, 2, none⟩ = some (.int .i64 l) := Blk.cell h 2
  clear h
  go_enter Try.func37, Try.ntmps37
  go_wp2_with fail
  go_ret
  exact ⟨rfl, rfl⟩
theorem limit_nil (w : World) :
    Calls Try.prog 37 #[.pointer none] w fun e w' => e = .returned (.int .i64 0) ∧ w = w' := by
  go_enter Try.func37, Try.ntmps37
  go_wp2_with fail
  go_ret
  exact ⟨rfl, rfl⟩
end Go.Proofs.Ytnddkodenkmoiaa
