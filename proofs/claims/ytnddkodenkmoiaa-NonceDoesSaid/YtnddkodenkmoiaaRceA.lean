/- The reference's cell: its numbers, what its slots say, Open, part, Eight, Load. -/
import Derived.Test.YtnddkodenkmoiaaCelq
import Derived.Test.YtnddkodenkmoiaaNum2
import Derived.Test.YtnddkodenkmoiaaRdk5
import Derived.BigQuiet
import Derived.Test.YtnddkodenkmoiaaCell6
import Derived.Laws.AppendOwnNone
import Derived.Laws.AppendOwn
import Derived.Lib.AppendStr
/- The reference's cell: number. -/
namespace Go.Proofs.Ytnddkodenkmoiaa
open Go.RowKit Go.Proofs
set_option linter.unusedSimpArgs false
set_option linter.unusedVariables false
/-- What the reference's number says. -/
def numR (l : List UInt8) : Int := if 127 < (l.getD 0 0).toNat then -1 else (foldN (l.take 8) : Int)
theorem foldN_top (b : UInt8) (l : List UInt8) : b.toNat * 256 ^ l.length ≤ foldN (b :: l) ∧ foldN (b :: l) < (b.toNat + 1) * 256 ^ l.length := by
  constructor
  · have : ∀ (l : List UInt8) (a : Nat), a * 256 ^ l.length ≤ l.foldl (fun n b => n * 256 + b.toNat) a := by
      intro l
      induction l with
      | nil => intro a; simp
      | cons c l ih =>
        intro a
        refine Nat.le_trans ?_ (ih (a * 256 + c.toNat))
        rw [List.length_cons, Nat.pow_succ, Nat.mul_comm (256 ^ l.length) 256, ← Nat.mul_assoc]
        exact Nat.mul_le_mul_right _ (by omega)
    have h := this l (0 * 256 + b.toNat)
    rw [Nat.zero_mul, Nat.zero_add] at h
    unfold foldN
    rw [List.foldl_cons, Nat.zero_mul, Nat.zero_add]
    exact h
  · have h := foldN_from l (0 * 256 + b.toNat)
    rw [Nat.zero_mul, Nat.zero_add] at h
    unfold foldN
    rw [List.foldl_cons, Nat.zero_mul, Nat.zero_add]
    exact h
theorem foldN_part {l : List UInt8} (h : (l.getD 0 0).toNat ≤ 127) {i : Nat} (hi : i < l.length) : foldN (l.take (i + 1)) < 128 * 256 ^ i := by
  cases l with
  | nil => simp at hi
  | cons b l =>
    rw [List.take_succ_cons]
    have := (foldN_top b (l.take i)).2
    have hb : b.toNat ≤ 127 := h
    have hl : (l.take i).length = i := by rw [List.length_take]; simp at hi; omega
    rw [hl] at this
    exact Nat.lt_of_lt_of_le this (Nat.mul_le_mul_right _ (by omega))
theorem numR_numI {l : List UInt8} (h : 8 ≤ l.length) : (numI l < 0 ∧ numR l = -1) ∨ (0 ≤ numI l ∧ numR l = numI l) := by
  match l, h with
  | b :: l, h =>
    have hl : (l.take 7).length = 7 := by rw [List.length_take]; simp at h; omega
    have ht := foldN_top b (l.take 7)
    rw [hl] at ht
    have hb := b.toNat_lt
    unfold numI numR
    rw [show (b :: l).take 8 = b :: l.take 7 from rfl, show (b :: l).getD 0 0 = b from rfl]
    generalize foldN (b :: l.take 7) = F at ht ⊢
    unfold sgn
    by_cases hc : 127 < b.toNat
    · rw [if_pos hc]
      left
      have : 128 * 256 ^ 7 ≤ F := Nat.le_trans (Nat.mul_le_mul_right _ (by omega)) ht.1
      have h2 : F < 256 * 256 ^ 7 := Nat.lt_of_lt_of_le ht.2 (Nat.mul_le_mul_right _ (by omega))
      rw [if_neg (by omega)]
      exact ⟨by omega, rfl⟩
    · rw [if_neg hc]
      right
      have h2 : F < 128 * 256 ^ 7 := Nat.lt_of_lt_of_le ht.2 (Nat.mul_le_mul_right _ (by omega))
      rw [if_pos (by omega)]
      exact ⟨by omega, rfl⟩
set_option maxRecDepth 100000 in
set_option maxHeartbeats 4000000 in
theorem numberR_any (t : ByteArray) (w : World) (ht : 8 ≤ t.size) :
    Calls Try.prog 74 #[.string t] w fun e w' => e = .returned (.int .i64 (numR (by_ t))) ∧ w = w' := by
  have h0 : 0 < t.size := by omega
  have hi0 : (0 : Int) < (t.size : Int) := by omega
  have hg : (by_ t).getD 0 0 = t[0] := by rw [List.getD_eq_getElem?_getD, at_by t 0 h0]; rfl
  have hb : (by_ t).length = t.size := (by_size t).symm
  go_enter Try.func74, Try.ntmps74
  by_cases hc : 127 < (t[0].toNat : Int)
  · have HN := Lib.hid (show numR (by_ t) = -1 by unfold numR; rw [hg, if_pos (by omega)])
    clear hg hb
    go_wp2_with fail
    go_ret
    exact ⟨by rw [HN.out]; rfl, rfl⟩
  · have HP := Lib.hid (fun (i : Nat) (hi : i < 8) => foldN_part (l := by_ t) (by rw [hg]; omega) (i := i) (by omega))
    have HN := Lib.hid (show numR (by_ t) = (foldN ((by_ t).take 8) : Int) by unfold numR; rw [hg, if_neg (by omega)])
    clear hg
    go_wp2_with fail
    go_loopw [3, 4] (fun v3 v4 wr => ∃ i : Nat, i ≤ 8 ∧ v3 = .int .i64 (foldN ((by_ t).take i) : Int) ∧ v4 = .int .i64 (i : Int) ∧ wr = w) (fun _ v4 _ => 8 - (intOf v4).toNat)
    case atStart => exact ⟨0, by omega, rfl, rfl, rfl⟩
    case round =>
      obtain ⟨i, hi, rfl, rfl, rfl⟩ := hrel
      clear hi0 hc
      by_cases hlt : i < 8
      · have i1 : (i : Int) < 8 := by omega
        have i2 : (i : Int) < (t.size : Int) := by omega
        have i3 : i < t.size := by omega
        have HB := Lib.hid (foldN_next (by_ t) i t[i] (at_by t i i3))
        have hbd : foldN ((by_ t).take i) * 256 + t[i].toNat < 9223372036854775808 := by
          rw [← HB.out]
          refine Nat.lt_of_lt_of_le (HP.out i hlt) ?_
          exact Nat.le_trans (Nat.mul_le_mul_left _ (Nat.pow_le_pow_right (by omega) (show i ≤ 7 by omega))) (by decide)
        have hcb : (t[i].toNat : Int) ≤ 255 := by have := t[i].toNat_lt; omega
        have hcb0 : 0 ≤ (t[i].toNat : Int) := by omega
        clear hb
        generalize foldN ((by_ t).take i) = F at hbd HB
        have hbi : (F : Int) * 256 + (t[i].toNat : Int) ≤ 9223372036854775807 := by omega
        clear hbd
        go_wp2_with fail
        go_roundw
        case rel => exact ⟨i + 1, by omega, by rw [HB.out]; congr 1, by go_num, by simp⟩
        case measure => simp [intOf]; omega
      · have i1 : ¬ (i : Int) < 8 := by omega
        obtain rfl : i = 8 := by omega
        go_wp2_with fail
        go_ret
        exact ⟨by rw [HN.out]; rfl, rfl⟩
end Go.Proofs.Ytnddkodenkmoiaa
/- The reference's cell: says. -/
namespace Go.Proofs.Ytnddkodenkmoiaa
open Go.RowKit Go.Proofs
set_option linter.unusedSimpArgs false
set_option linter.unusedVariables false
/-- The reference's cell: of one sector, from the disk's second sector on. -/
def CellR (w : World) (y x : Nat) : Prop := Blk w y 111 #[.pointer (some ⟨x, 0, none⟩), .int .i64 1, .int .i64 1]
def saysR (b : List UInt8) : Int × Int :=
  if ¬ (b.take 8 = b.drop 56) ∨ numR b < 1 ∨ 1099511627776 < numR b ∨ numR (b.drop 8) < 0 ∨ 64 < numR (b.drop 8) then (0, 0) else (numR b, numR (b.drop 8))
theorem numR_take (l : List UInt8) (k : Nat) (h : 8 ≤ k) : numR (l.take k) = numR l := by
  unfold numR
  rw [List.take_take, Nat.min_eq_left h]
  cases l with
  | nil => simp
  | cons a l =>
    cases k with
    | zero => omega
    | succ k => rfl
theorem numR_lo (T : ByteArray) (h : 8 ≤ T.size) : numR (by_ (T.extract 0 8)) = numR (by_ T) := by
  rw [by_extract, List.drop_zero, numR_take _ 8 (Nat.le_refl _)]
theorem numR_hi (T : ByteArray) (h : 16 ≤ T.size) : numR (by_ (T.extract 8 16)) = numR ((by_ T).drop 8) := by
  rw [by_extract, List.drop_take, numR_take _ _ (by omega)]
theorem same_ends (T : ByteArray) (h : T.size = 64) : (((by_ T).take 8 = (by_ T).drop 56)) = (((T.extract 0 8).toList == (T.extract 56 64).toList) = true) := by
  rw [ByteArray.toList_eq, ByteArray.toList_eq]
  have e1 : (T.extract 0 8).data.toList = (by_ T).take 8 := by have := by_extract T 0 8; rw [List.drop_zero] at this; exact this
  have e2 : (T.extract 56 64).data.toList = (by_ T).drop 56 := by
    have := by_extract T 56 64
    rw [List.take_of_length_le (by rw [← by_size]; omega)] at this; exact this
  rw [e1, e2]
  simp
theorem saysR_eq {b : List UInt8} (h : b.length = 64) : saysR b = says b 1 := by
  have h1 := numR_numI (l := b) (by omega)
  have h2 := numR_numI (l := b.drop 8) (by rw [List.length_drop]; omega)
  have h3 : (b.take 8 = b.drop 56) ↔ numI b = numI (b.drop 56) := by
    have l1 : (b.take 8).length = 8 := by rw [List.length_take]; omega
    have l2 : (b.drop 56).length = 8 := by rw [List.length_drop]; omega
    have e : numI (b.drop 56) = sgn (foldN (b.drop 56)) := by unfold numI; rw [List.take_of_length_le (by omega)]
    constructor
    · intro h; rw [e, ← h]; rfl
    · intro h
      rw [e] at h
      refine foldN_inj 8 l1 l2 ?_
      have b1 := foldN_lt (b.take 8)
      have b2 := foldN_lt (b.drop 56)
      rw [l1] at b1
      rw [l2] at b2
      change sgn (foldN (b.take 8)) = sgn (foldN (b.drop 56)) at h
      generalize foldN (b.take 8) = A at h b1 ⊢
      generalize foldN (b.drop 56) = B at h b2 ⊢
      unfold sgn at h
      split at h <;> split at h <;> omega
  unfold saysR says
  by_cases h4 : b.take 8 = b.drop 56
  · have h5 := h3.1 h4
    by_cases h6 : numR b < 1 ∨ 1099511627776 < numR b ∨ numR (b.drop 8) < 0 ∨ 64 < numR (b.drop 8)
    · rw [if_pos (.inr h6), if_pos (by omega)]
    · rw [if_neg (by rintro (h | h); exact h h4; exact h6 h), if_neg (by omega)]
      rcases h1 with h1 | h1
      · omega
      · rcases h2 with h2 | h2
        · omega
        · rw [h1.2, h2.2]
  · rw [if_pos (.inl h4), if_pos (.inl (fun e => h4 (h3.2 e)))]
set_option maxRecDepth 100000 in
set_option maxHeartbeats 4000000 in
theorem saysR0_any (y x gl go cl co : Nat) (X : Dk) (w : World) (hC : CellR w y x) (hR : RD w x gl go cl co X) (hl : 3 ≤ X.L.length) :
    Calls Try.prog 64 #[.pointer (some ⟨y, 0, none⟩), .int .i64 0] w fun e w' => e = .returned (.tuple #[.int .i64 (slotS X 1 1).1, .int .i64 (slotS X 1 1).2]) ∧ Below w.heap.size w w' := by
  obtain ⟨q, hq⟩ : ∃ q, X.L[1]? = some q := ⟨_, List.getElem?_eq_getElem (by omega)⟩
  have hqo : q.ok := hR.ok q (List.mem_of_getElem? hq)
  have HS := Lib.hid (show slotS X 1 1 = saysR (by_ (strOf q.b)) from by
    unfold slotS; rw [hq]; exact (saysR_eq (by exact hqo.1)).symm)
  have z : (strOf q.b).size = 64 := strOf_size64 hqo.1
  have h2 := (hR.sec hq).1
  have HC := Lib.hid hC
  have HR := Lib.hid hR
  have hi : (1 : Int) < (X.L.length : Int) := by omega
  clear hC hR hqo hq
  generalize strOf q.b = T at HS z h2
  have HH := Lib.hid h2
  clear h2
  go_enter Try.func64, Try.ntmps64
  go_upto_region 1 with (fail)
  have e0 : ∀ w', w.drew = w' → w'.cell? ⟨y, 0, none⟩ = some (.pointer (some ⟨x, 0, none⟩)) := fun w' h => h ▸ Blk.cell HC.out 0
  have e1 : ∀ w', w.drew = w' → w'.cell? ⟨y, 1, none⟩ = some (.int .i64 1) := fun w' h => h ▸ Blk.cell HC.out 1
  have e2 : ∀ w', w.drew = w' → w'.cell? ⟨x, 0, none⟩ = some (.slice (some ⟨gl, 0, none⟩) X.L.length cl) := fun w' h => h ▸ HR.out.row0
  have e3 : ∀ w', w.drew = w' → w'.cell? ⟨gl, 1, none⟩ = some (.string T) := fun w' h => h ▸ HH.out
  have HB := Lib.hid ((Below.refl w.heap.size w).drewN 1)
  have HC := Lib.hid (show CellR w.drew y x from HC.out)
  generalize hw1 : w.drew = w1 at e0 e1 e2 e3 HC
  have HB := Lib.hid (show Below w.heap.size w w1 from hw1 ▸ HB.out)
  have hwr : IntKind.i64.wrap (1 : Int) = 1 := IntWalk.i64_in _ (by omega)
  refine wp_region_pure (fun a b => a = b) (fun _ => rfl) (fun _ _ _ h h' => h.trans h') [(0,3),(1,3),(2,3),(3,0),(4,3),(5,3),(6,0),(7,3),(8,3),(9,3),(10,0),(11,3),(12,3),(13,3),(14,0),(15,3)] (by kernel_rfl) (by kernel_rfl) ?_
  rw [hw1]
  clear hw1
  iterate 3 (refine pure_pure (v := ?_) rfl (fun _ _ _ h => h) (by rfl) (fun w' => ?_) ?_; rotate_left; (go_simp; try with_reducible rfl); simp only [Act.put, List.setIfInBounds_toArray, List.set_cons_zero, List.set_cons_succ])
  iterate 1 (refine pure_quiet (v := ?_) rfl (fun _ _ _ h => h) (by rfl) (fun w' hR => ?_) ?_; rotate_left; (go_simp; try with_reducible rfl); simp only [Act.put, List.setIfInBounds_toArray, List.set_cons_zero, List.set_cons_succ])
  iterate 2 (refine pure_pure (v := ?_) rfl (fun _ _ _ h => h) (by rfl) (fun w' => ?_) ?_; rotate_left; (go_simp; try with_reducible rfl); simp only [Act.put, List.setIfInBounds_toArray, List.set_cons_zero, List.set_cons_succ])
  iterate 1 (refine pure_quiet (v := ?_) rfl (fun _ _ _ h => h) (by rfl) (fun w' hR => ?_) ?_; rotate_left; (go_simp; try with_reducible rfl); simp only [Act.put, List.setIfInBounds_toArray, List.set_cons_zero, List.set_cons_succ])
  iterate 3 (refine pure_pure (v := ?_) rfl (fun _ _ _ h => h) (by rfl) (fun w' => ?_) ?_; rotate_left; (go_simp; try with_reducible rfl); simp only [Act.put, List.setIfInBounds_toArray, List.set_cons_zero, List.set_cons_succ])
  iterate 1 (refine pure_quiet (v := ?_) rfl (fun _ _ _ h => h) (by rfl) (fun w' hR => ?_) ?_; rotate_left; (go_simp; try with_reducible rfl); simp only [Act.put, List.setIfInBounds_toArray, List.set_cons_zero, List.set_cons_succ])
  iterate 3 (refine pure_pure (v := ?_) rfl (fun _ _ _ h => h) (by rfl) (fun w' => ?_) ?_; rotate_left; (go_simp; try with_reducible rfl); simp only [Act.put, List.setIfInBounds_toArray, List.set_cons_zero, List.set_cons_succ])
  iterate 1 (refine pure_quiet (v := ?_) rfl (fun _ _ _ h => h) (by rfl) (fun w' hR => ?_) ?_; rotate_left; (go_simp; try with_reducible rfl); simp only [Act.put, List.setIfInBounds_toArray, List.set_cons_zero, List.set_cons_succ])
  iterate 1 (refine pure_pure (v := ?_) rfl (fun _ _ _ h => h) (by rfl) (fun w' => ?_) ?_; rotate_left; (go_simp; try with_reducible rfl); simp only [Act.put, List.setIfInBounds_toArray, List.set_cons_zero, List.set_cons_succ])
  refine pure_done ?_
  clear e0 e1 e2 e3 hi hwr
  have z8 : 8 ≤ (T.extract 0 8).size := by rw [ByteArray.size_extract]; omega
  have z16 : 8 ≤ (T.extract 8 16).size := by rw [ByteArray.size_extract]; omega
  have HZ8 := Lib.hid z8
  have HZ16 := Lib.hid z16
  have HZ := Lib.hid z
  clear z8 z16
  go_wp2_with fail
  refine (numberR_any (T.extract 0 8) w1 HZ8.out).mono ?_
  rintro e w2 ⟨rfl, rfl⟩
  rw [numR_lo T (by rw [HZ.out]; omega)]
  go_wp2_with fail
  refine (numberR_any (T.extract 8 16) w1 HZ16.out).mono ?_
  rintro e w2 ⟨rfl, rfl⟩
  rw [numR_hi T (by rw [HZ.out]; omega)]
  have HS2 := Lib.hid (show slotS X 1 1 = if ¬ ((T.extract 0 8).toList == (T.extract 56 64).toList) = true ∨ numR (by_ T) < 1 ∨ 1099511627776 < numR (by_ T) ∨ numR ((by_ T).drop 8) < 0 ∨ 64 < numR ((by_ T).drop 8) then (0, 0) else (numR (by_ T), numR ((by_ T).drop 8)) by
    rw [HS.out]; unfold saysR; exact ite_congr (by rw [same_ends T HZ.out]) (fun _ => rfl) (fun _ => rfl))
  clear HS
  generalize numR (by_ T) = n at HS2 ⊢
  generalize numR ((by_ T).drop 8) = l at HS2 ⊢
  have c2 : w1.cell? ⟨y, 2, none⟩ = some (.int .i64 1) := Blk.cell HC.out 2
  go_upto_region 4 with (fail)
  cases hx : ((T.extract 0 8).toList == (T.extract 56 64).toList) with
  | false =>
    have HE := Lib.hid (HS2.out.trans (if_pos (.inl (by rw [hx]; decide))))
    clear HS2
    as_aux_lemma =>
      go_quiet (fail)
      go_wp2_with fail
      go_ret2
      exact ⟨by rw [HE.out]; rfl, HB.out.drewN _⟩
  | true =>
    by_cases a1 : n < 1
    · have b1 : decide (n < 1) = true := decide_eq_true a1
      have HE := Lib.hid (HS2.out.trans (if_pos (.inr (.inl a1))))
      clear HS2
      as_aux_lemma =>
        go_quiet (fail)
        go_wp2_with fail
        go_ret2
        exact ⟨by rw [HE.out]; rfl, HB.out.drewN _⟩
    · have b1 : decide (n < 1) = false := decide_eq_false a1
      by_cases a2 : 1099511627776 < n
      · have b2 : decide (1099511627776 < n) = true := decide_eq_true a2
        have HE := Lib.hid (HS2.out.trans (if_pos (.inr (.inr (.inl a2)))))
        clear HS2
        as_aux_lemma =>
          go_quiet (fail)
          go_wp2_with fail
          go_ret2
          exact ⟨by rw [HE.out]; rfl, HB.out.drewN _⟩
      · have b2 : decide (1099511627776 < n) = false := decide_eq_false a2
        by_cases a3 : l < 0
        · have b3 : decide (l < 0) = true := decide_eq_true a3
          have HE := Lib.hid (HS2.out.trans (if_pos (.inr (.inr (.inr (.inl a3))))))
          clear HS2
          as_aux_lemma =>
            go_quiet (fail)
            go_wp2_with fail
            go_ret2
            exact ⟨by rw [HE.out]; rfl, HB.out.drewN _⟩
        · have b3 : decide (l < 0) = false := decide_eq_false a3
          by_cases a4 : 64 < l
          · have b4 : decide (64 < l) = true := decide_eq_true a4
            have HE := Lib.hid (HS2.out.trans (if_pos (.inr (.inr (.inr (.inr a4))))))
            clear HS2
            as_aux_lemma =>
              go_quiet (fail)
              go_wp2_with fail
              go_ret2
              exact ⟨by rw [HE.out]; rfl, HB.out.drewN _⟩
          · have b4 : decide (64 < l) = false := decide_eq_false a4
            have HE := Lib.hid (HS2.out.trans (if_neg (by rw [hx]; simp only [not_true_eq_false, false_or]; omega)))
            clear HS2
            as_aux_lemma =>
              go_quiet (fail)
              go_wp2_with fail
              go_ret2
              exact ⟨by rw [HE.out]; rfl, HB.out.drewN _⟩
set_option maxRecDepth 100000 in
set_option maxHeartbeats 4000000 in
theorem saysR1_any (y x gl go cl co : Nat) (X : Dk) (w : World) (hC : CellR w y x) (hR : RD w x gl go cl co X) (hl : 3 ≤ X.L.length) :
    Calls Try.prog 64 #[.pointer (some ⟨y, 0, none⟩), .int .i64 1] w fun e w' => e = .returned (.tuple #[.int .i64 (slotS X 2 1).1, .int .i64 (slotS X 2 1).2]) ∧ Below w.heap.size w w' := by
  obtain ⟨q, hq⟩ : ∃ q, X.L[2]? = some q := ⟨_, List.getElem?_eq_getElem (by omega)⟩
  have hqo : q.ok := hR.ok q (List.mem_of_getElem? hq)
  have HS := Lib.hid (show slotS X 2 1 = saysR (by_ (strOf q.b)) from by
    unfold slotS; rw [hq]; exact (saysR_eq (by exact hqo.1)).symm)
  have z : (strOf q.b).size = 64 := strOf_size64 hqo.1
  have h2 := (hR.sec hq).1
  have HC := Lib.hid hC
  have HR := Lib.hid hR
  have hi : (2 : Int) < (X.L.length : Int) := by omega
  clear hC hR hqo hq
  generalize strOf q.b = T at HS z h2
  have HH := Lib.hid h2
  clear h2
  go_enter Try.func64, Try.ntmps64
  go_upto_region 1 with (fail)
  have e0 : ∀ w', w.drew = w' → w'.cell? ⟨y, 0, none⟩ = some (.pointer (some ⟨x, 0, none⟩)) := fun w' h => h ▸ Blk.cell HC.out 0
  have e1 : ∀ w', w.drew = w' → w'.cell? ⟨y, 1, none⟩ = some (.int .i64 1) := fun w' h => h ▸ Blk.cell HC.out 1
  have e2 : ∀ w', w.drew = w' → w'.cell? ⟨x, 0, none⟩ = some (.slice (some ⟨gl, 0, none⟩) X.L.length cl) := fun w' h => h ▸ HR.out.row0
  have e3 : ∀ w', w.drew = w' → w'.cell? ⟨gl, 2, none⟩ = some (.string T) := fun w' h => h ▸ HH.out
  have HB := Lib.hid ((Below.refl w.heap.size w).drewN 1)
  have HC := Lib.hid (show CellR w.drew y x from HC.out)
  generalize hw1 : w.drew = w1 at e0 e1 e2 e3 HC
  have HB := Lib.hid (show Below w.heap.size w w1 from hw1 ▸ HB.out)
  have hwr : IntKind.i64.wrap (2 : Int) = 2 := IntWalk.i64_in _ (by omega)
  refine wp_region_pure (fun a b => a = b) (fun _ => rfl) (fun _ _ _ h h' => h.trans h') [(0,3),(1,3),(2,3),(3,0),(4,3),(5,3),(6,0),(7,3),(8,3),(9,3),(10,0),(11,3),(12,3),(13,3),(14,0),(15,3)] (by kernel_rfl) (by kernel_rfl) ?_
  rw [hw1]
  clear hw1
  iterate 3 (refine pure_pure (v := ?_) rfl (fun _ _ _ h => h) (by rfl) (fun w' => ?_) ?_; rotate_left; (go_simp; try with_reducible rfl); simp only [Act.put, List.setIfInBounds_toArray, List.set_cons_zero, List.set_cons_succ])
  iterate 1 (refine pure_quiet (v := ?_) rfl (fun _ _ _ h => h) (by rfl) (fun w' hR => ?_) ?_; rotate_left; (go_simp; try with_reducible rfl); simp only [Act.put, List.setIfInBounds_toArray, List.set_cons_zero, List.set_cons_succ])
  iterate 2 (refine pure_pure (v := ?_) rfl (fun _ _ _ h => h) (by rfl) (fun w' => ?_) ?_; rotate_left; (go_simp; try with_reducible rfl); simp only [Act.put, List.setIfInBounds_toArray, List.set_cons_zero, List.set_cons_succ])
  iterate 1 (refine pure_quiet (v := ?_) rfl (fun _ _ _ h => h) (by rfl) (fun w' hR => ?_) ?_; rotate_left; (go_simp; try with_reducible rfl); simp only [Act.put, List.setIfInBounds_toArray, List.set_cons_zero, List.set_cons_succ])
  iterate 3 (refine pure_pure (v := ?_) rfl (fun _ _ _ h => h) (by rfl) (fun w' => ?_) ?_; rotate_left; (go_simp; try with_reducible rfl); simp only [Act.put, List.setIfInBounds_toArray, List.set_cons_zero, List.set_cons_succ])
  iterate 1 (refine pure_quiet (v := ?_) rfl (fun _ _ _ h => h) (by rfl) (fun w' hR => ?_) ?_; rotate_left; (go_simp; try with_reducible rfl); simp only [Act.put, List.setIfInBounds_toArray, List.set_cons_zero, List.set_cons_succ])
  iterate 3 (refine pure_pure (v := ?_) rfl (fun _ _ _ h => h) (by rfl) (fun w' => ?_) ?_; rotate_left; (go_simp; try with_reducible rfl); simp only [Act.put, List.setIfInBounds_toArray, List.set_cons_zero, List.set_cons_succ])
  iterate 1 (refine pure_quiet (v := ?_) rfl (fun _ _ _ h => h) (by rfl) (fun w' hR => ?_) ?_; rotate_left; (go_simp; try with_reducible rfl); simp only [Act.put, List.setIfInBounds_toArray, List.set_cons_zero, List.set_cons_succ])
  iterate 1 (refine pure_pure (v := ?_) rfl (fun _ _ _ h => h) (by rfl) (fun w' => ?_) ?_; rotate_left; (go_simp; try with_reducible rfl); simp only [Act.put, List.setIfInBounds_toArray, List.set_cons_zero, List.set_cons_succ])
  refine pure_done ?_
  clear e0 e1 e2 e3 hi hwr
  have z8 : 8 ≤ (T.extract 0 8).size := by rw [ByteArray.size_extract]; omega
  have z16 : 8 ≤ (T.extract 8 16).size := by rw [ByteArray.size_extract]; omega
  have HZ8 := Lib.hid z8
  have HZ16 := Lib.hid z16
  have HZ := Lib.hid z
  clear z8 z16
  go_wp2_with fail
  refine (numberR_any (T.extract 0 8) w1 HZ8.out).mono ?_
  rintro e w2 ⟨rfl, rfl⟩
  rw [numR_lo T (by rw [HZ.out]; omega)]
  go_wp2_with fail
  refine (numberR_any (T.extract 8 16) w1 HZ16.out).mono ?_
  rintro e w2 ⟨rfl, rfl⟩
  rw [numR_hi T (by rw [HZ.out]; omega)]
  have HS2 := Lib.hid (show slotS X 2 1 = if ¬ ((T.extract 0 8).toList == (T.extract 56 64).toList) = true ∨ numR (by_ T) < 1 ∨ 1099511627776 < numR (by_ T) ∨ numR ((by_ T).drop 8) < 0 ∨ 64 < numR ((by_ T).drop 8) then (0, 0) else (numR (by_ T), numR ((by_ T).drop 8)) by
    rw [HS.out]; unfold saysR; exact ite_congr (by rw [same_ends T HZ.out]) (fun _ => rfl) (fun _ => rfl))
  clear HS
  generalize numR (by_ T) = n at HS2 ⊢
  generalize numR ((by_ T).drop 8) = l at HS2 ⊢
  have c2 : w1.cell? ⟨y, 2, none⟩ = some (.int .i64 1) := Blk.cell HC.out 2
  go_upto_region 4 with (fail)
  cases hx : ((T.extract 0 8).toList == (T.extract 56 64).toList) with
  | false =>
    have HE := Lib.hid (HS2.out.trans (if_pos (.inl (by rw [hx]; decide))))
    clear HS2
    as_aux_lemma =>
      go_quiet (fail)
      go_wp2_with fail
      go_ret2
      exact ⟨by rw [HE.out]; rfl, HB.out.drewN _⟩
  | true =>
    by_cases a1 : n < 1
    · have b1 : decide (n < 1) = true := decide_eq_true a1
      have HE := Lib.hid (HS2.out.trans (if_pos (.inr (.inl a1))))
      clear HS2
      as_aux_lemma =>
        go_quiet (fail)
        go_wp2_with fail
        go_ret2
        exact ⟨by rw [HE.out]; rfl, HB.out.drewN _⟩
    · have b1 : decide (n < 1) = false := decide_eq_false a1
      by_cases a2 : 1099511627776 < n
      · have b2 : decide (1099511627776 < n) = true := decide_eq_true a2
        have HE := Lib.hid (HS2.out.trans (if_pos (.inr (.inr (.inl a2)))))
        clear HS2
        as_aux_lemma =>
          go_quiet (fail)
          go_wp2_with fail
          go_ret2
          exact ⟨by rw [HE.out]; rfl, HB.out.drewN _⟩
      · have b2 : decide (1099511627776 < n) = false := decide_eq_false a2
        by_cases a3 : l < 0
        · have b3 : decide (l < 0) = true := decide_eq_true a3
          have HE := Lib.hid (HS2.out.trans (if_pos (.inr (.inr (.inr (.inl a3))))))
          clear HS2
          as_aux_lemma =>
            go_quiet (fail)
            go_wp2_with fail
            go_ret2
            exact ⟨by rw [HE.out]; rfl, HB.out.drewN _⟩
        · have b3 : decide (l < 0) = false := decide_eq_false a3
          by_cases a4 : 64 < l
          · have b4 : decide (64 < l) = true := decide_eq_true a4
            have HE := Lib.hid (HS2.out.trans (if_pos (.inr (.inr (.inr (.inr a4))))))
            clear HS2
            as_aux_lemma =>
              go_quiet (fail)
              go_wp2_with fail
              go_ret2
              exact ⟨by rw [HE.out]; rfl, HB.out.drewN _⟩
          · have b4 : decide (64 < l) = false := decide_eq_false a4
            have HE := Lib.hid (HS2.out.trans (if_neg (by rw [hx]; simp only [not_true_eq_false, false_or]; omega)))
            clear HS2
            as_aux_lemma =>
              go_quiet (fail)
              go_wp2_with fail
              go_ret2
              exact ⟨by rw [HE.out]; rfl, HB.out.drewN _⟩
end Go.Proofs.Ytnddkodenkmoiaa
/- Save and Load as the reference reads the slots. -/
namespace Go.Proofs.Ytnddkodenkmoiaa
open Go.RowKit Go.Proofs
set_option linter.unusedSimpArgs false
set_option linter.unusedVariables false
theorem says_zero (b : List UInt8) (size : Int) : (says b size).1 = 0 → (says b size).2 = 0 := by
  unfold says
  split
  · intro _; rfl
  · rename_i h
    intro h2
    exfalso
    simp only at h2
    omega
theorem slotS_zero (x : Dk) (i : Nat) (size : Int) : (slotS x i size).1 = 0 → (slotS x i size).2 = 0 := by
  unfold slotS
  split
  · exact says_zero _ _
  · intro _; rfl
theorem kOf_ref (X : Dk) (f size : Nat) : X.kOf f size = if (slotS X f size).1 = 0 ∧ (slotS X (f + 1) size).1 = 0 then -1 else if (slotS X f size).1 < (slotS X (f + 1) size).1 then 1 else 0 := by
  have h1 := slotS_zero X f size
  have h2 := slotS_zero X (f + 1) size
  unfold Dk.kOf lastOf
  by_cases h : (slotS X f size).1 = 0 ∧ (slotS X (f + 1) size).1 = 0
  · rw [if_pos h, if_pos ⟨h.1, h1 h.1, h.2, h2 h.2⟩]
  · rw [if_neg h, if_neg (fun k => h ⟨k.1, k.2.2.1⟩)]
theorem toN_ref (X : Dk) (f size : Nat) : X.toN f size = if (slotS X (f + 1) size).1 ≤ (slotS X f size).1 ∧ 0 < (slotS X f size).1 then 1 else 0 := by
  have b1 := slotS_bd X f (size : Int) (by omega)
  have b2 := slotS_bd X (f + 1) (size : Int) (by omega)
  unfold Dk.toN
  rw [kOf_ref]
  generalize (slotS X f (size : Int)).1 = a at b1 ⊢
  generalize (slotS X (f + 1) (size : Int)).1 = b at b2 ⊢
  by_cases h1 : a = 0 ∧ b = 0
  · rw [if_pos h1, if_neg (by decide), if_neg (by omega)]
  · rw [if_neg h1]
    by_cases h2 : a < b
    · rw [if_pos h2, if_neg (by decide), if_neg (by omega)]
    · rw [if_neg h2, if_pos rfl, if_pos (by omega)]
theorem cnt_ref (X : Dk) (f size : Nat) : ((X.cnt f size : Nat) : Int) = (if (slotS X f size).1 < (slotS X (f + 1) size).1 then (slotS X (f + 1) size).1 else (slotS X f size).1) + 1 := by
  have b1 := slotS_bd X f (size : Int) (by omega)
  have b2 := slotS_bd X (f + 1) (size : Int) (by omega)
  unfold Dk.cnt
  rw [kOf_ref]
  generalize (slotS X f (size : Int)).1 = a at b1 ⊢
  generalize (slotS X (f + 1) (size : Int)).1 = b at b2 ⊢
  by_cases h1 : a = 0 ∧ b = 0
  · rw [if_pos h1, if_pos (by decide), if_neg (by omega)]; omega
  · rw [if_neg h1]
    by_cases h2 : a < b
    · rw [if_pos h2, if_neg (by decide), if_neg (by decide), if_pos h2]; omega
    · rw [if_neg h2, if_neg (by decide), if_pos rfl, if_neg h2]; omega
theorem fieldB_one (X : Dk) (b : Nat) : fieldB X b 1 = X.B b := by unfold fieldB; simp
theorem loadF_ref (X : Dk) (hd : X.down = false) : X.loadF 1 1 =
    if (slotS X 1 1).1 = 0 ∧ (slotS X 2 1).1 = 0 then (⟨#[]⟩, 0, 9) else
    if (slotS X 1 1).1 < (slotS X 2 1).1 then (strOf ((X.B 4).take (slotS X 2 1).2.toNat), (slotS X 2 1).1, 0) else (strOf ((X.B 3).take (slotS X 1 1).2.toNat), (slotS X 1 1).1, 0) := by
  have e1 : slotS X 1 ((1 : Nat) : Int) = slotS X 1 1 := rfl
  have e2 : slotS X (1 + 1) ((1 : Nat) : Int) = slotS X 2 1 := rfl
  unfold Dk.loadF
  rw [if_neg (by rw [hd]; decide), kOf_ref, fieldB_one, fieldB_one, e1, e2, show (1 + 2 + 1 : Nat) = 4 from rfl, show (1 + 2 : Nat) = 3 from rfl]
  generalize slotS X 1 1 = p
  generalize slotS X 2 1 = q
  by_cases h1 : p.1 = 0 ∧ q.1 = 0
  · rw [if_pos h1, if_pos h1, if_pos (by decide)]
  · rw [if_neg h1, if_neg h1]
    by_cases h2 : p.1 < q.1
    · rw [if_pos h2, if_pos h2, if_neg (by decide), if_neg (by decide)]
    · rw [if_neg h2, if_neg h2, if_neg (by decide), if_pos rfl]
theorem saveF_ref (X : Dk) (t : ByteArray) (hd : X.down = false) (ht : ¬ 64 < t.size) : X.saveF 1 1 t =
    if 1099511627776 < X.cnt 1 1 then (X, 3) else headF (1 + X.toN 1 1) (X.cnt 1 1) t.size (partsF (3 + X.toN 1 1) t 1 0 X) := by
  unfold Dk.saveF
  rw [if_neg (by omega), if_neg (by rw [hd]; decide), Nat.mul_one]
theorem partsF_none (base : Nat) (t : ByteArray) (X : Dk) (h : ¬ 0 < t.size) : partsF base t 1 0 X = (X, 0) := by
  unfold partsF; rw [if_neg (by omega)]
theorem partsF_one (base : Nat) (t : ByteArray) (X : Dk) (h : 0 < t.size) : partsF base t 1 0 X =
    (X.write (base : Int) (partOf t 0), X.writeR (base : Int) (partOf t 0)) := by
  unfold partsF
  rw [if_pos (by omega), Nat.add_zero]
  split
  · rename_i h0; rw [h0]; rfl
  · rfl
end Go.Proofs.Ytnddkodenkmoiaa
/- The reference's cell: Open, part, Eight. -/
namespace Go.Proofs.Ytnddkodenkmoiaa
open Go.RowKit Go.Proofs
set_option linter.unusedSimpArgs false
set_option linter.unusedVariables false
set_option maxRecDepth 100000 in
set_option maxHeartbeats 4000000 in
theorem openR_any (x gl go cl co : Nat) (X : Dk) (w : World) (hR : RD w x gl go cl co X) (hl : X.L.length = 6) (hd : X.down = false) :
    Calls Try.prog 40 #[.pointer (some ⟨x, 0, none⟩), .int .i64 1, .int .i64 1] w fun e w' => e = .returned (.tuple #[.pointer (some ⟨w.heap.size, 0, none⟩), .int .i64 0]) ∧ CellR w' w.heap.size x ∧ Below w.heap.size w w' := by
  have c0 := hR.row0
  have c3 := hR.down
  rw [hl] at c0
  rw [hd] at c3
  clear hR
  go_enter Try.func40, Try.ntmps40
  go_wp2_with fail
  go_ret2
  exact ⟨rfl, Blk.new w 111 _, (Below.refl _ _).alloc (Nat.le_refl _) _⟩
set_option maxRecDepth 100000 in
set_option maxHeartbeats 4000000 in
theorem part_any (t : ByteArray) (w : World) (h0 : 0 < t.size) (h1 : t.size ≤ 64) :
    Calls Try.prog 65 #[.string t, .int .i64 0] w fun e w' => e = .returned (.string (partOf t 0)) ∧ w = w' := by
  have HP := Lib.hid (show t.extract 0 t.size = partOf t 0 by unfold partOf; congr 1; omega)
  go_enter Try.func65, Try.ntmps65
  by_cases h : t.size < 64
  · have i1 : (t.size : Int) < 64 := by omega
    have HQ := Lib.hid (HP.out.symm.trans (show t.extract 0 t.size = t by simp))
    clear HP
    go_wp2_with fail
    go_ret
    exact ⟨by rw [HQ.out]; rfl, rfl⟩
  · have i1 : t.size = 64 := by omega
    rw [i1] at HP
    go_wp2_with fail
    go_ret
    exact ⟨by rw [← HP.out]; rfl, rfl⟩
def lowB (n : Nat) : Nat → List UInt8
  | 0 => []
  | i + 1 => UInt8.ofNat (n / 256 ^ i) :: lowB n i
theorem lowB_length (n : Nat) : ∀ i, (lowB n i).length = i
  | 0 => rfl
  | i + 1 => by rw [lowB, List.length_cons, lowB_length n i]
theorem lowB_eight (n : Nat) : lowB n 8 = beOf n := by
  unfold beOf; simp [lowB, List.range_succ]
theorem own_one (w : World) (base : Nat) (c : Value) (hb : base ≤ w.heap.size) : (w.alloc (.cells #[c] 5)).ownsRow base 5 1 (.slice (some ⟨w.heap.size, 0, none⟩) 1 1) 1 [c] :=
  ⟨rfl, .inr ⟨w.heap.size, 1, #[c], rfl, hb, heap_alloc_new w _, Nat.le_refl _, by simp [maxLen], rfl, rfl⟩⟩
theorem byte_of (q : Nat) : (Value.int .u8 ((q : Int) % 256)) = bb (UInt8.ofNat q) := by
  unfold bb
  rw [UInt8.toNat_ofNat']
  congr 1
theorem own_cells {w : World} {base g n cap : Nat} {xs : List Value} (h : w.ownsRow base 5 1 (.slice (some ⟨g, 0, none⟩) n cap) n xs) (o : Obj) :
    ∀ j u, xs[j]? = some u → (w.alloc o).cell? ((⟨g, 0, none⟩ : Addr).add j) = some u := by
  obtain ⟨h1, ⟨hv, _⟩ | ⟨g', cap', cur, hv, h2, h3, h4, h5, h6, h7⟩⟩ := h
  · cases hv
  · simp only [Value.slice.injEq, Option.some.injEq, Addr.mk.injEq] at hv
    obtain ⟨⟨rfl, _⟩, _, rfl⟩ := hv
    intro j u hj
    have hl : j < xs.length := (List.getElem?_eq_some_iff.1 hj).1
    have hc : w.cell? ⟨g, j, none⟩ = some u := by
      rw [show w.cell? ⟨g, j, none⟩ = cur[j]? from cell_of_row w g j cur 5 (0, 0) h3]
      rw [← h7, List.getElem?_take] at hj
      split at hj
      · rwa [Array.getElem?_toList] at hj
      · cases hj
    have hb := World.block_lt_of_cell? w _ hc
    rw [Addr.add_mid, Nat.zero_add, World.cell?_alloc_lt w o _ hb]
    exact hc
theorem below_own {w w' : World} {base n : Nat} {v : Value} {xs : List Value} (ho : w'.ownsRow base 5 1 v n xs) (h : Below base w w') (w2 : World) (hg : w'.grownBy w2 v.ownBlock) (hb : base ≤ w.heap.size) : Below base w w2 :=
  h.trans (below_of_own hg ho (Nat.le_trans hb h.size))
set_option maxRecDepth 100000 in
set_option maxHeartbeats 4000000 in
theorem eightR_any (n : Nat) (hn : n ≤ 9223372036854775807) (w : World) :
    Calls Try.prog 67 #[.int .i64 (n : Int)] w fun e w' => e = .returned (.string (strOf (beOf n))) ∧ Below w.heap.size w w' := by
  have hs5 : (Try.prog.info? 5).map (fun i => (i.size, i.bytes, i.zero)) = some (1, 1, some (.int .u8 0)) := by kernel_rfl
  obtain ⟨i5, hi5, hi52⟩ := Option.map_eq_some_iff.1 hs5
  simp only [Prod.mk.injEq] at hi52
  obtain ⟨e1, e2, e3⟩ := hi52
  have HI := Lib.hid hi5
  have E1 := Lib.hid e1
  have E2 := Lib.hid e2
  have E3 := Lib.hid e3
  have HN := Lib.hid hn
  clear hs5 hi5 e1 e2 e3 hn
  go_enter Try.func67, Try.ntmps67
  go_wp2_with fail
  go_loopw [0, 3, 4] (fun v0 v3 v4 wr => ∃ i : Nat, i ≤ 8 ∧ v4 = .int .i64 (i : Int) ∧ v0 = .int .i64 ((n / 256 ^ i : Nat) : Int) ∧ wr.ownsRow w.heap.size 5 1 v3 i ((lowB n i).map bb) ∧ Below w.heap.size w wr) (fun _ _ v4 _ => 8 - (intOf v4).toNat)
  case atStart => exact ⟨0, by omega, rfl, by rw [Nat.pow_zero, Nat.div_one], ⟨rfl, .inl ⟨rfl, rfl⟩⟩, Below.refl _ _⟩
  case round =>
    obtain ⟨i, hi, rfl, rfl, hown, hb⟩ := hrel
    have HO := Lib.hid hown
    have HB := Lib.hid hb
    clear hown hb
    by_cases hlt : i < 8
    · have i1 : (i : Int) < 8 := by omega
      have HQ := Lib.hid (show ((n / 256 ^ (i + 1) : Nat) : Int) = (((n / 256 ^ i) / 256 : Nat) : Int) by rw [Nat.pow_succ, Nat.div_div_eq_div_mul])
      have HL := Lib.hid (show lowB n (i + 1) = UInt8.ofNat (n / 256 ^ i) :: lowB n i from rfl)
      have hq : n / 256 ^ i ≤ n := Nat.div_le_self _ _
      have hq2 : n / 256 ^ i ≤ 9223372036854775807 := by have := HN.out; omega
      have HLL := Lib.hid (show ((lowB n i).map bb).length = i * 1 by rw [List.length_map, lowB_length, Nat.mul_one])
      have HSUM := Lib.hid (show 1 + i = i + 1 by omega)
      clear hq
      generalize n / 256 ^ i = q at HQ HL hq2 ⊢
      generalize (lowB n i) = L0 at HO HL HLL
      go_upto_region 5 with (fail)
      refine wp_region_lit ?_
      iterate 12 go_step
      rw [byte_of q]
      have hone := own_one wr w.heap.size (bb (UInt8.ofNat q)) HB.out.size
      generalize UInt8.ofNat q = c at hone HL ⊢
      have HB2 := Lib.hid (HB.out.alloc HB.out.size (.cells #[bb c] 5))
      rcases HO.out.2 with ⟨rfl, h0⟩ | ⟨g, cap, cur, rfl, hg1, hg2, hg3, hg4, hg5, hg6⟩
      · obtain rfl : i = 0 := by omega
        obtain rfl : L0 = [] := by simpa using HLL.out
        have HOne := Lib.hid hone
        clear hone
        generalize wr.alloc (.cells #[bb c] 5) = w2 at HOne HB2 ⊢
        go_wp2_with (at_builtin; refine wpList_append_own_none rfl (.tmp 12) (.tmp 13) 94 rfl w.heap.size 5 i5 1 Try.underlying94 HI.out (.slice (some ⟨wr.heap.size, 0, none⟩) 1 1) 1 [bb c] rfl HOne.out rfl ?_)
        go_wp2_with fail
        go_roundw
        case rel => exact ⟨0 + 1, by omega, by go_num, by rw [HQ.out]; rfl, by rw [HL.out]; exact HOne.out, HB2.out⟩
        case measure => simp [intOf]
      · have HOne := Lib.hid hone
        have hnews := own_cells HO.out (.cells #[bb c] 5)
        have HNW := Lib.hid hnews
        clear hone hnews hg1 hg2 hg3 hg4 hg5 hg6
        generalize wr.alloc (.cells #[bb c] 5) = w2 at HOne HB2 HNW ⊢
        have hw2 : w.heap.size ≤ w2.heap.size := HB2.out.size
        go_wp2_with (at_builtin; refine wpList_append_own _ rfl (.tmp 12) (.tmp 13) 94 rfl w.heap.size 5 i5 (.int .u8 0) 1 1 Try.underlying94 HI.out E3.out E1.out E2.out rfl (by decide) (.slice (some ⟨wr.heap.size, 0, none⟩) 1 1) 1 [bb c] rfl HOne.out ⟨g, 0, none⟩ i cap (L0.map bb) rfl HLL.out HNW.out (by simp [bb, Value.oneCell']) (by unfold maxLen; omega) (by omega) hw2 ?_)
        intro v2 w3 hown2 hg2 _
        have hb3 := HB2.out.trans (below_of_own hg2 HOne.out hw2)
        rw [HSUM.out] at hown2
        have HO2 := Lib.hid hown2
        have HB3 := Lib.hid hb3
        clear hown2 hg2 hb3
        go_wp2_with fail
        go_roundw
        case rel => exact ⟨i + 1, by omega, by go_num, by rw [HQ.out]; rfl, by rw [HL.out]; exact HO2.out, HB3.out⟩
        case measure => simp [intOf]; omega
    · obtain rfl : i = 8 := by omega
      rcases HO.out.2 with ⟨_, h0⟩ | ⟨g, cap, cur, rfl, hg1, hg2, hg3, hg4, hg5, hg6⟩
      · omega
      have hcv : (convert 94 9 (.slice (some ⟨g, 0, none⟩) 8 cap)).run Try.prog wr = .ok (.string (strOf ((lowB n 8).take 8))) wr := convert_own (w := wr) HO.out ⟨Nat.le_refl _, fun _ _ _ => rfl⟩ (by omega) (by rw [lowB_length]; omega)
      rw [List.take_of_length_le (by rw [lowB_length]; omega), lowB_eight] at hcv
      have HCV := Lib.hid hcv
      clear hcv hg1 hg2 hg3 hg4 hg5 hg6
      go_wp2_with (first | (refine wpList_runIs rfl _ _ (execConvert 94 9 _ rfl (p := .slice (some ⟨g, 0, none⟩) 8 cap) rfl HCV.out) ?_; simp only [Act.put]) | fail)
      go_ret
      exact ⟨rfl, HB.out⟩
end Go.Proofs.Ytnddkodenkmoiaa
/- The reference's cell: Load. -/
namespace Go.Proofs.Ytnddkodenkmoiaa
open Go.RowKit Go.Proofs
set_option linter.unusedSimpArgs false
set_option linter.unusedVariables false
set_option maxRecDepth 100000 in
set_option maxHeartbeats 4000000 in
theorem loadR_any (y x gl go cl co : Nat) (X : Dk) (w : World) (hC : CellR w y x) (hR : RD w x gl go cl co X) (hl : X.L.length = 6) :
    Calls Try.prog 62 #[.pointer (some ⟨y, 0, none⟩)] w fun e w' => e = .returned (.tuple #[.string (X.loadF 1 1).1, .int .i64 (X.loadF 1 1).2.1, .int .i64 (X.loadF 1 1).2.2]) ∧ Below w.heap.size w w' := by
  have hs5 : (Try.prog.info? 5).map (fun i => (i.size, i.bytes, i.zero)) = some (1, 1, some (.int .u8 0)) := by kernel_rfl
  obtain ⟨i5, hi5, hi52⟩ := Option.map_eq_some_iff.1 hs5
  simp only [Prod.mk.injEq] at hi52
  obtain ⟨e1, e2, e3⟩ := hi52
  have HI := Lib.hid hi5
  have E1 := Lib.hid e1
  have E2 := Lib.hid e2
  have E3 := Lib.hid e3
  clear hs5 hi5 e1 e2 e3
  have c0 : w.cell? ⟨y, 0, none⟩ = some (.pointer (some ⟨x, 0, none⟩)) := Blk.cell hC 0
  have c3 := hR.down
  have HC := Lib.hid hC
  have HR := Lib.hid hR
  have HLN := Lib.hid hl
  clear hC hR hl
  go_enter Try.func62, Try.ntmps62
  cases hd : X.down with
  | true =>
    rw [hd] at c3
    have HTV := Lib.hid (show X.loadF 1 1 = (⟨#[]⟩, 0, 12) by unfold Dk.loadF; rw [if_pos hd])
    clear hd
    go_wp2_with fail
    go_ret3
    exact ⟨by rw [HTV.out]; rfl, Below.refl _ _⟩
  | false =>
    rw [hd] at c3
    have hlv := loadF_ref X hd
    have hp := slotS_bd X 1 1 (by omega)
    have hq := slotS_bd X 2 1 (by omega)
    have hsay1 := saysR0_any y x gl go cl co X w HC.out HR.out (by rw [HLN.out]; omega)
    have hsay2 := fun w1 hb1 => saysR1_any y x gl go cl co X w1 (show CellR w1 y x from HC.out.below hb1 HC.out.lt) (HR.out.below hb1) (by rw [HLN.out]; omega)
    generalize slotS X 1 1 = p at hlv hp hsay1
    generalize slotS X 2 1 = q at hlv hq hsay2
    obtain ⟨p1, p2⟩ := p
    obtain ⟨q1, q2⟩ := q
    dsimp only at hlv hp hq hsay1 hsay2
    have HS2 := Lib.hid hsay2
    clear hd hsay2
    go_wp2_with fail
    refine hsay1.mono ?_
    rintro e w2 ⟨rfl, hb⟩
    have HB := Lib.hid hb
    have c1 : w2.cell? ⟨y, 1, none⟩ = some (.int .i64 1) := Blk.cell (HC.out.below hb HC.out.lt) 1
    clear hsay1 hb c0 c3
    go_wp2_with fail
    refine (HS2.out w2 HB.out).mono ?_
    rintro e w3 ⟨rfl, hb⟩
    have HB := Lib.hid (HB.out.trans (hb.mono HB.out.size))
    clear hb HS2 c1
    have HC := Lib.hid (show CellR w3 y x from HC.out.below HB.out HC.out.lt)
    have HR := Lib.hid (HR.out.below HB.out)
    have c0 : w3.cell? ⟨y, 0, none⟩ = some (.pointer (some ⟨x, 0, none⟩)) := Blk.cell HC.out 0
    have c1 : w3.cell? ⟨y, 1, none⟩ = some (.int .i64 1) := Blk.cell HC.out 1
    have c2 : w3.cell? ⟨y, 2, none⟩ = some (.int .i64 1) := Blk.cell HC.out 2
    have HLV := Lib.hid hlv
    clear hlv
    by_cases h1 : p1 = 0 ∧ q1 = 0
    · obtain ⟨rfl, rfl⟩ := h1
      have HTV := Lib.hid (show X.loadF 1 1 = (⟨#[]⟩, 0, 9) by rw [HLV.out]; rfl)
      clear HLV
      go_wp2_with fail
      go_ret3
      exact ⟨by rw [HTV.out]; rfl, HB.out⟩
    · rw [if_neg h1] at HLV
      by_cases h2 : p1 < q1
      · rw [if_pos h2] at HLV
        have h3 : (q1 == 0) = false := beq_eq_false_iff_ne.2 (by omega)
        clear h1
        have hlgb : 0 ≤ q2 ∧ q2 ≤ 64 := by omega
        obtain ⟨lgn, hlgn⟩ : ∃ m : Nat, q2 = (m : Int) := ⟨q2.toNat, by omega⟩
        subst hlgn
        have hlg : lgn ≤ 64 := by omega
        have HLG := Lib.hid hlg
        have HTV := Lib.hid (show X.loadF 1 1 = (strOf ((fieldB X 4 1).take lgn), q1, 0) by rw [HLV.out, fieldB_one]; rfl)
        clear HLV hlgb hp hq hlg
        go_upto_region 9 with (fail)
        clear c0 c1 c2
        have HB := Lib.hid (show Below w.heap.size w w3.drew from HB.out.drew)
        have HC := Lib.hid (show CellR w3.drew y x from HC.out)
        have HR := Lib.hid HR.out.drew
        generalize hw4 : w3.drew = w4 at HB HC HR
        have e1 : ∀ w', w4 = w' → w'.cell? ⟨y, 1, none⟩ = some (.int .i64 1) := fun w' h => h ▸ Blk.cell HC.out 1
        have e2 : ∀ w', w4 = w' → w'.cell? ⟨y, 2, none⟩ = some (.int .i64 1) := fun w' h => h ▸ Blk.cell HC.out 2
        have hwa : IntKind.i64.wrap (3 : Int) = 3 := IntWalk.i64_in _ (by omega)
        have hwb : IntKind.i64.wrap (4 : Int) = 4 := IntWalk.i64_in _ (by omega)
        refine wp_region_pure (fun a b => a = b) (fun _ => rfl) (fun _ _ _ h h' => h.trans h') [(0,3),(1,3),(2,3),(3,0),(4,3),(5,3),(6,3),(7,3),(8,0),(9,3),(10,3)] (by kernel_rfl) (by kernel_rfl) ?_
        rw [hw4]
        clear hw4
        iterate 3 (refine pure_pure (v := ?_) rfl (fun _ _ _ h => h) (by rfl) (fun w' => ?_) ?_; rotate_left; (go_simp; try with_reducible rfl); simp only [Act.put, List.setIfInBounds_toArray, List.set_cons_zero, List.set_cons_succ])
        iterate 1 (refine pure_quiet (v := ?_) rfl (fun _ _ _ h => h) (by rfl) (fun w' hR => ?_) ?_; rotate_left; (go_simp; try with_reducible rfl); simp only [Act.put, List.setIfInBounds_toArray, List.set_cons_zero, List.set_cons_succ])
        iterate 4 (refine pure_pure (v := ?_) rfl (fun _ _ _ h => h) (by rfl) (fun w' => ?_) ?_; rotate_left; (go_simp; try with_reducible rfl); simp only [Act.put, List.setIfInBounds_toArray, List.set_cons_zero, List.set_cons_succ])
        iterate 1 (refine pure_quiet (v := ?_) rfl (fun _ _ _ h => h) (by rfl) (fun w' hR => ?_) ?_; rotate_left; (go_simp; try with_reducible rfl); simp only [Act.put, List.setIfInBounds_toArray, List.set_cons_zero, List.set_cons_succ])
        iterate 2 (refine pure_pure (v := ?_) rfl (fun _ _ _ h => h) (by rfl) (fun w' => ?_) ?_; rotate_left; (go_simp; try with_reducible rfl); simp only [Act.put, List.setIfInBounds_toArray, List.set_cons_zero, List.set_cons_succ])
        refine pure_done ?_
        clear e1 e2 hwa hwb
        have c2 : w4.cell? ⟨y, 2, none⟩ = some (.int .i64 1) := Blk.cell HC.out 2
        obtain ⟨s, hs⟩ : ∃ s, X.L[4]? = some s := ⟨_, List.getElem?_eq_getElem (by rw [HLN.out]; omega)⟩
        have HSO := Lib.hid (HR.out.ok s (List.mem_of_getElem? hs)).1
        have HBB := Lib.hid (show fieldB X 4 1 = s.b by rw [fieldB_one]; exact B_of hs)
        have HSC := Lib.hid (HR.out.sec hs).1
        clear hs
        go_wp2_with fail
        have HC := Lib.hid HC.out
        go_loopw [10, 11] (fun v10 v11 wr => ∃ i : Nat, i ≤ 1 ∧ v11 = .int .i64 (i : Int) ∧ wr.ownsRow w4.heap.size 5 1 v10 (64 * i) ((fieldB X 4 i).map bb) ∧ Below w4.heap.size w4 wr) (fun _ v11 _ => 1 - (intOf v11).toNat)
        case atStart => exact ⟨0, by omega, rfl, ⟨rfl, .inl ⟨rfl, rfl⟩⟩, Below.refl _ _⟩
        case round =>
          obtain ⟨i, hi, rfl, hown, hb⟩ := hrel
          have HO := Lib.hid hown
          have HB3 := Lib.hid hb
          have c1 : wr.cell? ⟨y, 2, none⟩ = some (.int .i64 1) := Blk.cell (HC.out.below hb HC.out.lt) 2
          by_cases hlt : i < 1
          · obtain rfl : i = 0 := by omega
            have hR2 := HR.out.below hb
            have c2 : wr.cell? ⟨y, 0, none⟩ = some (.pointer (some ⟨x, 0, none⟩)) := Blk.cell (HC.out.below hb HC.out.lt) 0
            have c3 : wr.cell? ⟨x, 0, none⟩ = some (.slice (some ⟨gl, 0, none⟩) 6 cl) := by have := hR2.row0; rwa [HLN.out] at this
            have c4 : wr.cell? ⟨gl, 4, none⟩ = some (.string (strOf s.b)) := (hb.cell (p := ⟨gl, 4, none⟩) HR.out.now.lt).trans HSC.out
            have hss : (strOf s.b).size = 64 := by rw [strOf_size]; exact HSO.out
            have HCELLS := Lib.hid (show Lib.strCells (strOf s.b) = (fieldB X 4 (0 + 1)).map bb by rw [HBB.out]; rfl)
            clear hown hb hR2
            generalize strOf s.b = T at c4 hss HCELLS
            have HSS := Lib.hid hss
            clear hss
            go_wp2_with (at_builtin; refine Lib.wpList_append_own_string _ rfl (.tmp 59) (.tmp 71) 94 9 rfl w4.heap.size 5 i5 Try.underlying94 Try.underlying9 HI.out E3.out E1.out E2.out u10 0 [] rfl HO.out T rfl (by rw [HSS.out]; simp only [maxLen]; omega) (by rw [HSS.out]; omega) HB3.out.size ?_)
            intro v' w' hown2 hgr _
            rw [HCELLS.out, HSS.out] at hown2
            have HO2 := Lib.hid hown2
            have HB4 := Lib.hid (HB3.out.trans (below_of_own hgr HO.out HB3.out.size))
            clear hown2 hgr c1 c2 c3 c4
            go_wp2_with fail
            go_roundw
            case rel => exact ⟨0 + 1, by omega, by go_num, HO2.out, HB4.out⟩
            case measure => simp [intOf]
          · obtain rfl : i = 1 := by omega
            rcases HO.out.2 with ⟨_, h0⟩ | ⟨g9, cap, cur, rfl, hb9, hg9, hn9, hc9, hs9, ht9⟩
            · omega
            have hlc : lgn ≤ cap := by have := HLG.out; omega
            have hcv : (convert 94 9 (.slice (some ⟨g9, 0, none⟩) lgn cap)).run Try.prog wr = .ok (.string (strOf ((fieldB X 4 1).take lgn))) wr := convert_own (w := wr) HO.out ⟨Nat.le_refl _, fun _ _ _ => rfl⟩ (by have := HLG.out; omega) (by rw [HBB.out, HSO.out]; exact HLG.out)
            generalize strOf ((fieldB X 4 1).take lgn) = TT at hcv HTV
            have HCV := Lib.hid hcv
            have hcm : cap ≤ 9223372036854775807 := by simp only [maxLen] at hc9; omega
            have HCAP := Lib.hid hlc
            clear hcv hown hb ht9 hs9 hg9 hb9 hn9 hc9
            have hlc := HCAP.out
            go_wp2_with (first | (refine wpList_runIs rfl _ _ (execConvert 94 9 _ rfl (p := .slice (some ⟨g9, 0, none⟩) lgn cap) rfl HCV.out) ?_; simp only [Act.put]) | fail)
            go_ret3
            exact ⟨by rw [HTV.out]; rfl, HB.out.trans (HB3.out.mono HB.out.size)⟩
      · rw [if_neg h2] at HLV
        have h3 : (p1 == 0) = false := beq_eq_false_iff_ne.2 (by omega)
        clear h1
        have hlgb : 0 ≤ p2 ∧ p2 ≤ 64 := by omega
        obtain ⟨lgn, hlgn⟩ : ∃ m : Nat, p2 = (m : Int) := ⟨p2.toNat, by omega⟩
        subst hlgn
        have hlg : lgn ≤ 64 := by omega
        have HLG := Lib.hid hlg
        have HTV := Lib.hid (show X.loadF 1 1 = (strOf ((fieldB X 3 1).take lgn), p1, 0) by rw [HLV.out, fieldB_one]; rfl)
        clear HLV hlgb hp hq hlg
        obtain ⟨s, hs⟩ : ∃ s, X.L[3]? = some s := ⟨_, List.getElem?_eq_getElem (by rw [HLN.out]; omega)⟩
        have HSO := Lib.hid (HR.out.ok s (List.mem_of_getElem? hs)).1
        have HBB := Lib.hid (show fieldB X 3 1 = s.b by rw [fieldB_one]; exact B_of hs)
        have HSC := Lib.hid (HR.out.sec hs).1
        clear hs
        go_wp2_with fail
        have HC := Lib.hid HC.out
        go_loopw [10, 11] (fun v10 v11 wr => ∃ i : Nat, i ≤ 1 ∧ v11 = .int .i64 (i : Int) ∧ wr.ownsRow w3.heap.size 5 1 v10 (64 * i) ((fieldB X 3 i).map bb) ∧ Below w3.heap.size w3 wr) (fun _ v11 _ => 1 - (intOf v11).toNat)
        case atStart => exact ⟨0, by omega, rfl, ⟨rfl, .inl ⟨rfl, rfl⟩⟩, Below.refl _ _⟩
        case round =>
          obtain ⟨i, hi, rfl, hown, hb⟩ := hrel
          have HO := Lib.hid hown
          have HB3 := Lib.hid hb
          have c1 : wr.cell? ⟨y, 2, none⟩ = some (.int .i64 1) := Blk.cell (HC.out.below hb HC.out.lt) 2
          by_cases hlt : i < 1
          · obtain rfl : i = 0 := by omega
            have hR2 := HR.out.below hb
            have c2 : wr.cell? ⟨y, 0, none⟩ = some (.pointer (some ⟨x, 0, none⟩)) := Blk.cell (HC.out.below hb HC.out.lt) 0
            have c3 : wr.cell? ⟨x, 0, none⟩ = some (.slice (some ⟨gl, 0, none⟩) 6 cl) := by have := hR2.row0; rwa [HLN.out] at this
            have c4 : wr.cell? ⟨gl, 3, none⟩ = some (.string (strOf s.b)) := (hb.cell (p := ⟨gl, 3, none⟩) HR.out.now.lt).trans HSC.out
            have hss : (strOf s.b).size = 64 := by rw [strOf_size]; exact HSO.out
            have HCELLS := Lib.hid (show Lib.strCells (strOf s.b) = (fieldB X 3 (0 + 1)).map bb by rw [HBB.out]; rfl)
            clear hown hb hR2
            generalize strOf s.b = T at c4 hss HCELLS
            have HSS := Lib.hid hss
            clear hss
            go_wp2_with (at_builtin; refine Lib.wpList_append_own_string _ rfl (.tmp 59) (.tmp 71) 94 9 rfl w3.heap.size 5 i5 Try.underlying94 Try.underlying9 HI.out E3.out E1.out E2.out u10 0 [] rfl HO.out T rfl (by rw [HSS.out]; simp only [maxLen]; omega) (by rw [HSS.out]; omega) HB3.out.size ?_)
            intro v' w' hown2 hgr _
            rw [HCELLS.out, HSS.out] at hown2
            have HO2 := Lib.hid hown2
            have HB4 := Lib.hid (HB3.out.trans (below_of_own hgr HO.out HB3.out.size))
            clear hown2 hgr c1 c2 c3 c4
            go_wp2_with fail
            go_roundw
            case rel => exact ⟨0 + 1, by omega, by go_num, HO2.out, HB4.out⟩
            case measure => simp [intOf]
          · obtain rfl : i = 1 := by omega
            rcases HO.out.2 with ⟨_, h0⟩ | ⟨g9, cap, cur, rfl, hb9, hg9, hn9, hc9, hs9, ht9⟩
            · omega
            have hlc : lgn ≤ cap := by have := HLG.out; omega
            have hcv : (convert 94 9 (.slice (some ⟨g9, 0, none⟩) lgn cap)).run Try.prog wr = .ok (.string (strOf ((fieldB X 3 1).take lgn))) wr := convert_own (w := wr) HO.out ⟨Nat.le_refl _, fun _ _ _ => rfl⟩ (by have := HLG.out; omega) (by rw [HBB.out, HSO.out]; exact HLG.out)
            generalize strOf ((fieldB X 3 1).take lgn) = TT at hcv HTV
            have HCV := Lib.hid hcv
            have hcm : cap ≤ 9223372036854775807 := by simp only [maxLen] at hc9; omega
            have HCAP := Lib.hid hlc
            clear hcv hown hb ht9 hs9 hg9 hb9 hn9 hc9
            have hlc := HCAP.out
            go_wp2_with (first | (refine wpList_runIs rfl _ _ (execConvert 94 9 _ rfl (p := .slice (some ⟨g9, 0, none⟩) lgn cap) rfl HCV.out) ?_; simp only [Act.put]) | fail)
            go_ret3
            exact ⟨by rw [HTV.out]; rfl, HB.out.trans (HB3.out.mono HB.out.size)⟩
end Go.Proofs.Ytnddkodenkmoiaa
