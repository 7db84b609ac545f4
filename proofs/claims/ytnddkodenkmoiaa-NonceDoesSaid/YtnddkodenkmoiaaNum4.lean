/- Numbers, read: the program's. -/
import Derived.Test.YtnddkodenkmoiaaNum3
namespace Go.Proofs.Ytnddkodenkmoiaa
open Go.RowKit Go.Proofs
set_option linter.unusedSimpArgs false
set_option linter.unusedVariables false
def aOf (l : List UInt8) : Nat := if l.getD 0 0 = 45 then 1 else 0
/-- What is read at the beginning: the number, where it ends, what is wrong. -/
def readP (l : List UInt8) : Int × Int × Int :=
  if shapeE l (aOf l) (endN l (aOf l)) 59 ≠ 0 then (0, 0, shapeE l (aOf l) (endN l (aOf l)) 59) else
  if aOf l = 1 ∧ endN l (aOf l) = 2 ∧ l.getD 1 0 = 48 then (0, 0, 6) else
  if 9223372036854775807 + aOf l < valFrom l (aOf l) 0 then (0, 0, 4) else
  (if aOf l = 1 then -((valFrom l (aOf l) 0 : Nat) : Int) else ((valFrom l (aOf l) 0 : Nat) : Int), (endN l (aOf l) : Int) + 1, 0)
theorem wrap_neg {v : Nat} (h : (v : Int) ≤ 9223372036854775808) : wrap64 (IntKind.u64.wrap (-(v : Int))) = -(v : Int) := by rw [IntKind.wrap_u64]; unfold wrap64; omega
theorem wrap_pos {v : Nat} (h : (v : Int) ≤ 9223372036854775807) : wrap64 (v : Int) = (v : Int) := by unfold wrap64; omega
set_option maxRecDepth 100000 in
set_option maxHeartbeats 8000000 in
theorem readL_any (t : ByteArray) (w : World) (hts : t.size ≤ maxLen) :
    Calls Try.prog 57 #[.string t, .int .i64 0] w fun e w' => e = .returned (.tuple #[.int .i64 (readP (by_ t)).1, .int .i64 (readP (by_ t)).2.1, .int .i64 (readP (by_ t)).2.2]) ∧ w = w' := by
  have hts2 := hts
  unfold maxLen at hts2
  by_cases hlow : (by_ t).getD 0 0 = 45
  · have hs1 : 0 < t.size := by
      rw [by_size]
      cases hq : (by_ t) with
      | nil => rw [hq] at hlow; cases hlow
      | cons a l => simp
    have ha : aOf (by_ t) = 1 := by unfold aOf; rw [if_pos hlow]
    have hg : (by_ t).getD 0 0 = t[0] := by rw [List.getD_eq_getElem?_getD, at_by t 0 hs1]; rfl
    have h45 : (t[0].toNat : Int) = 45 := by rw [← hg, hlow]; decide
    have hs0 : (0 : Int) < (t.size : Int) := by omega
    have HEL := Lib.hid (show endN (by_ t) 1 ≤ t.size by rw [by_size]; exact endN_le (by rw [← by_size]; omega))
    clear hg hlow
    go_enter Try.func57, Try.ntmps57
    have HRP := Lib.hid (show readP (by_ t) = if shapeE (by_ t) 1 (endN (by_ t) 1) 59 ≠ 0 then (0, 0, shapeE (by_ t) 1 (endN (by_ t) 1) 59) else if 1 = 1 ∧ endN (by_ t) 1 = 2 ∧ (by_ t).getD 1 0 = 48 then (0, 0, 6) else if 9223372036854775808 < valFrom (by_ t) 1 0 then (0, 0, 4) else (-((valFrom (by_ t) 1 0 : Nat) : Int), (endN (by_ t) 1 : Int) + 1, 0) by
      unfold readP; rw [ha]; rfl)
    go_wp2_with fail
    refine (run_any t 1 9223372036854775808 w (by omega) (by omega) (by omega) hts).mono ?_
    rintro e w' ⟨n, rfl, hnv, rfl⟩
    obtain ⟨val, hval⟩ : ∃ v, valFrom (by_ t) 1 0 = v := ⟨_, rfl⟩
    rw [hval] at hnv HRP ⊢
    clear hval
    go_wp2_with fail
    refine (shape_any t 1 (endN (by_ t) 1) 59 w (endN_ge _ _) HEL.out hts).mono ?_
    rintro e w' ⟨rfl, rfl⟩
    obtain ⟨sh, hs⟩ : ∃ sh, shapeE (by_ t) 1 (endN (by_ t) 1) 59 = sh := ⟨_, rfl⟩
    have HSH := Lib.hid hs
    rw [hs] at HRP
    clear hs
    rw [HSH.out]
    by_cases hsh : sh = 0
    · subst hsh
      have hes : endN (by_ t) 1 < t.size := by
        by_cases h : endN (by_ t) 1 = (by_ t).length
        · have := HSH.out; unfold shapeE at this; rw [if_pos h] at this; cases this
        · have := by_size t; have := HEL.out; omega
      have hes' : ((endN (by_ t) 1 : Nat) : Int) < (t.size : Int) := by omega
      obtain ⟨en, hen⟩ : ∃ en, endN (by_ t) 1 = en := ⟨_, rfl⟩
      rw [hen] at hes hes' HRP ⊢
      clear hen
      by_cases hz : en = 2 ∧ (by_ t).getD 1 0 = 48
      · obtain ⟨rfl, hz2⟩ := hz
        have hg : (by_ t).getD 1 0 = t[1] := by rw [List.getD_eq_getElem?_getD, at_by t 1 (by omega)]; rfl
        have hz3 : (t[1].toNat : Int) = 48 := by rw [← hg, hz2]; decide
        have HR := Lib.hid (HRP.out.trans (by rw [if_neg (by omega), if_pos ⟨by first | trivial | rfl, rfl, hz2⟩]))
        clear hg hz2
        have hl1 : (1 : Int) < (t.size : Int) := by omega
        go_wp2_with fail
        go_ret3
        exact ⟨by rw [HR.out]; rfl, rfl⟩
      · have hzz : en ≠ 2 ∨ (en = 2 ∧ (t.size > 1) ∧ ∀ h : 1 < t.size, ¬ ((t[1]'h).toNat : Int) = 48) := by
          by_cases h2 : en = 2
          · right
            refine ⟨h2, by omega, fun h hh => hz ⟨h2, ?_⟩⟩
            rw [List.getD_eq_getElem?_getD, at_by t 1 h]
            show t[1] = 48
            apply UInt8.toNat_inj.1; show _ = 48; omega
          · exact .inl h2
        have HR := Lib.hid (HRP.out.trans (by rw [if_neg (by omega), if_neg (by rintro ⟨_, h1, h2⟩; exact hz ⟨h1, h2⟩)]))
        clear hz
        rcases hzz with hzz | ⟨rfl, hl1, hzz⟩
        · have hz3 : ((en : Int) == 2) = false := by simp; omega
          have hz4 : ¬ (en : Int) = 2 := by omega
          by_cases hbig : 9223372036854775808 < val
          · have HR2 := Lib.hid (HR.out.trans (by rw [if_pos hbig]))
            rw [decide_eq_false (by omega)]
            go_wp2_with fail
            go_ret3
            exact ⟨by rw [HR2.out]; rfl, rfl⟩
          · have HR2 := Lib.hid (HR.out.trans (by rw [if_neg hbig]))
            rw [decide_eq_true (by omega)]
            have HNV := Lib.hid (hnv (by omega))
            clear hnv
            rw [HNV.out]
            have hvb : (val : Int) ≤ 9223372036854775808 := by omega
            go_wp2_with fail
            go_ret3
            refine ⟨?_, rfl⟩
            rw [HR2.out]
            rw [wrap_neg hvb]; rfl
        · have hl1' : (1 : Int) < (t.size : Int) := by omega
          have hz5 := hzz hl1
          clear hzz
          by_cases hbig : 9223372036854775808 < val
          · have HR2 := Lib.hid (HR.out.trans (by rw [if_pos hbig]))
            rw [decide_eq_false (by omega)]
            go_wp2_with fail
            go_ret3
            exact ⟨by rw [HR2.out]; rfl, rfl⟩
          · have HR2 := Lib.hid (HR.out.trans (by rw [if_neg hbig]))
            rw [decide_eq_true (by omega)]
            have HNV := Lib.hid (hnv (by omega))
            clear hnv
            rw [HNV.out]
            have hvb : (val : Int) ≤ 9223372036854775808 := by omega
            go_wp2_with fail
            go_ret3
            refine ⟨?_, rfl⟩
            rw [HR2.out]
            rw [wrap_neg hvb]; rfl
    · have HR := Lib.hid (HRP.out.trans (by rw [if_pos hsh]))
      have hshb : (sh == 0) = false := beq_eq_false_iff_ne.2 hsh
      go_wp2_with fail
      go_ret3
      exact ⟨by rw [HR.out]; rfl, rfl⟩
  · have ha : aOf (by_ t) = 0 := by unfold aOf; rw [if_neg hlow]
    have HEL := Lib.hid (show endN (by_ t) 0 ≤ t.size by rw [by_size]; exact endN_le (by omega))
    by_cases hs1 : 0 < t.size
    · have hs0 : (0 : Int) < (t.size : Int) := by omega
      have hg : (by_ t).getD 0 0 = t[0] := by rw [List.getD_eq_getElem?_getD, at_by t 0 hs1]; rfl
      have h45 : ¬ (t[0].toNat : Int) = 45 := by
        intro hh; apply hlow; rw [hg]; apply UInt8.toNat_inj.1; show _ = 45; omega
      clear hg hlow
      go_enter Try.func57, Try.ntmps57
      have HRP := Lib.hid (show readP (by_ t) = if shapeE (by_ t) 0 (endN (by_ t) 0) 59 ≠ 0 then (0, 0, shapeE (by_ t) 0 (endN (by_ t) 0) 59) else if 0 = 1 ∧ endN (by_ t) 0 = 2 ∧ (by_ t).getD 1 0 = 48 then (0, 0, 6) else if 9223372036854775807 < valFrom (by_ t) 0 0 then (0, 0, 4) else (((valFrom (by_ t) 0 0 : Nat) : Int), (endN (by_ t) 0 : Int) + 1, 0) by
        unfold readP; rw [ha]; rfl)
      go_wp2_with fail
      refine (run_any t 0 9223372036854775807 w (by omega) (by omega) (by omega) hts).mono ?_
      rintro e w' ⟨n, rfl, hnv, rfl⟩
      obtain ⟨val, hval⟩ : ∃ v, valFrom (by_ t) 0 0 = v := ⟨_, rfl⟩
      rw [hval] at hnv HRP ⊢
      clear hval
      go_wp2_with fail
      refine (shape_any t 0 (endN (by_ t) 0) 59 w (endN_ge _ _) HEL.out hts).mono ?_
      rintro e w' ⟨rfl, rfl⟩
      obtain ⟨sh, hs⟩ : ∃ sh, shapeE (by_ t) 0 (endN (by_ t) 0) 59 = sh := ⟨_, rfl⟩
      have HSH := Lib.hid hs
      rw [hs] at HRP
      clear hs
      rw [HSH.out]
      by_cases hsh : sh = 0
      · subst hsh
        have hes : endN (by_ t) 0 < t.size := by
          by_cases h : endN (by_ t) 0 = (by_ t).length
          · have := HSH.out; unfold shapeE at this; rw [if_pos h] at this; cases this
          · have := by_size t; have := HEL.out; omega
        have hes' : ((endN (by_ t) 0 : Nat) : Int) < (t.size : Int) := by omega
        obtain ⟨en, hen⟩ : ∃ en, endN (by_ t) 0 = en := ⟨_, rfl⟩
        rw [hen] at hes hes' HRP ⊢
        clear hen
        have HR := Lib.hid (HRP.out.trans (by rw [if_neg (by omega), if_neg (by rintro ⟨h, _⟩; cases h)]))
        by_cases hbig : 9223372036854775807 < val
        · have HR2 := Lib.hid (HR.out.trans (by rw [if_pos hbig]))
          rw [decide_eq_false (by omega)]
          go_wp2_with fail
          go_ret3
          exact ⟨by rw [HR2.out]; rfl, rfl⟩
        · have HR2 := Lib.hid (HR.out.trans (by rw [if_neg hbig]))
          rw [decide_eq_true (by omega)]
          have HNV := Lib.hid (hnv (by omega))
          clear hnv
          rw [HNV.out]
          have hvb : (val : Int) ≤ 9223372036854775807 := by omega
          go_wp2_with fail
          go_ret3
          refine ⟨?_, rfl⟩
          rw [HR2.out]
          first | rfl | (rw [wrap_pos hvb]; rfl)
      · have HR := Lib.hid (HRP.out.trans (by rw [if_pos hsh]))
        have hshb : (sh == 0) = false := beq_eq_false_iff_ne.2 hsh
        go_wp2_with fail
        go_ret3
        exact ⟨by rw [HR.out]; rfl, rfl⟩
    · have hs0 : ¬ (0 : Int) < (t.size : Int) := by omega
      have hs00 : t.size = 0 := by omega
      clear hlow
      go_enter Try.func57, Try.ntmps57
      have HRP := Lib.hid (show readP (by_ t) = if shapeE (by_ t) 0 (endN (by_ t) 0) 59 ≠ 0 then (0, 0, shapeE (by_ t) 0 (endN (by_ t) 0) 59) else if 0 = 1 ∧ endN (by_ t) 0 = 2 ∧ (by_ t).getD 1 0 = 48 then (0, 0, 6) else if 9223372036854775807 < valFrom (by_ t) 0 0 then (0, 0, 4) else (((valFrom (by_ t) 0 0 : Nat) : Int), (endN (by_ t) 0 : Int) + 1, 0) by
        unfold readP; rw [ha]; rfl)
      go_wp2_with fail
      refine (run_any t 0 9223372036854775807 w (by omega) (by omega) (by omega) hts).mono ?_
      rintro e w' ⟨n, rfl, hnv, rfl⟩
      obtain ⟨val, hval⟩ : ∃ v, valFrom (by_ t) 0 0 = v := ⟨_, rfl⟩
      rw [hval] at hnv HRP ⊢
      clear hval
      go_wp2_with fail
      refine (shape_any t 0 (endN (by_ t) 0) 59 w (endN_ge _ _) HEL.out hts).mono ?_
      rintro e w' ⟨rfl, rfl⟩
      obtain ⟨sh, hs⟩ : ∃ sh, shapeE (by_ t) 0 (endN (by_ t) 0) 59 = sh := ⟨_, rfl⟩
      have HSH := Lib.hid hs
      rw [hs] at HRP
      clear hs
      rw [HSH.out]
      by_cases hsh : sh = 0
      · subst hsh
        have hes : endN (by_ t) 0 < t.size := by
          by_cases h : endN (by_ t) 0 = (by_ t).length
          · have := HSH.out; unfold shapeE at this; rw [if_pos h] at this; cases this
          · have := by_size t; have := HEL.out; omega
        have hes' : ((endN (by_ t) 0 : Nat) : Int) < (t.size : Int) := by omega
        obtain ⟨en, hen⟩ : ∃ en, endN (by_ t) 0 = en := ⟨_, rfl⟩
        rw [hen] at hes hes' HRP ⊢
        clear hen
        have HR := Lib.hid (HRP.out.trans (by rw [if_neg (by omega), if_neg (by rintro ⟨h, _⟩; cases h)]))
        by_cases hbig : 9223372036854775807 < val
        · have HR2 := Lib.hid (HR.out.trans (by rw [if_pos hbig]))
          rw [decide_eq_false (by omega)]
          go_wp2_with fail
          go_ret3
          exact ⟨by rw [HR2.out]; rfl, rfl⟩
        · have HR2 := Lib.hid (HR.out.trans (by rw [if_neg hbig]))
          rw [decide_eq_true (by omega)]
          have HNV := Lib.hid (hnv (by omega))
          clear hnv
          rw [HNV.out]
          have hvb : (val : Int) ≤ 9223372036854775807 := by omega
          go_wp2_with fail
          go_ret3
          refine ⟨?_, rfl⟩
          rw [HR2.out]
          first | rfl | (rw [wrap_pos hvb]; rfl)
      · have HR := Lib.hid (HRP.out.trans (by rw [if_pos hsh]))
        have hshb : (sh == 0) = false := beq_eq_false_iff_ne.2 hsh
        go_wp2_with fail
        go_ret3
        exact ⟨by rw [HR.out]; rfl, rfl⟩
end Go.Proofs.Ytnddkodenkmoiaa
