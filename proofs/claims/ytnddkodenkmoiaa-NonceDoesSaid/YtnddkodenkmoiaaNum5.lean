/- Numbers, read: the reference's. -/
import Derived.Test.YtnddkodenkmoiaaNum4
namespace Go.Proofs.Ytnddkodenkmoiaa
open Go.RowKit Go.Proofs
set_option linter.unusedSimpArgs false
set_option linter.unusedVariables false
theorem endN_end {l : List UInt8} {i : Nat} (h : endN l i = i) : ∀ c, l[i]? = some c → isD c = false := by
  intro c hc
  cases hd : isD c with
  | false => rfl
  | true =>
    have := endN_step hc hd
    have := endN_ge l (i + 1)
    omega
theorem toList_by (t : ByteArray) : t.toList = by_ t := ByteArray.toList_eq t
theorem ext_one (t : ByteArray) (h : 1 < t.size) (h2 : (by_ t).getD 1 0 = 48) : (t.extract 1 2).toList = [48] := by
  rw [toList_by, by_extract]
  have := at_by t 1 h
  rw [List.getD_eq_getElem?_getD, this] at h2
  cases hq : by_ t with
  | nil => rw [hq] at this; cases this
  | cons a l =>
    rw [hq] at this
    cases l with
    | nil => cases this
    | cons b l =>
      have e : b = t[1] := by simpa using this
      have e2 : t[1] = 48 := h2
      simp [e, e2]
theorem ext_one' (t : ByteArray) {en : Nat} (h : en ≤ t.size) (h1 : 1 ≤ en) (hx : (t.extract 1 en).toList = [48]) : en = 2 ∧ (by_ t).getD 1 0 = 48 := by
  rw [toList_by, by_extract] at hx
  have hl := congrArg List.length hx
  rw [List.length_drop, List.length_take, ← by_size] at hl
  simp only [List.length_singleton] at hl
  obtain rfl : en = 2 := by omega
  refine ⟨rfl, ?_⟩
  have := congrArg (fun l => l[0]?) hx
  simp only [List.getElem?_drop, List.getElem?_take] at this
  rw [List.getD_eq_getElem?_getD]
  simp at this
  rw [this]; rfl
set_option maxRecDepth 100000 in
set_option maxHeartbeats 16000000 in
theorem readR_any (t : ByteArray) (w : World) (hts : t.size ≤ maxLen) :
    Calls Try.prog 36 #[.string t, .int .i64 0] w fun e w' => e = .returned (.tuple #[.int .i64 (readP (by_ t)).1, .int .i64 (readP (by_ t)).2.1, .int .i64 (readP (by_ t)).2.2]) ∧ w = w' := by
  have hts2 := hts
  unfold maxLen at hts2
  by_cases hlow : (by_ t).getD 0 0 = 45
  · have hs1 : 0 < t.size := by
      rw [by_size]
      cases hq : (by_ t) with
      | nil => rw [hq] at hlow; cases hlow
      | cons a l => simp
    have ha : aOf (by_ t) = 1 := by unfold aOf; rw [if_pos hlow]
    have hg : (by_ t).getD 0 0 = t[0] := by rw [List.getD_eq_getElem?_getD, at_by t 0 hs1]; rfl
    have h45 : (t[0].toNat : Int) = 45 := by rw [← hg, hlow]; decide
    have hs0 : (0 : Int) < (t.size : Int) := by omega
    have HEL := Lib.hid (show endN (by_ t) 1 ≤ t.size by rw [by_size]; exact endN_le (by rw [← by_size]; omega))
    clear hg hlow
    go_enter Try.func36, Try.ntmps36
    have HRP := Lib.hid (show readP (by_ t) = if shapeE (by_ t) 1 (endN (by_ t) 1) 59 ≠ 0 then (0, 0, shapeE (by_ t) 1 (endN (by_ t) 1) 59) else if 1 = 1 ∧ endN (by_ t) 1 = 2 ∧ (by_ t).getD 1 0 = 48 then (0, 0, 6) else if 9223372036854775808 < valFrom (by_ t) 1 0 then (0, 0, 4) else (-((valFrom (by_ t) 1 0 : Nat) : Int), (endN (by_ t) 1 : Int) + 1, 0) by
      unfold readP; rw [ha]; rfl)
    go_wp2_with fail
    refine (end_any t 1 w (by omega) hts).mono ?_
    rintro e w' ⟨rfl, rfl⟩
    go_wp2_with fail
    refine (bad_any t 1 (endN (by_ t) 1) 59 w (endN_ge _ _) HEL.out hts).mono ?_
    rintro e w' ⟨rfl, rfl⟩
    obtain ⟨sh, hs⟩ : ∃ sh, shapeE (by_ t) 1 (endN (by_ t) 1) 59 = sh := ⟨_, rfl⟩
    have HSH := Lib.hid hs
    rw [hs] at HRP
    clear hs
    rw [HSH.out]
    by_cases hsh : sh = 0
    · subst hsh
      have hes : endN (by_ t) 1 < t.size := by
        by_cases h : endN (by_ t) 1 = (by_ t).length
        · have := HSH.out; unfold shapeE at this; rw [if_pos h] at this; cases this
        · have := by_size t; have := HEL.out; omega
      obtain ⟨en, hen⟩ : ∃ en, endN (by_ t) 1 = en := ⟨_, rfl⟩
      obtain ⟨val, hval⟩ : ∃ v, valFrom (by_ t) 1 0 = v := ⟨_, rfl⟩
      have hael0 := endN_ge (by_ t) 1
      rw [hen] at hes HRP hael0 ⊢
      rw [hval] at HRP
      have hes' : (en : Int) < (t.size : Int) := by omega
      by_cases hz : en = 2 ∧ (by_ t).getD 1 0 = 48
      · have HR := Lib.hid (HRP.out.trans (by rw [if_neg (by omega), if_pos ⟨by first | trivial | rfl, hz.1, hz.2⟩]))
        have hex : ((t.extract 1 en).toList == [48]) = true := by
          obtain ⟨rfl, h2⟩ := hz
          rw [ext_one t (by omega) h2]; rfl
        clear hz hen hval
        go_wp2_with fail
        go_ret3
        exact ⟨by rw [HR.out]; rfl, rfl⟩
      · have HR := Lib.hid (HRP.out.trans (by rw [if_neg (by omega), if_neg (by rintro ⟨_, h1, h2⟩; exact hz ⟨h1, h2⟩)]))
        have hex : ((t.extract 1 en).toList == [48]) = false := beq_eq_false_iff_ne.2 (fun h => hz (ext_one' t (by omega) (by omega) h))
        clear hz
        have HE0 := Lib.hid hen
        have HV0 := Lib.hid hval
        have hael : 1 ≤ en := by have := endN_ge (by_ t) 1; have := HE0.out; omega
        clear hen hval
        go_wp2_with fail
        go_loopw [10, 11, 12] (fun v10 v11 _ wr => ∃ (i m : Nat), v11 = .int .i64 (i : Int) ∧ i ≤ en ∧ v10 = .int .i64 (-(m : Int)) ∧ m ≤ 9223372036854775808 ∧ endN (by_ t) i = en ∧ valFrom (by_ t) i m = val ∧ wr = w) (fun _ v11 _ _ => en - (intOf v11).toNat)
        case atStart => exact ⟨1, 0, rfl, hael, by simp, by omega, HE0.out, HV0.out, rfl⟩
        case round =>
          obtain ⟨i, m, rfl, hi, rfl, hm, hE, hV, rfl⟩ := hrel
          have HE := Lib.hid hE
          have HV := Lib.hid hV
          clear hE hV
          by_cases hlt : i < en
          · have i1 : (i : Int) < (en : Int) := by omega
            have i2 : (i : Int) < (t.size : Int) := by omega
            have hit : i < t.size := by omega
            have HB := Lib.hid (at_by t i hit)
            have HD := Lib.hid (show isD t[i] = true from by
              by_cases h : isD t[i] = true
              · exact h
              · exfalso
                have := HE.out
                rw [endN_stop (fun c hc => by rw [HB.out] at hc; obtain rfl := Option.some.inj hc; simpa using h)] at this
                omega)
            have hd1 : 48 ≤ (t[i].toNat : Int) := by have := HD.out; unfold isD at this; simp at this; omega
            have hd2 : (t[i].toNat : Int) ≤ 57 := by have := HD.out; unfold isD at this; simp at this; omega
            have hq : (-9223372036854775808 + ((t[i].toNat : Int) - 48)).tdiv 10 = -((9223372036854775808 - ((t[i].toNat : Int) - 48)) / 10) := by
              rw [show -9223372036854775808 + ((t[i].toNat : Int) - 48) = -(9223372036854775808 - ((t[i].toNat : Int) - 48)) by omega, Int.neg_tdiv, Int.tdiv_eq_ediv_of_nonneg (by omega)]
            have HV2 := Lib.hid ((valFrom_step m HB.out HD.out).symm.trans HV.out)
            have HE2 := Lib.hid ((endN_step HB.out HD.out).symm.trans HE.out)
            by_cases hg : (9223372036854775808 - ((t[i].toNat : Int) - 48)) / 10 < (m : Int)
            · have HBIG := Lib.hid (show 9223372036854775808 < val by
                rw [← HV2.out]
                refine Nat.lt_of_lt_of_le ?_ (valFrom_ge _ _ _)
                omega)
              have HR2 := Lib.hid (HR.out.trans (by rw [if_pos (by have := HBIG.out; omega)]))
              have hg2 : -(m : Int) < (-9223372036854775808 + ((t[i].toNat : Int) - 48)).tdiv 10 := by rw [hq]; omega
              have hg3 : (9223372036854775808 - ((t[i].toNat : Int) - 48)) / 10 < (m : Int) := hg
              clear hq
              go_wp2_with fail
              go_ret3
              exact ⟨by rw [HR2.out]; rfl, rfl⟩
            · have hg2 : ¬ -(m : Int) < (-9223372036854775808 + ((t[i].toNat : Int) - 48)).tdiv 10 := by rw [hq]; omega
              have HM := Lib.hid (show m * 10 + (t[i].toNat - 48) ≤ 9223372036854775808 by omega)
              have H1 := Lib.hid (show -(m : Int) * 10 - ((t[i].toNat : Int) - 48) = -((m * 10 + (t[i].toNat - 48) : Nat) : Int) by omega)
              have hmb : m ≤ 922337203685477580 := by omega
              have hmc : -9223372036854775808 ≤ -(m : Int) * 10 - ((t[i].toNat : Int) - 48) := by have := HM.out; omega
              clear hq
              go_wp2_with fail
              go_roundw
              case rel =>
                refine ⟨i + 1, m * 10 + (t[i].toNat - 48), by go_num, by omega, ?_, HM.out, HE2.out, HV2.out, trivial⟩
                first | (rw [H1.out]; done) | (rw [← H1.out]; done) | (congr 1; omega)
              case measure => simp [intOf]; omega
          · obtain rfl : i = en := by omega
            have hvm : m = val := (valFrom_stop m (endN_end HE.out)).symm.trans HV.out
            have i1 : ¬ (i : Int) < (i : Int) := by omega
            clear HV0 HE0 HV
            subst hvm
            have hmb : m ≤ 9223372036854775808 := hm
            have HR2 := Lib.hid (HR.out.trans (by rw [if_neg (by omega)]))
            go_wp2_with fail
            go_ret3
            exact ⟨by rw [HR2.out]; rfl, rfl⟩
    · have HR := Lib.hid (HRP.out.trans (by rw [if_pos hsh]))
      have hshb : (sh == 0) = false := beq_eq_false_iff_ne.2 hsh
      go_wp2_with fail
      go_ret3
      exact ⟨by rw [HR.out]; rfl, rfl⟩
  · have ha : aOf (by_ t) = 0 := by unfold aOf; rw [if_neg hlow]
    have HEL := Lib.hid (show endN (by_ t) 0 ≤ t.size by rw [by_size]; exact endN_le (by omega))
    by_cases hs1 : 0 < t.size
    · have hs0 : (0 : Int) < (t.size : Int) := by omega
      have hg : (by_ t).getD 0 0 = t[0] := by rw [List.getD_eq_getElem?_getD, at_by t 0 hs1]; rfl
      have h45 : ¬ (t[0].toNat : Int) = 45 := by
        intro hh; apply hlow; rw [hg]; apply UInt8.toNat_inj.1; show _ = 45; omega
      clear hg hlow
      go_enter Try.func36, Try.ntmps36
      have HRP := Lib.hid (show readP (by_ t) = if shapeE (by_ t) 0 (endN (by_ t) 0) 59 ≠ 0 then (0, 0, shapeE (by_ t) 0 (endN (by_ t) 0) 59) else if 0 = 1 ∧ endN (by_ t) 0 = 2 ∧ (by_ t).getD 1 0 = 48 then (0, 0, 6) else if 9223372036854775807 < valFrom (by_ t) 0 0 then (0, 0, 4) else (((valFrom (by_ t) 0 0 : Nat) : Int), (endN (by_ t) 0 : Int) + 1, 0) by
        unfold readP; rw [ha]; rfl)
      go_wp2_with fail
      refine (end_any t 0 w (by omega) hts).mono ?_
      rintro e w' ⟨rfl, rfl⟩
      go_wp2_with fail
      refine (bad_any t 0 (endN (by_ t) 0) 59 w (endN_ge _ _) HEL.out hts).mono ?_
      rintro e w' ⟨rfl, rfl⟩
      obtain ⟨sh, hs⟩ : ∃ sh, shapeE (by_ t) 0 (endN (by_ t) 0) 59 = sh := ⟨_, rfl⟩
      have HSH := Lib.hid hs
      rw [hs] at HRP
      clear hs
      rw [HSH.out]
      by_cases hsh : sh = 0
      · subst hsh
        have hes : endN (by_ t) 0 < t.size := by
          by_cases h : endN (by_ t) 0 = (by_ t).length
          · have := HSH.out; unfold shapeE at this; rw [if_pos h] at this; cases this
          · have := by_size t; have := HEL.out; omega
        obtain ⟨en, hen⟩ : ∃ en, endN (by_ t) 0 = en := ⟨_, rfl⟩
        obtain ⟨val, hval⟩ : ∃ v, valFrom (by_ t) 0 0 = v := ⟨_, rfl⟩
        have hael0 := endN_ge (by_ t) 0
        rw [hen] at hes HRP hael0 ⊢
        rw [hval] at HRP
        have hes' : (en : Int) < (t.size : Int) := by omega
        have HR := Lib.hid (HRP.out.trans (by rw [if_neg (by omega), if_neg (by rintro ⟨h, _⟩; cases h)]))
        have HE0 := Lib.hid hen
        have HV0 := Lib.hid hval
        have hael : 0 ≤ en := by have := endN_ge (by_ t) 0; have := HE0.out; omega
        clear hen hval
        go_wp2_with fail
        go_loopw [10, 11, 12] (fun v10 v11 _ wr => ∃ (i m : Nat), v11 = .int .i64 (i : Int) ∧ i ≤ en ∧ v10 = .int .i64 (-(m : Int)) ∧ m ≤ 9223372036854775808 ∧ endN (by_ t) i = en ∧ valFrom (by_ t) i m = val ∧ wr = w) (fun _ v11 _ _ => en - (intOf v11).toNat)
        case atStart => exact ⟨0, 0, rfl, hael, by simp, by omega, HE0.out, HV0.out, rfl⟩
        case round =>
          obtain ⟨i, m, rfl, hi, rfl, hm, hE, hV, rfl⟩ := hrel
          have HE := Lib.hid hE
          have HV := Lib.hid hV
          clear hE hV
          by_cases hlt : i < en
          · have i1 : (i : Int) < (en : Int) := by omega
            have i2 : (i : Int) < (t.size : Int) := by omega
            have hit : i < t.size := by omega
            have HB := Lib.hid (at_by t i hit)
            have HD := Lib.hid (show isD t[i] = true from by
              by_cases h : isD t[i] = true
              · exact h
              · exfalso
                have := HE.out
                rw [endN_stop (fun c hc => by rw [HB.out] at hc; obtain rfl := Option.some.inj hc; simpa using h)] at this
                omega)
            have hd1 : 48 ≤ (t[i].toNat : Int) := by have := HD.out; unfold isD at this; simp at this; omega
            have hd2 : (t[i].toNat : Int) ≤ 57 := by have := HD.out; unfold isD at this; simp at this; omega
            have hq : (-9223372036854775808 + ((t[i].toNat : Int) - 48)).tdiv 10 = -((9223372036854775808 - ((t[i].toNat : Int) - 48)) / 10) := by
              rw [show -9223372036854775808 + ((t[i].toNat : Int) - 48) = -(9223372036854775808 - ((t[i].toNat : Int) - 48)) by omega, Int.neg_tdiv, Int.tdiv_eq_ediv_of_nonneg (by omega)]
            have HV2 := Lib.hid ((valFrom_step m HB.out HD.out).symm.trans HV.out)
            have HE2 := Lib.hid ((endN_step HB.out HD.out).symm.trans HE.out)
            by_cases hg : (9223372036854775808 - ((t[i].toNat : Int) - 48)) / 10 < (m : Int)
            · have HBIG := Lib.hid (show 9223372036854775808 < val by
                rw [← HV2.out]
                refine Nat.lt_of_lt_of_le ?_ (valFrom_ge _ _ _)
                omega)
              have HR2 := Lib.hid (HR.out.trans (by rw [if_pos (by have := HBIG.out; omega)]))
              have hg2 : -(m : Int) < (-9223372036854775808 + ((t[i].toNat : Int) - 48)).tdiv 10 := by rw [hq]; omega
              have hg3 : (9223372036854775808 - ((t[i].toNat : Int) - 48)) / 10 < (m : Int) := hg
              clear hq
              go_wp2_with fail
              go_ret3
              exact ⟨by rw [HR2.out]; rfl, rfl⟩
            · have hg2 : ¬ -(m : Int) < (-9223372036854775808 + ((t[i].toNat : Int) - 48)).tdiv 10 := by rw [hq]; omega
              have HM := Lib.hid (show m * 10 + (t[i].toNat - 48) ≤ 9223372036854775808 by omega)
              have H1 := Lib.hid (show -(m : Int) * 10 - ((t[i].toNat : Int) - 48) = -((m * 10 + (t[i].toNat - 48) : Nat) : Int) by omega)
              have hmb : m ≤ 922337203685477580 := by omega
              have hmc : -9223372036854775808 ≤ -(m : Int) * 10 - ((t[i].toNat : Int) - 48) := by have := HM.out; omega
              clear hq
              go_wp2_with fail
              go_roundw
              case rel =>
                refine ⟨i + 1, m * 10 + (t[i].toNat - 48), by go_num, by omega, ?_, HM.out, HE2.out, HV2.out, trivial⟩
                first | (rw [H1.out]; done) | (rw [← H1.out]; done) | (congr 1; omega)
              case measure => simp [intOf]; omega
          · obtain rfl : i = en := by omega
            have hvm : m = val := (valFrom_stop m (endN_end HE.out)).symm.trans HV.out
            have i1 : ¬ (i : Int) < (i : Int) := by omega
            clear HV0 HE0 HV
            subst hvm
            by_cases hmx : m = 9223372036854775808
            · have HR2 := Lib.hid (HR.out.trans (by rw [if_pos (by omega)]))
              have hmx1 : ((-(m : Int)) == -9223372036854775808) = true := by rw [hmx]; decide
              have hmx2 : -(m : Int) = -9223372036854775808 := by omega
              subst hmx
              go_wp2_with fail
              go_ret3
              exact ⟨by rw [HR2.out]; rfl, rfl⟩
            · have HR2 := Lib.hid (HR.out.trans (by rw [if_neg (by omega)]))
              have hmx1 : ((-(m : Int)) == -9223372036854775808) = false := by simp; omega
              have hmx2 : ¬ -(m : Int) = -9223372036854775808 := by omega
              have hmb : m ≤ 9223372036854775807 := by omega
              go_wp2_with fail
              go_ret3
              refine ⟨?_, rfl⟩
              rw [HR2.out]
              first | rfl | (simp; done) | (rw [show -(-(m : Int)) = (m : Int) by omega]; rfl)
      · have HR := Lib.hid (HRP.out.trans (by rw [if_pos hsh]))
        have hshb : (sh == 0) = false := beq_eq_false_iff_ne.2 hsh
        go_wp2_with fail
        go_ret3
        exact ⟨by rw [HR.out]; rfl, rfl⟩
    · have hs0 : ¬ (0 : Int) < (t.size : Int) := by omega
      have hs00 : t.size = 0 := by omega
      clear hlow
      go_enter Try.func36, Try.ntmps36
      have HRP := Lib.hid (show readP (by_ t) = if shapeE (by_ t) 0 (endN (by_ t) 0) 59 ≠ 0 then (0, 0, shapeE (by_ t) 0 (endN (by_ t) 0) 59) else if 0 = 1 ∧ endN (by_ t) 0 = 2 ∧ (by_ t).getD 1 0 = 48 then (0, 0, 6) else if 9223372036854775807 < valFrom (by_ t) 0 0 then (0, 0, 4) else (((valFrom (by_ t) 0 0 : Nat) : Int), (endN (by_ t) 0 : Int) + 1, 0) by
        unfold readP; rw [ha]; rfl)
      go_wp2_with fail
      refine (end_any t 0 w (by omega) hts).mono ?_
      rintro e w' ⟨rfl, rfl⟩
      go_wp2_with fail
      refine (bad_any t 0 (endN (by_ t) 0) 59 w (endN_ge _ _) HEL.out hts).mono ?_
      rintro e w' ⟨rfl, rfl⟩
      obtain ⟨sh, hs⟩ : ∃ sh, shapeE (by_ t) 0 (endN (by_ t) 0) 59 = sh := ⟨_, rfl⟩
      have HSH := Lib.hid hs
      rw [hs] at HRP
      clear hs
      rw [HSH.out]
      by_cases hsh : sh = 0
      · subst hsh
        have hes : endN (by_ t) 0 < t.size := by
          by_cases h : endN (by_ t) 0 = (by_ t).length
          · have := HSH.out; unfold shapeE at this; rw [if_pos h] at this; cases this
          · have := by_size t; have := HEL.out; omega
        obtain ⟨en, hen⟩ : ∃ en, endN (by_ t) 0 = en := ⟨_, rfl⟩
        obtain ⟨val, hval⟩ : ∃ v, valFrom (by_ t) 0 0 = v := ⟨_, rfl⟩
        have hael0 := endN_ge (by_ t) 0
        rw [hen] at hes HRP hael0 ⊢
        rw [hval] at HRP
        have hes' : (en : Int) < (t.size : Int) := by omega
        exfalso; omega
      · have HR := Lib.hid (HRP.out.trans (by rw [if_pos hsh]))
        have hshb : (sh == 0) = false := beq_eq_false_iff_ne.2 hsh
        go_wp2_with fail
        go_ret3
        exact ⟨by rw [HR.out]; rfl, rfl⟩
end Go.Proofs.Ytnddkodenkmoiaa
