/- Numbers, read: the program's run and shape. -/
import Derived.Test.YtnddkodenkmoiaaNum1
namespace Go.Proofs.Ytnddkodenkmoiaa
open Go.RowKit Go.Proofs
set_option linter.unusedSimpArgs false
set_option linter.unusedVariables false
def isD (c : UInt8) : Bool := decide (48 ≤ c.toNat) && decide (c.toNat ≤ 57)
def digsAt (l : List UInt8) (a : Nat) : List UInt8 := (l.drop a).takeWhile isD
/-- Where the digits end. -/
def endN (l : List UInt8) (a : Nat) : Nat := a + (digsAt l a).length
def valFrom (l : List UInt8) (a n : Nat) : Nat := (digsAt l a).foldl (fun n c => n * 10 + (c.toNat - 48)) n
theorem digsAt_step {l : List UInt8} {a : Nat} {c : UInt8} (h : l[a]? = some c) (hc : isD c = true) : digsAt l a = c :: digsAt l (a + 1) := by
  have hl := (List.getElem?_eq_some_iff.1 h).1
  have he : l[a] = c := (List.getElem?_eq_some_iff.1 h).2
  unfold digsAt
  rw [List.drop_eq_getElem_cons hl, he, List.takeWhile_cons, if_pos hc]
theorem digsAt_stop {l : List UInt8} {a : Nat} (h : ∀ c, l[a]? = some c → isD c = false) : digsAt l a = [] := by
  unfold digsAt
  cases hq : l[a]? with
  | none => rw [List.drop_eq_nil_of_le (List.getElem?_eq_none_iff.1 hq)]; rfl
  | some c =>
    have hl := (List.getElem?_eq_some_iff.1 hq).1
    have he : l[a] = c := (List.getElem?_eq_some_iff.1 hq).2
    rw [List.drop_eq_getElem_cons hl, he, List.takeWhile_cons, if_neg (by rw [h c hq]; decide)]
theorem endN_step {l : List UInt8} {a : Nat} {c : UInt8} (h : l[a]? = some c) (hc : isD c = true) : endN l a = endN l (a + 1) := by
  unfold endN; rw [digsAt_step h hc, List.length_cons]; omega
theorem endN_stop {l : List UInt8} {a : Nat} (h : ∀ c, l[a]? = some c → isD c = false) : endN l a = a := by
  unfold endN; rw [digsAt_stop h]; rfl
theorem valFrom_step {l : List UInt8} {a : Nat} {c : UInt8} (n : Nat) (h : l[a]? = some c) (hc : isD c = true) : valFrom l a n = valFrom l (a + 1) (n * 10 + (c.toNat - 48)) := by
  unfold valFrom; rw [digsAt_step h hc]; rfl
theorem valFrom_stop {l : List UInt8} {a : Nat} (n : Nat) (h : ∀ c, l[a]? = some c → isD c = false) : valFrom l a n = n := by
  unfold valFrom; rw [digsAt_stop h]; rfl
theorem valFrom_ge (l : List UInt8) (a n : Nat) : n ≤ valFrom l a n := by
  unfold valFrom
  generalize digsAt l a = d
  induction d generalizing n with
  | nil => exact Nat.le_refl _
  | cons c d ih => exact Nat.le_trans (by omega) (ih (n * 10 + (c.toNat - 48)))
theorem endN_le {l : List UInt8} {a : Nat} (h : a ≤ l.length) : endN l a ≤ l.length := by
  unfold endN digsAt
  have := (List.takeWhile_sublist isD (l := l.drop a)).length_le
  rw [List.length_drop] at this
  omega
theorem endN_ge (l : List UInt8) (a : Nat) : a ≤ endN l a := by unfold endN; omega
theorem at_by (t : ByteArray) (i : Nat) (h : i < t.size) : (by_ t)[i]? = some t[i] := by
  have hl : i < (by_ t).length := by rw [← by_size]; exact h
  rw [List.getElem?_eq_getElem hl]; rfl
def shapeE (l : List UInt8) (a e : Nat) (last : UInt8) : Int :=
  if e = l.length then 5 else if e = a ∨ l.getD e 0 ≠ last ∨ (1 < e - a ∧ l.getD a 0 = 48) then 6 else 0
theorem isD_of {c : UInt8} (h1 : 48 ≤ (c.toNat : Int)) (h2 : (c.toNat : Int) ≤ 57) : isD c = true := by
  unfold isD; simp; omega
theorem isD_not {c : UInt8} (h : (c.toNat : Int) < 48 ∨ 57 < (c.toNat : Int)) : isD c = false := by
  unfold isD; simp; omega
theorem wrap_bd (x : Int) : 0 ≤ IntKind.u64.wrap x ∧ IntKind.u64.wrap x ≤ 18446744073709551615 := by rw [IntKind.wrap_u64]; omega
set_option maxRecDepth 100000 in
set_option maxHeartbeats 4000000 in
theorem run_any (t : ByteArray) (a most : Nat) (w : World) (ha : a ≤ t.size) (hm1 : 9 ≤ most) (hm2 : most ≤ 9223372036854775808) (hts : t.size ≤ maxLen) :
    Calls Try.prog 71 #[.string t, .int .i64 (a : Int), .int .u64 (most : Int)] w fun e w' => ∃ n : Int, e = .returned (.tuple #[.int .i64 (endN (by_ t) a : Nat), .int .u64 n, .bool (decide (valFrom (by_ t) a 0 ≤ most))]) ∧ (valFrom (by_ t) a 0 ≤ most → n = (valFrom (by_ t) a 0 : Nat)) ∧ w = w' := by
  unfold maxLen at hts
  go_enter Try.func71, Try.ntmps71
  go_wp2_with fail
  go_loopw [1, 9, 10, 11] (fun v1 v9 v10 _ wr => ∃ (i : Nat) (n : Int) (ok : Bool), v1 = .int .i64 (i : Int) ∧ i ≤ t.size ∧ v9 = .int .u64 n ∧ v10 = .bool ok ∧ 0 ≤ n ∧ n ≤ 18446744073709551615 ∧ endN (by_ t) a = endN (by_ t) i ∧
    (ok = true → ∃ m : Nat, n = (m : Int) ∧ m ≤ most ∧ valFrom (by_ t) a 0 = valFrom (by_ t) i m) ∧ (ok = false → most < valFrom (by_ t) a 0) ∧ wr = w) (fun v1 _ _ _ _ => t.size - (intOf v1).toNat)
  case atStart => exact ⟨a, 0, true, rfl, ha, rfl, rfl, by omega, by omega, rfl, fun _ => ⟨0, rfl, by omega, rfl⟩, (by simp), rfl⟩
  case round =>
    obtain ⟨i, n, ok, rfl, hi, rfl, rfl, hn0, hn1, hE, hok, hno, rfl⟩ := hrel
    have HE := Lib.hid hE
    have HOK := Lib.hid hok
    have HNO := Lib.hid hno
    clear hE hok hno
    by_cases hlt : i < t.size
    · have i1 : (i : Int) < (t.size : Int) := by omega
      have HB := Lib.hid (at_by t i hlt)
      have hcb : (t[i].toNat : Int) ≤ 255 := by have := t[i].toNat_lt; omega
      by_cases g1 : 48 ≤ (t[i].toNat : Int)
      · by_cases g2 : (t[i].toNat : Int) ≤ 57
        · have HD := Lib.hid (isD_of g1 g2)
          have HE2 := Lib.hid (HE.out.trans (endN_step HB.out HD.out))
          cases ok with
          | true =>
            obtain ⟨m, rfl, hm, hv⟩ := HOK.out rfl
            have HV := Lib.hid (hv.trans (valFrom_step m HB.out HD.out))
            clear hv HOK HNO
            by_cases hg : ((most : Int) - ((t[i].toNat : Int) - 48)) / 10 < (m : Int)
            · have HBIG := Lib.hid (show most < valFrom (by_ t) a 0 by
                rw [HV.out]
                refine Nat.lt_of_lt_of_le ?_ (valFrom_ge _ _ _)
                omega)
              go_wp2_with fail
              go_roundw
              case rel => exact ⟨i + 1, _, false, by go_num, by omega, rfl, rfl, (wrap_bd _).1, (wrap_bd _).2, HE2.out, (by intro h; cases h), fun _ => HBIG.out, trivial⟩
              case measure => simp [intOf]; omega
            · have HM := Lib.hid (show m * 10 + (t[i].toNat - 48) ≤ most by omega)
              have hmb : m ≤ 922337203685477580 := by omega
              have h1 : IntKind.u64.wrap ((m : Int) * 10) = (m : Int) * 10 := IntWalk.u64_in _ (by omega)
              have h2 : IntKind.u64.wrap ((m : Int) * 10 + ((t[i].toNat : Int) - 48)) = ((m * 10 + (t[i].toNat - 48) : Nat) : Int) := by rw [IntWalk.u64_in _ (by omega)]; omega
              have H1 := Lib.hid h1
              have H2 := Lib.hid h2
              clear h1 h2
              go_wp2_with fail
              go_roundw
              case rel =>
                refine ⟨i + 1, ((m * 10 + (t[i].toNat - 48) : Nat) : Int), true, by go_num, by omega, ?_, rfl, by omega, by have := HM.out; omega, HE2.out, fun _ => ⟨_, rfl, HM.out, HV.out⟩, (by intro h; cases h), trivial⟩
                first | rfl | (rw [← H2.out]; done) | (rw [H1.out, H2.out]; done) | (rw [← H2.out, H1.out]; done) | (congr 1; omega)
              case measure => simp [intOf]; omega
          | false =>
            have HBIG := Lib.hid (HNO.out rfl)
            clear HOK HNO
            by_cases hg : ((most : Int) - ((t[i].toNat : Int) - 48)) / 10 < n
            · go_wp2_with fail
              go_roundw
              case rel => exact ⟨i + 1, _, false, by go_num, by omega, rfl, rfl, (wrap_bd _).1, (wrap_bd _).2, HE2.out, (by intro h; cases h), fun _ => HBIG.out, trivial⟩
              case measure => simp [intOf]; omega
            · go_wp2_with fail
              go_roundw
              case rel =>
                refine ⟨i + 1, IntKind.u64.wrap (IntKind.u64.wrap (n * 10) + ((t[i].toNat : Int) - 48)), false, by go_num, by omega, ?_, rfl, (wrap_bd _).1, (wrap_bd _).2, HE2.out, (by intro h; cases h), fun _ => HBIG.out, trivial⟩
                first | rfl | (congr 1; (repeat rw [IntKind.wrap_u64]); omega)
              case measure => simp [intOf]; omega
        · have HS := Lib.hid (show ∀ c, (by_ t)[i]? = some c → isD c = false from fun c hc => by
            rw [HB.out] at hc; obtain rfl := Option.some.inj hc; exact isD_not (by omega))
          have HEE := Lib.hid (show endN (by_ t) a = i from HE.out.trans (endN_stop HS.out))
          cases ok with
          | true =>
            obtain ⟨m, rfl, hm, hv⟩ := HOK.out rfl
            have HV := Lib.hid (hv.trans (valFrom_stop m HS.out))
            clear hv HOK HNO
            go_wp2_with fail
            go_ret3
            refine ⟨(m : Int), ?_, fun _ => by rw [HV.out], rfl⟩
            rw [HEE.out, HV.out, decide_eq_true hm]
            rfl
          | false =>
            have HBIG := Lib.hid (HNO.out rfl)
            clear HOK HNO
            go_wp2_with fail
            go_ret3
            refine ⟨n, ?_, fun h => by have := HBIG.out; omega, rfl⟩
            rw [HEE.out, decide_eq_false (by have := HBIG.out; omega)]
            rfl
      · have HS := Lib.hid (show ∀ c, (by_ t)[i]? = some c → isD c = false from fun c hc => by
          rw [HB.out] at hc; obtain rfl := Option.some.inj hc; exact isD_not (by omega))
        have HEE := Lib.hid (show endN (by_ t) a = i from HE.out.trans (endN_stop HS.out))
        cases ok with
        | true =>
          obtain ⟨m, rfl, hm, hv⟩ := HOK.out rfl
          have HV := Lib.hid (hv.trans (valFrom_stop m HS.out))
          clear hv HOK HNO
          go_wp2_with fail
          go_ret3
          refine ⟨(m : Int), ?_, fun _ => by rw [HV.out], rfl⟩
          rw [HEE.out, HV.out, decide_eq_true hm]
          rfl
        | false =>
          have HBIG := Lib.hid (HNO.out rfl)
          clear HOK HNO
          go_wp2_with fail
          go_ret3
          refine ⟨n, ?_, fun h => by have := HBIG.out; omega, rfl⟩
          rw [HEE.out, decide_eq_false (by have := HBIG.out; omega)]
          rfl
    · have HS := Lib.hid (show ∀ c, (by_ t)[i]? = some c → isD c = false from fun c hc => by
        have := (List.getElem?_eq_some_iff.1 hc).1; rw [← by_size] at this; omega)
      have i1 : ¬ (i : Int) < (t.size : Int) := by omega
      have HEE := Lib.hid (show endN (by_ t) a = i from HE.out.trans (endN_stop HS.out))
      cases ok with
      | true =>
        obtain ⟨m, rfl, hm, hv⟩ := HOK.out rfl
        have HV := Lib.hid (hv.trans (valFrom_stop m HS.out))
        clear hv HOK HNO
        go_wp2_with fail
        go_ret3
        refine ⟨(m : Int), ?_, fun _ => by rw [HV.out], rfl⟩
        rw [HEE.out, HV.out, decide_eq_true hm]
        rfl
      | false =>
        have HBIG := Lib.hid (HNO.out rfl)
        clear HOK HNO
        go_wp2_with fail
        go_ret3
        refine ⟨n, ?_, fun h => by have := HBIG.out; omega, rfl⟩
        rw [HEE.out, decide_eq_false (by have := HBIG.out; omega)]
        rfl
end Go.Proofs.Ytnddkodenkmoiaa
