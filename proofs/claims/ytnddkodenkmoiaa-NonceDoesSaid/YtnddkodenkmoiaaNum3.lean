/- Numbers, read: shape, bad, End. -/
import Derived.Test.YtnddkodenkmoiaaNum2
namespace Go.Proofs.Ytnddkodenkmoiaa
open Go.RowKit Go.Proofs
set_option linter.unusedSimpArgs false
set_option linter.unusedVariables false
set_option maxRecDepth 100000 in
set_option maxHeartbeats 4000000 in
theorem shape_any (t : ByteArray) (a e : Nat) (last : UInt8) (w : World) (hae : a ≤ e) (he : e ≤ t.size) (hts : t.size ≤ maxLen) :
    Calls Try.prog 72 #[.string t, .int .i64 (a : Int), .int .i64 (e : Int), .int .u8 (last.toNat : Int)] w fun en w' => en = .returned (.int .i64 (shapeE (by_ t) a e last)) ∧ w = w' := by
  unfold maxLen at hts
  have hlen : (by_ t).length = t.size := (by_size t).symm
  by_cases h1 : e = t.size
  · have HS := Lib.hid (show shapeE (by_ t) a e last = 5 by unfold shapeE; rw [if_pos (by omega)])
    have i1 : ((e : Int) == (t.size : Int)) = true := by simp; omega
    have i2 : (t.size : Int) ≤ (e : Int) := by omega
    clear hlen
    subst h1
    go_enter Try.func72, Try.ntmps72
    go_wp2_with fail
    go_ret
    exact ⟨by rw [HS.out]; rfl, rfl⟩
  · have hlt : e < t.size := by omega
    have hu : shapeE (by_ t) a e last = if e = a ∨ (by_ t).getD e 0 ≠ last ∨ (1 < e - a ∧ (by_ t).getD a 0 = 48) then 6 else 0 := by unfold shapeE; rw [if_neg (by omega)]
    have hge : (by_ t).getD e 0 = t[e] := by rw [List.getD_eq_getElem?_getD, at_by t e hlt]; rfl
    have hga : (by_ t).getD a 0 = t[a] := by rw [List.getD_eq_getElem?_getD, at_by t a (by omega)]; rfl
    rw [hge, hga] at hu
    have i1 : ((e : Int) == (t.size : Int)) = false := by simp; omega
    have i2 : ¬ (t.size : Int) ≤ (e : Int) := by omega
    have i3 : (e : Int) < (t.size : Int) := by omega
    have i4 : (a : Int) < (t.size : Int) := by omega
    clear hge hga h1
    have HU := Lib.hid hu
    clear hu
    by_cases h2 : e = a
    · have HS := Lib.hid (HU.out.trans (if_pos (.inl h2)))
      subst h2
      go_enter Try.func72, Try.ntmps72
      go_wp2_with fail
      go_ret
      exact ⟨by rw [HS.out]; rfl, rfl⟩
    · have j1 : ((e : Int) == (a : Int)) = false := by simp; omega
      by_cases h3 : t[e] = last
      · have j2 : ((t[e].toNat : Int) == (last.toNat : Int)) = true := by rw [h3]; simp
        by_cases h4 : 1 < e - a
        · have j3 : 1 < (e : Int) - (a : Int) := by omega
          have j3' : (a : Int) + 1 < (e : Int) := by omega
          by_cases h5 : t[a] = 48
          · have j4 : ((t[a].toNat : Int) == 48) = true := by rw [h5]; decide
            have HS := Lib.hid (HU.out.trans (if_pos (.inr (.inr ⟨h4, h5⟩))))
            have J5 : (t[a].toNat : Int) = 48 := by simpa using j4
            clear h5 h4 h3
            have J6 : (t[e].toNat : Int) = (last.toNat : Int) := by simpa using j2
            go_enter Try.func72, Try.ntmps72
            go_wp2_with fail
            go_ret
            exact ⟨by rw [HS.out]; rfl, rfl⟩
          · have j4 : ((t[a].toNat : Int) == 48) = false := by
              simp only [beq_eq_false_iff_ne, ne_eq]
              intro hh; apply h5; apply UInt8.toNat_inj.1; show _ = 48; omega
            have HS := Lib.hid (HU.out.trans (if_neg (by rintro (h | h | h) <;> first | exact h2 h | exact h h3 | exact h5 h.2)))
            have J6 : (t[e].toNat : Int) = (last.toNat : Int) := by simpa using j2
            have J5 : ¬ (t[a].toNat : Int) = 48 := by simpa using j4
            clear h5 h4 h3
            go_enter Try.func72, Try.ntmps72
            go_wp2_with fail
            go_ret
            exact ⟨by rw [HS.out]; rfl, rfl⟩
        · have j3 : ¬ 1 < (e : Int) - (a : Int) := by omega
          have j3' : ¬ (a : Int) + 1 < (e : Int) := by omega
          have HS := Lib.hid (HU.out.trans (if_neg (by rintro (h | h | h) <;> first | exact h2 h | exact h h3 | exact h4 h.1)))
          have J6 : (t[e].toNat : Int) = (last.toNat : Int) := by simpa using j2
          clear h4 h3
          go_enter Try.func72, Try.ntmps72
          go_wp2_with fail
          go_ret
          exact ⟨by rw [HS.out]; rfl, rfl⟩
      · have j2 : ((t[e].toNat : Int) == (last.toNat : Int)) = false := by
          simp only [beq_eq_false_iff_ne, ne_eq]
          intro hh; apply h3; apply UInt8.toNat_inj.1; omega
        have HS := Lib.hid (HU.out.trans (if_pos (.inr (.inl h3))))
        have J6 : ¬ (t[e].toNat : Int) = (last.toNat : Int) := by simpa using j2
        clear h3
        go_enter Try.func72, Try.ntmps72
        go_wp2_with fail
        go_ret
        exact ⟨by rw [HS.out]; rfl, rfl⟩
set_option maxRecDepth 100000 in
set_option maxHeartbeats 4000000 in
theorem bad_any (t : ByteArray) (a e : Nat) (last : UInt8) (w : World) (hae : a ≤ e) (he : e ≤ t.size) (hts : t.size ≤ maxLen) :
    Calls Try.prog 61 #[.string t, .int .i64 (a : Int), .int .i64 (e : Int), .int .u8 (last.toNat : Int)] w fun en w' => en = .returned (.int .i64 (shapeE (by_ t) a e last)) ∧ w = w' := by
  unfold maxLen at hts
  have hlen : (by_ t).length = t.size := (by_size t).symm
  by_cases h1 : e = t.size
  · have HS := Lib.hid (show shapeE (by_ t) a e last = 5 by unfold shapeE; rw [if_pos (by omega)])
    have i1 : ((e : Int) == (t.size : Int)) = true := by simp; omega
    have i2 : (t.size : Int) ≤ (e : Int) := by omega
    clear hlen
    subst h1
    go_enter Try.func61, Try.ntmps61
    go_wp2_with fail
    go_ret
    exact ⟨by rw [HS.out]; rfl, rfl⟩
  · have hlt : e < t.size := by omega
    have hu : shapeE (by_ t) a e last = if e = a ∨ (by_ t).getD e 0 ≠ last ∨ (1 < e - a ∧ (by_ t).getD a 0 = 48) then 6 else 0 := by unfold shapeE; rw [if_neg (by omega)]
    have hge : (by_ t).getD e 0 = t[e] := by rw [List.getD_eq_getElem?_getD, at_by t e hlt]; rfl
    have hga : (by_ t).getD a 0 = t[a] := by rw [List.getD_eq_getElem?_getD, at_by t a (by omega)]; rfl
    rw [hge, hga] at hu
    have i1 : ((e : Int) == (t.size : Int)) = false := by simp; omega
    have i2 : ¬ (t.size : Int) ≤ (e : Int) := by omega
    have i3 : (e : Int) < (t.size : Int) := by omega
    have i4 : (a : Int) < (t.size : Int) := by omega
    clear hge hga h1
    have HU := Lib.hid hu
    clear hu
    by_cases h2 : e = a
    · have HS := Lib.hid (HU.out.trans (if_pos (.inl h2)))
      subst h2
      go_enter Try.func61, Try.ntmps61
      go_wp2_with fail
      go_ret
      exact ⟨by rw [HS.out]; rfl, rfl⟩
    · have j1 : ((e : Int) == (a : Int)) = false := by simp; omega
      by_cases h3 : t[e] = last
      · have j2 : ((t[e].toNat : Int) == (last.toNat : Int)) = true := by rw [h3]; simp
        by_cases h4 : 1 < e - a
        · have j3 : 1 < (e : Int) - (a : Int) := by omega
          have j3' : (a : Int) + 1 < (e : Int) := by omega
          by_cases h5 : t[a] = 48
          · have j4 : ((t[a].toNat : Int) == 48) = true := by rw [h5]; decide
            have HS := Lib.hid (HU.out.trans (if_pos (.inr (.inr ⟨h4, h5⟩))))
            have J5 : (t[a].toNat : Int) = 48 := by simpa using j4
            clear h5 h4 h3
            have J6 : (t[e].toNat : Int) = (last.toNat : Int) := by simpa using j2
            go_enter Try.func61, Try.ntmps61
            go_wp2_with fail
            go_ret
            exact ⟨by rw [HS.out]; rfl, rfl⟩
          · have j4 : ((t[a].toNat : Int) == 48) = false := by
              simp only [beq_eq_false_iff_ne, ne_eq]
              intro hh; apply h5; apply UInt8.toNat_inj.1; show _ = 48; omega
            have HS := Lib.hid (HU.out.trans (if_neg (by rintro (h | h | h) <;> first | exact h2 h | exact h h3 | exact h5 h.2)))
            have J6 : (t[e].toNat : Int) = (last.toNat : Int) := by simpa using j2
            have J5 : ¬ (t[a].toNat : Int) = 48 := by simpa using j4
            clear h5 h4 h3
            go_enter Try.func61, Try.ntmps61
            go_wp2_with fail
            go_ret
            exact ⟨by rw [HS.out]; rfl, rfl⟩
        · have j3 : ¬ 1 < (e : Int) - (a : Int) := by omega
          have j3' : ¬ (a : Int) + 1 < (e : Int) := by omega
          have HS := Lib.hid (HU.out.trans (if_neg (by rintro (h | h | h) <;> first | exact h2 h | exact h h3 | exact h4 h.1)))
          have J6 : (t[e].toNat : Int) = (last.toNat : Int) := by simpa using j2
          clear h4 h3
          go_enter Try.func61, Try.ntmps61
          go_wp2_with fail
          go_ret
          exact ⟨by rw [HS.out]; rfl, rfl⟩
      · have j2 : ((t[e].toNat : Int) == (last.toNat : Int)) = false := by
          simp only [beq_eq_false_iff_ne, ne_eq]
          intro hh; apply h3; apply UInt8.toNat_inj.1; omega
        have HS := Lib.hid (HU.out.trans (if_pos (.inr (.inl h3))))
        have J6 : ¬ (t[e].toNat : Int) = (last.toNat : Int) := by simpa using j2
        clear h3
        go_enter Try.func61, Try.ntmps61
        go_wp2_with fail
        go_ret
        exact ⟨by rw [HS.out]; rfl, rfl⟩

set_option maxRecDepth 100000 in
set_option maxHeartbeats 4000000 in
theorem end_any (t : ByteArray) (a : Nat) (w : World) (ha : a ≤ t.size) (hts : t.size ≤ maxLen) :
    Calls Try.prog 60 #[.string t, .int .i64 (a : Int)] w fun e w' => e = .returned (.int .i64 (endN (by_ t) a : Nat)) ∧ w = w' := by
  unfold maxLen at hts
  go_enter Try.func60, Try.ntmps60
  go_wp2_with fail
  go_loopw [1] (fun v1 wr => ∃ (i : Nat), v1 = .int .i64 (i : Int) ∧ i ≤ t.size ∧ endN (by_ t) a = endN (by_ t) i ∧ wr = w) (fun v1 _ => t.size - (intOf v1).toNat)
  case atStart => exact ⟨a, rfl, ha, rfl, rfl⟩
  case round =>
    obtain ⟨i, rfl, hi, hE, rfl⟩ := hrel
    have HE := Lib.hid hE
    clear hE
    by_cases hlt : i < t.size
    · have i1 : (i : Int) < (t.size : Int) := by omega
      have HB := Lib.hid (at_by t i hlt)
      by_cases g1 : 48 ≤ (t[i].toNat : Int)
      · by_cases g2 : (t[i].toNat : Int) ≤ 57
        · have HE2 := Lib.hid (HE.out.trans (endN_step HB.out (isD_of g1 g2)))
          go_wp2_with fail
          go_roundw
          case rel => exact ⟨i + 1, by go_num, by omega, HE2.out, trivial⟩
          case measure => simp [intOf]; omega
        · have HEE := Lib.hid (HE.out.trans (endN_stop (fun c hc => by rw [HB.out] at hc; obtain rfl := Option.some.inj hc; exact isD_not (by omega))))
          go_wp2_with fail
          go_ret
          exact ⟨by rw [HEE.out]; rfl, rfl⟩
      · have HEE := Lib.hid (HE.out.trans (endN_stop (fun c hc => by rw [HB.out] at hc; obtain rfl := Option.some.inj hc; exact isD_not (by omega))))
        go_wp2_with fail
        go_ret
        exact ⟨by rw [HEE.out]; rfl, rfl⟩
    · have HEE := Lib.hid (HE.out.trans (endN_stop (fun c hc => by have := (List.getElem?_eq_some_iff.1 hc).1; rw [← by_size] at this; omega)))
      have i1 : ¬ (i : Int) < (t.size : Int) := by omega
      go_wp2_with fail
      go_ret
      exact ⟨by rw [HEE.out]; rfl, rfl⟩
end Go.Proofs.Ytnddkodenkmoiaa
