/- The reference's disk: Sync, Loose. -/
import Derived.Test.YtnddkodenkmoiaaRdk2
namespace Go.Proofs.Ytnddkodenkmoiaa
open Go.RowKit Go.Proofs
set_option linter.unusedSimpArgs false
set_option linter.unusedVariables false
set_option maxRecDepth 100000 in
set_option maxHeartbeats 4000000 in
theorem syncR_any (x gl go cl co : Nat) (X : Dk) (w : World) (h : RD w x gl go cl co X) :
    Calls Try.prog 66 #[.pointer (some ⟨x, 0, none⟩)] w fun e w' => e = .returned (.int .i64 X.syncR) ∧ RD w' x gl go cl co X.sync ∧ Only3 x gl go w w' := by
  have H := Lib.hid h
  have c3 := h.down
  clear h
  go_enter Try.func66, Try.ntmps66
  by_cases hd : X.down = true
  · have HR := Lib.hid (show X.syncR = 12 by unfold Dk.syncR; rw [if_pos hd])
    have HW := Lib.hid (show X.sync = X by unfold Dk.sync; rw [if_pos hd])
    rw [hd] at c3
    clear hd
    go_wp2_with fail
    go_ret
    exact ⟨by rw [HR.out]; rfl, by rw [HW.out]; exact H.out, Only3.refl _ _ _ _⟩
  · have hd0 : X.down = false := by simpa using hd
    rw [hd0] at c3
    have HD0 := Lib.hid hd0
    clear hd0
    go_wp2_with fail
    refine (goesR_any x gl go cl co X w H.out HD0.out).mono ?_
    rintro e w2 ⟨rfl, hD, hO⟩
    by_cases hg : X.goes.down = true
    · have HR := Lib.hid (show X.syncR = 12 by unfold Dk.syncR; rw [if_neg hd, if_pos hg])
      have HW := Lib.hid (show X.sync = X.goes by unfold Dk.sync; rw [if_neg hd, if_pos hg])
      rw [hg]
      have HD := Lib.hid hD
      have HO := Lib.hid hO
      clear hd hg hD hO c3
      go_wp2_with fail
      go_ret
      exact ⟨by rw [HR.out]; rfl, by rw [HW.out]; exact HD.out, HO.out⟩
    · have HR := Lib.hid (show X.syncR = 0 by unfold Dk.syncR; rw [if_neg hd, if_neg hg])
      have HW := Lib.hid (show X.sync = { X.goes with L := X.L.map Sec.safe } by unfold Dk.sync; rw [if_neg hd, if_neg hg])
      have hgf : X.goes.down = false := by simpa using hg
      have hgl := goes_L X
      rw [hgf]
      have HD := Lib.hid (show RD w2 x gl go cl co { X.goes with L := safeTo X.L 0 } by rw [safeTo_zero, ← hgl]; exact hD)
      have HO := Lib.hid hO
      have HOK := Lib.hid (show okL X.L from H.out.ok)
      have hlen := H.out.top
      clear hd hg hD hO hgf hgl c3
      go_wp2_with fail
      go_loopw [3] (fun v wr => ∃ i : Nat, i ≤ X.L.length ∧ v = .int .i64 (i : Int) ∧ RD wr x gl go cl co { X.goes with L := safeTo X.L i } ∧ Only3 x gl go w wr) (fun v _ => X.L.length - (intOf v).toNat)
      case atStart => exact ⟨0, by omega, rfl, HD.out, HO.out⟩
      case round =>
        obtain ⟨i, hi, rfl, hD, hO⟩ := hrel
        clear HD HO
        have HD := Lib.hid hD
        have HO := Lib.hid hO
        have c1 := hD.row1
        simp only [safeTo_length] at c1
        clear hD hO
        by_cases hlt : i < X.L.length
        · have i1 : (i : Int) < (X.L.length : Int) := by omega
          obtain ⟨s, hs⟩ : ∃ s, X.L[i]? = some s := ⟨_, List.getElem?_eq_getElem hlt⟩
          have hso : s.ok := HOK.out s (List.mem_of_getElem? hs)
          have hc := (HD.out.sec (safeTo_get _ _ _ hs)).2
          have hf := HD.out.old.frozen i
          have hn := HD.out.storeOld (s' := s.safe) (safeTo_get _ _ _ hs) hso rfl
          rw [show s.safe.oldS = ⟨#[]⟩ from rfl, show DkS { X.goes with L := safeTo X.L i } i s.safe = { X.goes with L := safeTo X.L (i + 1) } by
            unfold DkS
            show ({ X.goes with L := (safeTo X.L i).set i s.safe } : Dk) = _
            rw [safeTo_next _ _ _ hs]] at hn
          have HN := Lib.hid hn
          have HON := Lib.hid (HO.out.set_ (p := ⟨go, i, none⟩) (.inr (.inr rfl)) (.string ⟨#[]⟩))
          generalize s.oldS = o at hc
          clear hs hso hn
          go_wp2_with fail
          go_roundw
          case rel => exact ⟨i + 1, by omega, by go_num, HN.out, HON.out⟩
          case measure => simp [intOf]; omega
        · have i1 : ¬ ((i : Int) < (X.L.length : Int)) := by omega
          have hiN : i = X.L.length := by omega
          subst hiN
          have hD := HD.out
          rw [safeTo_all] at hD
          have HDf := Lib.hid hD
          clear hD HD
          go_wp2_with fail
          go_ret
          exact ⟨by rw [HR.out]; rfl, by rw [HW.out]; exact HDf.out, HO.out⟩
set_option maxRecDepth 100000 in
set_option maxHeartbeats 4000000 in
theorem looseR_any (x gl go cl co : Nat) (X : Dk) (w : World) (h : RD w x gl go cl co X) :
    Calls Try.prog 63 #[.pointer (some ⟨x, 0, none⟩)] w fun e w' => ∃ v, e = .returned v ∧ OwnI w' w.heap.size v (looseI X.L X.L.length) ∧ Below w.heap.size w w' := by
  have H := Lib.hid h
  have hlen := h.top
  clear h
  go_enter Try.func63, Try.ntmps63
  go_wp2_with fail
  go_loopw [3, 4] (fun v3 v7 wr => ∃ i : Nat, i ≤ X.L.length ∧ v7 = .int .i64 (i : Int) ∧ OwnI wr w.heap.size v3 (looseI X.L i) ∧ Below w.heap.size w wr) (fun _ v7 _ => X.L.length - (intOf v7).toNat)
  case atStart => exact ⟨0, by omega, rfl, OwnI.nil _ _, Below.refl _ _⟩
  case round =>
    obtain ⟨i, hi, rfl, hO, hB⟩ := hrel
    have HO := Lib.hid hO
    have HB := Lib.hid hB
    clear hO hB
    have hD := H.out.below HB.out
    have c1 := hD.row1
    by_cases hlt : i < X.L.length
    · have i1 : (i : Int) < (X.L.length : Int) := by omega
      obtain ⟨s, hs⟩ : ∃ s, X.L[i]? = some s := ⟨_, List.getElem?_eq_getElem hlt⟩
      have hso : s.ok := hD.ok s (List.mem_of_getElem? hs)
      have hc := (hD.sec hs).2
      have HL := Lib.hid (looseI_next X.L i s hs)
      have hll := looseI_length X.L i
      clear hs hD
      cases hlo : s.loose
      · have hn : looseI X.L (i + 1) = looseI X.L i := by rw [HL.out, hlo]; rfl
        rw [show s.oldS = ⟨#[]⟩ by unfold Sec.oldS; rw [hlo]; rfl] at hc
        have HN := Lib.hid hn
        clear hn hlo HL hso
        go_wp2_with fail
        go_roundw
        case rel => exact ⟨i + 1, by omega, by go_num, by rw [HN.out]; exact HO.out, HB.out⟩
        case measure => simp [intOf]; omega
      · have hn : looseI X.L (i + 1) = looseI X.L i ++ [(i : Int)] := by rw [HL.out, hlo]; rfl
        rw [show s.oldS = strOf s.old by unfold Sec.oldS; rw [hlo]; rfl] at hc
        have HN := Lib.hid hn
        have hne := strOf_ne hso.2
        generalize strOf s.old = o at hc hne
        have hne2 : ¬ o.toList = [] := fun e => by rw [e] at hne; cases hne
        clear hn hlo HL hso
        go_upto_region 6 with (fail)
        clear hne hne2
        refine wp_region_lit ?_
        iterate 9 go_step
        refine wpList_ownI rfl _ _ rfl w.heap.size u3 (looseI X.L i) rfl HO.out (i : Int) rfl (by omega) HB.out.size ?_
        intro v' w' hO hG
        have HB := Lib.hid (HB.out.grown hG HB.out.size (fun k hk => (HO.out.lt k hk).1))
        rw [← HN.out] at hO
        have HO := Lib.hid hO
        clear hO hG hc c1
        simp only [Act.put]
        go_wp2_with fail
        go_roundw
        case rel => exact ⟨i + 1, by omega, by go_num, HO.out, HB.out⟩
        case measure => simp [intOf]; omega
    · have i1 : ¬ ((i : Int) < (X.L.length : Int)) := by omega
      have hiN : i = X.L.length := by omega
      subst hiN
      clear hD
      go_wp2_with fail
      go_ret
      exact ⟨_, rfl, HO.out, HB.out⟩
end Go.Proofs.Ytnddkodenkmoiaa
