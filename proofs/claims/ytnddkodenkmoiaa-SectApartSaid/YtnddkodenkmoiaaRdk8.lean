/- SectApart: the walk. -/
import Derived.Test.YtnddkodenkmoiaaRdk7
namespace Go.Proofs.Ytnddkodenkmoiaa
open Go.RowKit Go.Proofs
set_option linter.unusedSimpArgs false
set_option linter.unusedVariables false
set_option maxRecDepth 100000 in
set_option maxHeartbeats 4000000 in
theorem sectApart_any (v0 : Value) (acts : List Act4) (hle : acts.length ≤ 9223372036854775807) (i : Int) (s : ByteArray) (w : World) (hac : ActsAt4 w v0 acts) :
    Calls Try.prog 3 #[v0, .int .i64 i, .string s] w fun e w' => e = .returned (.bool true) ∧ Below w.heap.size w w' := by
  have HM := Lib.hid (made_any v0 acts hle w hac)
  obtain ⟨ao, cp, rfl, _⟩ := hac
  generalize acts.length = n at HM ⊢
  go_enter Try.func3, Try.ntmps3
  go_wp2_with fail
  refine HM.out.mono ?_
  rintro e w1 ⟨d, g, x, gl, go, cl, co, X, rfl, hH, hX6, hd, hg, hx, hgl, hgo, hb⟩
  have HGE := Lib.hid (show w.heap.size ≤ d ∧ w.heap.size ≤ g ∧ w.heap.size ≤ x ∧ w.heap.size ≤ gl ∧ w.heap.size ≤ go from ⟨hd, hg, hx, hgl, hgo⟩)
  have HH := Lib.hid hH
  have HX6 := Lib.hid hX6
  have HB := Lib.hid hb
  clear hH hX6 hd hg hx hgl hgo hb
  go_wp2_with fail
  refine (awake_any w1).mono ?_
  rintro e w2 ⟨rfl, hb⟩
  have HA := Lib.hid (HH.out.below hb).a
  have HR := Lib.hid (HH.out.below hb).b
  have HB := Lib.hid (HB.out.trans (hb.mono HB.out.size))
  clear hb HH
  go_wp2_with fail
  refine (write_any d g X i s w2 HA.out HR.out.arm1).mono ?_
  rintro e w3 ⟨rfl, hD, hO⟩
  have HR := Lib.hid (HR.out.only2 HA.out hO)
  have HB := Lib.hid (HB.out.trans (hO.below HB.out.size HGE.out.1 HGE.out.2.1))
  have HA := Lib.hid hD
  clear hD hO
  generalize hY : X.writeR i s = y
  have HY := Lib.hid hY
  clear hY
  go_wp2_with fail
  refine (writeR_any x gl go cl co X i s w3 HR.out).mono ?_
  rintro e w4 ⟨rfl, hD, hO⟩
  have HA := Lib.hid (HA.out.only3 HR.out hO)
  have HB := Lib.hid (HB.out.trans (hO.below HB.out.size HGE.out.2.2.1 HGE.out.2.2.2.1 HGE.out.2.2.2.2))
  have HR := Lib.hid hD
  clear hD hO
  rw [HY.out]
  have HX6 := Lib.hid (show (X.write i s).L.length = 6 by rw [write_length]; exact HX6.out)
  generalize X.write i s = X2 at HA HR HX6 ⊢
  go_upto_region 6 with (fail)
  have HA := Lib.hid HA.out.drew
  have HR := Lib.hid HR.out.drew
  have HB := Lib.hid (show Below w.heap.size w w4.drew from HB.out.drewN 1)
  generalize hw5 : w4.drew = w5 at HA HR HB
  have e3 : ∀ w', w5 = w' → w'.cell? ⟨x, 3, none⟩ = some (.bool X2.down) := fun w' h => h ▸ HR.out.down
  have hyy : ((y : Int) != y) = false := by simp
  have hdd : ∀ z : Bool, (z != z) = false := fun z => by simp
  cases hdn : X2.down with
  | false =>
    rw [hdn] at e3
    have HDN := Lib.hid hdn
    clear hdn
    refine wp_region_pure (fun a b => a = b) (fun _ => rfl) (fun _ _ _ h h' => h.trans h') [(0,3),(1,3),(2,3),(3,3),(4,3),(6,3),(7,3),(8,3),(9,0),(5,1),(10,3),(11,3)] (by kernel_rfl) (by kernel_rfl) ?_
    rw [hw5]
    clear hw5
    iterate 8 (refine pure_pure (v := ?_) rfl (fun _ _ _ h => h) (by rfl) (fun w' => ?_) ?_; rotate_left; (go_simp; try with_reducible rfl); simp only [Act.put, List.setIfInBounds_toArray, List.set_cons_zero, List.set_cons_succ])
    iterate 1 (refine pure_quiet (v := ?_) rfl (fun _ _ _ h => h) (by rfl) (fun w' hR => ?_) ?_; rotate_left; (go_simp; try with_reducible rfl); simp only [Act.put, List.setIfInBounds_toArray, List.set_cons_zero, List.set_cons_succ])
    clear e3
    refine pure_eff rfl ?_
    go_wp2_with fail
    refine (down_any d g X2 w5 HA.out).mono ?_
    rintro e w6 ⟨rfl, rfl⟩
    rw [HDN.out]
    go_wp2_with fail
    refine purePost_need rfl ?_
    iterate 2 (refine pure_pure (v := ?_) rfl (fun _ _ _ h => h) (by rfl) (fun w' => ?_) ?_; rotate_left; (go_simp; try with_reducible rfl); simp only [Act.put, List.setIfInBounds_toArray, List.set_cons_zero, List.set_cons_succ])
    refine pure_done ?_
    clear hyy hdd
    go_wp2_with fail
    go_loopw [12] (fun v12 wr => ∃ k : Nat, v12 = .int .i64 (k : Int) ∧ k ≤ 6 ∧ wr = w5) (fun v12 _ => 6 - (intOf v12).toNat)
    case atStart => exact ⟨0, rfl, by omega, rfl⟩
    case round =>
      obtain ⟨k, rfl, hk6, rfl⟩ := hrel
      by_cases hk : k < 6
      · have k1 : (k : Int) < 6 := by omega
        obtain ⟨q, hq⟩ : ∃ q, X2.L[k]? = some q := ⟨_, List.getElem?_eq_getElem (by rw [HX6.out]; exact hk)⟩
        have hrd : X2.readR (k : Int) = (strOf q.b, 0) := by
          unfold Dk.readR
          rw [HDN.out, HX6.out, if_neg (by decide), if_neg (by omega), Int.toNat_natCast, hq]
        have hc := (HR.out.sec hq).1
        have h0 := HR.out.row0
        rw [HX6.out] at h0
        clear hq
        as_aux_lemma =>
          go_wp2_with fail
          refine (read_any d g X2 (k : Int) wr HA.out).mono ?_
          rintro e w6 ⟨rfl, rfl⟩
          rw [hrd]
          clear hrd
          dsimp only
          generalize strOf q.b = A at hc ⊢
          go_wp2_with fail
          refine (down_any d g X2 wr HA.out).mono ?_
          rintro e w6 ⟨rfl, rfl⟩
          rw [HDN.out]
          go_wp2_with fail
          go_roundw
          case rel => exact ⟨k + 1, by go_num, by omega, by simp⟩
          case measure => simp [intOf]; omega
      · have k1 : ¬ (k : Int) < 6 := by omega
        go_wp2_with fail
        go_ret
        exact ⟨by simp, HB.out⟩
  | true =>
    rw [hdn] at e3
    have HDN := Lib.hid hdn
    clear hdn
    refine wp_region_pure (fun a b => a = b) (fun _ => rfl) (fun _ _ _ h h' => h.trans h') [(0,3),(1,3),(2,3),(3,3),(4,3),(6,3),(7,3),(8,3),(9,0),(5,1),(10,3),(11,3)] (by kernel_rfl) (by kernel_rfl) ?_
    rw [hw5]
    clear hw5
    iterate 8 (refine pure_pure (v := ?_) rfl (fun _ _ _ h => h) (by rfl) (fun w' => ?_) ?_; rotate_left; (go_simp; try with_reducible rfl); simp only [Act.put, List.setIfInBounds_toArray, List.set_cons_zero, List.set_cons_succ])
    iterate 1 (refine pure_quiet (v := ?_) rfl (fun _ _ _ h => h) (by rfl) (fun w' hR => ?_) ?_; rotate_left; (go_simp; try with_reducible rfl); simp only [Act.put, List.setIfInBounds_toArray, List.set_cons_zero, List.set_cons_succ])
    clear e3
    refine pure_eff rfl ?_
    go_wp2_with fail
    refine (down_any d g X2 w5 HA.out).mono ?_
    rintro e w6 ⟨rfl, rfl⟩
    rw [HDN.out]
    go_wp2_with fail
    refine purePost_need rfl ?_
    iterate 2 (refine pure_pure (v := ?_) rfl (fun _ _ _ h => h) (by rfl) (fun w' => ?_) ?_; rotate_left; (go_simp; try with_reducible rfl); simp only [Act.put, List.setIfInBounds_toArray, List.set_cons_zero, List.set_cons_succ])
    refine pure_done ?_
    clear hyy hdd
    go_wp2_with fail
    go_loopw [12] (fun v12 wr => ∃ k : Nat, v12 = .int .i64 (k : Int) ∧ k ≤ 6 ∧ wr = w5) (fun v12 _ => 6 - (intOf v12).toNat)
    case atStart => exact ⟨0, rfl, by omega, rfl⟩
    case round =>
      obtain ⟨k, rfl, hk6, rfl⟩ := hrel
      by_cases hk : k < 6
      · have k1 : (k : Int) < 6 := by omega
        have hrd : X2.readR (k : Int) = (⟨#[]⟩, 12) := by
          unfold Dk.readR
          rw [HDN.out, if_pos rfl]
        as_aux_lemma =>
          go_wp2_with fail
          refine (read_any d g X2 (k : Int) wr HA.out).mono ?_
          rintro e w6 ⟨rfl, rfl⟩
          rw [hrd]
          clear hrd
          dsimp only
          go_wp2_with fail
          refine (down_any d g X2 wr HA.out).mono ?_
          rintro e w6 ⟨rfl, rfl⟩
          rw [HDN.out]
          go_wp2_with fail
          go_roundw
          case rel => exact ⟨k + 1, by go_num, by omega, by simp⟩
          case measure => simp [intOf]; omega
      · have k1 : ¬ (k : Int) < 6 := by omega
        go_wp2_with fail
        go_ret
        exact ⟨by simp, HB.out⟩
end Go.Proofs.Ytnddkodenkmoiaa
