/- ProbeSoon: the walk. -/
import Derived.Test.YtaennccfhdjaaaaPr19
namespace Go.Proofs.Ytaennccfhdjaaaa
open Go.RowKit Go.Proofs
set_option linter.unusedSimpArgs false
set_option linter.unusedVariables false
/-- A tick, its read untold. -/
def TickS (base p g N me : Nat) (now : Int) (D D' : Int → Int) (w : World) (e : Ending) (w' : World) : Prop :=
  ∃ (v6 : Value) (out : List Int) (g' : Nat) (r : Int) (nx' : Nat), e = .returned (.tuple #[v6, .int .i64 r]) ∧ w'.ownsRow w.heap.size 3 1 v6 out.length (out.map (Value.int .i64)) ∧
    (∀ s, s ∈ out ↔ ((0 ≤ s ∧ s < (N : Int) ∧ s ≠ (me : Int)) ∧ D s ≤ now)) ∧ ProbAt w' base p g' N me now nx' D' ∧ Hop p (some g) (some g') w w' ∧ out.length ≤ N ∧ nx' < N
theorem TickP.soon {base p g N me : Nat} {now : Int} {nx : Nat} {D : Int → Int} {busy : Bool} {w w' : World} {e : Ending} (h : TickP base p g N me now nx D busy w e w') (hN : 0 < N) (hnx : nx < N) : TickS base p g N me now D (dueT D now busy) w e w' := by
  obtain ⟨v6, out, g', he, ho, hm, hs, hn, hA, hH, hl⟩ := h
  refine ⟨v6, out, g', _, _, he, ho, hm, hA, hH, hl, ?_⟩
  split
  · exact stepN_lt hN
  · exact hnx
/-- How long C was quiet. -/
def SoonI (C q now : Nat) (D : Int → Int) : Prop := C ≠ 1 → q < 4 ∧ D (C : Int) + q = now + 4
theorem SoonI.one {q now : Nat} {D : Int → Int} : SoonI 1 q now D := fun h => absurd rfl h
theorem SoonI.asked {C q now : Nat} {D : Int → Int} {d : Int} (h : SoonI C q now D) : SoonI C q now (setD D (-1) d) := fun hc => by
  have := h hc
  unfold setD
  rw [if_neg (by omega)]
  exact this
theorem SoonI.heard_same {C q now : Nat} {D : Int → Int} (h : SoonI C q now D) (c : Int) (hc : c = (C : Int)) (h4 : C < 4) : SoonI C 0 now (if isB 4 1 c = true then setD D c (now + 4) else D) := fun h1 => by
  have : isB 4 1 c = true := decide_eq_true ⟨by omega, by omega, by omega⟩
  rw [if_pos this]
  unfold setD
  rw [if_pos hc.symm]
  omega
theorem SoonI.heard_else {C q now : Nat} {D : Int → Int} {d : Int} (h : SoonI C q now D) (c : Int) (hc : ¬ c = (C : Int)) : SoonI C q now (if isB 4 1 c = true then setD D c d else D) := fun h1 => by
  have := h h1
  split
  · unfold setD
    rw [if_neg (fun e => hc e.symm)]
    exact this
  · exact this
set_option maxRecDepth 100000 in
set_option maxHeartbeats 8000000 in
theorem probeSoon_any (v0 : Value) (a1 : Int) (ha0 : 0 ≤ a1) (ha1 : a1 ≤ 255) (acts : List Act2) (hle : acts.length ≤ 9223372036854775807) (w : World) (hac : ActsAt2 w v0 acts) :
    Calls Try.prog 5 #[v0, .int .u8 a1] w fun e w' => e = .returned (.bool true) ∧ Below w.heap.size w w' := by
  have HAC := Lib.hid hac
  obtain ⟨ao, cp, rfl, _⟩ := hac
  obtain ⟨C, hC⟩ : ∃ C : Nat, a1 % 4 = (C : Int) := ⟨(a1 % 4).toNat, by omega⟩
  have hC4 : C < 4 := by omega
  go_enter Try.func5, Try.ntmps5
  go_wp2_with fail
  refine (new_ok 4 1 w (by decide) (by decide) (by decide)).mono ?_
  rintro e w1 ⟨g, rfl, hA, hb, hg⟩
  have HA := Lib.hid (show ProbAt w1 w.heap.size w.heap.size g 4 1 (0 : Nat) (2 : Nat) due0 from hA)
  have HB := Lib.hid hb
  clear hA hb hg
  go_wp2_with fail
  refine (awake_any w1).mono ?_
  rintro e w2 ⟨rfl, hb⟩
  have HA := Lib.hid (HA.out.below hb)
  have HB := Lib.hid (HB.out.trans (hb.mono HB.out.size))
  clear hb
  go_wp2_with fail
  go_loopw [8, 9, 10, 11, 12, 13, 14] (fun v8 v9 _ _ _ _ _ wr => ∃ (i q now nx g : Nat) (D : Int → Int), v8 = .int .i64 (q : Int) ∧ v9 = .int .i64 (i : Int) ∧ i ≤ acts.length ∧ i ≤ 90 ∧ ProbAt wr w.heap.size w.heap.size g 4 1 now nx D ∧ nx < 4 ∧ now ≤ i ∧ q ≤ i ∧ SoonI C q now D ∧ Below w.heap.size w wr) (fun _ v9 _ _ _ _ _ _ => 90 - (intOf v9).toNat)
  case atStart => exact ⟨0, 0, 0, 2, g, due0, rfl, rfl, by omega, by omega, HA.out, by omega, by omega, by omega, fun _ => ⟨by omega, by unfold due0; rw [if_neg (by omega)]; rfl⟩, HB.out⟩
  case round =>
    clear HA HB
    obtain ⟨i, q, now, nx, g, D, rfl, rfl, hi1, hi2, hA, hnx, hno, hqi, hSI, hb⟩ := hrel
    have HA := Lib.hid hA
    have HB := Lib.hid hb
    have HSI := Lib.hid hSI
    clear hA hb hSI
    by_cases hin : i < acts.length ∧ i < 90
    · obtain ⟨hin1, hin2⟩ := hin
      obtain ⟨b, o, cp', hv, hbl, c0, c1⟩ := HAC.out.get HB.out i (by omega)
      injection hv with hv1 hv2 hv3
      subst hv1
      clear hv2 hv3
      generalize acts[i]'(by omega) = act at c0 c1
      obtain ⟨k, c⟩ := act
      dsimp only at c0 c1
      by_cases hk5 : k = 5
      · subst hk5
        as_aux_lemma =>
          have hk5b : ((5 : Int) == 5) = true := rfl
          go_upto_region 11 with (fail)
          have HA := Lib.hid (HA.out.below ((Below.refl _ _).alloc (Nat.le_refl _) (.cells #[.int .i64 5, .int .i64 c] 29)))
          have HB := Lib.hid (HB.out.trans (((Below.refl _ _).alloc (Nat.le_refl _) (.cells #[.int .i64 5, .int .i64 c] 29)).mono HB.out.size))
          have hbx := Blk.new wr 29 #[.int .i64 5, .int .i64 c]
          generalize wr.alloc (.cells #[.int .i64 5, .int .i64 c] 29) = w2 at HA HB hbx ⊢
          generalize wr.heap.size = bx at hbx ⊢
          have b1 := hbx.cell 1
          go_wp2_with fail
          refine (heard_bool c HA.out (by omega) (by omega)).mono ?_
          rintro e w3 ⟨rfl, hS⟩
          have HB3 := Lib.hid (HA.out.below_of hS.2 (Nat.le_refl _) HB.out (Nat.le_refl _))
          have HA3 := Lib.hid hS.1
          have b1 : w3.cell? ⟨bx, 1, none⟩ = _ := (World.cell?_of_block (hS.2.block bx hbx.lt (HA.out.ne_box hbx).1 (HA.out.ne_box hbx).2)).trans (hbx.cell 1)
          clear hS hbx
          by_cases hc : c = (C : Int)
          · have hcb : (c == (C : Int)) = true := by simp [hc]
            go_wp2_with fail
            go_roundw
            case rel => exact ⟨i + 1, 0, now, nx, _, _, by go_num, by go_num, by omega, by omega, HA3.out, hnx, by omega, by omega, HSI.out.heard_same c hc hC4, HB3.out⟩
            case measure => simp [intOf]; omega
          · have hcb : (c == (C : Int)) = false := by simp [hc]
            go_wp2_with fail
            go_roundw
            case rel => exact ⟨i + 1, q, now, nx, _, _, by go_num, by go_num, by omega, by omega, HA3.out, hnx, by omega, by omega, HSI.out.heard_else c hc, HB3.out⟩
            case measure => simp [intOf]; omega
      · have hk5b : (k == (5 : Int)) = false := by simp [hk5]
        by_cases hk : k < 0 ∨ 4 < k
        · rcases hk with hk | hk
          · as_aux_lemma =>
              go_upto_region 15 with (fail)
              have HA := Lib.hid (HA.out.below ((Below.refl _ _).alloc (Nat.le_refl _) (.cells #[.int .i64 k, .int .i64 c] 29)))
              have HB := Lib.hid (HB.out.trans (((Below.refl _ _).alloc (Nat.le_refl _) (.cells #[.int .i64 k, .int .i64 c] 29)).mono HB.out.size))
              have hbx := Blk.new wr 29 #[.int .i64 k, .int .i64 c]
              generalize wr.alloc (.cells #[.int .i64 k, .int .i64 c] 29) = w2 at HA HB hbx ⊢
              generalize wr.heap.size = bx at hbx ⊢
              clear hbx
              go_wp2_with fail
              refine (asked_any w.heap.size w.heap.size g 4 1 now nx D w2 HA.out (by omega) (by omega)).mono ?_
              rintro e w3 ⟨rfl, hS⟩
              have HB3 := Lib.hid (HA.out.below_of hS.2 (Nat.le_refl _) HB.out (Nat.le_refl _))
              have HA3 := Lib.hid hS.1
              clear hS
              go_wp2_with fail
              go_roundw
              case rel => exact ⟨i + 1, q, now, nx, _, _, by go_num, by go_num, by omega, by omega, HA3.out, hnx, by omega, by omega, HSI.out.asked, HB3.out⟩
              case measure => simp [intOf]; omega
          · have hk0 : ¬ k < 0 := by omega
            as_aux_lemma =>
              go_upto_region 15 with (fail)
              have HA := Lib.hid (HA.out.below ((Below.refl _ _).alloc (Nat.le_refl _) (.cells #[.int .i64 k, .int .i64 c] 29)))
              have HB := Lib.hid (HB.out.trans (((Below.refl _ _).alloc (Nat.le_refl _) (.cells #[.int .i64 k, .int .i64 c] 29)).mono HB.out.size))
              have hbx := Blk.new wr 29 #[.int .i64 k, .int .i64 c]
              generalize wr.alloc (.cells #[.int .i64 k, .int .i64 c] 29) = w2 at HA HB hbx ⊢
              generalize wr.heap.size = bx at hbx ⊢
              clear hbx
              go_wp2_with fail
              refine (asked_any w.heap.size w.heap.size g 4 1 now nx D w2 HA.out (by omega) (by omega)).mono ?_
              rintro e w3 ⟨rfl, hS⟩
              have HB3 := Lib.hid (HA.out.below_of hS.2 (Nat.le_refl _) HB.out (Nat.le_refl _))
              have HA3 := Lib.hid hS.1
              clear hS
              go_wp2_with fail
              go_roundw
              case rel => exact ⟨i + 1, q, now, nx, _, _, by go_num, by go_num, by omega, by omega, HA3.out, hnx, by omega, by omega, HSI.out.asked, HB3.out⟩
              case measure => simp [intOf]; omega
        · have hka : ¬ k < 0 := by omega
          have hkb : ¬ 4 < k := by omega
          by_cases hk4 : k = 4
          · subst hk4
            as_aux_lemma =>
              go_upto_region 16 with (fail)
              have HA := Lib.hid (HA.out.below ((Below.refl _ _).alloc (Nat.le_refl _) (.cells #[.int .i64 4, .int .i64 c] 29)))
              have HB := Lib.hid (HB.out.trans (((Below.refl _ _).alloc (Nat.le_refl _) (.cells #[.int .i64 4, .int .i64 c] 29)).mono HB.out.size))
              have hbx := Blk.new wr 29 #[.int .i64 4, .int .i64 c]
              generalize wr.alloc (.cells #[.int .i64 4, .int .i64 c] 29) = w2 at HA HB hbx ⊢
              generalize wr.heap.size = bx at hbx ⊢
              have b0 := hbx.cell 0
              clear hbx
              go_wp2_with fail
              refine (tick_any w.heap.size w.heap.size g 4 1 now (now + 1) rfl nx D true w2 HA.out (by omega) (by omega) hnx HB.out.size).mono ?_
              rintro e w3 h
              obtain ⟨v6, out, g', r, nx', rfl, ho, hm, hA, hH, hol, hnx'⟩ := h.soon (by omega) hnx
              have HB3 := Lib.hid (HA.out.below_of hH (Nat.le_refl _) HB.out (Nat.le_refl _))
              have HA3 := Lib.hid (show ProbAt w3 w.heap.size w.heap.size g' 4 1 ((now + 1 : Nat) : Int) _ _ from by simpa using hA)
              have HI := Lib.hid (IntsAt.of_own ho)
              have HM := Lib.hid (hm (C : Int))
              obtain ⟨a6, c6, rfl⟩ := own_slice ho
              clear hA hH ho hm b0
              go_wp2_with fail
              go_loopw [13, 14] (fun v13 v14 wq => ∃ (j : Nat) (bb : Bool), v13 = .bool bb ∧ v14 = .int .i64 (j : Int) ∧ j ≤ out.length ∧ bb = decide ((C : Int) ∈ out.take j) ∧ wq = w3) (fun _ v14 _ => out.length - (intOf v14).toNat)
              case atStart => exact ⟨0, false, rfl, rfl, by omega, by simp, rfl⟩
              case round =>
                obtain ⟨j, bb, rfl, rfl, hj, hbb, rfl⟩ := hrel
                have HBB := Lib.hid hbb
                clear hbb
                by_cases hlt : (j : Int) < (out.length : Int)
                · have k1 : j < out.length := by omega
                  obtain ⟨a6', c6', hv, hc6⟩ := HI.out
                  obtain ⟨g6, hg6, x1⟩ := hc6 j out[j] (List.getElem?_eq_getElem k1)
                  injection hv with hv1
                  subst hv1
                  subst hg6
                  have HT := Lib.hid (List.take_succ_eq_append_getElem k1)
                  generalize out[j] = x at x1 HT
                  clear hc6 k1
                  cases bb with
                  | true =>
                    go_wp2_with fail
                    go_roundw
                    case rel => exact ⟨j + 1, true, rfl, by go_num, by omega, by rw [HT.out]; have := of_decide_eq_true HBB.out.symm; simp [this], by first | rfl | trivial⟩
                    case measure => simp [intOf]; omega
                  | false =>
                    go_wp2_with fail
                    go_roundw
                    case rel => exact ⟨j + 1, (x == (C : Int)), rfl, by go_num, by omega, by
                      have := of_decide_eq_false HBB.out.symm
                      rw [HT.out, Bool.eq_iff_iff, decide_eq_true_iff]
                      simp only [List.mem_append, List.mem_singleton, this, false_or, beq_iff_eq]
                      exact eq_comm, by first | rfl | trivial⟩
                    case measure => simp [intOf]; omega
                · obtain rfl : j = out.length := by omega
                  rw [List.take_length] at HBB
                  by_cases hC1 : C = 1
                  · have hbf : bb = false := by rw [HBB.out]; exact decide_eq_false (fun h => (HM.out.1 h).1.2.2 (by omega))
                    subst hbf
                    subst hC1
                    go_wp2_with fail
                    go_roundw
                    case rel => exact ⟨i + 1, q + 1, now + 1, nx', _, _, by go_num, by go_num, by omega, by omega, HA3.out, hnx', by omega, by omega, .one, HB3.out⟩
                    case measure => simp [intOf]; omega
                  · have HSC := Lib.hid (HSI.out hC1)
                    have hc1b : ((C : Int) == 1) = false := by simp; omega
                    have hc1n : ((C : Int) != 1) = true := by simp; omega
                    by_cases hq3 : q = 3
                    · have hbt : bb = true := by rw [HBB.out]; exact decide_eq_true (HM.out.2 ⟨⟨by omega, by omega, by omega⟩, by have := HSC.out.2; omega⟩)
                      subst hbt
                      subst hq3
                      have HX := Lib.hid (show dueT D (now + 1) true (C : Int) = now + 1 + 4 by have := HSC.out.2; unfold dueT; rw [if_pos (by omega), if_pos (by omega)])
                      go_wp2_with fail
                      go_roundw
                      case rel => exact ⟨i + 1, 0, now + 1, nx', _, _, by go_num, by go_num, by omega, by omega, HA3.out, hnx', by omega, by omega, fun _ => ⟨by omega, by rw [HX.out]; push_cast; omega⟩, HB3.out⟩
                      case measure => simp [intOf]; omega
                    · have hbf : bb = false := by rw [HBB.out]; exact decide_eq_false (fun h => by have := (HM.out.1 h).2; have := HSC.out; omega)
                      subst hbf
                      have hq4 : (((q : Int) + 1) == 4) = false := by simp; omega
                      have hq4' : ¬ (q : Int) + 1 = 4 := by omega
                      have HX := Lib.hid (show dueT D (now + 1) true (C : Int) = D C by have := HSC.out; unfold dueT; rw [if_neg (by omega)])
                      go_wp2_with fail
                      go_roundw
                      case rel => exact ⟨i + 1, q + 1, now + 1, nx', _, _, by go_num, by go_num, by omega, by omega, HA3.out, hnx', by omega, by omega, fun _ => ⟨by have := HSC.out; omega, by rw [HX.out]; have := HSC.out; push_cast; omega⟩, HB3.out⟩
                      case measure => simp [intOf]; omega
          · have hk4b : (k == (4 : Int)) = false := by simp [hk4]
            as_aux_lemma =>
              go_upto_region 16 with (fail)
              have HA := Lib.hid (HA.out.below ((Below.refl _ _).alloc (Nat.le_refl _) (.cells #[.int .i64 k, .int .i64 c] 29)))
              have HB := Lib.hid (HB.out.trans (((Below.refl _ _).alloc (Nat.le_refl _) (.cells #[.int .i64 k, .int .i64 c] 29)).mono HB.out.size))
              have hbx := Blk.new wr 29 #[.int .i64 k, .int .i64 c]
              generalize wr.alloc (.cells #[.int .i64 k, .int .i64 c] 29) = w2 at HA HB hbx ⊢
              generalize wr.heap.size = bx at hbx ⊢
              have b0 := hbx.cell 0
              clear hbx
              go_wp2_with fail
              refine (tick_any w.heap.size w.heap.size g 4 1 now (now + 1) rfl nx D false w2 HA.out (by omega) (by omega) hnx HB.out.size).mono ?_
              rintro e w3 h
              obtain ⟨v6, out, g', r, nx', rfl, ho, hm, hA, hH, hol, hnx'⟩ := h.soon (by omega) hnx
              have HB3 := Lib.hid (HA.out.below_of hH (Nat.le_refl _) HB.out (Nat.le_refl _))
              have HA3 := Lib.hid (show ProbAt w3 w.heap.size w.heap.size g' 4 1 ((now + 1 : Nat) : Int) _ _ from by simpa using hA)
              have HI := Lib.hid (IntsAt.of_own ho)
              have HM := Lib.hid (hm (C : Int))
              obtain ⟨a6, c6, rfl⟩ := own_slice ho
              clear hA hH ho hm b0
              go_wp2_with fail
              go_loopw [13, 14] (fun v13 v14 wq => ∃ (j : Nat) (bb : Bool), v13 = .bool bb ∧ v14 = .int .i64 (j : Int) ∧ j ≤ out.length ∧ bb = decide ((C : Int) ∈ out.take j) ∧ wq = w3) (fun _ v14 _ => out.length - (intOf v14).toNat)
              case atStart => exact ⟨0, false, rfl, rfl, by omega, by simp, rfl⟩
              case round =>
                obtain ⟨j, bb, rfl, rfl, hj, hbb, rfl⟩ := hrel
                have HBB := Lib.hid hbb
                clear hbb
                by_cases hlt : (j : Int) < (out.length : Int)
                · have k1 : j < out.length := by omega
                  obtain ⟨a6', c6', hv, hc6⟩ := HI.out
                  obtain ⟨g6, hg6, x1⟩ := hc6 j out[j] (List.getElem?_eq_getElem k1)
                  injection hv with hv1
                  subst hv1
                  subst hg6
                  have HT := Lib.hid (List.take_succ_eq_append_getElem k1)
                  generalize out[j] = x at x1 HT
                  clear hc6 k1
                  cases bb with
                  | true =>
                    go_wp2_with fail
                    go_roundw
                    case rel => exact ⟨j + 1, true, rfl, by go_num, by omega, by rw [HT.out]; have := of_decide_eq_true HBB.out.symm; simp [this], by first | rfl | trivial⟩
                    case measure => simp [intOf]; omega
                  | false =>
                    go_wp2_with fail
                    go_roundw
                    case rel => exact ⟨j + 1, (x == (C : Int)), rfl, by go_num, by omega, by
                      have := of_decide_eq_false HBB.out.symm
                      rw [HT.out, Bool.eq_iff_iff, decide_eq_true_iff]
                      simp only [List.mem_append, List.mem_singleton, this, false_or, beq_iff_eq]
                      exact eq_comm, by first | rfl | trivial⟩
                    case measure => simp [intOf]; omega
                · obtain rfl : j = out.length := by omega
                  rw [List.take_length] at HBB
                  by_cases hC1 : C = 1
                  · have hbf : bb = false := by rw [HBB.out]; exact decide_eq_false (fun h => (HM.out.1 h).1.2.2 (by omega))
                    subst hbf
                    subst hC1
                    go_wp2_with fail
                    go_roundw
                    case rel => exact ⟨i + 1, q + 1, now + 1, nx', _, _, by go_num, by go_num, by omega, by omega, HA3.out, hnx', by omega, by omega, .one, HB3.out⟩
                    case measure => simp [intOf]; omega
                  · have HSC := Lib.hid (HSI.out hC1)
                    have hc1b : ((C : Int) == 1) = false := by simp; omega
                    have hc1n : ((C : Int) != 1) = true := by simp; omega
                    by_cases hq3 : q = 3
                    · have hbt : bb = true := by rw [HBB.out]; exact decide_eq_true (HM.out.2 ⟨⟨by omega, by omega, by omega⟩, by have := HSC.out.2; omega⟩)
                      subst hbt
                      subst hq3
                      have HX := Lib.hid (show dueT D (now + 1) false (C : Int) = now + 1 + 4 by have := HSC.out.2; unfold dueT; rw [if_pos (by omega), if_pos (by omega)])
                      go_wp2_with fail
                      go_roundw
                      case rel => exact ⟨i + 1, 0, now + 1, nx', _, _, by go_num, by go_num, by omega, by omega, HA3.out, hnx', by omega, by omega, fun _ => ⟨by omega, by rw [HX.out]; push_cast; omega⟩, HB3.out⟩
                      case measure => simp [intOf]; omega
                    · have hbf : bb = false := by rw [HBB.out]; exact decide_eq_false (fun h => by have := (HM.out.1 h).2; have := HSC.out; omega)
                      subst hbf
                      have hq4 : (((q : Int) + 1) == 4) = false := by simp; omega
                      have hq4' : ¬ (q : Int) + 1 = 4 := by omega
                      have HX := Lib.hid (show dueT D (now + 1) false (C : Int) = D C by have := HSC.out; unfold dueT; rw [if_neg (by omega)])
                      go_wp2_with fail
                      go_roundw
                      case rel => exact ⟨i + 1, q + 1, now + 1, nx', _, _, by go_num, by go_num, by omega, by omega, HA3.out, hnx', by omega, by omega, fun _ => ⟨by have := HSC.out; omega, by rw [HX.out]; have := HSC.out; push_cast; omega⟩, HB3.out⟩
                      case measure => simp [intOf]; omega
    · by_cases hn : i < acts.length
      · have h90 : ¬ (i : Int) < 90 := by omega
        have hn' : (i : Int) < (acts.length : Int) := by omega
        go_wp2_with fail
        go_ret
        exact ⟨rfl, HB.out⟩
      · have hn' : ¬ (i : Int) < (acts.length : Int) := by omega
        go_wp2_with fail
        go_ret
        exact ⟨rfl, HB.out⟩
end Go.Proofs.Ytaennccfhdjaaaa
