/- ProbeIdle: the walk. -/
import Derived.Test.YtaennccfhdjaaaaPr17
namespace Go.Proofs.Ytaennccfhdjaaaa
open Go.RowKit Go.Proofs
set_option linter.unusedSimpArgs false
set_option linter.unusedVariables false
theorem heard_bool {base p g N me : Nat} {now next : Int} {D : Int → Int} {w : World} (n : Int) (hA : ProbAt w base p g N me now next D) (h0 : 0 ≤ now) (h1 : now ≤ 1000000) :
    Calls Try.prog 10 #[.pointer (some ⟨p, 0, none⟩), .int .i64 n] w fun e w' => e = .returned (.bool (isB N me n)) ∧ SetP base p g N me now next (if isB N me n then setD D n (now + 4) else D) w w' := by
  cases h : isB N me n with
  | true =>
    refine (heard_yes base p g N me now next D n w hA h h0 h1).mono ?_
    rintro e w' ⟨rfl, hS⟩
    exact ⟨rfl, by simpa using hS⟩
  | false =>
    refine (heard_no base p g N me now next D n w hA h).mono ?_
    rintro e w' ⟨rfl, rfl⟩
    exact ⟨rfl, by simpa using ⟨hA, Hop.of_below (Below.refl _ _)⟩⟩
theorem stepN_lt {N me nx : Nat} (h : 0 < N) : stepN N me nx < N := by
  unfold stepN
  split <;> exact Nat.mod_lt _ h
/-- What a tick leaves, its read told. -/
def TickR (base p g N me : Nat) (now r : Int) (nx : Nat) (D D' : Int → Int) (w : World) (e : Ending) (w' : World) : Prop :=
  ∃ (v6 : Value) (out : List Int) (g' : Nat), e = .returned (.tuple #[v6, .int .i64 r]) ∧ w'.ownsRow w.heap.size 3 1 v6 out.length (out.map (Value.int .i64)) ∧
    (∀ s, s ∈ out ↔ ((0 ≤ s ∧ s < (N : Int) ∧ s ≠ (me : Int)) ∧ D s ≤ now)) ∧ ProbAt w' base p g' N me now nx D' ∧ Hop p (some g) (some g') w w'
theorem TickP.yes {base p g N me : Nat} {now : Int} {nx : Nat} {D : Int → Int} {busy : Bool} {w w' : World} {e : Ending} (h : TickP base p g N me now nx D busy w e w') (hr : readsT D now busy = true) : TickR base p g N me now nx (stepN N me nx) D (dueT D now busy) w e w' := by
  obtain ⟨v6, out, g', he, ho, hm, hs, hn, hA, hH, hl⟩ := h
  rw [hr] at he hA
  exact ⟨v6, out, g', he, ho, hm, hA, hH⟩
theorem TickP.no {base p g N me : Nat} {now : Int} {nx : Nat} {D : Int → Int} {busy : Bool} {w w' : World} {e : Ending} (h : TickP base p g N me now nx D busy w e w') (hr : readsT D now busy = false) : TickR base p g N me now (-1) nx D (dueT D now busy) w e w' := by
  obtain ⟨v6, out, g', he, ho, hm, hs, hn, hA, hH, hl⟩ := h
  rw [hr] at he hA
  exact ⟨v6, out, g', he, ho, hm, hA, hH⟩
theorem ProbAt.ne_box {w : World} {base p g N me : Nat} {now next : Int} {D : Int → Int} (h : ProbAt w base p g N me now next D) {b : Nat} {cs : Array Value} (hb : Blk w b 29 cs) : b ≠ p ∧ some b ≠ some g := by
  obtain ⟨cap, f, hP, hC⟩ := h.here
  refine ⟨fun e => Blk.ne_ hb hP.blk (by decide) e, fun e => ?_⟩
  obtain ⟨c, hc, _⟩ := own_blk hP.own (g := g) rfl
  exact Blk.ne_ hb hc (by decide) (Option.some.inj e)
set_option maxRecDepth 100000 in
set_option maxHeartbeats 4000000 in
theorem probeIdle_any (v0 : Value) (acts : List Act2) (hle : acts.length ≤ 9223372036854775807) (w : World) (hac : ActsAt2 w v0 acts) :
    Calls Try.prog 6 #[v0] w fun e w' => e = .returned (.bool true) ∧ Below w.heap.size w w' := by
  have HAC := Lib.hid hac
  obtain ⟨ao, cp, rfl, _⟩ := hac
  go_enter Try.func6, Try.ntmps6
  go_wp2_with fail
  refine (new_ok 3 2 w (by decide) (by decide) (by decide)).mono ?_
  rintro e w1 ⟨g, rfl, hA, hb, hg⟩
  have HA := Lib.hid (show ProbAt w1 w.heap.size w.heap.size g 3 2 (0 : Nat) (0 : Nat) due0 from hA)
  have HB := Lib.hid hb
  clear hA hb hg
  go_wp2_with fail
  refine (awake_any w1).mono ?_
  rintro e w2 ⟨rfl, hb⟩
  have HA := Lib.hid (HA.out.below hb)
  have HB := Lib.hid (HB.out.trans (hb.mono HB.out.size))
  clear hb
  go_wp2_with fail
  go_loopw [5, 6, 7, 8, 9] (fun v5 v6 _ _ _ wr => ∃ (i q now nx g : Nat) (D : Int → Int), v5 = .int .i64 (q : Int) ∧ v6 = .int .i64 (i : Int) ∧ i ≤ acts.length ∧ i ≤ 90 ∧ ProbAt wr w.heap.size w.heap.size g 3 2 now nx D ∧ nx < 3 ∧ now ≤ i ∧ q ≤ i ∧ D (-1) + q = now + 7 ∧ Below w.heap.size w wr) (fun _ v6 _ _ _ _ => 90 - (intOf v6).toNat)
  case atStart => exact ⟨0, 0, 0, 0, g, due0, rfl, rfl, by omega, by omega, HA.out, by omega, by omega, by omega, rfl, HB.out⟩
  case round =>
    clear HA HB
    obtain ⟨i, q, now, nx, g, D, rfl, rfl, hi1, hi2, hA, hnx, hno, hqi, hD, hb⟩ := hrel
    have HA := Lib.hid hA
    have HB := Lib.hid hb
    have HD := Lib.hid hD
    clear hA hb hD
    by_cases hin : i < acts.length ∧ i < 90
    · obtain ⟨hin1, hin2⟩ := hin
      obtain ⟨b, o, cp', hv, hbl, c0, c1⟩ := HAC.out.get HB.out i (by omega)
      injection hv with hv1 hv2 hv3
      subst hv1
      clear hv2 hv3
      generalize acts[i]'(by omega) = act at c0 c1
      obtain ⟨k, c⟩ := act
      dsimp only at c0 c1
      by_cases hk5 : k = 5
      · subst hk5
        go_upto_region 16 with (fail)
        have HA := Lib.hid (HA.out.below ((Below.refl _ _).alloc (Nat.le_refl _) (.cells #[.int .i64 5, .int .i64 c] 29)))
        have HB := Lib.hid (HB.out.trans (((Below.refl _ _).alloc (Nat.le_refl _) (.cells #[.int .i64 5, .int .i64 c] 29)).mono HB.out.size))
        have hbx := Blk.new wr 29 #[.int .i64 5, .int .i64 c]
        generalize wr.alloc (.cells #[.int .i64 5, .int .i64 c] 29) = w2 at HA HB hbx ⊢
        generalize wr.heap.size = bx at hbx ⊢
        have b1 := hbx.cell 1
        go_wp2_with fail
        refine (heard_bool c HA.out (by omega) (by omega)).mono ?_
        rintro e w3 ⟨rfl, hS⟩
        have HB3 := Lib.hid (HA.out.below_of hS.2 (Nat.le_refl _) HB.out (Nat.le_refl _))
        have HA3 := Lib.hid hS.1
        have HX := Lib.hid (show (if isB 3 2 c = true then setD D c (now + 4) else D) (-1) = D (-1) by
          split
          · rename_i h
            have := of_decide_eq_true h
            unfold setD
            rw [if_neg (by omega)]
          · rfl)
        clear hS b1 hbx
        go_wp2_with fail
        go_roundw
        case rel => exact ⟨i + 1, q, now, nx, _, _, by go_num, by go_num, by omega, by omega, HA3.out, by omega, by omega, by omega, by rw [HX.out]; exact HD.out, HB3.out⟩
        case measure => simp [intOf]; omega
      · by_cases hk : k < 0 ∨ 4 < k
        · rcases hk with hk | hk
          · as_aux_lemma =>
              have hk5b : (k == (5 : Int)) = false := by simp [hk5]
              go_upto_region 18 with (fail)
              have HA := Lib.hid (HA.out.below ((Below.refl _ _).alloc (Nat.le_refl _) (.cells #[.int .i64 k, .int .i64 c] 29)))
              have HB := Lib.hid (HB.out.trans (((Below.refl _ _).alloc (Nat.le_refl _) (.cells #[.int .i64 k, .int .i64 c] 29)).mono HB.out.size))
              have hbx := Blk.new wr 29 #[.int .i64 k, .int .i64 c]
              generalize wr.alloc (.cells #[.int .i64 k, .int .i64 c] 29) = w2 at HA HB hbx ⊢
              generalize wr.heap.size = bx at hbx ⊢
              clear hbx
              go_wp2_with fail
              refine (asked_any w.heap.size w.heap.size g 3 2 now nx D w2 HA.out (by omega) (by omega)).mono ?_
              rintro e w3 ⟨rfl, hS⟩
              have HB3 := Lib.hid (HA.out.below_of hS.2 (Nat.le_refl _) HB.out (Nat.le_refl _))
              have HA3 := Lib.hid hS.1
              clear hS
              go_wp2_with fail
              go_roundw
              case rel => exact ⟨i + 1, 0, now, nx, _, _, by go_num, by go_num, by omega, by omega, HA3.out, by omega, by omega, by omega, by simp [setD], HB3.out⟩
              case measure => simp [intOf]; omega
          · have hk0 : ¬ k < 0 := by omega
            as_aux_lemma =>
              have hk5b : (k == (5 : Int)) = false := by simp [hk5]
              go_upto_region 18 with (fail)
              have HA := Lib.hid (HA.out.below ((Below.refl _ _).alloc (Nat.le_refl _) (.cells #[.int .i64 k, .int .i64 c] 29)))
              have HB := Lib.hid (HB.out.trans (((Below.refl _ _).alloc (Nat.le_refl _) (.cells #[.int .i64 k, .int .i64 c] 29)).mono HB.out.size))
              have hbx := Blk.new wr 29 #[.int .i64 k, .int .i64 c]
              generalize wr.alloc (.cells #[.int .i64 k, .int .i64 c] 29) = w2 at HA HB hbx ⊢
              generalize wr.heap.size = bx at hbx ⊢
              clear hbx
              go_wp2_with fail
              refine (asked_any w.heap.size w.heap.size g 3 2 now nx D w2 HA.out (by omega) (by omega)).mono ?_
              rintro e w3 ⟨rfl, hS⟩
              have HB3 := Lib.hid (HA.out.below_of hS.2 (Nat.le_refl _) HB.out (Nat.le_refl _))
              have HA3 := Lib.hid hS.1
              clear hS
              go_wp2_with fail
              go_roundw
              case rel => exact ⟨i + 1, 0, now, nx, _, _, by go_num, by go_num, by omega, by omega, HA3.out, by omega, by omega, by omega, by simp [setD], HB3.out⟩
              case measure => simp [intOf]; omega
        · have hka : ¬ k < 0 := by omega
          have hkb : ¬ 4 < k := by omega
          have hk5b : (k == (5 : Int)) = false := by simp [hk5]
          by_cases hk4 : k = 4
          · subst hk4
            as_aux_lemma =>
              go_upto_region 9 with (fail)
              have HA := Lib.hid (HA.out.below ((Below.refl _ _).alloc (Nat.le_refl _) (.cells #[.int .i64 4, .int .i64 c] 29)))
              have HB := Lib.hid (HB.out.trans (((Below.refl _ _).alloc (Nat.le_refl _) (.cells #[.int .i64 4, .int .i64 c] 29)).mono HB.out.size))
              have hbx := Blk.new wr 29 #[.int .i64 4, .int .i64 c]
              generalize wr.alloc (.cells #[.int .i64 4, .int .i64 c] 29) = w2 at HA HB hbx ⊢
              generalize wr.heap.size = bx at hbx ⊢
              have b0 := hbx.cell 0
              have hbl := hbx.lt
              have HBX := Lib.hid hbx
              clear hbx
              go_wp2_with fail
              refine (tick_any w.heap.size w.heap.size g 3 2 now (now + 1) rfl nx D true w2 HA.out (by omega) (by omega) hnx HB.out.size).mono ?_
              by_cases h7 : 7 ≤ (q : Int) + 1
              · rintro e w3 h
                obtain ⟨v6, out, g', rfl, ho, hm, hA, hH⟩ := h.no (by unfold readsT; simp)
                clear b0
                have HB3 := Lib.hid (HA.out.below_of hH (Nat.le_refl _) HB.out (Nat.le_refl _))
                have HA3 := Lib.hid (show ProbAt w3 w.heap.size w.heap.size g' 3 2 ((now + 1 : Nat) : Int) _ _ from by simpa using hA)
                have b0 : w3.cell? ⟨bx, 0, none⟩ = _ := (World.cell?_of_block (hH.block bx HBX.out.lt (HA.out.ne_box HBX.out).1 (HA.out.ne_box HBX.out).2)).trans (HBX.out.cell 0)
                clear hA hH ho hm
                have HX := Lib.hid (show dueT D (now + 1) true (-1) = D (-1) by unfold dueT; split <;> simp)
                go_wp2_with fail
                go_roundw
                case rel => exact ⟨i + 1, q + 1, now + 1, nx, _, _, by go_num, by go_num, by omega, by omega, HA3.out, by omega, by omega, by omega, by rw [HX.out]; have := HD.out; push_cast; omega, HB3.out⟩
                case measure => simp [intOf]; omega
              · rintro e w3 h
                obtain ⟨v6, out, g', rfl, ho, hm, hA, hH⟩ := h.no (by unfold readsT; simp)
                clear b0
                have HB3 := Lib.hid (HA.out.below_of hH (Nat.le_refl _) HB.out (Nat.le_refl _))
                have HA3 := Lib.hid (show ProbAt w3 w.heap.size w.heap.size g' 3 2 ((now + 1 : Nat) : Int) _ _ from by simpa using hA)
                have b0 : w3.cell? ⟨bx, 0, none⟩ = _ := (World.cell?_of_block (hH.block bx HBX.out.lt (HA.out.ne_box HBX.out).1 (HA.out.ne_box HBX.out).2)).trans (HBX.out.cell 0)
                clear hA hH ho hm
                have HX := Lib.hid (show dueT D (now + 1) true (-1) = D (-1) by unfold dueT; split <;> simp)
                go_wp2_with fail
                go_roundw
                case rel => exact ⟨i + 1, q + 1, now + 1, nx, _, _, by go_num, by go_num, by omega, by omega, HA3.out, by omega, by omega, by omega, by rw [HX.out]; have := HD.out; push_cast; omega, HB3.out⟩
                case measure => simp [intOf]; omega
          · have hk4b : (k == (4 : Int)) = false := by simp [hk4]
            have hk4n : (k != (4 : Int)) = true := by simp [hk4]
            as_aux_lemma =>
              go_upto_region 9 with (fail)
              have HA := Lib.hid (HA.out.below ((Below.refl _ _).alloc (Nat.le_refl _) (.cells #[.int .i64 k, .int .i64 c] 29)))
              have HB := Lib.hid (HB.out.trans (((Below.refl _ _).alloc (Nat.le_refl _) (.cells #[.int .i64 k, .int .i64 c] 29)).mono HB.out.size))
              have hbx := Blk.new wr 29 #[.int .i64 k, .int .i64 c]
              generalize wr.alloc (.cells #[.int .i64 k, .int .i64 c] 29) = w2 at HA HB hbx ⊢
              generalize wr.heap.size = bx at hbx ⊢
              have b0 := hbx.cell 0
              have hbl := hbx.lt
              have HBX := Lib.hid hbx
              clear hbx
              go_wp2_with fail
              refine (tick_any w.heap.size w.heap.size g 3 2 now (now + 1) rfl nx D false w2 HA.out (by omega) (by omega) hnx HB.out.size).mono ?_
              by_cases h7 : 7 ≤ (q : Int) + 1
              · rintro e w3 h
                obtain ⟨v6, out, g', rfl, ho, hm, hA, hH⟩ := h.yes (by have := HD.out; unfold readsT; rw [decide_eq_true (by omega)]; rfl)
                clear b0
                have HB3 := Lib.hid (HA.out.below_of hH (Nat.le_refl _) HB.out (Nat.le_refl _))
                have HA3 := Lib.hid (show ProbAt w3 w.heap.size w.heap.size g' 3 2 ((now + 1 : Nat) : Int) _ _ from by simpa using hA)
                have b0 : w3.cell? ⟨bx, 0, none⟩ = _ := (World.cell?_of_block (hH.block bx HBX.out.lt (HA.out.ne_box HBX.out).1 (HA.out.ne_box HBX.out).2)).trans (HBX.out.cell 0)
                clear hA hH ho hm
                have hn0 : 0 ≤ (nx : Int) := by omega
                generalize (nx : Int) = r at hn0 ⊢
                have HX := Lib.hid (show dueT D (now + 1) false (-1) = now + 1 + 7 by have := HD.out; unfold dueT; rw [if_pos (by omega)]; simp)
                go_wp2_with fail
                go_roundw
                case rel => exact ⟨i + 1, 0, now + 1, stepN 3 2 nx, _, _, by go_num, by go_num, by omega, by omega, HA3.out, stepN_lt (by omega), by omega, by omega, by rw [HX.out]; push_cast; omega, HB3.out⟩
                case measure => simp [intOf]; omega
              · rintro e w3 h
                obtain ⟨v6, out, g', rfl, ho, hm, hA, hH⟩ := h.no (by have := HD.out; unfold readsT; rw [decide_eq_false (by omega)]; rfl)
                clear b0
                have HB3 := Lib.hid (HA.out.below_of hH (Nat.le_refl _) HB.out (Nat.le_refl _))
                have HA3 := Lib.hid (show ProbAt w3 w.heap.size w.heap.size g' 3 2 ((now + 1 : Nat) : Int) _ _ from by simpa using hA)
                have b0 : w3.cell? ⟨bx, 0, none⟩ = _ := (World.cell?_of_block (hH.block bx HBX.out.lt (HA.out.ne_box HBX.out).1 (HA.out.ne_box HBX.out).2)).trans (HBX.out.cell 0)
                clear hA hH ho hm
                have HX := Lib.hid (show dueT D (now + 1) false (-1) = D (-1) by have := HD.out; unfold dueT; rw [if_neg (by omega)])
                go_wp2_with fail
                go_roundw
                case rel => exact ⟨i + 1, q + 1, now + 1, nx, _, _, by go_num, by go_num, by omega, by omega, HA3.out, by omega, by omega, by omega, by rw [HX.out]; have := HD.out; push_cast; omega, HB3.out⟩
                case measure => simp [intOf]; omega
    · by_cases hn : i < acts.length
      · have h90 : ¬ (i : Int) < 90 := by omega
        have hn' : (i : Int) < (acts.length : Int) := by omega
        go_wp2_with fail
        go_ret
        exact ⟨rfl, HB.out⟩
      · have hn' : ¬ (i : Int) < (acts.length : Int) := by omega
        go_wp2_with fail
        go_ret
        exact ⟨rfl, HB.out⟩
end Go.Proofs.Ytaennccfhdjaaaa
