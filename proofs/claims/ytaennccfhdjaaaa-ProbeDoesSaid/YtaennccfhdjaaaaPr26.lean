/- ProbeDoes: the walk. -/
import Derived.Test.YtaennccfhdjaaaaPr25
import Derived.Test.YtaennccfhdjaaaaPr17
namespace Go.Proofs.Ytaennccfhdjaaaa
open Go.RowKit Go.Proofs
set_option linter.unusedSimpArgs false
set_option linter.unusedVariables false
theorem own_mono {w : World} {base base' e size n : Nat} {v : Value} {xs : List Value} (h : w.ownsRow base e size v n xs) (hb : base' ≤ base) : w.ownsRow base' e size v n xs := by
  refine ⟨h.1, ?_⟩
  rcases h.2 with hn | ⟨g, cap, cur, hv, hg, rest⟩
  · exact .inl hn
  · exact .inr ⟨g, cap, cur, hv, Nat.le_trans hb hg, rest⟩
theorem RefAt.mono {w : World} {base base' x d N me : Nat} {now next : Int} {E : Nat → Int} (h : RefAt w base x d N me now next E) (hb : base' ≤ base) : RefAt w base' x d N me now next E := by
  obtain ⟨cap, hk, ho⟩ := h.blk
  exact ⟨⟨cap, hk, own_mono ho hb⟩, h.two, h.eight, h.lt⟩
/-- What lies below B is kept; once the world has turned from w1 it turns no more. -/
def Turn1 (B : Nat) (w1 a b : World) : Prop := KeptOn (fun k => k < B) a b ∧ (a ≠ w1 → a = b)
theorem Turn1.refl (B : Nat) (w1 a : World) : Turn1 B w1 a a := ⟨KeptOn.refl _ _, fun _ => rfl⟩
theorem Turn1.trans {B : Nat} {w1 : World} (a b c : World) (h : Turn1 B w1 a b) (k : Turn1 B w1 b c) : Turn1 B w1 a c :=
  ⟨KeptOn.trans _ _ _ h.1 k.1, fun ha => by
    have e := h.2 ha
    subst e
    exact k.2 ha⟩
set_option maxRecDepth 100000 in
theorem probeDoes_bad (n me : Int) (v : Value) (w : World) (h : ¬ (2 ≤ n ∧ n ≤ 8 ∧ 0 ≤ me ∧ me < n)) :
    Calls Try.prog 4 #[.int .i64 n, .int .i64 me, v] w fun e w' => e = .returned (.bool true) ∧ Below w.heap.size w w' := by
  have HH := Lib.hid h
  by_cases h1 : n < 2
  · go_enter Try.func4, Try.ntmps4
    go_wp2_with fail
    refine (new_bad n me w HH.out).mono ?_
    rintro e w' ⟨rfl, rfl⟩
    go_wp2_with fail
    refine (awake_any w).mono ?_
    rintro e w1 ⟨rfl, hb⟩
    have HB := Lib.hid hb
    clear hb
    go_wp2_with fail
    go_ret
    exact ⟨by simp, HB.out⟩
  · by_cases h2 : 8 < n
    · go_enter Try.func4, Try.ntmps4
      go_wp2_with fail
      refine (new_bad n me w HH.out).mono ?_
      rintro e w' ⟨rfl, rfl⟩
      go_wp2_with fail
      refine (awake_any w).mono ?_
      rintro e w1 ⟨rfl, hb⟩
      have HB := Lib.hid hb
      clear hb
      go_wp2_with fail
      go_ret
      exact ⟨by simp, HB.out⟩
    · by_cases h3 : me < 0
      · go_enter Try.func4, Try.ntmps4
        go_wp2_with fail
        refine (new_bad n me w HH.out).mono ?_
        rintro e w' ⟨rfl, rfl⟩
        go_wp2_with fail
        refine (awake_any w).mono ?_
        rintro e w1 ⟨rfl, hb⟩
        have HB := Lib.hid hb
        clear hb
        go_wp2_with fail
        go_ret
        exact ⟨by simp, HB.out⟩
      · have h4 : n ≤ me := by omega
        clear h
        go_enter Try.func4, Try.ntmps4
        go_wp2_with fail
        refine (new_bad n me w HH.out).mono ?_
        rintro e w' ⟨rfl, rfl⟩
        go_wp2_with fail
        refine (awake_any w).mono ?_
        rintro e w1 ⟨rfl, hb⟩
        have HB := Lib.hid hb
        clear hb
        go_wp2_with fail
        go_ret
        exact ⟨by simp, HB.out⟩
set_option maxRecDepth 100000 in
set_option maxHeartbeats 8000000 in
theorem probeDoes_ok (N me : Nat) (h2 : 2 ≤ N) (h8 : N ≤ 8) (hme : me < N) (v0 : Value) (acts : List Act2) (hle : acts.length ≤ 9223372036854775807) (w : World) (hac : ActsAt2 w v0 acts) :
    Calls Try.prog 4 #[.int .i64 N, .int .i64 me, v0] w fun e w' => e = .returned (.bool true) ∧ Below w.heap.size w w' := by
  have HAC := Lib.hid hac
  obtain ⟨ao, cp, rfl, _⟩ := hac
  have g1 : decide ((N : Int) < 2) = false := decide_eq_false (by omega)
  have g2 : decide (8 < (N : Int)) = false := decide_eq_false (by omega)
  have g3 : decide ((me : Int) < 0) = false := decide_eq_false (by omega)
  have g4 : decide (N ≤ me) = false := decide_eq_false (by omega)
  go_enter Try.func4, Try.ntmps4
  go_wp2_with fail
  refine (new_ok N me w h2 h8 hme).mono ?_
  rintro e w1 ⟨g, rfl, hA, hb, hg⟩
  have HA := Lib.hid hA
  have HB := Lib.hid hb
  clear hA hb hg
  go_wp2_with fail
  refine (rnew_any N me w1 h2 h8 hme).mono ?_
  rintro e w2 ⟨d, rfl, hR, hb⟩
  have HA := Lib.hid (HA.out.below hb)
  have HR := Lib.hid (hR.mono HB.out.size)
  have HSZ := Lib.hid HB.out.size
  have HB := Lib.hid (HB.out.trans (hb.mono HB.out.size))
  clear hR hb
  generalize w1.heap.size = x at HR HSZ ⊢
  go_wp2_with fail
  refine (awake_any w2).mono ?_
  rintro e w3 ⟨rfl, hb⟩
  have HS := Lib.hid (show Sync w3 w.heap.size w.heap.size g x d N me (0 : Nat) ((me + 1) % N) due0 (rdue0 me) from ⟨HA.out.below hb, HR.out.below hb, fun j hj hne => by unfold due0 rdue0 updE; rw [if_neg (by omega), if_neg hne], by unfold due0 rdue0 updE; rw [if_pos rfl, if_pos rfl], Nat.mod_lt _ (by omega), Nat.le_refl _, HSZ.out, Nat.le_trans HB.out.size hb.size⟩)
  have HB := Lib.hid (HB.out.trans (hb.mono HB.out.size))
  clear hb HA HR
  go_wp2_with fail
  clear g1 g2 g3 g4
  go_loopw [10, 11, 12] (fun v10 _ _ wr => ∃ (i now nx g : Nat) (D : Int → Int) (E : Nat → Int), v10 = .int .i64 (i : Int) ∧ i ≤ acts.length ∧ i ≤ 90 ∧ now ≤ i ∧ Sync wr w.heap.size w.heap.size g x d N me now nx D E ∧ Below w.heap.size w wr) (fun v10 _ _ _ => 90 - (intOf v10).toNat)
  case atStart => exact ⟨0, 0, _, g, _, _, rfl, by omega, by omega, by omega, HS.out, HB.out⟩
  case round =>
    clear HS HB
    obtain ⟨i, now, nx, g, D, E, rfl, hi1, hi2, hno, hS, hb⟩ := hrel
    have HS := Lib.hid hS
    have HB := Lib.hid hb
    clear hS hb
    by_cases hin : i < acts.length ∧ i < 90
    · obtain ⟨hin1, hin2⟩ := hin
      obtain ⟨b, o, cp', hv, hbl, c0, c1⟩ := HAC.out.get HB.out i (by omega)
      injection hv with hv1 hv2 hv3
      subst hv1
      clear hv2 hv3
      generalize acts[i]'(by omega) = act at c0 c1
      obtain ⟨k, c⟩ := act
      dsimp only at c0 c1
      have i0 : (0 : Int) ≤ (i : Int) := by omega
      have i1 : (i : Int) < (acts.length : Int) := by omega
      go_upto_region 10 with (fail)
      have q0 : ∀ w', Turn1 w.heap.size wr.drew wr.drew w' → w'.cell? ⟨b, o + i * 2, none⟩ = some (.int .i64 k) := fun w' h => h.1.cell (w := wr.drew) c0 hbl
      have q1 : ∀ w', Turn1 w.heap.size wr.drew wr.drew w' → w'.cell? ⟨b, o + i * 2 + 1, none⟩ = some (.int .i64 c) := fun w' h => h.1.cell (w := wr.drew) c1 hbl
      have HS1 := Lib.hid (show Sync wr.drew w.heap.size w.heap.size g x d N me now nx D E from HS.out.below ((Below.refl _ _).drewN 1))
      have HB1 := Lib.hid (show Below w.heap.size w wr.drew from HB.out.drewN 1)
      clear c0 c1
      refine wp_region_pure (Turn1 w.heap.size wr.drew) (Turn1.refl _ _) (Turn1.trans) [(0,3),(1,3),(2,3),(3,3),(4,3),(5,0),(6,1),(7,3),(8,3),(9,3),(11,3),(12,3),(13,3),(14,0),(10,1),(15,3),(16,3)] (by kernel_rfl) (by kernel_rfl) ?_
      iterate 5 (refine pure_pure (v := ?_) rfl (fun _ _ _ h => h) (by rfl) (fun w' => ?_) ?_; rotate_left; (go_simp; try with_reducible rfl); simp only [Act.put, List.setIfInBounds_toArray, List.set_cons_zero, List.set_cons_succ])
      iterate 1 (refine pure_quiet (v := ?_) rfl (fun _ _ _ h => h) (by rfl) (fun w' hR => ?_) ?_; rotate_left; (go_simp; try with_reducible rfl); simp only [Act.put, List.setIfInBounds_toArray, List.set_cons_zero, List.set_cons_succ])
      clear q0 q1
      refine pure_eff rfl ?_
      go_wp2_with fail
      refine (do_any w.heap.size w.heap.size g x d N me now nx D E k c wr.drew HS1.out (by omega)).mono ?_
      rintro e w3 ⟨rfl, hb, hlt, g', now', nx', D', E', hno', hS⟩
      have HS3 := Lib.hid hS
      have HB3 := Lib.hid (HB1.out.trans hb)
      have HT := Lib.hid (show Turn1 w.heap.size wr.drew wr.drew w3 from ⟨⟨hb.size, fun k hk hD => hb.block k hD⟩, fun h => absurd rfl h⟩)
      have HNE := Lib.hid (show w3 ≠ wr.drew from fun e => by rw [e] at hlt; exact Nat.lt_irrefl _ hlt)
      obtain ⟨capx, hbk, _⟩ := hS.rf.blk
      have q3 : ∀ w', Turn1 w.heap.size wr.drew w3 w' → w'.cell? ⟨x, 3, none⟩ = some (.int .i64 nx') := fun w' h => (h.2 HNE.out) ▸ hbk.cell 3
      clear hS hb hlt hbk
      go_wp2_with fail
      refine purePost_need HT.out ?_
      iterate 6 (refine pure_pure (v := ?_) rfl (fun _ _ _ h => h) (by rfl) (fun w' => ?_) ?_; rotate_left; (go_simp; try with_reducible rfl); simp only [Act.put, List.setIfInBounds_toArray, List.set_cons_zero, List.set_cons_succ])
      iterate 1 (refine pure_quiet (v := ?_) rfl (fun _ _ _ h => h) (by rfl) (fun w' hR => ?_) ?_; rotate_left; (go_simp; try with_reducible rfl); simp only [Act.put, List.setIfInBounds_toArray, List.set_cons_zero, List.set_cons_succ])
      clear q3
      refine pure_eff rfl ?_
      go_wp2_with fail
      refine (next_any w.heap.size w.heap.size g' N me now' nx' D' w3 HS3.out.pr).mono ?_
      rintro e w' ⟨rfl, rfl⟩
      have hnn : ((nx' : Int) != (nx' : Int)) = false := by simp
      go_wp2_with fail
      refine purePost_need (Turn1.refl _ _ _) ?_
      iterate 2 (refine pure_pure (v := ?_) rfl (fun _ _ _ h => h) (by rfl) (fun w' => ?_) ?_; rotate_left; (go_simp; try with_reducible rfl); simp only [Act.put, List.setIfInBounds_toArray, List.set_cons_zero, List.set_cons_succ])
      refine pure_done ?_
      clear hnn
      go_wp2_with fail
      go_loopw [11, 12] (fun v11 _ wq => ∃ j : Nat, v11 = .int .i64 ((j : Int) - 1) ∧ j ≤ 10 ∧ Sync wq w.heap.size w.heap.size g' x d N me now' nx' D' E' ∧ Below w.heap.size w wq) (fun v11 _ _ => 10 - (intOf v11 + 1).toNat)
      case atStart => exact ⟨0, rfl, by omega, HS3.out, HB3.out⟩
      case round =>
        clear HS3 HB3
        obtain ⟨j, rfl, hj, hS, hb⟩ := hrel
        have HS3 := Lib.hid hS
        have HB3 := Lib.hid hb
        have HSB := Lib.hid hS.bs
        clear hb
        by_cases hlt : j < 10
        · have hj9 : (j : Int) - 1 < 9 := by omega
          clear hS
          go_wp2_with fail
          refine (other_any w.heap.size x d N me now' nx' E' ((j : Int) - 1) wr HS3.out.rf).mono ?_
          rintro e w' ⟨rfl, rfl⟩
          cases hi : isB N me ((j : Int) - 1) with
          | false =>
            go_wp2_with fail
            refine (due_no w.heap.size w.heap.size g' N me now' nx' D' ((j : Int) - 1) wr HS3.out.pr hi).mono ?_
            rintro e w5 ⟨rfl, hb⟩
            have HS5 := Lib.hid (HS3.out.below hb)
            have HB5 := Lib.hid (HB3.out.trans (hb.mono HB3.out.size))
            clear hb
            go_wp2_with fail
            go_roundw
            case rel => exact ⟨j + 1, by go_num, by omega, HS5.out, HB5.out⟩
            case measure => simp [intOf]; omega
          | true =>
            have him := of_decide_eq_true hi
            obtain ⟨s, hs⟩ := Int.eq_ofNat_of_zero_le him.1
            have hsN : s < N := by omega
            have s0 : (0 : Int) ≤ (s : Int) := by omega
            have s1 : (s : Int) < (N : Int) := by omega
            obtain ⟨cap4, hbk, _⟩ := HS3.out.rf.blk
            have c4 : wr.cell? ⟨x, 4, none⟩ = some (.slice (some ⟨d, 0, none⟩) N cap4) := hbk.cell 4
            have cs := HS3.out.rf.due hsN
            have HDS := Lib.hid (show D' ((j : Int) - 1) = E' s from by rw [hs]; exact HS3.out.ds s hsN (fun e => him.2.2 (by omega)))
            clear hbk
            have HSJ := Lib.hid hs
            rw [hs] at hj9 ⊢
            go_wp2_with fail
            refine (due_yes w.heap.size w.heap.size g' N me now' nx' D' (s : Int) wr HS3.out.pr (HSJ.out ▸ hi)).mono ?_
            rintro e w5 ⟨rfl, hb⟩
            have HS5 := Lib.hid (HS3.out.below hb)
            have HB5 := Lib.hid (HB3.out.trans (hb.mono HB3.out.size))
            clear hb c4 cs
            have hde : D' (s : Int) = E' s := by rw [← HSJ.out]; exact HDS.out
            rw [hde]
            have hee : (E' s != E' s) = false := by simp
            go_wp2_with fail
            go_roundw
            case rel => exact ⟨j + 1, by have := HSJ.out; first | go_num | (congr 1; push_cast; omega), by omega, HS5.out, HB5.out⟩
            case measure => have := HSJ.out; simp [intOf]; omega
        · obtain rfl : j = 10 := by omega
          clear hS
          go_wp2_with fail
          go_roundw
          case rel => exact ⟨i + 1, now', nx', g', D', E', by go_num, by omega, by omega, by omega, HS3.out, HB3.out⟩
          case measure => simp [intOf]; omega
    · by_cases hn : i < acts.length
      · have h90 : ¬ (i : Int) < 90 := by omega
        have hn' : (i : Int) < (acts.length : Int) := by omega
        go_wp2_with fail
        go_ret
        exact ⟨rfl, HB.out⟩
      · have hn' : ¬ (i : Int) < (acts.length : Int) := by omega
        go_wp2_with fail
        go_ret
        exact ⟨rfl, HB.out⟩
theorem probeDoes_any (n me : Int) (v0 : Value) (acts : List Act2) (hle : acts.length ≤ 9223372036854775807) (w : World) (hac : ActsAt2 w v0 acts) :
    Calls Try.prog 4 #[.int .i64 n, .int .i64 me, v0] w fun e w' => e = .returned (.bool true) ∧ Below w.heap.size w w' := by
  by_cases h : 2 ≤ n ∧ n ≤ 8 ∧ 0 ≤ me ∧ me < n
  · obtain ⟨N, rfl⟩ := Int.eq_ofNat_of_zero_le (show 0 ≤ n by omega)
    obtain ⟨m, rfl⟩ := Int.eq_ofNat_of_zero_le h.2.2.1
    exact probeDoes_ok N m (by omega) (by omega) (by omega) v0 acts hle w hac
  · exact probeDoes_bad n me v0 w h
end Go.Proofs.Ytaennccfhdjaaaa
