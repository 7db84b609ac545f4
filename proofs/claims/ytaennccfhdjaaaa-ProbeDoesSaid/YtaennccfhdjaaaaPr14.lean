/- Ints; awake. -/
import Derived.Test.YtaennccfhdjaaaaPr13
namespace Go.Proofs.Ytaennccfhdjaaaa
open Go.RowKit Go.Proofs
set_option linter.unusedSimpArgs false
set_option linter.unusedVariables false
/-- v reads as these numbers. -/
def IntsAt (w : World) (v : Value) (l : List Int) : Prop := ∃ a cap, v = .slice a l.length cap ∧ ∀ k x, l[k]? = some x → ∃ g, a = some ⟨g, 0, none⟩ ∧ w.cell? ⟨g, k, none⟩ = some (.int .i64 x)
theorem IntsAt.of_own {w : World} {base e : Nat} {v : Value} {l : List Int} (h : w.ownsRow base e 1 v l.length (l.map (Value.int .i64))) : IntsAt w v l := by
  obtain ⟨a, c, rfl⟩ := own_slice h
  refine ⟨a, c, rfl, fun k x hk => ?_⟩
  have hlt : k < l.length := by
    rcases Nat.lt_or_ge k l.length with hl | hl
    · exact hl
    · rw [List.getElem?_eq_none hl] at hk; cases hk
  obtain ⟨g, rfl⟩ := own_slice_some h (by omega)
  refine ⟨g, rfl, (h.cellAt k (by omega)).trans ?_⟩
  rw [List.getElem?_map, hk]
  rfl
theorem IntsAt.below {w w' : World} {v : Value} {l : List Int} (h : IntsAt w v l) (hb : Below w.heap.size w w') : IntsAt w' v l := by
  obtain ⟨a, c, hv, hc⟩ := h
  refine ⟨a, c, hv, fun k x hk => ?_⟩
  obtain ⟨g, hg, hx⟩ := hc k x hk
  exact ⟨g, hg, (hb.cell (World.block_lt_of_cell? w _ hx)).trans hx⟩
set_option maxRecDepth 100000 in
set_option maxHeartbeats 1000000 in
theorem ints_any (v1 v2 : Value) (l1 l2 : List Int) (w : World) (h1 : IntsAt w v1 l1) (h2 : IntsAt w v2 l2) (hl1 : l1.length ≤ 1000) :
    Calls Try.prog 19 #[v1, v2] w fun e w' => e = .returned (.bool (decide (l1 = l2))) ∧ Below w.heap.size w w' := by
  obtain ⟨a1, c1, rfl, hc1⟩ := h1
  obtain ⟨a2, c2, rfl, hc2⟩ := h2
  have H1 := Lib.hid hc1
  have H2 := Lib.hid hc2
  clear hc1 hc2
  by_cases hl : l1.length = l2.length
  · have HL := Lib.hid hl
    generalize hn : l2.length = n at hl
    have HN := Lib.hid hn
    rw [hl] at hl1 ⊢
    clear hn
    go_enter Try.func19, Try.ntmps19
    go_wp2_with fail
    go_loopw [5] (fun v5 wr => ∃ k : Nat, v5 = .int .i64 (k : Int) ∧ k ≤ n ∧ l1.take k = l2.take k ∧ Below w.heap.size w wr) (fun v5 _ => n - (intOf v5).toNat)
    case atStart => exact ⟨0, rfl, by omega, rfl, Below.refl _ _⟩
    case round =>
      obtain ⟨k, rfl, hk, htk, hb⟩ := hrel
      have HT := Lib.hid htk
      have HB := Lib.hid hb
      clear htk hb
      by_cases hlt : (k : Int) < (n : Int)
      · have k1 : k < l1.length := by omega
        have k2 : k < l2.length := by have := HN.out; omega
        obtain ⟨g1, rfl, x1⟩ := H1.out k l1[k] (List.getElem?_eq_getElem k1)
        obtain ⟨g2, rfl, x2⟩ := H2.out k l2[k] (List.getElem?_eq_getElem k2)
        have y1 := (HB.out.cell (World.block_lt_of_cell? w _ x1)).trans x1
        have y2 := (HB.out.cell (World.block_lt_of_cell? w _ x2)).trans x2
        clear x1 x2
        have HS := Lib.hid (show l1[k] = l2[k] → l1.take (k + 1) = l2.take (k + 1) from fun e => by rw [List.take_succ_eq_append_getElem k1, List.take_succ_eq_append_getElem k2, HT.out, e])
        have HD := Lib.hid (show ¬ l1[k] = l2[k] → ¬ l1 = l2 from fun e h => e (by subst h; rfl))
        generalize l1[k] = x at y1 HS HD
        generalize l2[k] = y at y2 HS HD
        clear k1 k2
        by_cases he : x = y
        · subst he
          go_upto_region 6 with (fail)
          go_quiet (fail)
          rename_i nq
          have HB2 := Lib.hid (HB.out.drewN nq)
          generalize wr.drewN nq = w2 at HB2 ⊢
          clear y1 y2
          go_wp2_with fail
          go_roundw
          case rel => exact ⟨k + 1, by go_num, by omega, HS.out rfl, HB2.out⟩
          case measure => simp [intOf]; omega
        · go_upto_region 6 with (fail)
          go_quiet (fail)
          rename_i nq
          have HB2 := Lib.hid (HB.out.drewN nq)
          generalize wr.drewN nq = w2 at HB2 ⊢
          clear y1 y2
          go_wp2_with fail
          go_ret
          exact ⟨by rw [decide_eq_false (HD.out he)]; rfl, HB2.out⟩
      · obtain rfl : k = n := by omega
        go_wp2_with fail
        go_ret
        refine ⟨?_, HB.out⟩
        have e : l1 = l2 := by
          have := HT.out
          rw [List.take_of_length_le (by omega), List.take_of_length_le (by have := HN.out; omega)] at this
          exact this
        rw [decide_eq_true e]
        rfl
  · have hf : decide (l1 = l2) = false := decide_eq_false (fun h => hl (by rw [h]))
    have HF := Lib.hid hf
    clear hf
    go_enter Try.func19, Try.ntmps19
    go_wp2_with fail
    go_ret
    exact ⟨by rw [HF.out]; rfl, Below.refl _ _⟩
/-- Two lists that go by one law are one. -/
theorem first_unique {N me : Int} {D : Int → Int} {now : Int} {A B : List Int} (hA : ∀ k s, A[k]? = some s → FirstIs N me D now (A.take k) s) (nA : ∀ s, ¬ FirstIs N me D now A s)
    (hB : ∀ k s, B[k]? = some s → FirstIs N me D now (B.take k) s) (nB : ∀ s, ¬ FirstIs N me D now B s) : A = B := by
  have key : ∀ k, A.take k = B.take k := by
    intro k
    induction k with
    | zero => rfl
    | succ k ih =>
      rw [List.take_add_one, List.take_add_one, ih]
      congr 1
      cases ha : A[k]? with
      | none =>
        cases hb : B[k]? with
        | none => rfl
        | some t =>
          have h := hB k t hb
          rw [← ih, List.take_of_length_le (List.getElem?_eq_none_iff.1 ha)] at h
          exact absurd h (nA t)
      | some s =>
        have h := hA k s ha
        cases hb : B[k]? with
        | none =>
          rw [ih, List.take_of_length_le (List.getElem?_eq_none_iff.1 hb)] at h
          exact absurd h (nB s)
        | some t =>
          have h' := hB k t hb
          rw [← ih] at h'
          rw [h.unique h']
  have := key (A.length + B.length)
  rwa [List.take_of_length_le (by omega), List.take_of_length_le (by omega)] at this
end Go.Proofs.Ytaennccfhdjaaaa
