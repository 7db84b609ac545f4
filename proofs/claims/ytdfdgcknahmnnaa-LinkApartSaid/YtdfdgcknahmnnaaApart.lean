/- The walk of LinkApart: it comes to true. -/
import Derived.Test.YtdfdgcknahmnnaaDoes
namespace Go.Proofs.Ytdfdgcknahmnnaa
open Go.RowKit Go.Proofs
set_option linter.unusedSimpArgs false
set_option linter.unusedVariables false

/-- What is done with one client's rows changes no other one's. -/
theorem do_apart (N k xc c : Int) (s : ByteArray) (L : Nat → List ByteArray) (hc : isB c N = true) (hne : xc ≠ c) (d : Nat) (hd : d < 2) : lenM N c (doM N k xc s L) d = lenM N c L d := by
  have h0 := (isB_true hc).1
  have key : ∀ (d' : Nat) (xs : List ByteArray) (M : Nat → List ByteArray), d' < 2 → isB xc N = true → upd M (xc.toNat * 2 + d') xs (c.toNat * 2 + d) = M (c.toNat * 2 + d) := by
    intro d' xs M hd' hb
    have h1 := (isB_true hb).1
    exact upd_other _ _ (by omega)
  have kp : ∀ d', d' < 2 → putM N xc s L d' (c.toNat * 2 + d) = L (c.toNat * 2 + d) := by
    intro d' hd'
    unfold putM
    split
    · rename_i h; exact key d' _ _ hd' h.1
    · rfl
  have kt : ∀ d', d' < 2 → takeM N xc L d' (c.toNat * 2 + d) = L (c.toNat * 2 + d) := by
    intro d' hd'
    unfold takeM
    split
    · rename_i h; exact key d' _ _ hd' h
    · rfl
  have kr : resetM N xc L (c.toNat * 2 + d) = L (c.toNat * 2 + d) := by
    unfold resetM
    split
    · rename_i h
      rw [key 1 _ _ (by omega) h]
      exact key 0 _ _ (by omega) h
    · rfl
  unfold lenM
  rw [if_pos hc, if_pos hc]
  have : doM N k xc s L (c.toNat * 2 + d) = L (c.toNat * 2 + d) := by
    unfold doM
    split
    · exact kp 0 (by omega)
    · split
      · exact kp 1 (by omega)
      · split
        · exact kt 0 (by omega)
        · split
          · exact kt 1 (by omega)
          · exact kr
  rw [this]

theorem Len_after (g : Nat) (N k xc c : Int) (s : ByteArray) (L : Nat → List ByteArray) (hc : isB c N = true) (hne : xc ≠ c) (w : World) (h : LinkA w g N (doM N k xc s L)) :
    Calls Try.prog 12 #[.pointer (some ⟨g, 0, none⟩), .int .i64 c] w fun e w' => e = .returned (.tuple #[.int .i64 (lenM N c L 0 : Nat), .int .i64 (lenM N c L 1 : Nat)]) ∧ ∃ k, w' = w.drewN k := by
  have := Len_a g c N w _ h
  rw [do_apart N k xc c s L hc hne 0 (by omega), do_apart N k xc c s L hc hne 1 (by omega)] at this
  exact this

set_option maxRecDepth 100000 in
set_option maxHeartbeats 8000000 in
theorem LinkApart_any (v : Value) (acts : List ActR) (hle : acts.length ≤ 9223372036854775807) (w : World) (ha : ActsAt w v acts) (ak ac : Int) (sa : ByteArray) (other : Nat) (hoth : other < 256) :
    Calls Try.prog 6 #[v, .agg #[.int .i64 ak, .int .i64 ac, .string sa], .int .u8 other] w fun e w' => e = .returned (.bool true) ∧ Below w.heap.size w w' := by
  obtain ⟨ao, cp, rfl, _⟩ := id ha
  have hlen : ∃ len, Hid (len = acts.length) := ⟨_, rfl⟩
  obtain ⟨len, hl⟩ := hlen
  have hle' : len ≤ 9223372036854775807 := by rw [hl.out]; exact hle
  have HA : Hid (ActsAt w (.slice ao acts.length cp) acts) := ha
  rw [← hl.out]
  clear ha hle
  have hc4 : other % 4 < 4 := by omega
  go_enter Try.func6, Try.ntmps6
  go_wp2_with fail
  have hbx : Blk (w.alloc (.cells #[.int .i64 ak, .int .i64 ac, .string sa] 36)) w.heap.size 36 #[.int .i64 ak, .int .i64 ac, .string sa] := Blk.new _ _ _
  have hB0 : Below w.heap.size w (w.alloc (.cells #[.int .i64 ak, .int .i64 ac, .string sa] 36)) := (Below.refl _ _).alloc (Nat.le_refl _) _
  have hs0 : w.heap.size < (w.alloc (.cells #[.int .i64 ak, .int .i64 ac, .string sa] 36)).heap.size := hbx.lt
  generalize w.alloc (.cells #[.int .i64 ak, .int .i64 ac, .string sa] 36) = w0 at hbx hB0 hs0 ⊢
  have HX := Lib.hid hbx
  have HB0 := Lib.hid hB0
  clear hbx hB0
  refine (New_a 4 w0 (by omega) (by omega)).mono ?_
  rintro e w1 ⟨rfl, hL0, hg, hsz⟩
  have hB := Lib.hid (HB0.out.trans (below_of_grown (B := w.heap.size) hg (by omega)))
  have hz : w.heap.size ≤ w1.heap.size := by omega
  have HX := Lib.hid (HX.out.grown hg (by simp))
  have HL := Lib.hid hL0
  clear hL0 hg hsz HB0
  go_wp2_with fail
  refine (RNew 4 (by omega) (by omega) w1).mono ?_
  rintro e w2 ⟨u, d, rfl, hR, hg, hu, hd⟩
  have hu' : w.heap.size ≤ u := by omega
  have hd' : w.heap.size ≤ d := by omega
  have hux : w.heap.size ≠ u := by have := HX.out.lt; omega
  have hdx : w.heap.size ≠ d := by have := HX.out.lt; omega
  have hgx : w.heap.size ≠ w0.heap.size := by omega
  have HS : Hid (Sync w2 w0.heap.size (w1.heap.size + 2) u d 4 (fun _ => [])) := ⟨HL.out.grown hg, hR⟩
  have HX := Lib.hid (HX.out.grown hg (by simp))
  have hB := Lib.hid (hB.out.trans (below_of_grown hg hz))
  have hz2 := hB.out.size
  clear hR hg hu hd HL
  go_wp2_with fail
  refine (awake_any w2).mono ?_
  rintro e w3 ⟨rfl, hb⟩
  have HS := Lib.hid (HS.out.below hb)
  have hB := Lib.hid (hB.out.trans (hb.mono hz2))
  have HX := Lib.hid (HX.out.below hb HX.out.lt)
  clear hb
  go_wp2_with fail
  go_loopw [11] (fun i wr => ∃ k : Nat, k ≤ len ∧ k ≤ 40 ∧ i = .int .i64 k ∧ Below w.heap.size w wr ∧ Blk wr w.heap.size 36 #[.int .i64 ak, .int .i64 ac, .string sa] ∧ ∃ L, Sync wr w0.heap.size (w1.heap.size + 2) u d 4 L) (fun i _ => 100 - (intOf i).toNat)
  case atStart =>
    exact ⟨0, by omega, by omega, rfl, hB.out, HX.out, _, HS.out⟩
  case round =>
    obtain ⟨k, hk, hk60, rfl, hBr, hXr, L, hSr⟩ := hrel
    clear hB HS HX
    have hB := Lib.hid hBr
    have HS := Lib.hid hSr
    have HX := Lib.hid hXr
    have hz := hBr.size
    clear hBr hSr hXr
    by_cases hin : k < len ∧ k < 40
    · obtain ⟨hin1, hin2⟩ := hin
      obtain ⟨_, _, hv, hcells⟩ := HA.out.below hB.out
      injection hv with hv1 hv2 hv3
      subst hv1 hv3
      obtain ⟨b, o, rfl, c0, c1, c2⟩ := hcells k (by have := hl.out; omega)
      clear hcells hv2
      generalize acts[k]'(by have := hl.out; omega) = x at c0 c1 c2
      obtain ⟨xk, xc, xs⟩ := x
      dsimp only at c0 c1 c2
      cases hsh : shortB xs with
      | false =>
        have HSH := Lib.hid hsh
        clear hsh
        go_wp2_with fail
        refine (short_any xk xc xs wr).mono ?_
        rintro e w' ⟨rfl, hg⟩
        rw [HSH.out]
        have HS := Lib.hid (HS.out.grown hg)
        have hB := Lib.hid (hB.out.trans (below_of_grown hg hz))
        have HX := Lib.hid (HX.out.grown hg (by simp))
        clear hg
        go_wp2_with fail
        go_roundw
        case rel => exact ⟨k + 1, by omega, by omega, by go_num, hB.out, HX.out, L, HS.out⟩
        case measure => simp [intOf]; omega
      | true =>
        have HSH := Lib.hid hsh
        clear hsh
        have hbl : b < wr.heap.size := World.block_lt_of_cell? wr _ c0
        have C0 := Lib.hid c0
        have C1 := Lib.hid c1
        have C2 := Lib.hid c2
        go_wp2_with fail
        refine (short_any xk xc xs wr).mono ?_
        rintro e w4 ⟨rfl, hg⟩
        rw [HSH.out]
        have HS := Lib.hid (HS.out.grown hg)
        have hB := Lib.hid (hB.out.trans (below_of_grown hg hz))
        have HX := Lib.hid (HX.out.grown hg (by simp))
        have hbx := below_of_grown (B := wr.heap.size) hg (Nat.le_refl _)
        have c0 : w4.cell? _ = _ := (hbx.cell hbl).trans C0.out
        have c1 : w4.cell? _ = _ := (hbx.cell hbl).trans C1.out
        have c2 : w4.cell? _ = _ := (hbx.cell hbl).trans C2.out
        have hz4 := hB.out.size
        clear hg hbx
        go_wp2_with fail
        refine (do_any w0.heap.size (w1.heap.size + 2) u d 4 xk xc xs w4 L HS.out).mono ?_
        rintro e w5 ⟨rfl, hsy, ho⟩
        have HS := Lib.hid hsy
        have HX := Lib.hid (Only3.blk HX.out ho hgx hux hdx)
        have hB := Lib.hid (Only3.below hB.out ho (by omega) hu' hd' hz4)
        clear hsy ho
        go_wp2_with fail
        go_roundw
        case rel => exact ⟨k + 1, by omega, by omega, by go_num, hB.out, HX.out, _, HS.out⟩
        case measure => simp [intOf]; omega
    · have hguard : ¬ (k < len) ∨ (k < len ∧ ¬ k < 40) := by omega
      have x0 := HX.out.cell 0
      have x1 := HX.out.cell 1
      have x2 := HX.out.cell 2
      simp only [List.getElem?_toArray, List.getElem?_cons_zero, List.getElem?_cons_succ] at x0 x1 x2
      by_cases hac : ac = ((other % 4 : Nat) : Int)
      · subst hac
        rcases hguard with hgd | ⟨hgd, hgd'⟩
        all_goals
          go_wp2_with fail
          go_ret
          exact ⟨rfl, hB.out⟩
      · have hne : (ac == (other : Int) % 4) = false := beq_eq_false_iff_ne.2 (by omega)
        cases hsh : shortB sa with
        | false =>
          have HSH := Lib.hid hsh
          clear hsh
          rcases hguard with hgd | ⟨hgd, hgd'⟩
          all_goals
            go_wp2_with fail
            refine (short_any ak ac sa wr).mono ?_
            rintro e w' ⟨rfl, hg⟩
            rw [HSH.out]
            have hB := Lib.hid (hB.out.trans (below_of_grown hg hz))
            clear hg
            go_wp2_with fail
            go_ret
            exact ⟨rfl, hB.out⟩
        | true =>
          have HSH := Lib.hid hsh
          clear hsh
          have tail : ∀ (w4 : World) (L : Nat → List ByteArray), True := fun _ _ => trivial
          clear tail
          rcases hguard with hgd | ⟨hgd, hgd'⟩
          all_goals
            have X0 := Lib.hid x0
            have X1 := Lib.hid x1
            have X2 := Lib.hid x2
            go_wp2_with fail
            refine (short_any ak ac sa wr).mono ?_
            rintro e w4 ⟨rfl, hg⟩
            rw [HSH.out]
            have HS := Lib.hid (HS.out.grown hg)
            have hB := Lib.hid (hB.out.trans (below_of_grown hg hz))
            have HX := Lib.hid (HX.out.grown hg (by simp))
            have hz4 := hB.out.size
            clear hg x0 x1 x2
            go_wp2_with fail
            have hLL := Lib.hid HS.out.link.2
            refine (Len_a w0.heap.size _ 4 w4 L HS.out.link).mono ?_
            rintro e w5 ⟨rfl, q, rfl⟩
            have x0 := HX.out.cell 0
            have x1 := HX.out.cell 1
            have x2 := HX.out.cell 2
            simp only [List.getElem?_toArray, List.getElem?_cons_zero, List.getElem?_cons_succ] at x0 x1 x2
            go_wp2_with fail
            refine (do_any w0.heap.size (w1.heap.size + 2) u d 4 ak ac sa (w4.drewN q) L (HS.out.drewN q)).mono ?_
            rintro e w6 ⟨rfl, hsy, ho⟩
            have hcB : isB ((other : Int) % 4) 4 = true := isB_of (by omega) (by omega)
            have HS := Lib.hid hsy
            have hB := Lib.hid (Only3.below (hB.out.drewN q) ho (by omega) hu' hd' hz4)
            have hz6 := hB.out.size
            have hln := lenM_small (N := (4 : Int)) (hLL.out) ((other : Int) % 4) 0
            have HC := Lib.hid (Len_after w0.heap.size 4 ak ac ((other : Int) % 4) sa L hcB (by omega) w6 HS.out.link)
            clear hsy ho x0 x1 x2
            go_wp2_with fail
            refine HC.out.mono ?_
            rintro e w7 ⟨rfl, q2, rfl⟩
            have HS := Lib.hid (HS.out.drewN q2)
            have hB := Lib.hid (hB.out.drewN q2)
            clear HC
            go_wp2_with fail
            go_loopw [16] (fun i wr => ∃ k : Nat, k ≤ lenM 4 ((other : Int) % 4) L 0 ∧ i = .int .i64 k ∧ Below w.heap.size w wr ∧ ∃ L, Sync wr w0.heap.size (w1.heap.size + 2) u d 4 L) (fun i _ => 1000 - (intOf i).toNat)
            case atStart =>
              exact ⟨0, Nat.zero_le _, rfl, hB.out, _, HS.out⟩
            case round =>
              obtain ⟨k2, hk2, rfl, hBr, L2, hSr⟩ := hrel
              clear hB HS
              rename World => wr2
              have hB := Lib.hid hBr
              have HS := Lib.hid hSr
              have hz := hBr.size
              clear hBr hSr
              by_cases hlt : k2 < lenM 4 ((other : Int) % 4) L 0
              · go_wp2_with fail
                refine (TakeUp_any w0.heap.size ((other : Int) % 4) 4 wr2 L2 HS.out.link).mono ?_
                rintro e w8 ⟨rfl, hm⟩
                obtain ⟨_, hgb⟩ := HS.out.link.1.1.blk
                obtain ⟨m1, m2, m3, m4, m5, m6⟩ := HS.out.ne
                have hr2 := Lib.hid (HS.out.ref.far hgb hm.only)
                have hl2 := Lib.hid hm.link
                have hB := Lib.hid (hm.below hB.out (by omega) hz)
                have hz8 := hB.out.size
                have cx := hr2.out.blk.cell 0
                simp only [List.getElem?_toArray, List.getElem?_cons_zero] at cx
                clear hm hgb
                go_wp2_with fail
                refine (RTake_any (w1.heap.size + 2) u u 4 0 (by omega) ((other : Int) % 4) w8 L2 (by simpa using cx) hr2.out.up).mono ?_
                rintro e w9 ⟨rfl, hT, ho⟩
                obtain ⟨_, htb⟩ := hr2.out.up.blk
                have hsy : Hid (Sync w9 w0.heap.size (w1.heap.size + 2) u d 4 (takeM 4 ((other : Int) % 4) L2 0)) := by
                  refine ⟨hl2.out.far ho htb (by decide) (by omega), hr2.out.blk.grown ho (by simp; omega), hT, ?_, m6⟩
                  rw [take_row _ _ _ 0 1 (by omega) (by omega) (by omega)]
                  exact hr2.out.down.only ho htb (by decide) (by omega)
                have hB := Lib.hid (hB.out.trans (below_of_only ho hu' hz8))
                clear hT ho htb cx
                go_wp2_with fail
                go_roundw
                case rel => exact ⟨k2 + 1, by omega, by go_num, hB.out, _, hsy.out⟩
                case measure => simp [intOf]; omega
              · go_wp2_with fail
                go_ret
                exact ⟨rfl, hB.out⟩
end Go.Proofs.Ytdfdgcknahmnnaa
