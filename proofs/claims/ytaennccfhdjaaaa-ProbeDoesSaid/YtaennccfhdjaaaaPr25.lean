/- do: a call of both probers. -/
import Derived.Test.YtaennccfhdjaaaaPr24
namespace Go.Proofs.Ytaennccfhdjaaaa
open Go.RowKit Go.Proofs
set_option linter.unusedSimpArgs false
set_option linter.unusedVariables false
/-- Both probers say the same. -/
structure Sync (w : World) (base p g x d N me now nx : Nat) (D : Int → Int) (E : Nat → Int) : Prop where
  pr : ProbAt w base p g N me now nx D
  rf : RefAt w base x d N me now nx E
  ds : ∀ j : Nat, j < N → j ≠ me → D j = E j
  dm : D (-1) = E me
  nx : nx < N
  pb : base ≤ p
  xb : base ≤ x
  bs : base ≤ w.heap.size
theorem Sync.below {w w' : World} {base p g x d N me now nx : Nat} {D : Int → Int} {E : Nat → Int} (h : Sync w base p g x d N me now nx D E) (hb : Below w.heap.size w w') : Sync w' base p g x d N me now nx D E :=
  ⟨h.pr.below hb, h.rf.below hb, h.ds, h.dm, h.nx, h.pb, h.xb, Nat.le_trans h.bs hb.size⟩
/-- A call of both goes well. -/
def DoP (base p x d N me now : Nat) (w : World) (e : Ending) (w' : World) : Prop :=
  e = .returned (.bool true) ∧ Below base w w' ∧ w.heap.size < w'.heap.size ∧ ∃ (g' now' nx' : Nat) (D' : Int → Int) (E' : Nat → Int), now' ≤ now + 1 ∧ Sync w' base p g' x d N me now' nx' D' E'
theorem hop_below {w w' : World} {base p g : Nat} {o : Option Nat} (hH : Hop p (some g) o w w') (hp : base ≤ p) (hg : base ≤ g) (hb : base ≤ w.heap.size) : Below base w w' :=
  hH.below' (Below.refl _ _) hp (fun k hk => by have := Option.some.inj hk; omega) hb
theorem RefAt.ne_box {w : World} {base x d N me : Nat} {now next : Int} {E : Nat → Int} (h : RefAt w base x d N me now next E) {b : Nat} {cs : Array Value} (hb : Blk w b 29 cs) : b ≠ x ∧ some b ≠ some d := by
  obtain ⟨cap, hk, ho⟩ := h.blk
  obtain ⟨c, hc, _⟩ := own_blk ho (g := d) rfl
  exact ⟨fun e => Blk.ne_ hb hk (by decide) e, fun e => Blk.ne_ hb hc (by decide) (Option.some.inj e)⟩
set_option maxRecDepth 100000 in
set_option maxHeartbeats 8000000 in
theorem do_any (base p g x d N me now nx : Nat) (D : Int → Int) (E : Nat → Int) (k c : Int) (w : World) (hS : Sync w base p g x d N me now nx D E) (h1 : now ≤ 1000) :
    Calls Try.prog 13 #[.pointer (some ⟨p, 0, none⟩), .pointer (some ⟨x, 0, none⟩), .agg #[.int .i64 k, .int .i64 c]] w fun e w' => DoP base p x d N me now w e w' := by
  have HS := Lib.hid (hS.below ((Below.refl _ _).alloc (Nat.le_refl _) (.cells #[.int .i64 k, .int .i64 c] 29)))
  have HB := Lib.hid (show Below base w (w.alloc (.cells #[.int .i64 k, .int .i64 c] 29)) from ((Below.refl _ _).alloc (Nat.le_refl _) _).mono hS.bs)
  have hbx := Blk.new w 29 #[.int .i64 k, .int .i64 c]
  have HLT := Lib.hid (show w.heap.size < (w.alloc (.cells #[.int .i64 k, .int .i64 c] 29)).heap.size by simp)
  have HW := Lib.hid (show w.heap.size = w.heap.size from rfl)
  by_cases hk0 : k = 0
  · subst hk0
    as_aux_lemma =>
      go_enter Try.func13, Try.ntmps13
      go_upto_region 7 with (fail)
      generalize w.alloc (.cells #[.int .i64 0, .int .i64 c] 29) = w2 at HS HB hbx HLT ⊢
      generalize hbw : w.heap.size = bx at hbx HLT ⊢
      have HBW := Lib.hid hbw
      clear hbw
      have b0 := hbx.cell 0
      have b1 := hbx.cell 1
      have HBX := Lib.hid hbx
      clear hbx hS
      clear b1
      have hbn : base ≤ w2.heap.size := HS.out.bs
      go_wp2_with fail
      refine (tick_any base p g N me now (now + 1) rfl nx D false w2 HS.out.pr (by omega) (by omega) HS.out.nx HS.out.bs).mono ?_
      rintro e w3 h
      obtain ⟨v6, out, g', rfl, ho, hm, hs, hn, hA, hH, hol⟩ := h
      have HA3 := Lib.hid hA
      have HR3 := Lib.hid (HS.out.rf.other HS.out.pr hH)
      have HO3 := Lib.hid ho
      have HB3 := Lib.hid (HB.out.trans (hop_below hH HS.out.pb HS.out.pr.gb HS.out.bs))
      have HM := Lib.hid hm
      have HSO := Lib.hid hs
      have HN := Lib.hid hn
      have HSZ := Lib.hid hH.size
      have HGB := Lib.hid hA.gb
      have HON := Lib.hid (fun kk (hk : v6.ownBlock = some kk) => (own_blk ho hk).choose_spec.2)
      have b0 : w3.cell? ⟨bx, 0, none⟩ = _ := (World.cell?_of_block (hH.block bx HBX.out.lt (HS.out.pr.ne_box HBX.out).1 (HS.out.pr.ne_box HBX.out).2)).trans (HBX.out.cell 0)
      clear hA ho hm hs hn hH
      generalize hrr : (if readsT D (now + 1) false = true then (nx : Int) else -1) = r
      have HRR := Lib.hid hrr
      clear hrr
      go_wp2_with fail
      refine (rtick_any base x d N me now (now + 1) rfl nx E D false out w3 HR3.out (by omega) (by omega) HS.out.nx HS.out.ds HS.out.dm HM.out HSO.out HN.out (by have := HS.out.pr.eight; omega)).mono ?_
      rintro e w4 ⟨v7, E', rfl, ho7, hR, hds, hdm, hH⟩
      have HA4 := Lib.hid (HA3.out.other HR3.out hH)
      have HR4 := Lib.hid hR
      have HB4 := Lib.hid (HB3.out.trans (hop_below hH HS.out.xb HS.out.rf.lts.2.2 (Nat.le_trans HS.out.bs HSZ.out)))
      have HI6 := Lib.hid (IntsAt.of_own (own_hop HO3.out hH (fun e => by have := HON.out _ e; have := HS.out.rf.lts.1; omega) (fun kk hk e => by have := HON.out _ hk; have := HS.out.rf.lts.2.1; have := Option.some.inj e; omega)))
      have HI7 := Lib.hid (IntsAt.of_own ho7)
      have HDS := Lib.hid hds
      have HSZ4 := Lib.hid hH.size
      have HDM := Lib.hid hdm
      clear ho7 hR hds hdm hH b0
      rw [HRR.out]
      obtain ⟨a6, c6, rfl⟩ := own_slice HO3.out
      go_wp2_with fail
      refine (ints_any _ v7 out out w4 HI6.out HI7.out (by have := HS.out.pr.eight; omega)).mono ?_
      rintro e w5 ⟨rfl, hb⟩
      rw [decide_eq_true (rfl : out = out)]
      have hbs4 : base ≤ w4.heap.size := Nat.le_trans HS.out.bs (Nat.le_trans HSZ.out HSZ4.out)
      have HS5 := Lib.hid (show Sync w5 base p g' x d N me (now + 1) (if readsT D (now + 1) false = true then stepN N me nx else nx) _ E' from ⟨by simpa using HA4.out.below hb, by simpa using HR4.out.below hb, HDS.out, HDM.out, by split <;> first | exact stepN_lt (by have := HS.out.pr.two; omega) | exact HS.out.nx, HS.out.pb, HS.out.xb, Nat.le_trans hbs4 hb.size⟩)
      have HB5 := Lib.hid (HB4.out.trans (hb.mono hbs4))
      have HSZ5 := Lib.hid hb.size
      clear hb
      go_wp2_with fail
      go_ret
      exact ⟨by simp, HB5.out, by rw [HBW.out]; have := HLT.out; have := HSZ.out; have := HSZ4.out; have := HSZ5.out; omega, g', now + 1, _, _, E', by omega, HS5.out⟩
  by_cases hk1 : k = 1
  · subst hk1
    as_aux_lemma =>
      go_enter Try.func13, Try.ntmps13
      go_upto_region 7 with (fail)
      generalize w.alloc (.cells #[.int .i64 1, .int .i64 c] 29) = w2 at HS HB hbx HLT ⊢
      generalize hbw : w.heap.size = bx at hbx HLT ⊢
      have HBW := Lib.hid hbw
      clear hbw
      have b0 := hbx.cell 0
      have b1 := hbx.cell 1
      have HBX := Lib.hid hbx
      clear hbx hS
      clear b1
      have hbn : base ≤ w2.heap.size := HS.out.bs
      go_wp2_with fail
      refine (tick_any base p g N me now (now + 1) rfl nx D false w2 HS.out.pr (by omega) (by omega) HS.out.nx HS.out.bs).mono ?_
      rintro e w3 h
      obtain ⟨v6, out, g', rfl, ho, hm, hs, hn, hA, hH, hol⟩ := h
      have HA3 := Lib.hid hA
      have HR3 := Lib.hid (HS.out.rf.other HS.out.pr hH)
      have HO3 := Lib.hid ho
      have HB3 := Lib.hid (HB.out.trans (hop_below hH HS.out.pb HS.out.pr.gb HS.out.bs))
      have HM := Lib.hid hm
      have HSO := Lib.hid hs
      have HN := Lib.hid hn
      have HSZ := Lib.hid hH.size
      have HGB := Lib.hid hA.gb
      have HON := Lib.hid (fun kk (hk : v6.ownBlock = some kk) => (own_blk ho hk).choose_spec.2)
      have b0 : w3.cell? ⟨bx, 0, none⟩ = _ := (World.cell?_of_block (hH.block bx HBX.out.lt (HS.out.pr.ne_box HBX.out).1 (HS.out.pr.ne_box HBX.out).2)).trans (HBX.out.cell 0)
      clear hA ho hm hs hn hH
      generalize hrr : (if readsT D (now + 1) false = true then (nx : Int) else -1) = r
      have HRR := Lib.hid hrr
      clear hrr
      go_wp2_with fail
      refine (rtick_any base x d N me now (now + 1) rfl nx E D false out w3 HR3.out (by omega) (by omega) HS.out.nx HS.out.ds HS.out.dm HM.out HSO.out HN.out (by have := HS.out.pr.eight; omega)).mono ?_
      rintro e w4 ⟨v7, E', rfl, ho7, hR, hds, hdm, hH⟩
      have HA4 := Lib.hid (HA3.out.other HR3.out hH)
      have HR4 := Lib.hid hR
      have HB4 := Lib.hid (HB3.out.trans (hop_below hH HS.out.xb HS.out.rf.lts.2.2 (Nat.le_trans HS.out.bs HSZ.out)))
      have HI6 := Lib.hid (IntsAt.of_own (own_hop HO3.out hH (fun e => by have := HON.out _ e; have := HS.out.rf.lts.1; omega) (fun kk hk e => by have := HON.out _ hk; have := HS.out.rf.lts.2.1; have := Option.some.inj e; omega)))
      have HI7 := Lib.hid (IntsAt.of_own ho7)
      have HDS := Lib.hid hds
      have HSZ4 := Lib.hid hH.size
      have HDM := Lib.hid hdm
      clear ho7 hR hds hdm hH b0
      rw [HRR.out]
      obtain ⟨a6, c6, rfl⟩ := own_slice HO3.out
      go_wp2_with fail
      refine (ints_any _ v7 out out w4 HI6.out HI7.out (by have := HS.out.pr.eight; omega)).mono ?_
      rintro e w5 ⟨rfl, hb⟩
      rw [decide_eq_true (rfl : out = out)]
      have hbs4 : base ≤ w4.heap.size := Nat.le_trans HS.out.bs (Nat.le_trans HSZ.out HSZ4.out)
      have HS5 := Lib.hid (show Sync w5 base p g' x d N me (now + 1) (if readsT D (now + 1) false = true then stepN N me nx else nx) _ E' from ⟨by simpa using HA4.out.below hb, by simpa using HR4.out.below hb, HDS.out, HDM.out, by split <;> first | exact stepN_lt (by have := HS.out.pr.two; omega) | exact HS.out.nx, HS.out.pb, HS.out.xb, Nat.le_trans hbs4 hb.size⟩)
      have HB5 := Lib.hid (HB4.out.trans (hb.mono hbs4))
      have HSZ5 := Lib.hid hb.size
      clear hb
      go_wp2_with fail
      go_ret
      exact ⟨by simp, HB5.out, by rw [HBW.out]; have := HLT.out; have := HSZ.out; have := HSZ4.out; have := HSZ5.out; omega, g', now + 1, _, _, E', by omega, HS5.out⟩
  by_cases hk2 : k = 2
  · subst hk2
    as_aux_lemma =>
      go_enter Try.func13, Try.ntmps13
      go_upto_region 7 with (fail)
      generalize w.alloc (.cells #[.int .i64 2, .int .i64 c] 29) = w2 at HS HB hbx HLT ⊢
      generalize hbw : w.heap.size = bx at hbx HLT ⊢
      have HBW := Lib.hid hbw
      clear hbw
      have b0 := hbx.cell 0
      have b1 := hbx.cell 1
      have HBX := Lib.hid hbx
      clear hbx hS
      clear b1
      have hbn : base ≤ w2.heap.size := HS.out.bs
      go_wp2_with fail
      refine (tick_any base p g N me now (now + 1) rfl nx D false w2 HS.out.pr (by omega) (by omega) HS.out.nx HS.out.bs).mono ?_
      rintro e w3 h
      obtain ⟨v6, out, g', rfl, ho, hm, hs, hn, hA, hH, hol⟩ := h
      have HA3 := Lib.hid hA
      have HR3 := Lib.hid (HS.out.rf.other HS.out.pr hH)
      have HO3 := Lib.hid ho
      have HB3 := Lib.hid (HB.out.trans (hop_below hH HS.out.pb HS.out.pr.gb HS.out.bs))
      have HM := Lib.hid hm
      have HSO := Lib.hid hs
      have HN := Lib.hid hn
      have HSZ := Lib.hid hH.size
      have HGB := Lib.hid hA.gb
      have HON := Lib.hid (fun kk (hk : v6.ownBlock = some kk) => (own_blk ho hk).choose_spec.2)
      have b0 : w3.cell? ⟨bx, 0, none⟩ = _ := (World.cell?_of_block (hH.block bx HBX.out.lt (HS.out.pr.ne_box HBX.out).1 (HS.out.pr.ne_box HBX.out).2)).trans (HBX.out.cell 0)
      clear hA ho hm hs hn hH
      generalize hrr : (if readsT D (now + 1) false = true then (nx : Int) else -1) = r
      have HRR := Lib.hid hrr
      clear hrr
      go_wp2_with fail
      refine (rtick_any base x d N me now (now + 1) rfl nx E D false out w3 HR3.out (by omega) (by omega) HS.out.nx HS.out.ds HS.out.dm HM.out HSO.out HN.out (by have := HS.out.pr.eight; omega)).mono ?_
      rintro e w4 ⟨v7, E', rfl, ho7, hR, hds, hdm, hH⟩
      have HA4 := Lib.hid (HA3.out.other HR3.out hH)
      have HR4 := Lib.hid hR
      have HB4 := Lib.hid (HB3.out.trans (hop_below hH HS.out.xb HS.out.rf.lts.2.2 (Nat.le_trans HS.out.bs HSZ.out)))
      have HI6 := Lib.hid (IntsAt.of_own (own_hop HO3.out hH (fun e => by have := HON.out _ e; have := HS.out.rf.lts.1; omega) (fun kk hk e => by have := HON.out _ hk; have := HS.out.rf.lts.2.1; have := Option.some.inj e; omega)))
      have HI7 := Lib.hid (IntsAt.of_own ho7)
      have HDS := Lib.hid hds
      have HSZ4 := Lib.hid hH.size
      have HDM := Lib.hid hdm
      clear ho7 hR hds hdm hH b0
      rw [HRR.out]
      obtain ⟨a6, c6, rfl⟩ := own_slice HO3.out
      go_wp2_with fail
      refine (ints_any _ v7 out out w4 HI6.out HI7.out (by have := HS.out.pr.eight; omega)).mono ?_
      rintro e w5 ⟨rfl, hb⟩
      rw [decide_eq_true (rfl : out = out)]
      have hbs4 : base ≤ w4.heap.size := Nat.le_trans HS.out.bs (Nat.le_trans HSZ.out HSZ4.out)
      have HS5 := Lib.hid (show Sync w5 base p g' x d N me (now + 1) (if readsT D (now + 1) false = true then stepN N me nx else nx) _ E' from ⟨by simpa using HA4.out.below hb, by simpa using HR4.out.below hb, HDS.out, HDM.out, by split <;> first | exact stepN_lt (by have := HS.out.pr.two; omega) | exact HS.out.nx, HS.out.pb, HS.out.xb, Nat.le_trans hbs4 hb.size⟩)
      have HB5 := Lib.hid (HB4.out.trans (hb.mono hbs4))
      have HSZ5 := Lib.hid hb.size
      clear hb
      go_wp2_with fail
      go_ret
      exact ⟨by simp, HB5.out, by rw [HBW.out]; have := HLT.out; have := HSZ.out; have := HSZ4.out; have := HSZ5.out; omega, g', now + 1, _, _, E', by omega, HS5.out⟩
  by_cases hk3 : k = 3
  · subst hk3
    as_aux_lemma =>
      go_enter Try.func13, Try.ntmps13
      go_upto_region 7 with (fail)
      generalize w.alloc (.cells #[.int .i64 3, .int .i64 c] 29) = w2 at HS HB hbx HLT ⊢
      generalize hbw : w.heap.size = bx at hbx HLT ⊢
      have HBW := Lib.hid hbw
      clear hbw
      have b0 := hbx.cell 0
      have b1 := hbx.cell 1
      have HBX := Lib.hid hbx
      clear hbx hS
      clear b1
      have hbn : base ≤ w2.heap.size := HS.out.bs
      go_wp2_with fail
      refine (tick_any base p g N me now (now + 1) rfl nx D false w2 HS.out.pr (by omega) (by omega) HS.out.nx HS.out.bs).mono ?_
      rintro e w3 h
      obtain ⟨v6, out, g', rfl, ho, hm, hs, hn, hA, hH, hol⟩ := h
      have HA3 := Lib.hid hA
      have HR3 := Lib.hid (HS.out.rf.other HS.out.pr hH)
      have HO3 := Lib.hid ho
      have HB3 := Lib.hid (HB.out.trans (hop_below hH HS.out.pb HS.out.pr.gb HS.out.bs))
      have HM := Lib.hid hm
      have HSO := Lib.hid hs
      have HN := Lib.hid hn
      have HSZ := Lib.hid hH.size
      have HGB := Lib.hid hA.gb
      have HON := Lib.hid (fun kk (hk : v6.ownBlock = some kk) => (own_blk ho hk).choose_spec.2)
      have b0 : w3.cell? ⟨bx, 0, none⟩ = _ := (World.cell?_of_block (hH.block bx HBX.out.lt (HS.out.pr.ne_box HBX.out).1 (HS.out.pr.ne_box HBX.out).2)).trans (HBX.out.cell 0)
      clear hA ho hm hs hn hH
      generalize hrr : (if readsT D (now + 1) false = true then (nx : Int) else -1) = r
      have HRR := Lib.hid hrr
      clear hrr
      go_wp2_with fail
      refine (rtick_any base x d N me now (now + 1) rfl nx E D false out w3 HR3.out (by omega) (by omega) HS.out.nx HS.out.ds HS.out.dm HM.out HSO.out HN.out (by have := HS.out.pr.eight; omega)).mono ?_
      rintro e w4 ⟨v7, E', rfl, ho7, hR, hds, hdm, hH⟩
      have HA4 := Lib.hid (HA3.out.other HR3.out hH)
      have HR4 := Lib.hid hR
      have HB4 := Lib.hid (HB3.out.trans (hop_below hH HS.out.xb HS.out.rf.lts.2.2 (Nat.le_trans HS.out.bs HSZ.out)))
      have HI6 := Lib.hid (IntsAt.of_own (own_hop HO3.out hH (fun e => by have := HON.out _ e; have := HS.out.rf.lts.1; omega) (fun kk hk e => by have := HON.out _ hk; have := HS.out.rf.lts.2.1; have := Option.some.inj e; omega)))
      have HI7 := Lib.hid (IntsAt.of_own ho7)
      have HDS := Lib.hid hds
      have HSZ4 := Lib.hid hH.size
      have HDM := Lib.hid hdm
      clear ho7 hR hds hdm hH b0
      rw [HRR.out]
      obtain ⟨a6, c6, rfl⟩ := own_slice HO3.out
      go_wp2_with fail
      refine (ints_any _ v7 out out w4 HI6.out HI7.out (by have := HS.out.pr.eight; omega)).mono ?_
      rintro e w5 ⟨rfl, hb⟩
      rw [decide_eq_true (rfl : out = out)]
      have hbs4 : base ≤ w4.heap.size := Nat.le_trans HS.out.bs (Nat.le_trans HSZ.out HSZ4.out)
      have HS5 := Lib.hid (show Sync w5 base p g' x d N me (now + 1) (if readsT D (now + 1) false = true then stepN N me nx else nx) _ E' from ⟨by simpa using HA4.out.below hb, by simpa using HR4.out.below hb, HDS.out, HDM.out, by split <;> first | exact stepN_lt (by have := HS.out.pr.two; omega) | exact HS.out.nx, HS.out.pb, HS.out.xb, Nat.le_trans hbs4 hb.size⟩)
      have HB5 := Lib.hid (HB4.out.trans (hb.mono hbs4))
      have HSZ5 := Lib.hid hb.size
      clear hb
      go_wp2_with fail
      go_ret
      exact ⟨by simp, HB5.out, by rw [HBW.out]; have := HLT.out; have := HSZ.out; have := HSZ4.out; have := HSZ5.out; omega, g', now + 1, _, _, E', by omega, HS5.out⟩
  by_cases hk4 : k = 4
  · subst hk4
    as_aux_lemma =>
      go_enter Try.func13, Try.ntmps13
      go_upto_region 7 with (fail)
      generalize w.alloc (.cells #[.int .i64 4, .int .i64 c] 29) = w2 at HS HB hbx HLT ⊢
      generalize hbw : w.heap.size = bx at hbx HLT ⊢
      have HBW := Lib.hid hbw
      clear hbw
      have b0 := hbx.cell 0
      have b1 := hbx.cell 1
      have HBX := Lib.hid hbx
      clear hbx hS
      clear b1
      have hbn : base ≤ w2.heap.size := HS.out.bs
      go_wp2_with fail
      refine (tick_any base p g N me now (now + 1) rfl nx D true w2 HS.out.pr (by omega) (by omega) HS.out.nx HS.out.bs).mono ?_
      rintro e w3 h
      obtain ⟨v6, out, g', rfl, ho, hm, hs, hn, hA, hH, hol⟩ := h
      have HA3 := Lib.hid hA
      have HR3 := Lib.hid (HS.out.rf.other HS.out.pr hH)
      have HO3 := Lib.hid ho
      have HB3 := Lib.hid (HB.out.trans (hop_below hH HS.out.pb HS.out.pr.gb HS.out.bs))
      have HM := Lib.hid hm
      have HSO := Lib.hid hs
      have HN := Lib.hid hn
      have HSZ := Lib.hid hH.size
      have HGB := Lib.hid hA.gb
      have HON := Lib.hid (fun kk (hk : v6.ownBlock = some kk) => (own_blk ho hk).choose_spec.2)
      have b0 : w3.cell? ⟨bx, 0, none⟩ = _ := (World.cell?_of_block (hH.block bx HBX.out.lt (HS.out.pr.ne_box HBX.out).1 (HS.out.pr.ne_box HBX.out).2)).trans (HBX.out.cell 0)
      clear hA ho hm hs hn hH
      generalize hrr : (if readsT D (now + 1) true = true then (nx : Int) else -1) = r
      have HRR := Lib.hid hrr
      clear hrr
      go_wp2_with fail
      refine (rtick_any base x d N me now (now + 1) rfl nx E D true out w3 HR3.out (by omega) (by omega) HS.out.nx HS.out.ds HS.out.dm HM.out HSO.out HN.out (by have := HS.out.pr.eight; omega)).mono ?_
      rintro e w4 ⟨v7, E', rfl, ho7, hR, hds, hdm, hH⟩
      have HA4 := Lib.hid (HA3.out.other HR3.out hH)
      have HR4 := Lib.hid hR
      have HB4 := Lib.hid (HB3.out.trans (hop_below hH HS.out.xb HS.out.rf.lts.2.2 (Nat.le_trans HS.out.bs HSZ.out)))
      have HI6 := Lib.hid (IntsAt.of_own (own_hop HO3.out hH (fun e => by have := HON.out _ e; have := HS.out.rf.lts.1; omega) (fun kk hk e => by have := HON.out _ hk; have := HS.out.rf.lts.2.1; have := Option.some.inj e; omega)))
      have HI7 := Lib.hid (IntsAt.of_own ho7)
      have HDS := Lib.hid hds
      have HSZ4 := Lib.hid hH.size
      have HDM := Lib.hid hdm
      clear ho7 hR hds hdm hH b0
      rw [HRR.out]
      obtain ⟨a6, c6, rfl⟩ := own_slice HO3.out
      go_wp2_with fail
      refine (ints_any _ v7 out out w4 HI6.out HI7.out (by have := HS.out.pr.eight; omega)).mono ?_
      rintro e w5 ⟨rfl, hb⟩
      rw [decide_eq_true (rfl : out = out)]
      have hbs4 : base ≤ w4.heap.size := Nat.le_trans HS.out.bs (Nat.le_trans HSZ.out HSZ4.out)
      have HS5 := Lib.hid (show Sync w5 base p g' x d N me (now + 1) (if readsT D (now + 1) true = true then stepN N me nx else nx) _ E' from ⟨by simpa using HA4.out.below hb, by simpa using HR4.out.below hb, HDS.out, HDM.out, by split <;> first | exact stepN_lt (by have := HS.out.pr.two; omega) | exact HS.out.nx, HS.out.pb, HS.out.xb, Nat.le_trans hbs4 hb.size⟩)
      have HB5 := Lib.hid (HB4.out.trans (hb.mono hbs4))
      have HSZ5 := Lib.hid hb.size
      clear hb
      go_wp2_with fail
      go_ret
      exact ⟨by simp, HB5.out, by rw [HBW.out]; have := HLT.out; have := HSZ.out; have := HSZ4.out; have := HSZ5.out; omega, g', now + 1, _, _, E', by omega, HS5.out⟩
  by_cases hk5 : k = 5
  · subst hk5
    as_aux_lemma =>
      go_enter Try.func13, Try.ntmps13
      go_upto_region 11 with (fail)
      generalize w.alloc (.cells #[.int .i64 5, .int .i64 c] 29) = w2 at HS HB hbx HLT ⊢
      generalize hbw : w.heap.size = bx at hbx HLT ⊢
      have HBW := Lib.hid hbw
      clear hbw
      have b0 := hbx.cell 0
      have b1 := hbx.cell 1
      have HBX := Lib.hid hbx
      clear hbx hS
      clear b0 b1
      have q1 : ∀ w', KeptOn (fun b => b = bx) w2.drew w' → w'.cell? ⟨bx, 1, none⟩ = some (.int .i64 c) := fun w' h => h.cell (w := w2.drew) (HBX.out.cell 1) rfl
      refine wp_region_pure (KeptOn fun b => b = bx) (KeptOn.refl _) (KeptOn.trans) [(0,3),(1,3),(2,0),(4,3),(5,3),(6,0),(3,1),(7,2),(8,3),(9,3)] (by kernel_rfl) (by kernel_rfl) ?_
      iterate 2 (refine pure_pure (v := ?_) rfl (fun _ _ _ h => h) (by rfl) (fun w' => ?_) ?_; rotate_left; (go_simp; try with_reducible rfl); simp only [Act.put, List.setIfInBounds_toArray, List.set_cons_zero, List.set_cons_succ])
      iterate 1 (refine pure_quiet (v := ?_) rfl (fun _ _ _ h => h) (by rfl) (fun w' hR => ?_) ?_; rotate_left; (go_simp; try with_reducible rfl); simp only [Act.put, List.setIfInBounds_toArray, List.set_cons_zero, List.set_cons_succ])
      iterate 2 (refine pure_pure (v := ?_) rfl (fun _ _ _ h => h) (by rfl) (fun w' => ?_) ?_; rotate_left; (go_simp; try with_reducible rfl); simp only [Act.put, List.setIfInBounds_toArray, List.set_cons_zero, List.set_cons_succ])
      iterate 1 (refine pure_quiet (v := ?_) rfl (fun _ _ _ h => h) (by rfl) (fun w' hR => ?_) ?_; rotate_left; (go_simp; try with_reducible rfl); simp only [Act.put, List.setIfInBounds_toArray, List.set_cons_zero, List.set_cons_succ])
      clear q1
      have HS2 := Lib.hid (show Sync w2.drew base p g x d N me now nx D E from HS.out.below ((Below.refl _ _).drewN 1))
      have HB2 := Lib.hid (show Below base w w2.drew from HB.out.drewN 1)
      refine pure_eff rfl ?_
      go_wp2_with fail
      refine (heard_bool c HS2.out.pr (by omega) (by omega)).mono ?_
      rintro e w3 ⟨rfl, hA, hH⟩
      have HA3 := Lib.hid hA
      have HR3 := Lib.hid (HS2.out.rf.other HS2.out.pr hH)
      have HB3 := Lib.hid (HB2.out.trans (hop_below hH HS.out.pb HS.out.pr.gb HS2.out.bs))
      have HKe := Lib.hid (show KeptOn (fun b => b = bx) w2.drew w3 from ⟨hH.size, fun b hb hD => by
        subst hD
        have hbx : Blk w2.drew b 29 _ := HBX.out
        exact hH.block b hb (HS2.out.pr.ne_box hbx).1 (HS2.out.pr.ne_box hbx).2⟩)
      have HSZ := Lib.hid hH.size
      clear hA hH
      go_wp2_with fail
      refine purePost_need HKe.out ?_
      refine pure_eff2 rfl ?_
      cases hi : isB N me c with
      | false =>
        rw [hi] at HA3
        go_wp2_with fail
        refine (rheard_no base x d N me now nx E c w3 HR3.out hi).mono ?_
        rintro e w' ⟨rfl, rfl⟩
        go_wp2_with fail
        refine purePost_free ?_
        iterate 2 (refine pure_pure (v := ?_) rfl (fun _ _ _ h => h) (by rfl) (fun w' => ?_) ?_; rotate_left; (go_simp; try with_reducible rfl); simp only [Act.put, List.setIfInBounds_toArray, List.set_cons_zero, List.set_cons_succ])
        refine pure_done ?_
        go_wp2_with fail
        go_ret
        exact ⟨by simp, HB3.out, by rw [HBW.out]; have := HLT.out; have h : w2.heap.size ≤ _ := HSZ.out; omega, g, now, nx, D, E, by omega, by simpa using HA3.out, HR3.out, HS.out.ds, HS.out.dm, HS.out.nx, HS.out.pb, HS.out.xb, Nat.le_trans HS2.out.bs HSZ.out⟩
      | true =>
        rw [hi] at HA3
        obtain ⟨i, rfl⟩ := Int.eq_ofNat_of_zero_le (of_decide_eq_true hi).1
        have him := of_decide_eq_true hi
        go_wp2_with fail
        refine (rheard_yes base x d N me now nx E i w3 HR3.out hi (by omega) (by omega)).mono ?_
        rintro e w4 ⟨rfl, hR, hH⟩
        have HA4 := Lib.hid (HA3.out.other HR3.out hH)
        have HR4 := Lib.hid hR
        have HB4 := Lib.hid (HB3.out.trans (hop_below hH HS.out.xb HS.out.rf.lts.2.2 (Nat.le_trans HS2.out.bs HSZ.out)))
        have HSZ4 := Lib.hid hH.size
        clear hR hH
        go_wp2_with fail
        refine purePost_free ?_
        iterate 2 (refine pure_pure (v := ?_) rfl (fun _ _ _ h => h) (by rfl) (fun w' => ?_) ?_; rotate_left; (go_simp; try with_reducible rfl); simp only [Act.put, List.setIfInBounds_toArray, List.set_cons_zero, List.set_cons_succ])
        refine pure_done ?_
        go_wp2_with fail
        go_ret
        refine ⟨by simp, HB4.out, by rw [HBW.out]; have := HLT.out; have h : w2.heap.size ≤ _ := HSZ.out; have := HSZ4.out; omega, g, now, nx, setD D i (now + 4), updE E i (now + 4), by omega, by simpa using HA4.out, HR4.out, fun j hj hne => ?_, ?_, HS.out.nx, HS.out.pb, HS.out.xb, Nat.le_trans HS2.out.bs (Nat.le_trans HSZ.out HSZ4.out)⟩
        · unfold setD updE
          by_cases e : j = i
          · rw [if_pos (by omega), if_pos e]
          · rw [if_neg (by omega), if_neg e]; exact HS.out.ds j hj hne
        · unfold setD updE
          rw [if_neg (by omega), if_neg (by omega)]; exact HS.out.dm
  have hb0 : (k == (0 : Int)) = false := by simp [hk0]
  have hb1 : (k == (1 : Int)) = false := by simp [hk1]
  have hb2 : (k == (2 : Int)) = false := by simp [hk2]
  have hb3 : (k == (3 : Int)) = false := by simp [hk3]
  have hb4 : (k == (4 : Int)) = false := by simp [hk4]
  have hb5 : (k == (5 : Int)) = false := by simp [hk5]
  as_aux_lemma =>
    go_enter Try.func13, Try.ntmps13
    go_upto_region 12 with (fail)
    generalize w.alloc (.cells #[.int .i64 k, .int .i64 c] 29) = w2 at HS HB hbx HLT ⊢
    generalize hbw : w.heap.size = bx at hbx HLT ⊢
    have HBW := Lib.hid hbw
    clear hbw
    have b0 := hbx.cell 0
    have b1 := hbx.cell 1
    have HBX := Lib.hid hbx
    clear hbx hS
    clear b0 b1
    go_wp2_with fail
    refine (rasked_any base x d N me now nx E w2 HS.out.rf (by omega) (by omega)).mono ?_
    rintro e w3 ⟨rfl, hR, hH⟩
    have HA3 := Lib.hid (HS.out.pr.other HS.out.rf hH)
    have HR3 := Lib.hid hR
    have HB3 := Lib.hid (HB.out.trans (hop_below hH HS.out.xb HS.out.rf.lts.2.2 HS.out.bs))
    have HSZ := Lib.hid hH.size
    clear hR hH
    go_wp2_with fail
    refine (asked_any base p g N me now nx D w3 HA3.out (by omega) (by omega)).mono ?_
    rintro e w4 ⟨rfl, hA, hH⟩
    have HA4 := Lib.hid hA
    have HR4 := Lib.hid (HR3.out.other HA3.out hH)
    have HB4 := Lib.hid (HB3.out.trans (hop_below hH HS.out.pb HA3.out.gb (Nat.le_trans HS.out.bs HSZ.out)))
    have HSZ4 := Lib.hid hH.size
    clear hA hH
    go_wp2_with fail
    go_ret
    refine ⟨by simp, HB4.out, by rw [HBW.out]; have := HLT.out; have := HSZ.out; have := HSZ4.out; omega, g, now, nx, setD D (-1) (now + 7), updE E me (now + 7), by omega, HA4.out, HR4.out, fun j hj hne => ?_, ?_, HS.out.nx, HS.out.pb, HS.out.xb, Nat.le_trans HS.out.bs (Nat.le_trans HSZ.out HSZ4.out)⟩
    · unfold setD updE
      rw [if_neg (by omega), if_neg hne]; exact HS.out.ds j hj hne
    · unfold setD updE
      rw [if_pos rfl, if_pos rfl]
end Go.Proofs.Ytaennccfhdjaaaa
