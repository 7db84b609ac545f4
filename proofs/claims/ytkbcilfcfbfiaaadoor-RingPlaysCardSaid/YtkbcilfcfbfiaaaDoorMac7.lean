/- Numbers and texts, laid: the reference's. -/
import Derived.Test.YtkbcilfcfbfiaaaDoorMac6
import Derived.Test.YtkbcilfcfbfiaaaDoorFork
namespace Go.Proofs.YtkbcilfcfbfiaaaDoor
open Go.RowKit Go.Proofs
set_option linter.unusedSimpArgs false
set_option linter.unusedVariables false
theorem conv_one (w : World) (g : Nat) (c : UInt8) (h : Blk w g 5 #[bb c]) : (convert 29 9 (.slice (some ⟨g, 0, none⟩) 1 1)).run Tryd.prog w = .ok (.string (strOf [c])) w := by
  refine run_convert_bytes_back w 29 9 5 ⟨g, 0, none⟩ 1 [c] Tryd.underlying29 Tryd.underlying5 Tryd.underlying9 ?_
  intro j hj
  have hj0 : j = 0 := by simpa using hj
  subst hj0
  rw [Addr.add_mid]
  exact h.cell 0
set_option maxRecDepth 100000 in
set_option maxHeartbeats 2000000 in
theorem rdigits_any : ∀ (n : Nat), n < 9223372036854775808 → ∀ (w : World),
    Calls Tryd.prog 82 #[.int .i64 (n : Int)] w fun e w' => e = .returned (.string (strOf (digs n))) ∧ Below w.heap.size w w' := by
  intro n
  induction n using Nat.strongRecOn with
  | _ n ih =>
  intro hn w
  have IH := Lib.hid ih
  clear ih
  go_enter Tryd.func82, Tryd.ntmps82
  by_cases h10 : n < 10
  · have i1 : (n : Int) < 10 := by omega
    go_upto_region 2 with (fail)
    refine wp_region_lit ?_
    iterate 12 go_step
    have hc : (Value.int .u8 (48 + (n : Int))) = bb (UInt8.ofNat (48 + n)) := by
      unfold bb; rw [UInt8.toNat_ofNat']; congr 1; omega
    rw [hc]
    have hb := Blk.new w 5 #[bb (UInt8.ofNat (48 + n))]
    have HB := Lib.hid ((Below.refl w.heap.size w).alloc (Nat.le_refl _) (.cells #[bb (UInt8.ofNat (48 + n))] 5))
    have HE := Lib.hid (show strOf [UInt8.ofNat (48 + n)] = strOf (digs n) by rw [digs_low h10])
    generalize UInt8.ofNat (48 + n) = c at *
    generalize w.alloc (.cells #[bb c] 5) = w2 at hb HB ⊢
    refine wpList_runIs rfl _ w2 (execConvert 29 9 _ rfl (p := .slice (some ⟨w.heap.size, 0, none⟩) 1 1) rfl (conv_one w2 w.heap.size c hb)) ?_
    rw [HE.out]
    clear hc hb
    simp only [Act.put]
    go_wp2_with fail
    go_ret
    exact ⟨rfl, HB.out⟩
  · have i1 : ¬ ((n : Int) < 10) := by omega
    go_upto_region 3 with (fail)
    refine wp_region_ways (KeptOn fun _ => True) (KeptOn.refl _) (KeptOn.trans) (.quiet 0 (.quiet 1 (.quiet 3 (.quiet 4 (.quiet 5 (.quiet 6 (.fork 2 7 (.eff 7 0 (.quiet 8 (.quiet 9 (.quiet 10 .done)))) (.quiet 8 (.eff 2 0 (.quiet 9 (.quiet 10 .done))))))))))) (by kernel_rfl) (by kernel_rfl) ?_
    iterate 6 (refine ways_quiet (v := ?_) rfl (fun _ _ _ h => h) (by rfl) (fun w' hR => ?_) ?_; rotate_left; (go_simp; try with_reducible rfl); simp only [Act.put, List.setIfInBounds_toArray, List.set_cons_zero, List.set_cons_succ])
    have hn10 : n / 10 < n := by omega
    have hdiv : (n : Int) / 10 = ((n / 10 : Nat) : Int) := by omega
    have hc := dig_byte n
    have hcat : ∀ w', (Op.stringOp .add (strOf (digs (n / 10))) (strOf [UInt8.ofNat (48 + n % 10)])).run Tryd.prog w' = .ok (.string (strOf (digs n))) w' := fun w' => by
      rw [digs_high (n := n) (by omega), ← strOf_append]
      have := digs_size (n / 10) (by omega)
      exact run_string_add_sum w' _ _ (by rw [strOf_size, strOf_size]; simp; omega)
    have hq : IntKind.i64.wrap ((n : Int) / 10) = ((n / 10 : Nat) : Int) := by rw [IntWalk.i64_in _ (by omega)]; omega
    have hr : (Value.int .u8 (IntKind.u8.wrap (IntKind.i64.wrap (48 + (n : Int).tmod 10)))) = .int .u8 ((UInt8.ofNat (48 + n % 10)).toNat : Int) := by
      rw [Int.tmod_eq_emod_of_nonneg (by omega), IntWalk.i64_in _ (by omega), IntKind.wrap_u8', Int.emod_eq_of_lt (by omega) (by omega)]
      exact hc
    rw [hq, hr]
    have hI := IH.out (n / 10) hn10 (by omega)
    have HDL := Lib.hid (digs_size (n / 10) (by omega))
    generalize strOf (digs (n / 10)) = S1 at hcat hI
    generalize hS : strOf (digs n) = S at hcat
    have HSS := Lib.hid hS
    clear hS
    clear hq hr hc hdiv HDL
    generalize ((n / 10 : Nat) : Int) = nq at hI ⊢
    have CO := conv_one
    generalize UInt8.ofNat (48 + n % 10) = c at hcat ⊢
    have CO1 := fun (w : World) (g : Nat) (h : Blk w g 5 #[bb c]) => conv_one w g c h
    have COH := Lib.hid CO1
    clear CO CO1
    generalize strOf [c] = S2 at hcat COH
    have HCAT := Lib.hid hcat
    have HI := Lib.hid hI
    clear hcat hI
    refine ways_fork rfl rfl ?_ ?_
    · go_wp2_with fail
      refine (HI.out w.drew).mono ?_
      rintro e w4 ⟨rfl, hb⟩
      have hK : KeptOn (fun _ => True) w.drew w4 := KeptOn.below hb (fun b hb _ => hb)
      have HB := Lib.hid (show Below w.heap.size w w4 from ⟨hb.os, hb.tape, hb.output, hb.size, hb.block⟩)
      clear hb
      go_wp2_with fail
      refine waysPost_need hK ?_
      clear hK
      refine ways_eff rfl ?_
      go_wp2_with fail
      refine waysPost_need (KeptOn.alloc _ _) ?_
      have hblk : Blk (w4.alloc (.cells #[bb c] 5)) w4.heap.size 5 #[bb c] := Blk.new w4 5 #[bb c]
      have HB2 := Lib.hid (HB.out.alloc HB.out.size (.cells #[bb c] 5))
      change wpWays _ _ _ _ _ _ (w4.alloc (.cells #[bb c] 5))
      generalize w4.alloc (.cells #[bb c] 5) = w5 at hblk HB2 ⊢
      refine ways_quiet (v := .string S2) rfl (fun _ _ _ h => h) (by rfl) (fun w' hR => execConvert 29 9 _ rfl (p := .slice (some ⟨w4.heap.size, 0, none⟩) 1 1) rfl (COH.out w' w4.heap.size (hblk.kept hR trivial))) ?_
      simp only [Act.put, List.setIfInBounds_toArray, List.set_cons_zero, List.set_cons_succ]
      have hcat := HCAT.out
      iterate 2 (refine ways_quiet (v := ?_) rfl (fun _ _ _ h => h) (by rfl) (fun w' hR => ?_) ?_; rotate_left; (go_simp; try with_reducible rfl); simp only [Act.put, List.setIfInBounds_toArray, List.set_cons_zero, List.set_cons_succ])
      refine ways_done ?_
      go_wp2_with fail
      go_ret
      exact ⟨by rw [HSS.out]; rfl, HB2.out⟩
    · go_wp2_with fail
      have hd : w.drew.heap.size = w.heap.size := rfl
      have hblk : Blk (w.drew.alloc (.cells #[bb c] 5)) w.heap.size 5 #[bb c] := Blk.new w.drew 5 #[bb c]
      have HB2 := Lib.hid (show Below w.heap.size w (w.drew.alloc (.cells #[bb c] 5)) from ((Below.refl w.heap.size w).drewN 1).alloc (Nat.le_refl _) (.cells #[bb c] 5))
      have hKA : KeptOn (fun _ => True) w.drew (w.drew.alloc (.cells #[bb c] 5)) := KeptOn.alloc _ _
      change waysPost _ _ _ _ _ _ _ _ _ (w.drew.alloc (.cells #[bb c] 5))
      refine waysPost_need hKA ?_
      clear hKA
      generalize w.drew.alloc (.cells #[bb c] 5) = w5 at hblk HB2 ⊢
      refine ways_quiet (v := .string S2) rfl (fun _ _ _ h => h) (by rfl) (fun w' hR => execConvert 29 9 _ rfl (p := .slice (some ⟨w.heap.size, 0, none⟩) 1 1) rfl (COH.out w' w.heap.size (hblk.kept hR trivial))) ?_
      simp only [Act.put, List.setIfInBounds_toArray, List.set_cons_zero, List.set_cons_succ]
      refine ways_eff rfl ?_
      go_wp2_with fail
      refine (HI.out w5).mono ?_
      rintro e w4 ⟨rfl, hb⟩
      have hK : KeptOn (fun _ => True) w5 w4 := KeptOn.below hb (fun b hb _ => hb)
      have HB := Lib.hid (HB2.out.trans (hb.mono HB2.out.size))
      clear hb
      go_wp2_with fail
      refine waysPost_need hK ?_
      clear hK
      have hcat := HCAT.out
      iterate 2 (refine ways_quiet (v := ?_) rfl (fun _ _ _ h => h) (by rfl) (fun w' hR => ?_) ?_; rotate_left; (go_simp; try with_reducible rfl); simp only [Act.put, List.setIfInBounds_toArray, List.set_cons_zero, List.set_cons_succ])
      refine ways_done ?_
      go_wp2_with fail
      go_ret
      exact ⟨by rw [HSS.out]; rfl, HB.out⟩
theorem cat_run (a b : List UInt8) (h : a.length + b.length < 1000000000000) (w : World) : (Op.stringOp .add (strOf a) (strOf b)).run Tryd.prog w = .ok (.string (strOf (a ++ b))) w := by
  rw [← strOf_append]
  exact run_string_add_sum w _ _ (by rw [strOf_size, strOf_size]; omega)
set_option maxRecDepth 100000 in
set_option maxHeartbeats 2000000 in
theorem rnumber_any (n : Int) (h1 : -9223372036854775808 ≤ n) (h2 : n ≤ 9223372036854775807) (w : World) :
    Calls Tryd.prog 70 #[.int .i64 n] w fun e w' => e = .returned (.string (strOf (numOf n))) ∧ Below w.heap.size w w' := by
  go_enter Tryd.func70, Tryd.ntmps70
  by_cases hneg : 0 ≤ n
  · have hE : numOf n = digs n.natAbs ++ [59] := by unfold numOf; rw [if_neg (by omega)]
    have hL := digs_size n.natAbs (by omega)
    have hd := rdigits_any n.natAbs (by omega) w
    rw [show ((n.natAbs : Nat) : Int) = n by omega] at hd
    have hcat := cat_run (digs n.natAbs) [59] (by simp; omega)
    rw [← hE] at hcat
    change ∀ w, (Op.stringOp .add _ ⟨#[59]⟩).run _ w = _ at hcat
    generalize strOf (digs n.natAbs) = S1 at hd hcat
    generalize strOf (numOf n) = S at hcat ⊢
    clear hE hL
    have HCAT := Lib.hid hcat
    have HD := Lib.hid hd
    clear hcat hd
    go_wp2_with fail
    refine HD.out.mono ?_
    rintro e w2 ⟨rfl, hb⟩
    have HB := Lib.hid hb
    clear hb
    have hcat := HCAT.out
    go_wp2_with fail
    go_ret
    exact ⟨rfl, HB.out⟩
  · have hL := digs_size n.natAbs (by omega)
    have hq : n.tdiv 10 = -((n.natAbs / 10 : Nat) : Int) := by
      conv => lhs; rw [show n = -((n.natAbs : Nat) : Int) by omega]
      rw [Int.neg_tdiv, Int.tdiv_eq_ediv_of_nonneg (by omega)]; omega
    have hr : n.tmod 10 = -((n.natAbs % 10 : Nat) : Int) := by
      conv => lhs; rw [show n = -((n.natAbs : Nat) : Int) by omega]
      rw [Int.neg_tmod, Int.tmod_eq_emod_of_nonneg (by omega)]; omega
    by_cases h10 : -10 < n
    · have hq0 : n.tdiv 10 = 0 := by rw [hq]; omega
      clear hq hr
      have hE : numOf n = [45] ++ digs n.natAbs ++ [59] := by unfold numOf; rw [if_pos (by omega)]; rfl
      have hd := rdigits_any n.natAbs (by omega) w
      rw [show ((n.natAbs : Nat) : Int) = -n by omega] at hd
      have hcat := cat_run ([45] ++ digs n.natAbs) [59] (by simp; omega)
      rw [← hE] at hcat
      have hcat2 := cat_run [45] (digs n.natAbs) (by simp; omega)
      change ∀ w, (Op.stringOp .add _ ⟨#[59]⟩).run _ w = _ at hcat
      change ∀ w, (Op.stringOp .add ⟨#[45]⟩ _).run _ w = _ at hcat2
      generalize strOf ([45] ++ digs n.natAbs) = S2 at hcat hcat2
      generalize strOf (digs n.natAbs) = S1 at hd hcat2
      generalize strOf (numOf n) = S at hcat ⊢
      clear hE hL
      have HCAT := Lib.hid hcat
      have HCAT2 := Lib.hid hcat2
      have HD := Lib.hid hd
      clear hcat hcat2 hd
      go_wp2_with fail
      refine HD.out.mono ?_
      rintro e w2 ⟨rfl, hb⟩
      have HB := Lib.hid hb
      clear hb
      have hcat := HCAT.out
      have hcat2 := HCAT2.out
      go_wp2_with fail
      go_ret
      exact ⟨rfl, HB.out⟩
    · have hne : n.tdiv 10 ≠ 0 := by rw [hq]; omega
      have hE : numOf n = [45] ++ digs (n.natAbs / 10) ++ digs (n.natAbs % 10) ++ [59] := by
        unfold numOf; rw [if_pos (by omega), digs_cut (by omega : 10 ≤ n.natAbs)]; simp
      have hL1 := digs_size (n.natAbs / 10) (by omega)
      have hL2 := digs_size (n.natAbs % 10) (by omega)
      have hd1 := rdigits_any (n.natAbs / 10) (by omega) w
      have hd2 := rdigits_any (n.natAbs % 10) (by omega)
      have hcat1 := cat_run [45] (digs (n.natAbs / 10)) (by simp; omega)
      have hcat2 := cat_run ([45] ++ digs (n.natAbs / 10)) (digs (n.natAbs % 10)) (by simp; omega)
      have hcat3 := cat_run ([45] ++ digs (n.natAbs / 10) ++ digs (n.natAbs % 10)) [59] (by simp; omega)
      rw [← hE] at hcat3
      change ∀ w, (Op.stringOp .add ⟨#[45]⟩ _).run _ w = _ at hcat1
      change ∀ w, (Op.stringOp .add _ ⟨#[59]⟩).run _ w = _ at hcat3
      generalize strOf ([45] ++ digs (n.natAbs / 10) ++ digs (n.natAbs % 10)) = S4 at hcat2 hcat3
      generalize strOf ([45] ++ digs (n.natAbs / 10)) = S3 at hcat1 hcat2
      generalize strOf (digs (n.natAbs / 10)) = S1 at hd1 hcat1
      generalize strOf (digs (n.natAbs % 10)) = S2 at hd2 hcat2
      generalize strOf (numOf n) = S at hcat3 ⊢
      clear hE hL hL1 hL2
      have H1 := Lib.hid hcat1
      have H2 := Lib.hid hcat2
      have H3 := Lib.hid hcat3
      have HD1 := Lib.hid hd1
      have HD2 := Lib.hid hd2
      have HQ := Lib.hid hq
      have HR := Lib.hid hr
      clear hcat1 hcat2 hcat3 hd1 hd2 hq hr
      go_wp2_with fail
      have hw : wrap64 (-n.tdiv 10) = ((n.natAbs / 10 : Nat) : Int) := by rw [HQ.out, IntWalk.wrap64_in _ (by omega)]; omega
      rw [hw]
      refine HD1.out.mono ?_
      rintro e w2 ⟨rfl, hb⟩
      have HB := Lib.hid hb
      clear hb hw
      have hcat1 := H1.out
      go_wp2_with fail
      have hw : wrap64 (-n.tmod 10) = ((n.natAbs % 10 : Nat) : Int) := by rw [HR.out, IntWalk.wrap64_in _ (by omega)]; omega
      rw [hw]
      refine (HD2.out w2).mono ?_
      rintro e w3 ⟨rfl, hb⟩
      have HB := Lib.hid (HB.out.trans (hb.mono HB.out.size))
      clear hb hw
      have hcat2 := H2.out
      have hcat3 := H3.out
      go_wp2_with fail
      go_ret
      exact ⟨rfl, HB.out⟩
set_option maxRecDepth 100000 in
set_option maxHeartbeats 2000000 in
theorem rtext_any (t : ByteArray) (w : World) (hs : t.size ≤ 16384) :
    Calls Tryd.prog 69 #[.string t] w fun e w' => e = .returned (.tuple #[.string (strOf (textOf (by_ t))), .int .i64 0]) ∧ Below w.heap.size w w' := by
  have HL := Lib.hid (digs_size t.size (by omega))
  have hd := rdigits_any t.size (by omega) w
  have hcat1 := cat_run (digs t.size) [58] (by have := HL.out; simp; omega)
  have hcat2 := cat_run (digs t.size ++ [58]) (by_ t) (by have := HL.out; rw [← by_size]; simp; omega)
  rw [strOf_by] at hcat2
  have hE : digs t.size ++ [58] ++ by_ t = textOf (by_ t) := by unfold textOf; rw [by_size]
  rw [hE] at hcat2
  change ∀ w, (Op.stringOp .add _ ⟨#[58]⟩).run _ w = _ at hcat1
  generalize strOf (digs t.size ++ [58]) = S3 at hcat1 hcat2
  generalize strOf (digs t.size) = S1 at hd hcat1
  generalize strOf (textOf (by_ t)) = S at hcat2 ⊢
  have H1 := Lib.hid hcat1
  have H2 := Lib.hid hcat2
  have HD := Lib.hid hd
  clear hcat1 hcat2 hd hE
  go_enter Tryd.func69, Tryd.ntmps69
  go_wp2_with fail
  refine HD.out.mono ?_
  rintro e w2 ⟨rfl, hb⟩
  have HB := Lib.hid hb
  clear hb
  have hcat1 := H1.out
  have hcat2 := H2.out
  go_wp2_with fail
  go_ret2
  exact ⟨rfl, HB.out⟩
theorem rtext_big (t : ByteArray) (w : World) (hs : 16384 < t.size) :
    Calls Tryd.prog 69 #[.string t] w fun e w' => e = .returned (.tuple #[.string ⟨#[]⟩, .int .i64 4]) ∧ w = w' := by
  go_enter Tryd.func69, Tryd.ntmps69
  go_wp2_with fail
  go_ret2
  exact ⟨rfl, rfl⟩
end Go.Proofs.YtkbcilfcfbfiaaaDoor
