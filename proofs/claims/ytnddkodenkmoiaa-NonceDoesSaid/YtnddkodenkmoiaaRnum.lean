/- Numbers: the reference's. -/
import Derived.Test.YtnddkodenkmoiaaNum1
import Derived.Test.YtnddkodenkmoiaaFork
import Derived.Test.YtnddkodenkmoiaaCell5
namespace Go.Proofs.Ytnddkodenkmoiaa
open Go.RowKit Go.Proofs
set_option linter.unusedSimpArgs false
set_option linter.unusedVariables false
theorem conv_one (w : World) (g : Nat) (c : UInt8) (h : Blk w g 5 #[bb c]) : (convert 94 9 (.slice (some ⟨g, 0, none⟩) 1 1)).run Try.prog w = .ok (.string (strOf [c])) w := by
  refine run_convert_bytes_back w 94 9 5 ⟨g, 0, none⟩ 1 [c] Try.underlying94 Try.underlying5 Try.underlying9 ?_
  intro j hj
  have hj0 : j = 0 := by simpa using hj
  subst hj0
  rw [Addr.add_mid]
  exact h.cell 0
set_option maxRecDepth 100000 in
set_option maxHeartbeats 2000000 in
theorem rdigits_any : ∀ (n : Nat), n < 9223372036854775808 → ∀ (w : World),
    Calls Try.prog 75 #[.int .i64 (n : Int)] w fun e w' => e = .returned (.string (strOf (digs n))) ∧ Below w.heap.size w w' := by
  intro n
  induction n using Nat.strongRecOn with
  | _ n ih =>
  intro hn w
  have IH := Lib.hid ih
  clear ih
  go_enter Try.func75, Try.ntmps75
  by_cases h10 : n < 10
  · have i1 : (n : Int) < 10 := by omega
    go_upto_region 2 with (fail)
    refine wp_region_lit ?_
    iterate 12 go_step
    have hc : (Value.int .u8 (48 + (n : Int))) = bb (UInt8.ofNat (48 + n)) := by
      unfold bb; rw [UInt8.toNat_ofNat']; congr 1; omega
    rw [hc]
    have hb := Blk.new w 5 #[bb (UInt8.ofNat (48 + n))]
    have HB := Lib.hid ((Below.refl w.heap.size w).alloc (Nat.le_refl _) (.cells #[bb (UInt8.ofNat (48 + n))] 5))
    have HE := Lib.hid (show strOf [UInt8.ofNat (48 + n)] = strOf (digs n) by rw [digs_low h10])
    generalize UInt8.ofNat (48 + n) = c at *
    generalize w.alloc (.cells #[bb c] 5) = w2 at hb HB ⊢
    refine wpList_runIs rfl _ w2 (execConvert 94 9 _ rfl (p := .slice (some ⟨w.heap.size, 0, none⟩) 1 1) rfl (conv_one w2 w.heap.size c hb)) ?_
    rw [HE.out]
    clear hc hb
    simp only [Act.put]
    go_wp2_with fail
    go_ret
    exact ⟨rfl, HB.out⟩
  · have i1 : ¬ ((n : Int) < 10) := by omega
    go_upto_region 3 with (fail)
    refine wp_region_ways (KeptOn fun _ => True) (KeptOn.refl _) (KeptOn.trans) (.quiet 0 (.quiet 1 (.quiet 3 (.quiet 4 (.quiet 5 (.quiet 6 (.fork 2 7 (.eff 7 0 (.quiet 8 (.quiet 9 (.quiet 10 .done)))) (.quiet 8 (.eff 2 0 (.quiet 9 (.quiet 10 .done))))))))))) (by kernel_rfl) (by kernel_rfl) ?_
    iterate 6 (refine ways_quiet (v := ?_) rfl (fun _ _ _ h => h) (by rfl) (fun w' hR => ?_) ?_; rotate_left; (go_simp; try with_reducible rfl); simp only [Act.put, List.setIfInBounds_toArray, List.set_cons_zero, List.set_cons_succ])
    have hn10 : n / 10 < n := by omega
    have hdiv : (n : Int) / 10 = ((n / 10 : Nat) : Int) := by omega
    have hc := dig_byte n
    have hcat : ∀ w', (Op.stringOp .add (strOf (digs (n / 10))) (strOf [UInt8.ofNat (48 + n % 10)])).run Try.prog w' = .ok (.string (strOf (digs n))) w' := fun w' => by
      rw [digs_high (n := n) (by omega), ← strOf_append]
      have := digs_size (n / 10) (by omega)
      exact run_string_add_sum w' _ _ (by rw [strOf_size, strOf_size]; simp; omega)
    have hq : IntKind.i64.wrap ((n : Int) / 10) = ((n / 10 : Nat) : Int) := by rw [IntWalk.i64_in _ (by omega)]; omega
    have hr : (Value.int .u8 (IntKind.u8.wrap (IntKind.i64.wrap (48 + (n : Int).tmod 10)))) = .int .u8 ((UInt8.ofNat (48 + n % 10)).toNat : Int) := by
      rw [Int.tmod_eq_emod_of_nonneg (by omega), IntWalk.i64_in _ (by omega), IntKind.wrap_u8', Int.emod_eq_of_lt (by omega) (by omega)]
      exact hc
    rw [hq, hr]
    have hI := IH.out (n / 10) hn10 (by omega)
    have HDL := Lib.hid (digs_size (n / 10) (by omega))
    generalize strOf (digs (n / 10)) = S1 at hcat hI
    generalize hS : strOf (digs n) = S at hcat
    have HSS := Lib.hid hS
    clear hS
    clear hq hr hc hdiv HDL
    generalize ((n / 10 : Nat) : Int) = nq at hI ⊢
    have CO := conv_one
    generalize UInt8.ofNat (48 + n % 10) = c at hcat ⊢
    have CO1 := fun (w : World) (g : Nat) (h : Blk w g 5 #[bb c]) => conv_one w g c h
    have COH := Lib.hid CO1
    clear CO CO1
    generalize strOf [c] = S2 at hcat COH
    have HCAT := Lib.hid hcat
    have HI := Lib.hid hI
    clear hcat hI
    refine ways_fork rfl rfl ?_ ?_
    · go_wp2_with fail
      refine (HI.out w.drew).mono ?_
      rintro e w4 ⟨rfl, hb⟩
      have hK : KeptOn (fun _ => True) w.drew w4 := KeptOn.below hb (fun b hb _ => hb)
      have HB := Lib.hid (show Below w.heap.size w w4 from ⟨hb.os, hb.tape, hb.output, hb.size, hb.block⟩)
      clear hb
      go_wp2_with fail
      refine waysPost_need hK ?_
      clear hK
      refine ways_eff rfl ?_
      go_wp2_with fail
      refine waysPost_need (KeptOn.alloc _ _) ?_
      have hblk : Blk (w4.alloc (.cells #[bb c] 5)) w4.heap.size 5 #[bb c] := Blk.new w4 5 #[bb c]
      have HB2 := Lib.hid (HB.out.alloc HB.out.size (.cells #[bb c] 5))
      change wpWays _ _ _ _ _ _ (w4.alloc (.cells #[bb c] 5))
      generalize w4.alloc (.cells #[bb c] 5) = w5 at hblk HB2 ⊢
      refine ways_quiet (v := .string S2) rfl (fun _ _ _ h => h) (by rfl) (fun w' hR => execConvert 94 9 _ rfl (p := .slice (some ⟨w4.heap.size, 0, none⟩) 1 1) rfl (COH.out w' w4.heap.size (hblk.kept hR trivial))) ?_
      simp only [Act.put, List.setIfInBounds_toArray, List.set_cons_zero, List.set_cons_succ]
      have hcat := HCAT.out
      iterate 2 (refine ways_quiet (v := ?_) rfl (fun _ _ _ h => h) (by rfl) (fun w' hR => ?_) ?_; rotate_left; (go_simp; try with_reducible rfl); simp only [Act.put, List.setIfInBounds_toArray, List.set_cons_zero, List.set_cons_succ])
      refine ways_done ?_
      go_wp2_with fail
      go_ret
      exact ⟨by rw [HSS.out]; rfl, HB2.out⟩
    · go_wp2_with fail
      have hd : w.drew.heap.size = w.heap.size := rfl
      have hblk : Blk (w.drew.alloc (.cells #[bb c] 5)) w.heap.size 5 #[bb c] := Blk.new w.drew 5 #[bb c]
      have HB2 := Lib.hid (show Below w.heap.size w (w.drew.alloc (.cells #[bb c] 5)) from ((Below.refl w.heap.size w).drewN 1).alloc (Nat.le_refl _) (.cells #[bb c] 5))
      have hKA : KeptOn (fun _ => True) w.drew (w.drew.alloc (.cells #[bb c] 5)) := KeptOn.alloc _ _
      change waysPost _ _ _ _ _ _ _ _ _ (w.drew.alloc (.cells #[bb c] 5))
      refine waysPost_need hKA ?_
      clear hKA
      generalize w.drew.alloc (.cells #[bb c] 5) = w5 at hblk HB2 ⊢
      refine ways_quiet (v := .string S2) rfl (fun _ _ _ h => h) (by rfl) (fun w' hR => execConvert 94 9 _ rfl (p := .slice (some ⟨w.heap.size, 0, none⟩) 1 1) rfl (COH.out w' w.heap.size (hblk.kept hR trivial))) ?_
      simp only [Act.put, List.setIfInBounds_toArray, List.set_cons_zero, List.set_cons_succ]
      refine ways_eff rfl ?_
      go_wp2_with fail
      refine (HI.out w5).mono ?_
      rintro e w4 ⟨rfl, hb⟩
      have hK : KeptOn (fun _ => True) w5 w4 := KeptOn.below hb (fun b hb _ => hb)
      have HB := Lib.hid (HB2.out.trans (hb.mono HB2.out.size))
      clear hb
      go_wp2_with fail
      refine waysPost_need hK ?_
      clear hK
      have hcat := HCAT.out
      iterate 2 (refine ways_quiet (v := ?_) rfl (fun _ _ _ h => h) (by rfl) (fun w' hR => ?_) ?_; rotate_left; (go_simp; try with_reducible rfl); simp only [Act.put, List.setIfInBounds_toArray, List.set_cons_zero, List.set_cons_succ])
      refine ways_done ?_
      go_wp2_with fail
      go_ret
      exact ⟨by rw [HSS.out]; rfl, HB.out⟩
set_option maxRecDepth 100000 in
set_option maxHeartbeats 4000000 in
theorem rnumber_any (n : Nat) (h2 : n ≤ 9223372036854775807) (w : World) :
    Calls Try.prog 68 #[.int .i64 (n : Int)] w fun e w' => e = .returned (.string (strOf (numOf (n : Int)))) ∧ Below w.heap.size w w' := by
  go_enter Try.func68, Try.ntmps68
  have hE : numOf (n : Int) = digs n ++ [59] := by unfold numOf; rw [if_neg (by omega)]; rfl
  have hL := digs_size n (by omega)
  have hd := rdigits_any n (by omega) w
  have hcat := cat_run (digs n) [59] (by simp; omega)
  rw [← hE] at hcat
  change ∀ w, (Op.stringOp .add _ ⟨#[59]⟩).run _ w = _ at hcat
  generalize strOf (digs n) = S1 at hd hcat
  generalize strOf (numOf (n : Int)) = S at hcat ⊢
  clear hE hL
  have HCAT := Lib.hid hcat
  have HD := Lib.hid hd
  clear hcat hd
  go_wp2_with fail
  refine HD.out.mono ?_
  rintro e w2 ⟨rfl, hb⟩
  have HB := Lib.hid hb
  clear hb
  have hcat := HCAT.out
  go_wp2_with fail
  go_ret
  exact ⟨rfl, HB.out⟩
end Go.Proofs.Ytnddkodenkmoiaa
