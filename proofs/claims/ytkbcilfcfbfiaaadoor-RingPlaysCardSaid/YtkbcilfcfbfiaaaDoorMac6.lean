/- Numbers and texts, laid: the program's. -/
import Derived.Test.YtkbcilfcfbfiaaaDoorMac5
import Derived.Laws.Bits64
namespace Go.Proofs.YtkbcilfcfbfiaaaDoor
open Go.RowKit Go.Proofs
set_option linter.unusedSimpArgs false
set_option linter.unusedVariables false
theorem dig_byte (n : Nat) : (Value.int .u8 (48 + (n : Int) % 10)) = bb (UInt8.ofNat (48 + n % 10)) := by
  unfold bb
  rw [UInt8.toNat_ofNat']
  congr 1; omega
theorem strOf_app (X : List UInt8) (t : ByteArray) : strOf X ++ t = strOf (X ++ by_ t) := by rw [← strOf_append, strOf_by]
set_option maxRecDepth 100000 in
set_option maxHeartbeats 2000000 in
theorem digits_any (base : Nat) (v : Value) (bs : List UInt8) (hbs : bs.length < 1000) : ∀ (n : Nat), n < 18446744073709551616 → ∀ (w : World), OwnB w base v bs → base ≤ w.heap.size →
    Calls Tryd.prog 81 #[v, .int .u64 (n : Int)] w fun e w' => ∃ v', e = .returned v' ∧ OwnB w' base v' (bs ++ digs n) ∧ Below base w w' := by
  intro n
  induction n using Nat.strongRecOn with
  | _ n ih =>
  intro hn w hO hb
  have HO := Lib.hid hO
  have HS := Lib.hid hb
  have IH := Lib.hid ih
  clear hO hb ih
  go_enter Tryd.func81, Tryd.ntmps81
  by_cases h10 : 10 ≤ n
  · have i1 : (10 : Int) ≤ (n : Int) := by omega
    go_wp2_with fail
    have hdiv : (n : Int) / 10 = ((n / 10 : Nat) : Int) := by omega
    rw [hdiv]
    have hn10 : n / 10 < n := by omega
    refine (IH.out (n / 10) hn10 (by omega) w HO.out HS.out).mono ?_
    rintro e w2 ⟨v2, rfl, hO, hb⟩
    have hdl := digs_size (n / 10) (by omega)
    have HE := Lib.hid (show bs ++ digs (n / 10) ++ [UInt8.ofNat (48 + n % 10)] = bs ++ digs n by rw [digs_high h10, List.append_assoc])
    generalize digs (n / 10) = P at *
    have HO := Lib.hid hO
    have HS := Lib.hid (show base ≤ w2.heap.size by have := hb.size; have := HS.out; omega)
    have HB := Lib.hid hb
    clear hO hb hdiv
    go_upto_region 3 with (fail)
    refine wp_region_lit ?_
    iterate 18 go_step
    refine wpList_ownB_byte rfl _ _ rfl base v2 (bs ++ P) rfl HO.out _ (UInt8.ofNat (48 + n % 10)) (dig_byte n) rfl (by rw [List.length_append]; omega) HS.out ?_
    intro v' w' hO hG
    have HB := Lib.hid (HB.out.grown hG HS.out (fun k hk => (HO.out.lt k hk).1))
    rw [HE.out] at hO
    have HO := Lib.hid hO
    clear hO hG
    simp only [Act.put]
    go_wp2_with fail
    go_ret
    exact ⟨v', rfl, HO.out, HB.out⟩
  · have i1 : ¬ ((10 : Int) ≤ (n : Int)) := by omega
    have HE := Lib.hid (show bs ++ [UInt8.ofNat (48 + n % 10)] = bs ++ digs n by rw [digs_low (by omega), Nat.mod_eq_of_lt (by omega)])
    have HB := Lib.hid (Below.refl base w)
    go_upto_region 3 with (fail)
    refine wp_region_lit ?_
    iterate 18 go_step
    refine wpList_ownB_byte rfl _ _ rfl base v (bs) rfl HO.out _ (UInt8.ofNat (48 + n % 10)) (dig_byte n) rfl (by omega) HS.out ?_
    intro v' w' hO hG
    have HB := Lib.hid (HB.out.grown hG HS.out (fun k hk => (HO.out.lt k hk).1))
    rw [HE.out] at hO
    have HO := Lib.hid hO
    clear hO hG
    simp only [Act.put]
    go_wp2_with fail
    go_ret
    exact ⟨v', rfl, HO.out, HB.out⟩
set_option maxRecDepth 100000 in
set_option maxHeartbeats 2000000 in
theorem number_any (n : Int) (h1 : -9223372036854775808 ≤ n) (h2 : n ≤ 9223372036854775807) (w : World) :
    Calls Tryd.prog 68 #[.int .i64 n] w fun e w' => e = .returned (.string (strOf (numOf n))) ∧ Below w.heap.size w w' := by
  go_enter Tryd.func68, Tryd.ntmps68
  by_cases hneg : n < 0
  · go_upto_region 2 with (fail)
    refine wp_region_lit ?_
    iterate 14 go_step
    have hw : IntKind.u64.wrap (-IntKind.u64.wrap n) = ((n.natAbs : Nat) : Int) := by
      rw [IntKind.wrap_u64, IntKind.wrap_u64]; omega
    rw [hw]
    have HE := Lib.hid (show [45] ++ digs n.natAbs ++ [59] = numOf n by unfold numOf; rw [if_pos hneg]; rfl)
    have HL := Lib.hid (digs_size n.natAbs (by omega))
    have hO : OwnB (w.alloc (.cells #[.int .u8 45] 5)) w.heap.size (.slice (some ⟨w.heap.size, 0, none⟩) 1 1) [45] := .inr (Own1.fresh w w.heap.size (bb 45) (Nat.le_refl _))
    have B := (Below.refl w.heap.size w).alloc (Nat.le_refl _) (.cells #[.int .u8 45] 5)
    generalize w.alloc (.cells #[.int .u8 45] 5) = w1 at hO B ⊢
    refine (digits_any w.heap.size _ [45] (by decide) n.natAbs (by omega) w1 hO B.size).mono ?_
    generalize digs n.natAbs = P at HE HL
    have HB1 := Lib.hid B
    clear hw hO B
    rintro e w2 ⟨v2, rfl, hO, hb⟩
    have HO := Lib.hid hO
    have HB := Lib.hid (HB1.out.trans hb)
    clear hO hb
    dsimp only
    iterate 4 go_step
    refine wpList_ownB_byte rfl _ _ rfl w.heap.size v2 ([45] ++ P) rfl HO.out _ 59 rfl rfl (by rw [List.length_append]; have := HL.out; simp; omega) HB.out.size ?_
    intro v' w' hO hG
    have HB := Lib.hid (HB.out.grown hG HB.out.size (fun k hk => (HO.out.lt k hk).1))
    rw [HE.out] at hO
    have HO := Lib.hid hO
    clear hO hG
    simp only [Act.put]
    refine wpList_ownB_string rfl _ rfl _ v' _ rfl HO.out ?_
    simp only [Act.put]
    go_wp2_with fail
    go_ret
    exact ⟨rfl, HB.out⟩
  · go_upto_region 3 with (fail)
    refine wp_region_lit ?_
    iterate 8 go_step
    have HE := Lib.hid (show [] ++ digs n.natAbs ++ [59] = numOf n by unfold numOf; rw [if_neg hneg]; rfl)
    have HL := Lib.hid (digs_size n.natAbs (by omega))
    have hd := digits_any w.heap.size _ [] (by decide) n.natAbs (by omega) w (OwnB.nil _ _) (Nat.le_refl _)
    rw [show ((n.natAbs : Nat) : Int) = n by omega] at hd
    refine hd.mono ?_
    clear hd
    generalize digs n.natAbs = P at HE HL
    rintro e w2 ⟨v2, rfl, hO, hb⟩
    have HO := Lib.hid hO
    have HB := Lib.hid hb
    clear hO hb
    dsimp only
    iterate 4 go_step
    refine wpList_ownB_byte rfl _ _ rfl w.heap.size v2 ([] ++ P) rfl HO.out _ 59 rfl rfl (by have := HL.out; simp; omega) HB.out.size ?_
    intro v' w' hO hG
    have HB := Lib.hid (HB.out.grown hG HB.out.size (fun k hk => (HO.out.lt k hk).1))
    rw [HE.out] at hO
    have HO := Lib.hid hO
    clear hO hG
    simp only [Act.put]
    refine wpList_ownB_string rfl _ rfl _ v' _ rfl HO.out ?_
    simp only [Act.put]
    go_wp2_with fail
    go_ret
    exact ⟨rfl, HB.out⟩
set_option maxRecDepth 100000 in
set_option maxHeartbeats 2000000 in
theorem text_any (t : ByteArray) (w : World) (hs : t.size ≤ 16384) :
    Calls Tryd.prog 67 #[.string t] w fun e w' => e = .returned (.tuple #[.string (strOf (textOf (by_ t))), .int .i64 0]) ∧ Below w.heap.size w w' := by
  go_enter Tryd.func67, Tryd.ntmps67
  go_upto_region 3 with (fail)
  refine wp_region_lit ?_
  iterate 11 go_step
  have HE := Lib.hid (show strOf ([] ++ digs t.size ++ [58]) ++ t = strOf (textOf (by_ t)) by
    unfold textOf; rw [← by_size, strOf_app]; rfl)
  have HL := Lib.hid (digs_size t.size (by omega))
  refine (digits_any w.heap.size _ [] (by decide) t.size (by omega) w (OwnB.nil _ _) (Nat.le_refl _)).mono ?_
  generalize digs t.size = P at HE HL
  rintro e w2 ⟨v2, rfl, hO, hb⟩
  have HO := Lib.hid hO
  have HB := Lib.hid hb
  clear hO hb
  dsimp only
  iterate 4 go_step
  refine wpList_ownB_byte rfl _ _ rfl w.heap.size v2 ([] ++ P) rfl HO.out _ 58 rfl rfl (by have := HL.out; simp; omega) HB.out.size ?_
  intro v' w' hO hG
  have HB := Lib.hid (HB.out.grown hG HB.out.size (fun k hk => (HO.out.lt k hk).1))
  have HO := Lib.hid hO
  clear hO hG
  simp only [Act.put]
  refine wpList_ownB_string rfl _ rfl _ v' _ rfl HO.out ?_
  simp only [Act.put]
  change wpList _ _ _ _ _ w'
  have hSS : (strOf ([] ++ P ++ [58])).size + t.size ≤ 9223372036854775807 := by rw [strOf_size, List.length_append]; have := HL.out; simp; omega
  have hE := HE.out
  change wpList _ _ _ _ ({ tmps := #[_, _, _, _, _, _, _, _, _, _, _, _, _, .string (strOf ([] ++ P ++ [58])), _, _], defers := _ } : Act) _
  generalize strOf ([] ++ P ++ [58]) = S at hSS hE ⊢
  have hcat : ∀ w', (Op.stringOp .add S t).run Tryd.prog w' = .ok (.string (strOf (textOf (by_ t)))) w' := fun w' => by
    rw [← hE]
    exact run_string_add_sum w' _ _ hSS
  clear hE hSS
  go_wp2_with fail
  go_ret2
  exact ⟨rfl, HB.out⟩
theorem text_big (t : ByteArray) (w : World) (hs : 16384 < t.size) :
    Calls Tryd.prog 67 #[.string t] w fun e w' => e = .returned (.tuple #[.string ⟨#[]⟩, .int .i64 4]) ∧ w = w' := by
  go_enter Tryd.func67, Tryd.ntmps67
  go_wp2_with fail
  go_ret2
  exact ⟨rfl, rfl⟩
end Go.Proofs.YtkbcilfcfbfiaaaDoor
