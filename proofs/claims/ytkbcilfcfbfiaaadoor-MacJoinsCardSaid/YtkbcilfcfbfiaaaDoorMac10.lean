/- MacJoins answers true. -/
import Derived.Test.YtkbcilfcfbfiaaaDoorMac9
import Derived.Test.YtkbcilfcfbfiaaaDoorPieces
namespace Go.Proofs.YtkbcilfcfbfiaaaDoor
open Go.RowKit Go.Proofs
set_option linter.unusedSimpArgs false
set_option linter.unusedVariables false
/-- v is a row of the strings ts that only its holder knows. -/
def OwnS (w : World) (base : Nat) (v : Value) (ts : List ByteArray) : Prop := w.ownsRow base 9 1 v ts.length (ts.map Value.string)
theorem OwnS.nil (w : World) (base : Nat) : OwnS w base (.slice none 0 0) [] := ⟨rfl, .inl ⟨rfl, rfl⟩⟩
theorem OwnS.row {w : World} {base : Nat} {v : Value} {ts : List ByteArray} (h : OwnS w base v ts) : RowS w v ts := by
  obtain ⟨h1, ⟨rfl, h⟩ | ⟨g, cap, cur, rfl, h2, h3, h4, h5, h6, h7⟩⟩ := h
  · exact .inl ⟨rfl, List.eq_nil_of_length_eq_zero h⟩
  · refine .inr ⟨⟨g, 0, none⟩, cap, rfl, fun j t hj => ?_⟩
    rw [Addr.add_mid, Nat.zero_add, cell_of_row w g j cur 9 (0, 0) h3]
    have hj2 := (List.getElem?_eq_some_iff.1 hj).1
    have e : (ts.map Value.string)[j]? = some (.string t) := by rw [List.getElem?_map, hj]; rfl
    rw [← h7, List.getElem?_take_of_lt (by omega)] at e
    simpa using e
theorem wpList_ownS {ops : Array Oper} {rest : List Oper} {o : Oper} {a : Act} {w : World} {Q : Exit → Act → World → Prop} (hgd : o.guard = none) (s x : Operand)
    (ho : o.op = .call { callee := .builtin .append, args := #[s, x], argTypes := #[31, 31] })
    (base : Nat) (v : Value) (ts : List ByteArray) (hs : a.eval s = v) (hown : OwnS w base v ts) (hlt : ∀ k, v.ownBlock = some k → k < w.heap.size)
    (t : ByteArray) (hx : a.eval x = .slice (some ⟨w.heap.size, 0, none⟩) 1 1)
    (hn : ts.length + 1 ≤ 1000000000) (hbase : base ≤ w.heap.size)
    (h : ∀ v' w', OwnS w' base v' (ts ++ [t]) → w.grownBy w' v.ownBlock → wpList Tryd.prog ops Q rest (a.put o.dst v') w') : wpList Tryd.prog ops Q (o :: rest) a (w.alloc (.cells #[.string t] 9)) := by
  have hs9 : (Tryd.prog.info? 9).map (fun i => (i.size, i.bytes, i.zero)) = some (1, 16, some (.string ByteArray.empty)) := by kernel_rfl
  obtain ⟨i, hi, hi2⟩ := Option.map_eq_some_iff.1 hs9
  simp only [Prod.mk.injEq] at hi2
  obtain ⟨e1, e2, e3⟩ := hi2
  have hb := Blk.new w 9 #[.string t]
  have hown2 : (w.alloc (.cells #[.string t] 9)).ownsRow base 9 1 v ts.length (ts.map Value.string) := by
    obtain ⟨h1, h | ⟨g, cap, cur, rfl, h2, h3, r⟩⟩ := hown
    · exact ⟨h1, .inl h⟩
    · exact ⟨h1, .inr ⟨g, cap, cur, rfl, h2, (Below.heap_alloc w _ g ((Array.getElem?_eq_some_iff.1 h3).1)).trans h3, r⟩⟩
  refine wpList_append_own (w.alloc (.cells #[.string t] 9)) hgd s x 31 ho base 9 i (.string ByteArray.empty) 1 16 Tryd.underlying31 hi e3 e1 e2 rfl (by omega) v ts.length (ts.map Value.string) hs hown2 ⟨w.heap.size, 0, none⟩ 1 1 [.string t] hx rfl ?_ (by intro y hy; obtain rfl := List.mem_singleton.1 hy; rfl) (by simp [maxLen]; omega) (by omega) (by simp; omega) ?_
  · intro j y hj
    match j, hj with
    | 0, hj =>
      obtain rfl := Option.some.inj hj
      rw [Addr.add_mid]
      exact hb.cell 0
  · intro v' w' h2 h3 _
    refine h v' w' ?_ (grownBy_trans (World.grownBy_alloc w _ _) h3)
    unfold OwnS
    rw [List.length_append, List.map_append]
    exact h2
theorem OwnS.lt {w : World} {base : Nat} {v : Value} {ts : List ByteArray} (h : OwnS w base v ts) : ∀ k, v.ownBlock = some k → base ≤ k ∧ k < w.heap.size := by
  obtain ⟨h1, ⟨rfl, h⟩ | ⟨g, cap, cur, rfl, h2, h3, h4, h5, h6, h7⟩⟩ := h
  · intro k hk; cases hk
  · intro k hk
    obtain rfl : g = k := by simpa [Value.ownBlock] using hk
    exact ⟨h2, (Array.getElem?_eq_some_iff.1 h3).1⟩
theorem joinS_push (F : List ByteArray) (s al : ByteArray) (h : by_ al = joinS F) : by_ (al ++ s) = joinS (F ++ [s]) := by
  rw [by_cat, h]; simp [joinS]
set_option maxRecDepth 100000 in
set_option maxHeartbeats 4000000 in
theorem macJoins_any (k0 : ByteArray) (ts : List ByteArray) (v : Value) (w : World) (hk : Consts w) (ht : RowS w v ts) (hl : ts.length ≤ 9223372036854775807) :
    Calls Tryd.prog 9 #[.string k0, v] w fun e w' => e = .returned (.bool true) ∧ Below w.heap.size w w' := by
  have HK := Lib.hid hk
  have HT := Lib.hid ht
  clear hk ht
  obtain ⟨ov, capv, rfl, hcv⟩ : ∃ (o : Option Addr) (c : Nat), v = .slice o ts.length c ∧ ∀ (j : Nat) (t : ByteArray), ts[j]? = some t → ∃ a, o = some a ∧ w.cell? (a.add j) = some (.string t) := by
    rcases HT.out with ⟨rfl, rfl⟩ | ⟨a, c, rfl, h⟩
    · exact ⟨none, 0, rfl, fun j t h => by simp at h⟩
    · exact ⟨some a, c, rfl, fun j t hj => ⟨a, rfl, h j t hj⟩⟩
  have HCV := Lib.hid hcv
  clear hcv
  go_enter Tryd.func9, Tryd.ntmps9
  go_wp2_with fail
  refine (few15_any k0 w).mono ?_
  rintro e w1 ⟨rfl, rfl⟩
  have HKS := Lib.hid (few15_size k0)
  generalize few15 k0 = k at HKS ⊢
  go_wp2_with fail
  go_loopw [5, 6, 7] (fun v5 v6 v7 wr => ∃ (i : Nat) (al : ByteArray) (F : List ByteArray), i ≤ ts.length ∧ i ≤ 12 ∧ v7 = .int .i64 (i : Int) ∧ v5 = .string al ∧ al.size ≤ 1500 * i ∧ by_ al = joinS F ∧ F.length = i ∧ OwnS wr w.heap.size v6 F ∧ Below w.heap.size w wr) (fun _ _ v7 _ => 20 - (intOf v7).toNat)
  case atStart => exact ⟨0, ⟨#[]⟩, [], by omega, by omega, rfl, rfl, by decide, rfl, rfl, OwnS.nil _ _, Below.refl _ _⟩
  case round =>
    obtain ⟨i, al, F, hi, hi12, rfl, rfl, has, hJ, hF, hO, hB⟩ := hrel
    have HO := Lib.hid hO
    have HB := Lib.hid hB
    have HJ := Lib.hid hJ
    have hRS := hO.row
    clear hO hB hJ
    have hm1 := hl
    by_cases hgo : i < ts.length ∧ i < 12
    · obtain ⟨g1, g2⟩ := hgo
      clear hRS
      have i1 : (i : Int) < (ts.length : Int) := by omega
      have i2 : (i : Int) < 12 := by omega
      obtain ⟨t, ht⟩ : ∃ t, ts[i]? = some t := ⟨_, List.getElem?_eq_getElem g1⟩
      obtain ⟨a, rfl, hc⟩ := HCV.out i t ht
      have HC := Lib.hid hc
      have hc2 := (HB.out.cell (World.block_lt_of_cell? w _ hc)).trans hc
      clear hc ht
      go_upto_region 7 with (fail)
      refine wp_region_lit ?_
      iterate 17 go_step
      refine (few15_any t wr).mono ?_
      rintro e w4 ⟨rfl, rfl⟩
      have HFW := Lib.hid (fun w => few15_any t w)
      have HS := Lib.hid (few15_size t)
      generalize few15 t = s at HS HFW ⊢
      clear hc2
      dsimp only
      iterate 4 go_step
      refine wpList_ownS rfl _ _ rfl w.heap.size u6 F rfl HO.out (fun k hk => (HO.out.lt k hk).2) s rfl (by omega) HB.out.size ?_
      intro v' w' hO hG
      have HB := Lib.hid (HB.out.grown hG HB.out.size (fun k hk => (HO.out.lt k hk).1))
      have HO := Lib.hid hO
      clear hO hG
      have hc2 := (HB.out.cell (World.block_lt_of_cell? w _ HC.out)).trans HC.out
      simp only [Act.put]
      go_wp2_with fail
      refine (HFW.out w').mono ?_
      rintro e w4 ⟨rfl, rfl⟩
      clear hc2
      have hsz := HS.out
      have hcat : ∀ w', (Op.stringOp .add al s).run Tryd.prog w' = .ok (.string (al ++ s)) w' := fun w' => run_string_add_sum w' al s (by omega)
      have hac : (al ++ s).size = al.size + s.size := ByteArray.size_append
      have HJ := Lib.hid (joinS_push F s al HJ.out)
      generalize al ++ s = al2 at hcat hac HJ
      go_wp2_with fail
      clear hcat
      go_roundw
      case rel => exact ⟨i + 1, al2, F ++ [s], by omega, by omega, by go_num, rfl, by omega, HJ.out, by rw [List.length_append, hF]; rfl, HO.out, HB.out⟩
      case measure => simp [intOf]; omega
    · clear HO
      by_cases g1 : i < ts.length
      · have i1 : (i : Int) < (ts.length : Int) := by omega
        have i2 : ¬ ((i : Int) < 12) := by omega
        go_wp2_with fail
        refine (awakeM_any wr (HK.out.below HB.out)).mono ?_
        rintro e w2 ⟨rfl, hb⟩
        have HB := Lib.hid (HB.out.trans (hb.mono HB.out.size))
        have hRS := RowS.below hRS hb
        clear hb
        have hc := tag_any k F u6 w2 (HK.out.below HB.out) (by have := HKS.out; omega) hRS (by rw [← HJ.out, ← by_size]; omega) (by omega)
        rw [← HJ.out] at hc
        go_wp2_with fail
        refine hc.mono ?_
        clear hc hRS
        rintro e w3 ⟨rfl, hb⟩
        have HB := Lib.hid (HB.out.trans (hb.mono HB.out.size))
        clear hb
        have hr1 := rtag_any k al
        have ht1 := tag_any k [al]
        rw [joinS_one] at ht1
        have heq : ∀ w', (Op.equalIn 10000 25 (.agg (bytesC (tagOf (by_ k) (by_ al)))) (.agg (bytesC (tagOf (by_ k) (by_ al))))).run Tryd.prog w' = .ok true w' := fun w' => by
          have h := eql_digest (tagOf (by_ k) (by_ al)) (tagOf (by_ k) (by_ al)) (tagOf_length _ _) (tagOf_length _ _) w'
          rw [beq_self_eq_true] at h
          exact h
        generalize bytesC (tagOf (by_ k) (by_ al)) = X at hr1 ht1 heq ⊢
        have HR1 := Lib.hid hr1
        have HT1 := Lib.hid ht1
        have HEQ := Lib.hid heq
        clear hr1 ht1 heq
        go_wp2_with fail
        refine (HR1.out w3 (by have := HKS.out; omega) (by omega)).mono ?_
        rintro e w4 ⟨rfl, hb⟩
        have HB := Lib.hid (HB.out.trans (hb.mono HB.out.size))
        clear hb
        have heq := HEQ.out
        go_wp2_with fail
        clear heq
        have hR := RowS.one w4 al
        have HB := Lib.hid (HB.out.alloc HB.out.size (.cells #[.string al] 9))
        generalize w4.alloc (.cells #[.string al] 9) = w5 at hR HB ⊢
        refine (HT1.out _ w5 (HK.out.below HB.out) (by have := HKS.out; omega) hR (by rw [← by_size]; omega) (by simp)).mono ?_
        clear hR
        rintro e w6 ⟨rfl, hb⟩
        have HB := Lib.hid (HB.out.trans (hb.mono HB.out.size))
        clear hb
        go_wp2_with fail
        refine (HR1.out w6 (by have := HKS.out; omega) (by omega)).mono ?_
        rintro e w7 ⟨rfl, hb⟩
        have HB := Lib.hid (HB.out.trans (hb.mono HB.out.size))
        clear hb
        have heq := HEQ.out
        go_wp2_with fail
        go_ret
        exact ⟨rfl, HB.out⟩
      · have i1 : ¬ ((i : Int) < (ts.length : Int)) := by omega
        go_wp2_with fail
        refine (awakeM_any wr (HK.out.below HB.out)).mono ?_
        rintro e w2 ⟨rfl, hb⟩
        have HB := Lib.hid (HB.out.trans (hb.mono HB.out.size))
        have hRS := RowS.below hRS hb
        clear hb
        have hc := tag_any k F u6 w2 (HK.out.below HB.out) (by have := HKS.out; omega) hRS (by rw [← HJ.out, ← by_size]; omega) (by omega)
        rw [← HJ.out] at hc
        go_wp2_with fail
        refine hc.mono ?_
        clear hc hRS
        rintro e w3 ⟨rfl, hb⟩
        have HB := Lib.hid (HB.out.trans (hb.mono HB.out.size))
        clear hb
        have hr1 := rtag_any k al
        have ht1 := tag_any k [al]
        rw [joinS_one] at ht1
        have heq : ∀ w', (Op.equalIn 10000 25 (.agg (bytesC (tagOf (by_ k) (by_ al)))) (.agg (bytesC (tagOf (by_ k) (by_ al))))).run Tryd.prog w' = .ok true w' := fun w' => by
          have h := eql_digest (tagOf (by_ k) (by_ al)) (tagOf (by_ k) (by_ al)) (tagOf_length _ _) (tagOf_length _ _) w'
          rw [beq_self_eq_true] at h
          exact h
        generalize bytesC (tagOf (by_ k) (by_ al)) = X at hr1 ht1 heq ⊢
        have HR1 := Lib.hid hr1
        have HT1 := Lib.hid ht1
        have HEQ := Lib.hid heq
        clear hr1 ht1 heq
        go_wp2_with fail
        refine (HR1.out w3 (by have := HKS.out; omega) (by omega)).mono ?_
        rintro e w4 ⟨rfl, hb⟩
        have HB := Lib.hid (HB.out.trans (hb.mono HB.out.size))
        clear hb
        have heq := HEQ.out
        go_wp2_with fail
        clear heq
        have hR := RowS.one w4 al
        have HB := Lib.hid (HB.out.alloc HB.out.size (.cells #[.string al] 9))
        generalize w4.alloc (.cells #[.string al] 9) = w5 at hR HB ⊢
        refine (HT1.out _ w5 (HK.out.below HB.out) (by have := HKS.out; omega) hR (by rw [← by_size]; omega) (by simp)).mono ?_
        clear hR
        rintro e w6 ⟨rfl, hb⟩
        have HB := Lib.hid (HB.out.trans (hb.mono HB.out.size))
        clear hb
        go_wp2_with fail
        refine (HR1.out w6 (by have := HKS.out; omega) (by omega)).mono ?_
        rintro e w7 ⟨rfl, hb⟩
        have HB := Lib.hid (HB.out.trans (hb.mono HB.out.size))
        clear hb
        have heq := HEQ.out
        go_wp2_with fail
        go_ret
        exact ⟨rfl, HB.out⟩
end Go.Proofs.YtkbcilfcfbfiaaaDoor
