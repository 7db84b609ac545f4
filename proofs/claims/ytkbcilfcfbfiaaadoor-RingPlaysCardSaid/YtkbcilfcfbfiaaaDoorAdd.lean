/- Bytes are put behind the others. -/
import Derived.Test.YtkbcilfcfbfiaaaDoorNew
import Derived.Lib.LazyBuf
namespace Go.Proofs.YtkbcilfcfbfiaaaDoor
open Go.RowKit Go.Proofs
set_option linter.unusedSimpArgs false
set_option linter.unusedVariables false

/-- copy of a string into a slice: as much as there is room. -/
theorem run_copy_cut {P : Program} (w : World) (dT sT ty elem : TypeId) (b o dLen dCap m : Nat) (t : ByteArray)
    (hu : P.underlying dT = some (.slice elem)) (hz : ∀ w, (Go.sizeOf elem).run P w = .ok 1 w) (hm : m = Nat.min t.size dLen)
    (ht : w.there b o m) :
    (Builtin.copy_ #[dT, sT] ty #[.slice (some ⟨b, o, none⟩) dLen dCap, .string t]).run P w = .ok (goInt m) (w.setCells b o ((t.data.toList.take m).map bb)) := by
  have hs : t.size = t.data.toList.length := Lib.size_eq t
  have hmin : Nat.min t.data.toList.length dLen = m := by rw [hm, hs]
  have hle : m ≤ t.data.toList.length := by rw [← hmin]; exact Nat.min_le_left _ _
  have hl : ((t.data.toList.take m).map bb).length = m := by rw [List.length_map, List.length_take]; omega
  have hst := run_storeCells_cells (P := P) b o ((t.data.toList.take m).map bb) 0 w (fun j hj => by rw [hl] at hj; simpa using (ht j (by simpa using hj)).1) (fun j hj => by rw [hl] at hj; simpa using (ht j (by simpa using hj)).2) (by
    intro v hv
    obtain ⟨x, _, rfl⟩ := List.mem_map.1 hv
    rfl)
  have hmin2 : Nat.min t.size dLen = m := hm.symm
  simp [Builtin.copy_, run_underlying hu, Builtin.lenOf, Builtin.firstCells, hz, hmin2]
  rw [← List.map_take]
  rw [show (fun x : UInt8 => Value.int .u8 (x.toNat : Int)) = bb from rfl, hst, Nat.add_zero, List.map_take]
  rfl
theorem wpList_copyIs {P : Program} {ops : Array Oper} {rest : List Oper} {o : Oper} {a : Act} {w : World} {Q : Exit → Act → World → Prop} (hgd : o.guard = none) (d s : Operand) (t t' : TypeId)
    (ho : o.op = .call { callee := .builtin .copy, args := #[d, s], argTypes := #[t, t'] }) (v u : Value) (hd : a.eval d = v) (hs : a.eval s = u) {v' : Value} {w' : World}
    (hr : (Builtin.copy_ #[t, t'] o.type #[v, u]).run P w = .ok v' w') (h : wpList P ops Q rest (a.put o.dst v') w') : wpList P ops Q (o :: rest) a w :=
  wpList_plain hgd fun _ hK => by
    unfold Oper.wp execOp
    simp only [ho, resolve, invoke, builtin, Sem.run_bind, Sem.run_pure, Result.andThen_ok, List.map_toArray, List.map_cons, List.map_nil, hd, hs, hr]
    exact hK _ _ h

def by_ (t : ByteArray) : List UInt8 := t.data.toList
theorem by_size (t : ByteArray) : t.size = (by_ t).length := Lib.size_eq t
theorem by_extract (t : ByteArray) (a b : Nat) : by_ (t.extract a b) = ((by_ t).take b).drop a := by
  unfold by_
  simp [ByteArray.data_extract, Array.toList_extract, List.extract_eq_take_drop, List.drop_take]
def strSize (v : Value) : Nat := match v with | .string u => u.size | _ => 0
theorem by_ext (a b : ByteArray) (h : by_ a = by_ b) : a = b := by
  unfold by_ at h
  exact ByteArray.ext (Array.toList_inj.1 h)

theorem holds_full {w : World} {g : Nat} {b1 p1 : List UInt8} (u : List UInt8) (hp1 : p1.length = 64) (hq1 : p1.take 64 = rest b1 ++ u) (hl : b1.length % 64 + u.length = 64)
    (hB : Blk w g 94 (smC (compress (chain b1) p1) p1 (b1.length + u.length))) : Holds w g (b1 ++ u) := by
  obtain ⟨e1, e2⟩ := chain_full b1 u hl
  have e3 : p1 = rest b1 ++ u := by rw [← hq1, List.take_of_length_le (by omega)]
  refine ⟨p1, hp1, ?_, ?_⟩
  · rw [e2, List.length_append, show (b1.length + u.length) % 64 = 0 by omega]; rfl
  · rw [e1, List.length_append, ← e3]; exact hB
theorem holds_part {w : World} {g : Nat} {b1 p1 : List UInt8} (u : List UInt8) (hp1 : p1.length = 64) (hq1 : p1.take (b1.length % 64 + u.length) = rest b1 ++ u) (hl : b1.length % 64 + u.length < 64)
    (hB : Blk w g 94 (smC (chain b1) p1 (b1.length + u.length))) : Holds w g (b1 ++ u) := by
  obtain ⟨e1, e2⟩ := chain_short b1 u hl
  refine ⟨p1, hp1, ?_, ?_⟩
  · rw [e2, List.length_append, ← hq1, show (b1.length + u.length) % 64 = b1.length % 64 + u.length by omega]
  · rw [e1, List.length_append]; exact hB
theorem load_state {w : World} {g : Nat} {s : S8} {p : List UInt8} {n : Nat} (hB : Blk w g 94 (smC s p n)) : (Instr.loadAt 91 (.pointer (some ⟨g, 0, none⟩))).run Tryd.prog w = .ok (.agg s.cells) w := by
  have h := run_loadAt_mid (P := Tryd.prog) w g 0 91 s.cells.toList _ (hB.rangeAt 0 _ (fun j v hv => by
    have hj : j < 8 := by
      have := (List.getElem?_eq_some_iff.1 hv).1
      rw [cells_len] at this; exact this
    rw [Nat.zero_add, smC_get, smL_state _ _ _ _ hj, ← Array.getElem?_toList]; exact hv)) Tryd.underlying91 rfl (by rw [cells_len]; kernel_rfl)
  rw [h]
theorem load_part {w : World} {g : Nat} {s : S8} {p : List UInt8} {n : Nat} (hp : p.length = 64) (hB : Blk w g 94 (smC s p n)) : (Instr.loadAt 92 (.pointer (some ⟨g, 8, none⟩))).run Tryd.prog w = .ok (.agg (bytesC p)) w := by
  have h := run_loadAt_mid (P := Tryd.prog) w g 8 92 (p.map bb) _ (hB.rangeAt 8 _ (fun j v hv => by
    have hj : j < 64 := by
      have := (List.getElem?_eq_some_iff.1 hv).1
      rw [List.length_map, hp] at this; exact this
    rw [smC_get, smL_part _ _ _ _ hp hj]; exact hv)) Tryd.underlying92 rfl (by rw [List.length_map, hp]; kernel_rfl)
  rw [h]; rfl
theorem execLoad {P : Program} {a : Act} {o : Oper} {w : World} (ty : TypeId) (x : Operand) (ho : o.op = .load ty x) {p v : Value} (hx : a.eval x = p) (h : (Instr.loadAt ty p).run P w = .ok v w) : (execOp a.eval o).run P w = .ok (.value v) w := by
  unfold execOp
  simp only [ho, hx, Sem.run_bind, h, Result.andThen_ok, Sem.run_pure]
theorem OnlyAt.trans_drew {w w' : World} {g : Nat} (h : OnlyAt g w w') : OnlyAt g w w'.drew := grownBy_trans h (grownBy_drew w' (some g))
theorem Consts.only {w w' : World} {g : Nat} (h : Consts w) (ho : OnlyAt g w w') (hg : 0 < g) : Consts w' := fun t ht =>
  (World.cell?_of_block (w := w) (a := ⟨0, t, none⟩) (ho.block 0 h.lt (by intro e; cases e; omega))).trans (h t ht)
theorem size5 (w : World) : (Go.sizeOf 5).run Tryd.prog w = .ok 1 w := by
  have hs : (Tryd.prog.info? 5).map (·.size) = some 1 := by kernel_rfl
  obtain ⟨i, hi, hi2⟩ := Option.map_eq_some_iff.1 hs
  simp [Go.sizeOf, typeInfo, hi, hi2]
set_option maxRecDepth 100000 in
set_option maxHeartbeats 2000000 in
theorem add_any (g : Nat) (hg : 0 < g) (bs : List UInt8) (t : ByteArray) (w : World) (hk : Consts w) (h : Holds w g bs) (hn : bs.length + t.size < 1600000000000000) :
    Calls Tryd.prog 28 #[.pointer (some ⟨g, 0, none⟩), .string t] w fun e w' => e = .returned (.bool true) ∧ Holds w' g (bs ++ by_ t) ∧ OnlyAt g w w' := by
  have HK := Lib.hid hk
  have HH := Lib.hid h
  have HN := Lib.hid hn
  clear hk h hn
  go_enter Tryd.func28, Tryd.ntmps28
  go_wp2_with fail
  go_loopw [1] (fun v wr => ∃ j : Nat, ∃ u : ByteArray, v = .string u ∧ by_ u = (by_ t).drop j ∧ j ≤ t.size ∧ Holds wr g (bs ++ (by_ t).take j) ∧ OnlyAt g w wr) (fun v _ => strSize v)
  case atStart => exact ⟨0, t, rfl, rfl, by omega, by simpa using HH.out, grownBy_some ⟨rfl, rfl, rfl, Nat.le_refl _, fun _ _ _ => rfl⟩ (some g)⟩
  case round =>
    obtain ⟨j, u, rfl, hu, hj, hH, hO⟩ := hrel
    have hul : u.size = t.size - j := by rw [by_size, hu, List.length_drop, ← by_size]
    have HU := Lib.hid hu
    have HUL := Lib.hid hul
    have HO := Lib.hid hO
    have HJ := Lib.hid hj
    clear hu hul hO hj
    generalize hb1 : bs ++ (by_ t).take j = b1 at hH
    have hb1l : b1.length = bs.length + j := by
      rw [← hb1, List.length_append, List.length_take]; have := HJ.out; rw [by_size] at this; omega
    have HB1 := Lib.hid hb1
    have hlt : b1.length < 1600000000000000 := by have := HN.out; have := HJ.out; omega
    obtain ⟨p, hp, hq, hB⟩ := hH
    have HQ := Lib.hid hq
    have HP := Lib.hid hp
    have HB := Lib.hid hB
    clear hb1 hq hB
    have c72 : wr.cell? ⟨g, 72, none⟩ = some (.int .i64 (b1.length : Int)) := (HB.out.cell 72).trans (by rw [smC_get, smL_many _ _ _ hp])
    clear hp hb1l
    by_cases hz : 0 < u.size
    · go_upto_region 5 with (fail)
      refine wp_region_lit ?_
      have hat : ((b1.length : Int) % 64) = ((b1.length % 64 : Nat) : Int) := by omega
      rw [hat]
      generalize hatn : b1.length % 64 = at_
      have hatl : at_ < 64 := by omega
      have i1 : (at_ : Int) ≤ 64 := by omega
      clear hat
      have HATN := Lib.hid hatn
      clear hatn
      iterate 18 go_step
      generalize hm : Nat.min u.size (64 - at_) = m
      have hmd : m = if u.size ≤ 64 - at_ then u.size else 64 - at_ := hm.symm
      have hm1 : m ≤ u.size := by split at hmd <;> omega
      have hm2 : at_ + m ≤ 64 := by split at hmd <;> omega
      have hm3 : at_ + m ≠ 64 → m = u.size := by intro hne; split at hmd <;> omega
      have hm4 : 0 < m := by split at hmd <;> omega
      clear hmd
      have htl : ((by_ u).take m).length = m := by rw [List.length_take, ← by_size]; omega
      have hth : wr.there g (8 + at_) m := HB.out.there _ _ (by rw [smC_size _ _ _ HP.out]; omega)
      have hrun := run_copy_cut (P := Tryd.prog) wr 29 9 3 5 g (8 + at_) (64 - at_) (64 - at_) m u Tryd.underlying29 size5 hm.symm hth
      refine wpList_copyIs rfl _ _ 29 9 rfl _ _ rfl rfl hrun ?_
      clear hrun hth c72
      have hB1 := HB.out.setCells (((by_ u).take m).map bb) (8 + at_)
      rw [smC_part _ _ _ _ _ HP.out (by omega)] at hB1
      have hO1 : OnlyAt g w (wr.setCells g (8 + at_) (((by_ u).take m).map bb)) := grownBy_trans HO.out (only_setCells wr g (8 + at_) _)
      change wpList _ _ _ _ _ (wr.setCells g (8 + at_) (((by_ u).take m).map bb))
      generalize wr.setCells g (8 + at_) (((by_ u).take m).map bb) = w1 at hB1 hO1 ⊢
      have hp1 : (lay p at_ ((by_ u).take m)).length = 64 := by rw [lay_length _ _ _ (by rw [HP.out]; omega), HP.out]
      have hq1 : (lay p at_ ((by_ u).take m)).take (at_ + m) = rest b1 ++ (by_ u).take m := by
        have e := lay_take p at_ ((by_ u).take m) (by rw [HP.out, htl]; omega)
        rw [htl] at e
        rw [e, ← HQ.out, HATN.out]
      generalize lay p at_ ((by_ u).take m) = p1 at hB1 hp1 hq1
      have c72 : w1.cell? ⟨g, 72, none⟩ = some (.int .i64 (b1.length : Int)) := (hB1.cell 72).trans (by rw [smC_get, smL_many _ _ _ hp1])
      have f72 := hB1.frozen 72
      have HB1' := Lib.hid hB1
      have HO1 := Lib.hid hO1
      have HP1 := Lib.hid hp1
      have HQ1 := Lib.hid hq1
      have HTL := Lib.hid htl
      have HM3 := Lib.hid hm3
      have HM := Lib.hid hm
      clear hB1 hO1 hp1 hq1 htl hm3 hm
      clear HB HO HQ HP p
      clear wr
      go_upto_if 38 with (fail)
      have ec : ((b1.length : Int) + (m : Int)) = ((b1.length + m : Nat) : Int) := by omega
      have hB2 := HB1'.out.set_ 72 (.int .i64 ((b1.length + m : Nat) : Int))
      rw [smC_many _ _ _ _ HP1.out] at hB2
      have hO2 : OnlyAt g w (w1.setCell ⟨g, 72, none⟩ (.int .i64 ((b1.length + m : Nat) : Int))) := grownBy_setCell HO1.out rfl _
      rw [ec]
      generalize w1.setCell ⟨g, 72, none⟩ (.int .i64 ((b1.length + m : Nat) : Int)) = w2 at hB2 hO2 ⊢
      clear c72 f72 ec
      have HB2 := Lib.hid hB2
      have HO2 := Lib.hid hO2
      clear hB2 hO2 HB1' HO1
      clear w1
      have hnext : by_ (u.extract m u.size) = (by_ t).drop (j + m) := by
        rw [by_extract, List.take_of_length_le (by rw [by_size]; exact Nat.le_refl _), HU.out, List.drop_drop]
      have hput : bs ++ (by_ t).take (j + m) = b1 ++ (by_ u).take m := by
        rw [List.take_add, ← HB1.out, List.append_assoc, HU.out]
      have HNX := Lib.hid hnext
      have HPUT := Lib.hid hput
      clear hnext hput
      have hjm : j + m ≤ t.size := by have := HUL.out; have := HJ.out; omega
      by_cases hfull : at_ + m = 64
      · have i2 : (at_ : Int) + (m : Int) = 64 := by omega
        have L91 : ∀ w', KeptOn (fun _ => True) w2.drew w' → (Instr.loadAt 91 (.pointer (some ⟨g, 0, none⟩))).run Tryd.prog w' = .ok (.agg (chain b1).cells) w' := fun w' hK => load_state (Blk.kept (w := w2.drew) HB2.out hK trivial)
        have L92 : ∀ w', KeptOn (fun _ => True) w2.drew w' → (Instr.loadAt 92 (.pointer (some ⟨g, 8, none⟩))).run Tryd.prog w' = .ok (.agg (bytesC p1)) w' := fun w' hK => load_part HP1.out (Blk.kept (w := w2.drew) HB2.out hK trivial)
        go_wp2_with fail
        refine wp_region_keep (KeptOn fun _ => True) (KeptOn.refl _) (KeptOn.trans) [(0,0),(1,0),(2,0),(3,0),(4,0),(5,0),(6,0),(7,0),(8,0),(9,1),(10,0),(11,0),(12,2)] (by kernel_rfl) (by kernel_rfl) ?_
        iterate 4 (refine keep_quiet (v := ?_) rfl (fun _ _ _ h => h) (by rfl) (fun w' hR => ?_) ?_; rotate_left; (go_simp; try with_reducible rfl); simp only [Act.put, List.setIfInBounds_toArray, List.set_cons_zero, List.set_cons_succ])
        refine keep_quiet (v := .agg (chain b1).cells) rfl (fun _ _ _ h => h) (by rfl) (fun w' hR => execLoad 91 _ rfl (p := .pointer (some ⟨g, 0, none⟩)) rfl (L91 w' hR)) ?_
        simp only [Act.put, List.setIfInBounds_toArray, List.set_cons_zero, List.set_cons_succ]
        iterate 3 (refine keep_quiet (v := ?_) rfl (fun _ _ _ h => h) (by rfl) (fun w' hR => ?_) ?_; rotate_left; (go_simp; try with_reducible rfl); simp only [Act.put, List.setIfInBounds_toArray, List.set_cons_zero, List.set_cons_succ])
        refine keep_quiet (v := .agg (bytesC p1)) rfl (fun _ _ _ h => h) (by rfl) (fun w' hR => execLoad 92 _ rfl (p := .pointer (some ⟨g, 8, none⟩)) rfl (L92 w' hR)) ?_
        simp only [Act.put, List.setIfInBounds_toArray, List.set_cons_zero, List.set_cons_succ]
        clear L91 L92
        refine keep_eff rfl ?_
        go_wp2_with fail
        refine (take_any (chain b1) p1 HP1.out w2.drew (HK.out.only (OnlyAt.trans_drew HO2.out) hg)).mono ?_
        rintro e w3 ⟨rfl, hb3⟩
        have hB3 := HB2.out.drew.below hb3 HB2.out.lt
        have hO3 : OnlyAt g w w3 := grownBy_trans (OnlyAt.trans_drew HO2.out) (grownBy_of_below hb3 _)
        have HB3 := Lib.hid hB3
        have HO3 := Lib.hid hO3
        have hK3 : KeptOn (fun _ => True) w2.drew w3 := KeptOn.below hb3 (fun b hb _ => hb)
        clear hB3 hO3 hb3
        have hth : w3.there g 0 (compress (chain b1) p1).cells.size := HB3.out.there 0 _ (by rw [smC_size _ _ _ HP1.out, cells_size]; omega)
        go_wp2_with fail
        refine keepPost_need hK3 ?_
        clear hK3
        generalize hst : compress (chain b1) p1 = st at hth ⊢
        have HST := Lib.hid hst
        clear hst
        iterate 2 (refine keep_quiet (v := ?_) rfl (fun _ _ _ h => h) (by rfl) (fun w' hR => ?_) ?_; rotate_left; (go_simp; try with_reducible rfl); simp only [Act.put, List.setIfInBounds_toArray, List.set_cons_zero, List.set_cons_succ])
        refine keep_eff rfl ?_
        refine wpList_store_mid rfl 91 _ _ rfl g 0 st.cells rfl rfl hth (by rw [cells_size]; kernel_rfl) (cells_one _) ?_
        refine wpList_nil ?_
        simp only [Act.put]
        clear hth
        have hB4 := HB3.out.setCells st.cells.toList 0
        have hO4 : OnlyAt g w (w3.setCells g 0 st.cells.toList) := grownBy_trans HO3.out (only_setCells w3 g 0 _)
        rw [smC_state _ _ _ _ HP1.out] at hB4
        generalize w3.setCells g 0 st.cells.toList = w4 at hB4 hO4 ⊢
        have hH4 : Holds w4 g (b1 ++ (by_ u).take m) := holds_full _ HP1.out (by rw [← HQ1.out, hfull]) (by rw [HTL.out, HATN.out]; exact hfull) (by rw [HST.out, HTL.out]; exact hB4)
        have HH4 := Lib.hid hH4
        have HO4 := Lib.hid hO4
        clear hB4 hO4 hH4
        refine keepPost_free ?_
        refine keep_done ?_
        go_wp2_with fail
        go_roundw
        case rel => exact ⟨j + m, u.extract m u.size, rfl, HNX.out, hjm, by rw [HPUT.out]; exact HH4.out, HO4.out⟩
        case measure =>
          show (u.extract m u.size).size < u.size
          rw [by_size, HNX.out, List.length_drop, ← by_size]; have := HUL.out; omega
      · have i2 : ¬ ((at_ : Int) + (m : Int) = 64) := by omega
        go_wp2_with fail
        go_roundw
        case rel => exact ⟨j + m, u.extract m u.size, rfl, HNX.out, hjm, by rw [HPUT.out]; exact holds_part _ HP1.out (by rw [HATN.out, HTL.out]; exact HQ1.out) (by rw [HATN.out, HTL.out]; omega) (by rw [HTL.out]; exact HB2.out), HO2.out⟩
        case measure =>
          show (u.extract m u.size).size < u.size
          rw [by_size, HNX.out, List.length_drop, ← by_size]; have := HUL.out; omega
    · have hz0 : u.size = 0 := by omega
      have hjt : j = t.size := by have := HUL.out; have := HJ.out; omega
      have hend : bs ++ by_ t = b1 := by rw [← HB1.out, List.take_of_length_le (by rw [hjt, by_size]; exact Nat.le_refl _)]
      have HEND := Lib.hid hend
      clear hend
      go_wp2_with fail
      go_ret
      exact ⟨rfl, by rw [HEND.out]; exact ⟨p, HP.out, HQ.out, HB.out⟩, HO.out⟩
theorem add_nil (t : ByteArray) (w : World) :
    Calls Tryd.prog 28 #[.pointer none, .string t] w fun e w' => e = .returned (.bool false) ∧ w = w' := by
  go_enter Tryd.func28, Tryd.ntmps28
  go_wp2_with fail
  go_ret
  exact ⟨rfl, rfl⟩
end Go.Proofs.YtkbcilfcfbfiaaaDoor
