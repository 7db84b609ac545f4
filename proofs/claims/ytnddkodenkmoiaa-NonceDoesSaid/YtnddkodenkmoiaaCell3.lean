/- The cell: slots, Room, field. -/
import Derived.Test.YtnddkodenkmoiaaCell2
namespace Go.Proofs.Ytnddkodenkmoiaa
open Go.RowKit Go.Proofs
set_option linter.unusedSimpArgs false
set_option linter.unusedVariables false
/-- What the slot in the i-th sector says. -/
def slotS (x : Dk) (i : Nat) (size : Int) : Int × Int := match x.L[i]? with
  | some s => says s.b size
  | none => (0, 0)
theorem strOf_size (bs : List UInt8) : (strOf bs).size = bs.length := by unfold strOf; simp [ByteArray.size]
theorem DiskAt.far2 {w : World} {d g : Nat} {x : Dk} (h : DiskAt w d g x) {p : Addr} (h1 : p.block ≠ d) (h2 : p.block ≠ g) (u : Value) : DiskAt (w.setCell p u) d g x := ⟨h.1.far (fun e => h1 e.symm) u, h.2.1.far (fun e => h2 e.symm) u, h.2.2⟩
theorem readR_in {x : Dk} {i : Nat} {s : Sec} (hd : x.down = false) (h : x.L[i]? = some s) : x.readR (i : Int) = (strOf s.b, 0) := by
  have hi := (List.getElem?_eq_some_iff.1 h).1
  unfold Dk.readR
  rw [if_neg (by rw [hd]; decide), if_neg (by omega)]
  show (match x.L[i]? with | some s => (strOf s.b, (0 : Int)) | none => (⟨#[]⟩, 3)) = _
  rw [h]
theorem results_cell_row_tmp {P : Program} {fn : Func} {p u : Tmp} {ty : TypeId} (h : fn.results = #[.cell p ty, .tmp u]) (tmps : Array Value) (w : World) (g : Nat) (t : TypeId) (cs : Array Value) (fr : Nat × Nat) (d : TypeDesc)
    (hp : tmps.getD p undef = .pointer (some ⟨g, 0, none⟩)) (hg : w.heap[g]? = some (.cells cs t fr))
    (hu : P.underlying ty = some d) (hd : (match d with | .struct _ | .array _ _ => true | _ => false) = true) (hi : (P.info? ty).map (·.size) = some cs.size) (v : Value) (hv : tmps.getD u undef = v) :
    (results fn tmps).run P w = .ok (.tuple #[.agg cs, v]) w := by
  subst hv
  rw [results_cell_tmp h, hp]
  simp [asAddr, run_loadVar_row w g t ty cs fr d hg hu hd hi, Result.andThen]
/-- What slots answers. -/
def slotsV (x : Dk) (f : Nat) (size : Int) : Value := if x.down then .tuple #[.agg #[.int .i64 0, .int .i64 0, .int .i64 0, .int .i64 0], .int .i64 12] else .tuple #[.agg #[.int .i64 (slotS x f size).1, .int .i64 (slotS x f size).2, .int .i64 (slotS x (f + 1) size).1, .int .i64 (slotS x (f + 1) size).2], .int .i64 0]
set_option maxRecDepth 100000 in
set_option maxHeartbeats 4000000 in
theorem slots_any (c d g : Nat) (f : Nat) (size : Int) (x : Dk) (w : World) (hc : CellAt w c d (f : Int) size) (hD : DiskAt w d g x) (hf : f + 1 < x.L.length) (hs1 : 1 ≤ size) (hs2 : size ≤ 255) :
    Calls Try.prog 53 #[.pointer (some ⟨c, 0, none⟩)] w fun e w' => e = .returned (slotsV x f size) ∧ Below w.heap.size w w' := by
  have hlen := hD.2.2.2.2
  have HCL := Lib.hid hc.lt
  have HDL := Lib.hid hD.1.lt
  have HGL := Lib.hid hD.2.1.lt
  obtain ⟨s0, hs0⟩ : ∃ s, x.L[f]? = some s := ⟨_, List.getElem?_eq_getElem (by omega)⟩
  obtain ⟨s1, hs1'⟩ : ∃ s, x.L[f + 1]? = some s := ⟨_, List.getElem?_eq_getElem (by omega)⟩
  have HS0 := Lib.hid (hD.2.2.1 s0 (List.mem_of_getElem? hs0))
  have HS1 := Lib.hid (hD.2.2.1 s1 (List.mem_of_getElem? hs1'))
  obtain ⟨⟨p1, p2⟩, hp⟩ : ∃ p, says s0.b size = p := ⟨_, rfl⟩
  obtain ⟨⟨q1, q2⟩, hq⟩ : ∃ p, says s1.b size = p := ⟨_, rfl⟩
  have HV0 := Lib.hid (fun h : x.down = true => (show slotsV x f size = .tuple #[.agg #[.int .i64 0, .int .i64 0, .int .i64 0, .int .i64 0], .int .i64 12] by unfold slotsV; rw [if_pos h]))
  have HV1 := Lib.hid (fun h : x.down = false => (show slotsV x f size = .tuple #[.agg #[.int .i64 p1, .int .i64 p2, .int .i64 q1, .int .i64 q2], .int .i64 0] by
    unfold slotsV
    rw [if_neg (by rw [h]; decide), show slotS x f size = (p1, p2) by unfold slotS; rw [hs0]; exact hp, show slotS x (f + 1) size = (q1, q2) by unfold slotS; rw [hs1']; exact hq]))
  have HP0 := Lib.hid hp
  have HP1 := Lib.hid hq
  have HX0 := Lib.hid hs0
  have HX1 := Lib.hid hs1'
  have HC := Lib.hid hc
  have HD := Lib.hid hD
  have HI := Lib.hid (show (Try.prog.info? 100).map (·.size) = some 4 by kernel_rfl)
  clear hc hD hp hq hs0 hs1'
  go_enter Try.func53, Try.ntmps53
  go_wp2_with fail
  have hQ : Blk (((w.alloc (.cells #[.pointer (some ⟨c, 0, none⟩)] 48)).alloc (.cells #[.int .i64 0, .int .i64 0, .int .i64 0, .int .i64 0] 100)).alloc (.cells #[.int .i64 0, .int .i64 0, .int .i64 0, .int .i64 0] 100)) w.heap.size 48 #[.pointer (some ⟨c, 0, none⟩)] := ((Blk.new w 48 _).alloc _).alloc _
  have hR : Blk (((w.alloc (.cells #[.pointer (some ⟨c, 0, none⟩)] 48)).alloc (.cells #[.int .i64 0, .int .i64 0, .int .i64 0, .int .i64 0] 100)).alloc (.cells #[.int .i64 0, .int .i64 0, .int .i64 0, .int .i64 0] 100)) (w.heap.size + 1) 100 #[.int .i64 0, .int .i64 0, .int .i64 0, .int .i64 0] := by
    have h1 : Blk ((w.alloc (.cells #[.pointer (some ⟨c, 0, none⟩)] 48)).alloc (.cells #[.int .i64 0, .int .i64 0, .int .i64 0, .int .i64 0] 100)) (w.heap.size + 1) 100 #[.int .i64 0, .int .i64 0, .int .i64 0, .int .i64 0] := by simpa using Blk.new (w.alloc (.cells #[.pointer (some ⟨c, 0, none⟩)] 48)) 100 #[.int .i64 0, .int .i64 0, .int .i64 0, .int .i64 0]
    exact h1.alloc _
  have hO : Blk (((w.alloc (.cells #[.pointer (some ⟨c, 0, none⟩)] 48)).alloc (.cells #[.int .i64 0, .int .i64 0, .int .i64 0, .int .i64 0] 100)).alloc (.cells #[.int .i64 0, .int .i64 0, .int .i64 0, .int .i64 0] 100)) (w.heap.size + 1 + 1) 100 #[.int .i64 0, .int .i64 0, .int .i64 0, .int .i64 0] := by
    simpa using Blk.new ((w.alloc (.cells #[.pointer (some ⟨c, 0, none⟩)] 48)).alloc (.cells #[.int .i64 0, .int .i64 0, .int .i64 0, .int .i64 0] 100)) 100 #[.int .i64 0, .int .i64 0, .int .i64 0, .int .i64 0]
  have hC : CellAt (((w.alloc (.cells #[.pointer (some ⟨c, 0, none⟩)] 48)).alloc (.cells #[.int .i64 0, .int .i64 0, .int .i64 0, .int .i64 0] 100)).alloc (.cells #[.int .i64 0, .int .i64 0, .int .i64 0, .int .i64 0] 100)) c d (f : Int) size := ((HC.out.alloc _).alloc _).alloc _
  have hB : Below w.heap.size w (((w.alloc (.cells #[.pointer (some ⟨c, 0, none⟩)] 48)).alloc (.cells #[.int .i64 0, .int .i64 0, .int .i64 0, .int .i64 0] 100)).alloc (.cells #[.int .i64 0, .int .i64 0, .int .i64 0, .int .i64 0] 100)) := (((Below.refl _ _).alloc (Nat.le_refl _) _).alloc (by simp) _).alloc (by simp; omega) _
  have hD := HD.out.below hB
  generalize ((w.alloc (.cells #[.pointer (some ⟨c, 0, none⟩)] 48)).alloc (.cells #[.int .i64 0, .int .i64 0, .int .i64 0, .int .i64 0] 100)).alloc (.cells #[.int .i64 0, .int .i64 0, .int .i64 0, .int .i64 0] 100) = w2 at hQ hR hO hC hB hD ⊢
  clear HC HD
  have HC := Lib.hid hC
  have HD := Lib.hid hD
  have HQ := Lib.hid hQ
  have HR := Lib.hid hR
  have HO := Lib.hid hO
  have HB := Lib.hid hB
  clear hQ hR hO hC hB hD
  go_loopw [6, 7, 8, 10] (fun _ _ _ v10 wr => ∃ i : Nat, CellAt wr c d (f : Int) size ∧ DiskAt wr d g x ∧ Blk wr w.heap.size 48 #[.pointer (some ⟨c, 0, none⟩)] ∧ Blk wr (w.heap.size + 1) 100 #[.int .i64 0, .int .i64 0, .int .i64 0, .int .i64 0] ∧ Below w.heap.size w wr ∧ ((i = 0 ∧ v10 = .int .i64 0 ∧ Blk wr (w.heap.size + 1 + 1) 100 #[.int .i64 0, .int .i64 0, .int .i64 0, .int .i64 0]) ∨ (i = 1 ∧ v10 = .int .i64 1 ∧ x.down = false ∧ Blk wr (w.heap.size + 1 + 1) 100 #[.int .i64 p1, .int .i64 p2, .int .i64 0, .int .i64 0]) ∨ (i = 2 ∧ v10 = .int .i64 2 ∧ x.down = false ∧ Blk wr (w.heap.size + 1 + 1) 100 #[.int .i64 p1, .int .i64 p2, .int .i64 q1, .int .i64 q2]))) (fun _ _ _ v10 _ => 2 - (intOf v10).toNat)
  case atStart => exact ⟨0, HC.out, HD.out, HQ.out, HR.out, HB.out, .inl ⟨rfl, rfl, HO.out⟩⟩
  case round =>
    obtain ⟨i, hC, hD, hQ, hR, hB, hi⟩ := hrel
    clear HC HD HQ HR HO HB
    have HC := Lib.hid hC
    have HD := Lib.hid hD
    have HQ := Lib.hid hQ
    have HR := Lib.hid hR
    have HB := Lib.hid hB
    clear hQ hR hC hB hD
    rcases hi with ⟨rfl, rfl, hO⟩ | ⟨rfl, rfl, hdn, hO⟩ | ⟨rfl, rfl, hdn, hO⟩
    · have HO := Lib.hid hO
      clear hO
      have hK0 : ∀ w', KeptOn (fun _ => True) wr.drew w' → w'.cell? ⟨w.heap.size, 0, none⟩ = some (.pointer (some ⟨c, 0, none⟩)) := fun w' h => h.cell (w := wr.drew) (HQ.out.cell 0) trivial
      have hK1 : ∀ w', KeptOn (fun _ => True) wr.drew w' → w'.cell? ⟨c, 0, none⟩ = some (.pointer (some ⟨d, 0, none⟩)) := fun w' h => h.cell (w := wr.drew) (Blk.cell HC.out 0) trivial
      have hK2 : ∀ w', KeptOn (fun _ => True) wr.drew w' → w'.cell? ⟨c, 1, none⟩ = some (.int .i64 (f : Int)) := fun w' h => h.cell (w := wr.drew) (Blk.cell HC.out 1) trivial
      have hw1 : IntKind.i64.wrap ((f : Int) + 1) = (f : Int) + 1 := IntWalk.i64_in _ (by omega)
      have hw0 : IntKind.i64.wrap (f : Int) = (f : Int) := IntWalk.i64_in _ (by omega)
      go_upto_region 6 with (fail)
      refine wp_region_keep2 (KeptOn fun _ => True) (KeptOn.refl _) (KeptOn.trans) [(0, 0), (1, 0), (2, 0), (3, 0), (4, 0), (5, 0), (6, 0), (7, 0), (8, 0), (9, 0), (10, 1), (11, 0), (12, 0), (13, 0), (14, 0), (15, 0)] (by kernel_rfl) (by kernel_rfl) ?_
      iterate 10 (refine keep_quiet (v := ?_) rfl (fun _ _ _ h => h) (by rfl) (fun w' hR => ?_) ?_; rotate_left; (go_simp; try with_reducible rfl); simp only [Act.put, List.setIfInBounds_toArray, List.set_cons_zero, List.set_cons_succ])
      refine keep_eff rfl ?_
      go_wp2_with fail
      refine (read_any d g x ((f : Int)) wr.drew HD.out.drew).mono ?_
      rintro e w' ⟨rfl, rfl⟩
      by_cases hdn : x.down = true
      · 
        rw [show x.readR ((f : Int)) = (⟨#[]⟩, 12) by unfold Dk.readR; rw [if_pos hdn]]
        go_wp2_with fail
        refine keepPost_need (KeptOn.refl _ _) ?_
        iterate 5 (refine keep_quiet (v := ?_) rfl (fun _ _ _ h => h) (by rfl) (fun w' hR => ?_) ?_; rotate_left; (go_simp; try with_reducible rfl); simp only [Act.put, List.setIfInBounds_toArray, List.set_cons_zero, List.set_cons_succ])
        refine keep_done ?_
        clear hK0 hK1 hK2 hw1 hw0
        have o0 := HO.out.cell 0
        have o1 := HO.out.cell 1
        have o2 := HO.out.cell 2
        have o3 := HO.out.cell 3
        have r0 := HR.out.cell 0
        have r1 := HR.out.cell 1
        have r2 := HR.out.cell 2
        have r3 := HR.out.cell 3
        have g0 := HR.out.frozen 0
        have g1 := HR.out.frozen 1
        have g2 := HR.out.frozen 2
        have g3 := HR.out.frozen 3
        have HZ := Lib.hid (((((HR.out).set_ 0 (.int .i64 0)).set_ 1 (.int .i64 0)).set_ 2 (.int .i64 0)).set_ 3 (.int .i64 0))
        go_wp2_with fail
        refine bodyPost_ret (v := .tuple #[.agg #[.int .i64 0, .int .i64 0, .int .i64 0, .int .i64 0], .int .i64 12]) (results_cell_row_tmp rfl _ _ (w.heap.size + 1) 100 #[.int .i64 0, .int .i64 0, .int .i64 0, .int .i64 0] _ _ rfl HZ.out.drew Try.underlying100 rfl HI.out (.int .i64 12) rfl) rfl ⟨by rw [HV0.out hdn], (((((HB.out.setCell (p := ⟨w.heap.size + 1, 0, none⟩) (Nat.le_succ _) _).setCell (p := ⟨w.heap.size + 1, 1, none⟩) (Nat.le_succ _) _).setCell (p := ⟨w.heap.size + 1, 2, none⟩) (Nat.le_succ _) _).setCell (p := ⟨w.heap.size + 1, 3, none⟩) (Nat.le_succ _) _)).drew⟩
      · have hdn : x.down = false := by simpa using hdn
        have HR0 := Lib.hid (readR_in hdn HX0.out)
        rw [HR0.out]
        go_wp2_with fail
        refine keepPost_need (KeptOn.refl _ _) ?_
        iterate 5 (refine keep_quiet (v := ?_) rfl (fun _ _ _ h => h) (by rfl) (fun w' hR => ?_) ?_; rotate_left; (go_simp; try with_reducible rfl); simp only [Act.put, List.setIfInBounds_toArray, List.set_cons_zero, List.set_cons_succ])
        refine keep_done ?_
        clear hK0 hK1 hK2 hw1 hw0
        go_wp2_with fail
        refine (say_any w.heap.size c d f size (strOf s0.b) wr.drew HC.out.drew (by rw [strOf_size]; exact HS0.out.1) hs1 hs2 HQ.out.drew).mono ?_
        rintro e w2 ⟨rfl, hb⟩
        rw [show says (by_ (strOf s0.b)) size = (p1, p2) from HP0.out]
        have HC := Lib.hid (show CellAt w2 c d (f : Int) size from HC.out.drew.below hb HC.out.drew.lt)
        have HD := Lib.hid (HD.out.drew.below hb)
        have HQ := Lib.hid (HQ.out.drew.below hb HQ.out.drew.lt)
        have HR := Lib.hid (HR.out.drew.below hb HR.out.drew.lt)
        have HO := Lib.hid (HO.out.drew.below hb HO.out.drew.lt)
        have HB := Lib.hid (HB.out.drew.trans (hb.mono (by have := HB.out.size; exact this)))
        clear hb
        have o0 := HO.out.cell 0
        have o1 := HO.out.cell 1
        have g0 := HO.out.frozen 0
        have g1 := HO.out.frozen 1
        have hn := (HO.out.set_ 0 (.int .i64 p1)).set_ 1 (.int .i64 p2)
        have hl := HO.out.lt
        have hC := HC.out.far (p := ⟨w.heap.size + 1 + 1, 0, none⟩) (by show c ≠ w.heap.size + 1 + 1; have := HCL.out; omega) (.int .i64 p1)
        have hC := hC.far (p := ⟨w.heap.size + 1 + 1, 1, none⟩) (by show c ≠ w.heap.size + 1 + 1; have := HCL.out; omega) (.int .i64 p2)
        have hD := HD.out.far2 (p := ⟨w.heap.size + 1 + 1, 0, none⟩) (by show w.heap.size + 1 + 1 ≠ d; have := HDL.out; omega) (by show w.heap.size + 1 + 1 ≠ g; have := HGL.out; omega) (.int .i64 p1)
        have hD := hD.far2 (p := ⟨w.heap.size + 1 + 1, 1, none⟩) (by show w.heap.size + 1 + 1 ≠ d; have := HDL.out; omega) (by show w.heap.size + 1 + 1 ≠ g; have := HGL.out; omega) (.int .i64 p2)
        have hQ := (HQ.out.far (p := ⟨w.heap.size + 1 + 1, 0, none⟩) (by show w.heap.size ≠ w.heap.size + 1 + 1; omega) (.int .i64 p1)).far (p := ⟨w.heap.size + 1 + 1, 1, none⟩) (by show w.heap.size ≠ w.heap.size + 1 + 1; omega) (.int .i64 p2)
        have hR := (HR.out.far (p := ⟨w.heap.size + 1 + 1, 0, none⟩) (by show w.heap.size + 1 ≠ w.heap.size + 1 + 1; omega) (.int .i64 p1)).far (p := ⟨w.heap.size + 1 + 1, 1, none⟩) (by show w.heap.size + 1 ≠ w.heap.size + 1 + 1; omega) (.int .i64 p2)
        have hB := (HB.out.setCell (p := ⟨w.heap.size + 1 + 1, 0, none⟩) (by show w.heap.size ≤ w.heap.size + 1 + 1; omega) (.int .i64 p1)).setCell (p := ⟨w.heap.size + 1 + 1, 1, none⟩) (by show w.heap.size ≤ w.heap.size + 1 + 1; omega) (.int .i64 p2)
        have HC := Lib.hid hC
        have HD := Lib.hid hD
        have HQ := Lib.hid hQ
        have HR := Lib.hid hR
        have HO := Lib.hid (show Blk _ (w.heap.size + 1 + 1) 100 #[.int .i64 p1, .int .i64 p2, .int .i64 0, .int .i64 0] from hn)
        have HB := Lib.hid hB
        clear hC hD hQ hR hB hn
        go_wp2_with fail
        go_roundw
        case rel => exact ⟨1, HC.out, HD.out, HQ.out, HR.out, HB.out, by right; left; exact ⟨rfl, by go_num, hdn, HO.out⟩⟩
        case measure => simp [intOf]
    · have HO := Lib.hid hO
      clear hO
      have hK0 : ∀ w', KeptOn (fun _ => True) wr.drew w' → w'.cell? ⟨w.heap.size, 0, none⟩ = some (.pointer (some ⟨c, 0, none⟩)) := fun w' h => h.cell (w := wr.drew) (HQ.out.cell 0) trivial
      have hK1 : ∀ w', KeptOn (fun _ => True) wr.drew w' → w'.cell? ⟨c, 0, none⟩ = some (.pointer (some ⟨d, 0, none⟩)) := fun w' h => h.cell (w := wr.drew) (Blk.cell HC.out 0) trivial
      have hK2 : ∀ w', KeptOn (fun _ => True) wr.drew w' → w'.cell? ⟨c, 1, none⟩ = some (.int .i64 (f : Int)) := fun w' h => h.cell (w := wr.drew) (Blk.cell HC.out 1) trivial
      have hw1 : IntKind.i64.wrap ((f : Int) + 1) = (f : Int) + 1 := IntWalk.i64_in _ (by omega)
      have hw0 : IntKind.i64.wrap (f : Int) = (f : Int) := IntWalk.i64_in _ (by omega)
      go_upto_region 6 with (fail)
      refine wp_region_keep2 (KeptOn fun _ => True) (KeptOn.refl _) (KeptOn.trans) [(0, 0), (1, 0), (2, 0), (3, 0), (4, 0), (5, 0), (6, 0), (7, 0), (8, 0), (9, 0), (10, 1), (11, 0), (12, 0), (13, 0), (14, 0), (15, 0)] (by kernel_rfl) (by kernel_rfl) ?_
      iterate 10 (refine keep_quiet (v := ?_) rfl (fun _ _ _ h => h) (by rfl) (fun w' hR => ?_) ?_; rotate_left; (go_simp; try with_reducible rfl); simp only [Act.put, List.setIfInBounds_toArray, List.set_cons_zero, List.set_cons_succ])
      refine keep_eff rfl ?_
      go_wp2_with fail
      refine (read_any d g x ((f : Int) + 1) wr.drew HD.out.drew).mono ?_
      rintro e w' ⟨rfl, rfl⟩
      have HR1 := Lib.hid (show x.readR ((f : Int) + 1) = (strOf s1.b, 0) from readR_in hdn HX1.out)
      rw [HR1.out]
      go_wp2_with fail
      refine keepPost_need (KeptOn.refl _ _) ?_
      iterate 5 (refine keep_quiet (v := ?_) rfl (fun _ _ _ h => h) (by rfl) (fun w' hR => ?_) ?_; rotate_left; (go_simp; try with_reducible rfl); simp only [Act.put, List.setIfInBounds_toArray, List.set_cons_zero, List.set_cons_succ])
      refine keep_done ?_
      clear hK0 hK1 hK2 hw1 hw0
      go_wp2_with fail
      refine (say_any w.heap.size c d f size (strOf s1.b) wr.drew HC.out.drew (by rw [strOf_size]; exact HS1.out.1) hs1 hs2 HQ.out.drew).mono ?_
      rintro e w2 ⟨rfl, hb⟩
      rw [show says (by_ (strOf s1.b)) size = (q1, q2) from HP1.out]
      have HC := Lib.hid (show CellAt w2 c d (f : Int) size from HC.out.drew.below hb HC.out.drew.lt)
      have HD := Lib.hid (HD.out.drew.below hb)
      have HQ := Lib.hid (HQ.out.drew.below hb HQ.out.drew.lt)
      have HR := Lib.hid (HR.out.drew.below hb HR.out.drew.lt)
      have HO := Lib.hid (HO.out.drew.below hb HO.out.drew.lt)
      have HB := Lib.hid (HB.out.drew.trans (hb.mono (by have := HB.out.size; exact this)))
      clear hb
      have o0 := HO.out.cell 2
      have o1 := HO.out.cell 3
      have g0 := HO.out.frozen 2
      have g1 := HO.out.frozen 3
      have hn := (HO.out.set_ 2 (.int .i64 q1)).set_ 3 (.int .i64 q2)
      have hl := HO.out.lt
      have hC := HC.out.far (p := ⟨w.heap.size + 1 + 1, 2, none⟩) (by show c ≠ w.heap.size + 1 + 1; have := HCL.out; omega) (.int .i64 q1)
      have hC := hC.far (p := ⟨w.heap.size + 1 + 1, 3, none⟩) (by show c ≠ w.heap.size + 1 + 1; have := HCL.out; omega) (.int .i64 q2)
      have hD := HD.out.far2 (p := ⟨w.heap.size + 1 + 1, 2, none⟩) (by show w.heap.size + 1 + 1 ≠ d; have := HDL.out; omega) (by show w.heap.size + 1 + 1 ≠ g; have := HGL.out; omega) (.int .i64 q1)
      have hD := hD.far2 (p := ⟨w.heap.size + 1 + 1, 3, none⟩) (by show w.heap.size + 1 + 1 ≠ d; have := HDL.out; omega) (by show w.heap.size + 1 + 1 ≠ g; have := HGL.out; omega) (.int .i64 q2)
      have hQ := (HQ.out.far (p := ⟨w.heap.size + 1 + 1, 2, none⟩) (by show w.heap.size ≠ w.heap.size + 1 + 1; omega) (.int .i64 q1)).far (p := ⟨w.heap.size + 1 + 1, 3, none⟩) (by show w.heap.size ≠ w.heap.size + 1 + 1; omega) (.int .i64 q2)
      have hR := (HR.out.far (p := ⟨w.heap.size + 1 + 1, 2, none⟩) (by show w.heap.size + 1 ≠ w.heap.size + 1 + 1; omega) (.int .i64 q1)).far (p := ⟨w.heap.size + 1 + 1, 3, none⟩) (by show w.heap.size + 1 ≠ w.heap.size + 1 + 1; omega) (.int .i64 q2)
      have hB := (HB.out.setCell (p := ⟨w.heap.size + 1 + 1, 2, none⟩) (by show w.heap.size ≤ w.heap.size + 1 + 1; omega) (.int .i64 q1)).setCell (p := ⟨w.heap.size + 1 + 1, 3, none⟩) (by show w.heap.size ≤ w.heap.size + 1 + 1; omega) (.int .i64 q2)
      have HC := Lib.hid hC
      have HD := Lib.hid hD
      have HQ := Lib.hid hQ
      have HR := Lib.hid hR
      have HO := Lib.hid (show Blk _ (w.heap.size + 1 + 1) 100 #[.int .i64 p1, .int .i64 p2, .int .i64 q1, .int .i64 q2] from hn)
      have HB := Lib.hid hB
      clear hC hD hQ hR hB hn
      go_wp2_with fail
      go_roundw
      case rel => exact ⟨2, HC.out, HD.out, HQ.out, HR.out, HB.out, by right; right; exact ⟨rfl, by go_num, hdn, HO.out⟩⟩
      case measure => simp [intOf]
    · have HO := Lib.hid hO
      clear hO
      have o0 := HO.out.cell 0
      have o1 := HO.out.cell 1
      have o2 := HO.out.cell 2
      have o3 := HO.out.cell 3
      have r0 := HR.out.cell 0
      have r1 := HR.out.cell 1
      have r2 := HR.out.cell 2
      have r3 := HR.out.cell 3
      have g0 := HR.out.frozen 0
      have g1 := HR.out.frozen 1
      have g2 := HR.out.frozen 2
      have g3 := HR.out.frozen 3
      have HZ := Lib.hid (((((HR.out).set_ 0 (.int .i64 p1)).set_ 1 (.int .i64 p2)).set_ 2 (.int .i64 q1)).set_ 3 (.int .i64 q2))
      go_wp2_with fail
      refine bodyPost_ret (v := .tuple #[.agg #[.int .i64 p1, .int .i64 p2, .int .i64 q1, .int .i64 q2], .int .i64 0]) (results_cell_row_tmp rfl _ _ (w.heap.size + 1) 100 #[.int .i64 p1, .int .i64 p2, .int .i64 q1, .int .i64 q2] _ _ rfl HZ.out Try.underlying100 rfl HI.out (.int .i64 0) rfl) rfl ⟨by rw [HV1.out hdn], (((((HB.out.setCell (p := ⟨w.heap.size + 1, 0, none⟩) (Nat.le_succ _) _).setCell (p := ⟨w.heap.size + 1, 1, none⟩) (Nat.le_succ _) _).setCell (p := ⟨w.heap.size + 1, 2, none⟩) (Nat.le_succ _) _).setCell (p := ⟨w.heap.size + 1, 3, none⟩) (Nat.le_succ _) _))⟩
end Go.Proofs.Ytnddkodenkmoiaa
