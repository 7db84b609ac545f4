/- A digest of bytes. -/
import Derived.Test.YtkbcilfcfbfiaaaDoorMac9
import Derived.Laws.ResultCell
namespace Go.Proofs.YtkbcilfcfbfiaaaDoor
open Go.RowKit Go.Proofs
set_option linter.unusedSimpArgs false
set_option linter.unusedVariables false
theorem results_cell_row_tmp {P : Program} {fn : Func} {p u : Tmp} {ty : TypeId} (h : fn.results = #[.cell p ty, .tmp u]) (tmps : Array Value) (w : World) (g : Nat) (t : TypeId) (cs : Array Value) (fr : Nat × Nat) (d : TypeDesc)
    (hp : tmps.getD p undef = .pointer (some ⟨g, 0, none⟩)) (hg : w.heap[g]? = some (.cells cs t fr))
    (hu : P.underlying ty = some d) (hd : (match d with | .struct _ | .array _ _ => true | _ => false) = true) (hi : (P.info? ty).map (·.size) = some cs.size) (v : Value) (hv : tmps.getD u undef = v) :
    (results fn tmps).run P w = .ok (.tuple #[.agg cs, v]) w := by
  subst hv
  rw [results_cell_tmp h, hp]
  simp [asAddr, run_loadVar_row w g t ty cs fr d hg hu hd hi, Result.andThen]
/-- What bytes are as a digest, and what is wrong with them. -/
def digestOf (t : ByteArray) : List UInt8 × Int := if t.size < 32 then (List.replicate 32 0, 5) else if 32 < t.size then (List.replicate 32 0, 6) else (by_ t, 0)
theorem put_all32 (k : List UInt8) (h : k.length = 32) : putAll z32 0 (k.map bb) = bytesC k := by
  have e : k.map bb = (bytesC k).toList := by unfold bytesC; rfl
  rw [e]
  exact putAll_all _ _ (by rw [z32_size, bytesC_size, h])
set_option maxRecDepth 100000 in
set_option maxHeartbeats 2000000 in
theorem digest_any (t : ByteArray) (w : World) :
    Calls Tryd.prog 38 #[.string t] w fun e w' => e = .returned (.tuple #[.agg (bytesC (digestOf t).1), .int .i64 (digestOf t).2]) ∧ Below w.heap.size w w' := by
  go_enter Tryd.func38, Tryd.ntmps38
  go_upto_region 2 with (fail)
  change Code.wp _ _ _ _ ((w.alloc (.cells z32 25)).alloc (.cells z32 25))
  have R2 : Blk ((w.alloc (.cells z32 25)).alloc (.cells z32 25)) w.heap.size 25 z32 := (Blk.new w 25 z32).alloc _
  have R3 : Blk ((w.alloc (.cells z32 25)).alloc (.cells z32 25)) (w.heap.size + 1) 25 z32 := by
    have := Blk.new (w.alloc (.cells z32 25)) 25 z32
    rwa [World.size_alloc] at this
  have B : Below w.heap.size w ((w.alloc (.cells z32 25)).alloc (.cells z32 25)) := ((Below.refl _ _).alloc (Nat.le_refl _) _).alloc (by simp) _
  generalize (w.alloc (.cells z32 25)).alloc (.cells z32 25) = wv at R2 R3 B ⊢
  have HR2 := Lib.hid R2
  have HB := Lib.hid B
  have HR3 := Lib.hid R3
  clear R2 R3 B
  have hdz : bytesC (List.replicate 32 0) = z32 := rfl
  by_cases h1 : t.size < 32
  · have HE := Lib.hid (show digestOf t = (List.replicate 32 0, 5) by unfold digestOf; rw [if_pos h1])
    have hsz := z32_size
    have hone : z32.all (·.oneCell') = true := bytesC_one _
    have HXX := Lib.hid hdz
    generalize z32 = X at HR3 hsz hone HXX
    clear hdz
    have hi25 : (Tryd.prog.info? 25).map (·.size) = some X.size := by rw [hsz]; kernel_rfl
    have HX := HR3
    go_upto_region 3 with (fail)
    refine wp_region_lit ?_
    refine wpList_load_row rfl 25 _ rfl (w.heap.size + 1) rfl 25 X _ _ HX.out Tryd.underlying25 rfl hi25 ?_
    refine wpList_store_mid rfl 25 _ _ rfl w.heap.size 0 X rfl rfl (HR2.out.there 0 _ (by rw [hsz, z32_size]; exact Nat.le_refl _)) hi25 hone ?_
    have hz := HR2.out.setCells X.toList 0
    rw [putAll_all _ _ (by rw [hsz, z32_size])] at hz
    have B4 := Below.setCells' X.toList (Nat.le_refl _) 0 HB.out
    simp only [Act.put]
    generalize wv.setCells w.heap.size 0 X.toList = w4 at hz B4 ⊢
    have HI := Lib.hid hi25
    have HZ := Lib.hid hz
    have HB := Lib.hid B4
    clear hz B4 hi25 hsz hone
    go_wp2_with fail
    refine bodyPost_ret (v := .tuple #[.agg X, .int .i64 5]) (results_cell_row_tmp rfl _ _ w.heap.size 25 X _ _ rfl HZ.out Tryd.underlying25 rfl HI.out (.int .i64 5) rfl) rfl ⟨by rw [HE.out, HXX.out], HB.out⟩
  · by_cases h2 : 32 < t.size
    · have HE := Lib.hid (show digestOf t = (List.replicate 32 0, 6) by unfold digestOf; rw [if_neg h1, if_pos h2])
      have hsz := z32_size
      have hone : z32.all (·.oneCell') = true := bytesC_one _
      have HXX := Lib.hid hdz
      generalize z32 = X at HR3 hsz hone HXX
      clear hdz
      have hi25 : (Tryd.prog.info? 25).map (·.size) = some X.size := by rw [hsz]; kernel_rfl
      have HX := HR3
      go_upto_region 5 with (fail)
      refine wp_region_lit ?_
      refine wpList_load_row rfl 25 _ rfl (w.heap.size + 1) rfl 25 X _ _ HX.out Tryd.underlying25 rfl hi25 ?_
      refine wpList_store_mid rfl 25 _ _ rfl w.heap.size 0 X rfl rfl (HR2.out.there 0 _ (by rw [hsz, z32_size]; exact Nat.le_refl _)) hi25 hone ?_
      have hz := HR2.out.setCells X.toList 0
      rw [putAll_all _ _ (by rw [hsz, z32_size])] at hz
      have B4 := Below.setCells' X.toList (Nat.le_refl _) 0 HB.out
      simp only [Act.put]
      generalize wv.setCells w.heap.size 0 X.toList = w4 at hz B4 ⊢
      have HI := Lib.hid hi25
      have HZ := Lib.hid hz
      have HB := Lib.hid B4
      clear hz B4 hi25 hsz hone
      go_wp2_with fail
      refine bodyPost_ret (v := .tuple #[.agg X, .int .i64 6]) (results_cell_row_tmp rfl _ _ w.heap.size 25 X _ _ rfl HZ.out Tryd.underlying25 rfl HI.out (.int .i64 6) rfl) rfl ⟨by rw [HE.out, HXX.out], HB.out⟩
    · have h32 : t.size = 32 := by omega
      have HE := Lib.hid (show digestOf t = (by_ t, 0) by unfold digestOf; rw [if_neg h1, if_neg h2])
      have hbl : (by_ t).length = 32 := by rw [← by_size]; exact h32
      go_upto_region 6 with (fail)
      refine wp_region_lit ?_
      iterate 6 go_step
      have hrun := run_copy_cut (P := Tryd.prog) wv 29 9 3 5 (w.heap.size + 1) 0 32 32 32 t Tryd.underlying29 size5 (by rw [h32]; rfl) (HR3.out.there 0 _ (by rw [z32_size]; omega))
      refine wpList_copyIs rfl _ _ 29 9 rfl _ _ rfl rfl hrun ?_
      clear hrun
      change wpList _ _ _ _ _ (wv.setCells (w.heap.size + 1) 0 (((by_ t).take 32).map bb))
      rw [List.take_of_length_le (by rw [hbl]; exact Nat.le_refl _)]
      have h3 := HR3.out.setCells ((by_ t).map bb) 0
      rw [put_all32 _ hbl] at h3
      have HR2 := Lib.hid (HR2.out.setCells_far (b := w.heap.size + 1) ((by_ t).map bb) (by omega) 0)
      have HB := Lib.hid (Below.setCells' (b := w.heap.size + 1) ((by_ t).map bb) (by omega) 0 HB.out)
      generalize hww : wv.setCells (w.heap.size + 1) 0 ((by_ t).map bb) = wv2 at HR2 HB h3 ⊢
      clear hww HR3
      have hsz : (bytesC (by_ t)).size = 32 := by rw [bytesC_size, hbl]
      have hone := bytesC_one (by_ t)
      generalize hXX : bytesC (by_ t) = X at h3 hsz hone
      have HXX := Lib.hid hXX
      have HX := Lib.hid h3
      have hi25 : (Tryd.prog.info? 25).map (·.size) = some X.size := by rw [hsz]; kernel_rfl
      clear hXX h3 hbl
      refine wpList_nil ?_
      simp only [Act.put]
      go_upto_region 7 with (fail)
      refine wp_region_lit ?_
      refine wpList_load_row rfl 25 _ rfl (w.heap.size + 1) rfl 25 X _ _ HX.out Tryd.underlying25 rfl hi25 ?_
      refine wpList_store_mid rfl 25 _ _ rfl w.heap.size 0 X rfl rfl (HR2.out.there 0 _ (by rw [hsz, z32_size]; exact Nat.le_refl _)) hi25 hone ?_
      have hz := HR2.out.setCells X.toList 0
      rw [putAll_all _ _ (by rw [hsz, z32_size])] at hz
      have B4 := Below.setCells' X.toList (Nat.le_refl _) 0 HB.out
      simp only [Act.put]
      generalize wv2.setCells w.heap.size 0 X.toList = w4 at hz B4 ⊢
      have HI := Lib.hid hi25
      have HZ := Lib.hid hz
      have HB := Lib.hid B4
      clear hz B4 hi25 hsz hone
      go_wp2_with fail
      refine bodyPost_ret (v := .tuple #[.agg X, .int .i64 0]) (results_cell_row_tmp rfl _ _ w.heap.size 25 X _ _ rfl HZ.out Tryd.underlying25 rfl HI.out (.int .i64 0) rfl) rfl ⟨by rw [HE.out, HXX.out], HB.out⟩
end Go.Proofs.YtkbcilfcfbfiaaaDoor
