/- RingNone: the walk. -/
import Derived.Test.YtkbcilfcfbfiaaaDoorRing8
namespace Go.Proofs.YtkbcilfcfbfiaaaDoor
open Go.RowKit Go.Proofs
set_option linter.unusedSimpArgs false
set_option linter.unusedVariables false
theorem load25at {w : World} {g o : Nat} {A X : Array Value} {ty : TypeId} (hB : Blk w g ty A) (hs : X.size = 32) (hx : ∀ (j : Nat) (v : Value), X[j]? = some v → A[o + j]? = some v) : (Instr.loadAt 25 (.pointer (some ⟨g, o, none⟩))).run Tryd.prog w = .ok (.agg X) w := by
  have h := run_loadAt_mid (P := Tryd.prog) w g o 25 X.toList _ (hB.rangeAt o _ (fun j v hv => hx j v (by rw [← Array.getElem?_toList]; exact hv))) Tryd.underlying25 rfl (by rw [Array.length_toList, hs]; kernel_rfl)
  rw [h]
set_option maxRecDepth 100000 in
set_option maxHeartbeats 4000000 in
theorem ringNone_any (A X : Array Value) (c d : Int) (t : ByteArray) (hA1 : A[1]? = some (.int .i64 c)) (hA2 : A[2]? = some (.int .i64 d)) (hA3 : A[3]? = some (.string t)) (hX : X.size = 32) (hAX : ∀ (j : Nat) (v : Value), X[j]? = some v → A[4 + j]? = some v) (w : World) (hk : Consts w) :
    Calls Tryd.prog 22 #[.agg A] w fun e w' => e = .returned (.bool true) ∧ Below w.heap.size w w' := by
  go_enter Tryd.func22, Tryd.ntmps22
  go_upto_region 1 with (fail)
  have hAl : Blk (w.alloc (.cells A 70)) w.heap.size 70 A := Blk.new w 70 A
  have hB : Below w.heap.size w (w.alloc (.cells A 70)) := (Below.refl _ _).alloc (Nat.le_refl _) _
  change Code.wp _ _ _ _ (w.alloc (.cells A 70))
  have HK := Lib.hid (hk.below hB)
  generalize w.alloc (.cells A 70) = w1 at hAl hB HK ⊢
  have c1 := (hAl.cell 1).trans hA1
  have c2 := (hAl.cell 2).trans hA2
  have c3 := (hAl.cell 3).trans hA3
  have HA1 := Lib.hid hA1
  have HA2 := Lib.hid hA2
  have HA3 := Lib.hid hA3
  have HAX := Lib.hid hAX
  have HA := Lib.hid hAl
  have HB := Lib.hid hB
  have HXS := Lib.hid hX
  clear hAl hB hk hA1 hA2 hA3 hAX hX
  go_wp2_with fail
  refine (rtag_nil c d t w1).mono ?_
  clear c1 c2 c3
  rintro e w2 ⟨rfl, hb⟩
  have HA := Lib.hid (HA.out.below hb HA.out.lt)
  have HK := Lib.hid (HK.out.below hb)
  have HB := Lib.hid (HB.out.trans (hb.mono HB.out.size))
  clear hb
  dsimp only
  have hsz := z32_size
  have hone : z32.all (·.oneCell') = true := bytesC_one _
  have heq : ∀ w, (Op.equalIn 10000 25 (.agg z32) (.agg z32)).run Tryd.prog w = .ok true w := fun w => by
    have := eql_digest (List.replicate 32 0) (List.replicate 32 0) (by simp) (by simp) w
    rw [beq_self_eq_true] at this
    exact this
  have hbd : ∀ w, (Instr.build 25 #[]).run Tryd.prog w = .ok (.agg z32) w := fun w => run_build w 25 #[] z32 (by kernel_rfl)
  iterate 13 go_step
  change wpList _ _ _ _ _ (w2.alloc (.cells z32 25))
  have hz := Blk.new w2 25 z32
  have hi25 : (Tryd.prog.info? 25).map (·.size) = some z32.size := by rw [hsz]; kernel_rfl
  refine wpList_store_mid rfl 25 _ _ rfl w2.heap.size 0 z32 rfl rfl (hz.there 0 _ (by rw [z32_size]; exact Nat.le_refl _)) hi25 hone ?_
  simp only [Act.put]
  have hz2 := hz.setCells z32.toList 0
  rw [putAll_all _ _ rfl] at hz2
  have hO := grown_stored w2 (.cells z32 25) z32.toList
  generalize (w2.alloc (.cells z32 25)).setCells w2.heap.size 0 z32.toList = w3 at hz2 hO ⊢
  have HK := Lib.hid (HK.out.below hO)
  have HA := Lib.hid (HA.out.below hO HA.out.lt)
  have HB := Lib.hid (HB.out.trans (hO.mono HB.out.size))
  clear hz hO hi25 hone
  generalize w2.heap.size = q at hz2 ⊢
  have HQ := Lib.hid hz2
  clear hz2
  generalize hZ : z32 = Z at hsz heq hbd HQ ⊢
  have HEQ := Lib.hid heq
  have HBD := Lib.hid hbd
  have HSZ := Lib.hid hsz
  have HZ := Lib.hid hZ
  clear heq hbd hsz hZ
  go_wp2_with fail
  refine (awakeR_any w3 HK.out).mono ?_
  rintro e w4 ⟨rfl, hb⟩
  have HA := Lib.hid (HA.out.below hb HA.out.lt)
  have HQ := Lib.hid (HQ.out.below hb HQ.out.lt)
  have HB := Lib.hid (HB.out.trans (hb.mono HB.out.size))
  clear hb
  have a1 := (HA.out.cell 1).trans HA1.out
  have a2 := (HA.out.cell 2).trans HA2.out
  have a3 := (HA.out.cell 3).trans HA3.out
  have heq := heqZ Z HZ.out.symm w4
  go_wp2_with (first
    | (refine wpList_loadG rfl 25 _ rfl (p := .pointer (some ⟨q, 0, none⟩)) rfl (load25 HQ.out HSZ.out) ?_; simp only [Act.put, List.setIfInBounds_toArray, List.set_cons_zero, List.set_cons_succ])
    | (refine wpList_loadG rfl 25 _ rfl (p := .pointer (some ⟨w.heap.size, 4, none⟩)) rfl (load25at HA.out HXS.out HAX.out) ?_; simp only [Act.put, List.setIfInBounds_toArray, List.set_cons_zero, List.set_cons_succ])
    | fail)
  refine (rcheck_no none c d t X w4 (fun w' _ => may_nil c d t w')).mono ?_
  clear a1 a2 a3 heq
  rintro e w5 ⟨rfl, hb⟩
  have HA := Lib.hid (HA.out.below hb HA.out.lt)
  have HB := Lib.hid (HB.out.trans (hb.mono HB.out.size))
  clear hb
  have a1 := (HA.out.cell 1).trans HA1.out
  have a2 := (HA.out.cell 2).trans HA2.out
  have a3 := (HA.out.cell 3).trans HA3.out
  go_wp2_with fail
  refine (made_nil c d t w5).mono ?_
  rintro e w' ⟨rfl, rfl⟩
  go_wp2_with fail
  refine (clients_nil w5).mono ?_
  rintro e w' ⟨rfl, rfl⟩
  go_wp2_with fail
  refine (rlen_nil w5).mono ?_
  rintro e w' ⟨rfl, rfl⟩
  go_wp2_with fail
  refine (secret_nil w5).mono ?_
  rintro e w' ⟨rfl, rfl⟩
  go_wp2_with fail
  go_ret
  exact ⟨rfl, HB.out⟩
end Go.Proofs.YtkbcilfcfbfiaaaDoor
