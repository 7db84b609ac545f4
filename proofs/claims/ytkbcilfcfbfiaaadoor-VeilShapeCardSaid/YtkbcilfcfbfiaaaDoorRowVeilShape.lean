/- VeilShape: the call returns true, and each argument reads as it did, whatever the input, where the listed table reads as the program's text lays it. -/
import Derived.Test.YtkbcilfcfbfiaaaDoorRows
import Derived.Test.YtkbcilfcfbfiaaaDoorTie
import Derived.Test.YtkbcilfcfbfiaaaDoorCards
import Derived.Test.YtkbcilfcfbfiaaaDoorVeil7
import Derived.Test.YtkbcilfcfbfiaaaDoorLaid
import Derived.Test.YtkbcilfcfbfiaaaDoorFacts
import Derived.Test.YtkbcilfcfbfiaaaDoorPost
import Derived.WalkKit
import Derived.ProofKit
import Derived.OpenShut
import Derived.LaidMore
import Derived.Stop.Joined
import Derived.SevenTiedAt
import Derived.Deep.DeepHandedRow
import Derived.Deep.DeepWitnessRowRef
import Derived.SizedLaws
import Derived.Lib.SmallJoins
namespace Go.Proofs.YtkbcilfcfbfiaaaDoor.veilShape
open Go.ChangeShapes Go.WideShapes Go.ChangeAt Go.WideElems Go.RowKit
open Go.ChangeMaps (open_string shut_string)
set_option linter.unusedVariables false
set_option linter.unusedSimpArgs false

theorem witness_row {H : Type} (os : Os) (enc : TypeId × Value → H) :
    (OpenSpec.ofChange Rows.veilShapeSpec).preRow enc Tryd.prog Tryd.f16 Rows.veilShapeRow.domain Rows.veilShapeRow.apart Rows.veilShapeRow.laid ((World.doorLaid Tryd.prog 400 os).forCall (fun _ _ => 0) ⟨#[], #[.agg #[.string ByteArray.empty, .int .i64 0, .string ByteArray.empty, .string ByteArray.empty]], []⟩).memory #[.agg #[.string ByteArray.empty, .int .i64 0, .string ByteArray.empty, .string ByteArray.empty]] :=
  ⟨⟨ChangeSpec.pre_of_preB (s := Rows.veilShapeSpec) (fuel := 8) (by kernel_rfl), door_met os _⟩, sizedMet_of_sizedB (fuel := 8) (by kernel_rfl)⟩
set_option maxRecDepth 100000 in
theorem lifted (os : Os) (started : os.Started) (H : Type) (enc : TypeId × Value → H) (F0 : Stop.Interp) :
    ReturnsInHanded {} Tryd.checked os 16 .any ((OpenSpec.ofChange Rows.veilShapeSpec).preRow enc Tryd.prog Tryd.f16 Rows.veilShapeRow.domain Rows.veilShapeRow.apart Rows.veilShapeRow.laid)
      (((OpenSpec.ofChange Rows.veilShapeSpec).at F0).post enc Tryd.prog Tryd.f16 Rows.veilShapeRow.apart Rows.veilShapeRow.fresh Rows.veilShapeRow.handsOn Rows.veilShapeRow.again) := by
  refine returnsInHanded_of_row (C := Tryd.checked) (s := OpenSpec.ofChange Rows.veilShapeSpec) own started (by kernel_rfl) Tryd.func16
    (witness_row_atRef (enc := enc) (C := Tryd.checked) false (World.doorLaid Tryd.prog 400 os) #[.agg #[.string ByteArray.empty, .int .i64 0, .string ByteArray.empty, .string ByteArray.empty]] rfl (by kernel_rfl) (by kernel_rfl) (by kernel_rfl) (witness_row os enc)) ?_
  intro W base args ds gs before hval0 hW _ _ hsz0 hLaid _ _
  have hsz : (DataW.weightsEach Tryd.prog (Tryd.f16.params.toList ++ (OpenSpec.ofChange Rows.veilShapeSpec).bare.plain.varTypes Tryd.prog) (ds ++ gs)).all (· ≤ reachBytes) = true := hsz0
  clear hsz0
  have hval : ∀ (j : Nat) t v, Tryd.f16.params[j]? = some t → args[j]? = some v → Value.okWide Tryd.prog W .any base t v := hval0
  have hW' := hW
  obtain ⟨p, q, hA0, hV, rfl, hfz, hnd⟩ := hW
  have hA : DataW.TrodAll enc Tryd.prog W 0 (fun _ => true) true Tryd.f16.params.toList args.toList ds p := hA0
  rw [Tryd.params16] at hA hval hsz
  have hk : Consts W := consts_of hLaid
  obtain ⟨v0, vs0, d0, ds0, p0, q0, hargs, rfl, rfl, h0, r0⟩ := trodAll_cons hA
  obtain ⟨rfl, rfl, rfl⟩ := trodAll_nil r0
  obtain rfl : args = #[v0] := by cases args; simp_all
  obtain ⟨rfl, rfl⟩ := trodVars_none hV
  have k0 := h0
  clear hA0 hval0
  simp only [List.append_nil] at hW' hsz
  have l0 : ∀ x ∈ p0, x.block < W.heap.size := fun x hx => hW'.lt x (by first | (simp [hx]; done) | (simp at hx))
  obtain ⟨x0, x1, x2, x3, y0, y1, y2, y3, nn, rfl, rfl, _, hy0, hy1, hy2, hy3⟩ := Go.Joins.open_agg4 Tryd.underlying55 (by kernel_rfl) (show Tryd.prog.cellsOf 55 = 4 by kernel_rfl) (hval 0 55 v0 rfl rfl) h0
  obtain ⟨s0, e0, rfl, _⟩ := DataW.trod_string Tryd.underlying9 hy0
  obtain ⟨a1, e1, rfl, _⟩ := DataW.trod_int Tryd.underlying3 hy1
  obtain ⟨s2, e2, rfl, _⟩ := DataW.trod_string Tryd.underlying9 hy2
  obtain ⟨s3, e3, rfl, _⟩ := DataW.trod_string Tryd.underlying9 hy3
  simp only [List.cons.injEq, and_true] at e0 e1 e2 e3
  subst e0 e1 e2 e3
  simp only [Array.toList, List.append_nil, DataW.weightsEach, DataW.weights, Tryd.underlying55, List.map_cons, List.map_nil, List.cons_append, List.nil_append, List.all_cons, List.all_nil, Bool.and_true, Bool.and_eq_true, decide_eq_true_eq, reachBytes] at hsz
  obtain ⟨z0, z2, z3, _⟩ := hsz
  rw [Array.length_toList] at z0 z2 z3
  replace z0 : s0.size ≤ 140737488351232 := of_decide_eq_true z0
  replace z2 : s2.size ≤ 140737488351232 := of_decide_eq_true z2
  replace z3 : s3.size ≤ 140737488351232 := of_decide_eq_true z3
  refine (veilShape_any s0 z0 a1 s2 z2 s3 z3 W hk).mono fun e W' ⟨he, hg⟩ => ?_
  subst he
  exact ⟨_, rfl, post_of_below (pa := _) (pv := []) hW' (fun _ _ _ => (trodAll_cons_mk (shut_bool Tryd.underlying4 _) trodAll_mk0)) (fun sp hsp => (trodAll_cons_mk (WideElems.Trod_stays laidOut (by kernel_rfl) (of_decide_eq_true (by kernel_rfl)) k0 (fun x hx => hg.same (l0 x hx)) (fun x hx => hsp x (by first | (simp [hx]; done) | (simp at hx)))) trodAll_mk0)) (fun _ _ => rfl) (by simp) hg (ok_one (by kernel_rfl) rfl (okWide_bool_mk Tryd.underlying4 _))⟩

theorem closed : joinedFacts Tryd.prog 16 Tryd.f16 (OpenSpec.ofChange Rows.veilShapeSpec).bare Rows.veilShapeRow = true := by
  simp only [joinedFacts, Bool.and_eq_true]
  repeat' apply And.intro
  all_goals first
    | with_reducible exact mayEnter_
    | (rw [lifts_]; kernel_rfl)
    | (rw [make_]; kernel_rfl)
    | kernel_rfl
theorem over : Rows.VeilShapeSaid :=
  OpenClaim.holds_of_cond 16 Tryd.f16 rfl rfl rfl rfl rfl rfl rfl ⟨rfl, rfl, rfl, rfl, rfl⟩ rfl rfl rfl rfl rfl (by kernel_rfl) Tryd.func16 closed
    (of_decide_eq_true (by kernel_rfl)) (by unfold Func.isWrapper; first | (rw [if_pos (by decide +kernel)]; kernel_rfl) | (rw [if_neg (by decide +kernel)]; exact ⟨rfl, rfl⟩))
    (fun os started H enc _ F0 => by rw [OpenClaim.pre_eq_preRow]; exact lifted os started H enc F0)

theorem proved : Rows.VeilShapeCardSaid :=
  Claim7.holds_tied_plain_at .later [] [.data] true (true, "d9fe85e70a7df0d4258f35305737afc2beb11fcebc2be5a6fd8553ee38c454fa") false
    over (fun _ h => by cases h) (by kernel_rfl) (fun _ h => by cases h) veilShape_row_tie rfl ⟨rfl, rfl⟩ main_ rfl
    (fun f fn hf hfn => by
      obtain rfl : f = 16 := Option.some.inj ((show Tryd.prog.funcNamed Rows.veilShapeRow.func = some 16 by kernel_rfl).symm.trans hf) |>.symm
      obtain rfl : fn = Tryd.f16 := (Option.some.inj (Tryd.func16.symm.trans hfn)).symm
      exact ⟨by kernel_rfl, fun j t ht => by
        rw [Tryd.params16] at ht
        have hm : t ∈ [55] := by simpa using Array.mem_of_getElem? ht
        have hall : ([55].all fun u => !Tryd.prog.wantsStandIn u) = true := by kernel_rfl
        exact (show Tryd.prog.wantsStandIn t = false by simpa using List.all_eq_true.1 hall t hm)⟩)
    (by kernel_rfl)
#print axioms proved
end Go.Proofs.YtkbcilfcfbfiaaaDoor.veilShape
