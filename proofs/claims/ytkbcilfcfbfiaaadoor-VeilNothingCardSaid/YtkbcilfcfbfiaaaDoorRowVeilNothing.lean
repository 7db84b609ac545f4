/- VeilNothing: the call returns true, and each argument reads as it did, whatever the input, where the listed table reads as the program's text lays it. -/
import Derived.Test.YtkbcilfcfbfiaaaDoorRows
import Derived.Test.YtkbcilfcfbfiaaaDoorTie
import Derived.Test.YtkbcilfcfbfiaaaDoorCards
import Derived.Test.YtkbcilfcfbfiaaaDoorVeil8
import Derived.Test.YtkbcilfcfbfiaaaDoorLaid
import Derived.Test.YtkbcilfcfbfiaaaDoorFacts
import Derived.Test.YtkbcilfcfbfiaaaDoorPost
import Derived.WalkKit
import Derived.ProofKit
import Derived.OpenShut
import Derived.LaidMore
import Derived.Stop.Joined
import Derived.SevenTiedAt
import Derived.Deep.DeepHandedRow
import Derived.Deep.DeepWitnessRowRef
import Derived.SizedLaws
import Derived.Lib.SmallJoins
namespace Go.Proofs.YtkbcilfcfbfiaaaDoor.veilNothing
open Go.ChangeShapes Go.WideShapes Go.ChangeAt Go.WideElems Go.RowKit
open Go.ChangeMaps (open_string shut_string)
set_option linter.unusedVariables false
set_option linter.unusedSimpArgs false

theorem witness_row {H : Type} (os : Os) (enc : TypeId × Value → H) :
    (OpenSpec.ofChange Rows.veilNothingSpec).preRow enc Tryd.prog Tryd.f17 Rows.veilNothingRow.domain Rows.veilNothingRow.apart Rows.veilNothingRow.laid ((World.doorLaid Tryd.prog 400 os).forCall (fun _ _ => 0) ⟨#[], #[.agg #[.string ByteArray.empty, .int .i64 0, .int .u16 0, .int .u16 0]], []⟩).memory #[.agg #[.string ByteArray.empty, .int .i64 0, .int .u16 0, .int .u16 0]] :=
  ⟨⟨ChangeSpec.pre_of_preB (s := Rows.veilNothingSpec) (fuel := 8) (by kernel_rfl), door_met os _⟩, sizedMet_of_sizedB (fuel := 8) (by kernel_rfl)⟩
set_option maxRecDepth 100000 in
theorem lifted (os : Os) (started : os.Started) (H : Type) (enc : TypeId × Value → H) (F0 : Stop.Interp) :
    ReturnsInHanded {} Tryd.checked os 17 .any ((OpenSpec.ofChange Rows.veilNothingSpec).preRow enc Tryd.prog Tryd.f17 Rows.veilNothingRow.domain Rows.veilNothingRow.apart Rows.veilNothingRow.laid)
      (((OpenSpec.ofChange Rows.veilNothingSpec).at F0).post enc Tryd.prog Tryd.f17 Rows.veilNothingRow.apart Rows.veilNothingRow.fresh Rows.veilNothingRow.handsOn Rows.veilNothingRow.again) := by
  refine returnsInHanded_of_row (C := Tryd.checked) (s := OpenSpec.ofChange Rows.veilNothingSpec) own started (by kernel_rfl) Tryd.func17
    (witness_row_atRef (enc := enc) (C := Tryd.checked) false (World.doorLaid Tryd.prog 400 os) #[.agg #[.string ByteArray.empty, .int .i64 0, .int .u16 0, .int .u16 0]] rfl (by kernel_rfl) (by kernel_rfl) (by kernel_rfl) (witness_row os enc)) ?_
  intro W base args ds gs before hval0 hW _ _ hsz0 hLaid _ _
  have hsz : (DataW.weightsEach Tryd.prog (Tryd.f17.params.toList ++ (OpenSpec.ofChange Rows.veilNothingSpec).bare.plain.varTypes Tryd.prog) (ds ++ gs)).all (· ≤ reachBytes) = true := hsz0
  clear hsz0
  have hval : ∀ (j : Nat) t v, Tryd.f17.params[j]? = some t → args[j]? = some v → Value.okWide Tryd.prog W .any base t v := hval0
  have hW' := hW
  obtain ⟨p, q, hA0, hV, rfl, hfz, hnd⟩ := hW
  have hA : DataW.TrodAll enc Tryd.prog W 0 (fun _ => true) true Tryd.f17.params.toList args.toList ds p := hA0
  rw [Tryd.params17] at hA hval hsz
  have hk : Consts W := consts_of hLaid
  obtain ⟨v0, vs0, d0, ds0, p0, q0, hargs, rfl, rfl, h0, r0⟩ := trodAll_cons hA
  obtain ⟨rfl, rfl, rfl⟩ := trodAll_nil r0
  obtain rfl : args = #[v0] := by cases args; simp_all
  obtain ⟨rfl, rfl⟩ := trodVars_none hV
  have k0 := h0
  clear hA0 hval0
  simp only [List.append_nil] at hW' hsz
  have l0 : ∀ x ∈ p0, x.block < W.heap.size := fun x hx => hW'.lt x (by first | (simp [hx]; done) | (simp at hx))
  obtain ⟨x0, x1, x2, x3, y0, y1, y2, y3, nn, rfl, rfl, _, hy0, hy1, hy2, hy3⟩ := Go.Joins.open_agg4 Tryd.underlying58 (by kernel_rfl) (show Tryd.prog.cellsOf 58 = 4 by kernel_rfl) (hval 0 58 v0 rfl rfl) h0
  obtain ⟨s0, e0, rfl, _⟩ := DataW.trod_string Tryd.underlying9 hy0
  obtain ⟨a1, e1, rfl, _⟩ := DataW.trod_int Tryd.underlying3 hy1
  obtain ⟨a2, e2, rfl, w2⟩ := DataW.trod_int Tryd.underlying28 hy2
  obtain ⟨a3, e3, rfl, w3⟩ := DataW.trod_int Tryd.underlying28 hy3
  have b2 := bounds_u16 w2
  have b3 := bounds_u16 w3
  obtain ⟨n2, rfl⟩ : ∃ n : Nat, a2 = (n : Int) := ⟨a2.toNat, by omega⟩
  obtain ⟨n3, rfl⟩ : ∃ n : Nat, a3 = (n : Int) := ⟨a3.toNat, by omega⟩
  have m2 : n2 < 65536 := by omega
  have m3 : n3 < 65536 := by omega
  simp only [List.cons.injEq, and_true] at e0 e1 e2 e3
  subst e0 e1 e2 e3
  simp only [Array.toList, List.append_nil, DataW.weightsEach, DataW.weights, Tryd.underlying58, List.map_cons, List.map_nil, List.cons_append, List.nil_append, List.all_cons, List.all_nil, Bool.and_true, Bool.and_eq_true, decide_eq_true_eq, reachBytes] at hsz
  have z0 := hsz.1
  rw [Array.length_toList] at z0
  replace z0 : s0.size ≤ 140737488351232 := of_decide_eq_true z0
  refine (veilNothing_any s0 z0 a1 n2 n3 m2 m3 W hk).mono fun e W' ⟨he, hg⟩ => ?_
  subst he
  exact ⟨_, rfl, post_of_below (pa := _) (pv := []) hW' (fun _ _ _ => (trodAll_cons_mk (shut_bool Tryd.underlying4 _) trodAll_mk0)) (fun sp hsp => (trodAll_cons_mk (WideElems.Trod_stays laidOut (by kernel_rfl) (of_decide_eq_true (by kernel_rfl)) k0 (fun x hx => hg.same (l0 x hx)) (fun x hx => hsp x (by first | (simp [hx]; done) | (simp at hx)))) trodAll_mk0)) (fun _ _ => rfl) (by simp) hg (ok_one (by kernel_rfl) rfl (okWide_bool_mk Tryd.underlying4 _))⟩

theorem closed : joinedFacts Tryd.prog 17 Tryd.f17 (OpenSpec.ofChange Rows.veilNothingSpec).bare Rows.veilNothingRow = true := by
  simp only [joinedFacts, Bool.and_eq_true]
  repeat' apply And.intro
  all_goals first
    | with_reducible exact mayEnter_
    | (rw [lifts_]; kernel_rfl)
    | (rw [make_]; kernel_rfl)
    | kernel_rfl
theorem over : Rows.VeilNothingSaid :=
  OpenClaim.holds_of_cond 17 Tryd.f17 rfl rfl rfl rfl rfl rfl rfl ⟨rfl, rfl, rfl, rfl, rfl⟩ rfl rfl rfl rfl rfl (by kernel_rfl) Tryd.func17 closed
    (of_decide_eq_true (by kernel_rfl)) (by unfold Func.isWrapper; first | (rw [if_pos (by decide +kernel)]; kernel_rfl) | (rw [if_neg (by decide +kernel)]; exact ⟨rfl, rfl⟩))
    (fun os started H enc _ F0 => by rw [OpenClaim.pre_eq_preRow]; exact lifted os started H enc F0)

theorem proved : Rows.VeilNothingCardSaid :=
  Claim7.holds_tied_plain_at .later [] [.data] true (true, "d9fe85e70a7df0d4258f35305737afc2beb11fcebc2be5a6fd8553ee38c454fa") false
    over (fun _ h => by cases h) (by kernel_rfl) (fun _ h => by cases h) veilNothing_row_tie rfl ⟨rfl, rfl⟩ main_ rfl
    (fun f fn hf hfn => by
      obtain rfl : f = 17 := Option.some.inj ((show Tryd.prog.funcNamed Rows.veilNothingRow.func = some 17 by kernel_rfl).symm.trans hf) |>.symm
      obtain rfl : fn = Tryd.f17 := (Option.some.inj (Tryd.func17.symm.trans hfn)).symm
      exact ⟨by kernel_rfl, fun j t ht => by
        rw [Tryd.params17] at ht
        have hm : t ∈ [58] := by simpa using Array.mem_of_getElem? ht
        have hall : ([58].all fun u => !Tryd.prog.wantsStandIn u) = true := by kernel_rfl
        exact (show Tryd.prog.wantsStandIn t = false by simpa using List.all_eq_true.1 hall t hm)⟩)
    (by kernel_rfl)
#print axioms proved
end Go.Proofs.YtkbcilfcfbfiaaaDoor.veilNothing
