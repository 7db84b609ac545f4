/- RingPlays: the call returns true, and each argument reads as it did, whatever the input, where the listed table reads as the program's text lays it. -/
import Derived.Test.YtkbcilfcfbfiaaaDoorRows
import Derived.Test.YtkbcilfcfbfiaaaDoorTie
import Derived.Test.YtkbcilfcfbfiaaaDoorCards
import Derived.Test.YtkbcilfcfbfiaaaDoorRingZ
import Derived.Test.YtkbcilfcfbfiaaaDoorLaid
import Derived.Test.YtkbcilfcfbfiaaaDoorFacts
import Derived.Test.YtkbcilfcfbfiaaaDoorPost
import Derived.WalkKit
import Derived.ProofKit
import Derived.OpenShut
import Derived.LaidMore
import Derived.Stop.Joined
import Derived.SevenTiedAt
import Derived.Deep.DeepHandedRow
import Derived.Deep.DeepWitnessRowRef
import Derived.SizedLaws
import Derived.Lib.SmallJoins
namespace Go.Proofs.YtkbcilfcfbfiaaaDoor.ringPlays
open Go.ChangeShapes Go.WideShapes Go.ChangeAt Go.WideElems Go.RowKit
open Go.ChangeMaps (open_string shut_string)
set_option linter.unusedVariables false
set_option linter.unusedSimpArgs false

theorem witness_row {H : Type} (os : Os) (enc : TypeId × Value → H) :
    (OpenSpec.ofChange Rows.ringPlaysSpec).preRow enc Tryd.prog Tryd.f18 Rows.ringPlaysRow.domain Rows.ringPlaysRow.apart Rows.ringPlaysRow.laid ((World.doorLaid Tryd.prog 400 os).forCall (fun _ _ => 0) ⟨#[], #[.string ByteArray.empty, .int .i64 0, .slice none 0 0], []⟩).memory #[.string ByteArray.empty, .int .i64 0, .slice none 0 0] :=
  ⟨⟨ChangeSpec.pre_of_preB (s := Rows.ringPlaysSpec) (fuel := 8) (by kernel_rfl), door_met os _⟩, sizedMet_of_sizedB (fuel := 8) (by kernel_rfl)⟩
set_option maxRecDepth 100000 in
theorem lifted (os : Os) (started : os.Started) (H : Type) (enc : TypeId × Value → H) (F0 : Stop.Interp) :
    ReturnsInHanded {} Tryd.checked os 18 .any ((OpenSpec.ofChange Rows.ringPlaysSpec).preRow enc Tryd.prog Tryd.f18 Rows.ringPlaysRow.domain Rows.ringPlaysRow.apart Rows.ringPlaysRow.laid)
      (((OpenSpec.ofChange Rows.ringPlaysSpec).at F0).post enc Tryd.prog Tryd.f18 Rows.ringPlaysRow.apart Rows.ringPlaysRow.fresh Rows.ringPlaysRow.handsOn Rows.ringPlaysRow.again) := by
  refine returnsInHanded_of_row (C := Tryd.checked) (s := OpenSpec.ofChange Rows.ringPlaysSpec) own started (by kernel_rfl) Tryd.func18
    (witness_row_atRef (enc := enc) (C := Tryd.checked) false (World.doorLaid Tryd.prog 400 os) #[.string ByteArray.empty, .int .i64 0, .slice none 0 0] rfl (by kernel_rfl) (by kernel_rfl) (by kernel_rfl) (witness_row os enc)) ?_
  intro W base args ds gs before hval0 hW _ _ hsz0 hLaid _ _
  have hsz : (DataW.weightsEach Tryd.prog (Tryd.f18.params.toList ++ (OpenSpec.ofChange Rows.ringPlaysSpec).bare.plain.varTypes Tryd.prog) (ds ++ gs)).all (· ≤ reachBytes) = true := hsz0
  clear hsz0
  have hval : ∀ (j : Nat) t v, Tryd.f18.params[j]? = some t → args[j]? = some v → Value.okWide Tryd.prog W .any base t v := hval0
  have hW' := hW
  obtain ⟨p, q, hA0, hV, rfl, hfz, hnd⟩ := hW
  have hA : DataW.TrodAll enc Tryd.prog W 0 (fun _ => true) true Tryd.f18.params.toList args.toList ds p := hA0
  rw [Tryd.params18] at hA hval hsz
  have hk : Consts W := consts_of hLaid
  obtain ⟨v0, vs0, d0, ds0, p0, q0, hargs, rfl, rfl, h0, r0⟩ := trodAll_cons hA
  obtain ⟨v1, vs1, d1, ds1, p1, q1, rfl, rfl, rfl, h1, r1⟩ := trodAll_cons r0
  obtain ⟨v2, vs2, d2, ds2, p2, q2, rfl, rfl, rfl, h2, r2⟩ := trodAll_cons r1
  obtain ⟨rfl, rfl, rfl⟩ := trodAll_nil r2
  obtain rfl : args = #[v0, v1, v2] := by cases args; simp_all
  obtain ⟨rfl, rfl⟩ := trodVars_none hV
  have k0 := h0
  have k1 := h1
  have k2 := h2
  clear hA0 hval0
  simp only [List.append_nil] at hW' hsz
  have l0 : ∀ x ∈ p0, x.block < W.heap.size := fun x hx => hW'.lt x (by first | (simp [hx]; done) | (simp at hx))
  have l1 : ∀ x ∈ p1, x.block < W.heap.size := fun x hx => hW'.lt x (by first | (simp [hx]; done) | (simp at hx))
  have l2 : ∀ x ∈ p2, x.block < W.heap.size := fun x hx => hW'.lt x (by first | (simp [hx]; done) | (simp at hx))
  obtain ⟨s0, rfl, rfl, rfl, hs0⟩ := open_string Tryd.underlying9 (hval 0 9 v0 rfl rfl) h0
  obtain ⟨a1, rfl, rfl, rfl, w1⟩ := open_int Tryd.underlying3 (hval 1 3 v1 rfl rfl) h1
  have hsz2 : (DataW.weightsEach Tryd.prog [9, 3, 60] [DataW.lit (.string s0.data.toList), DataW.lit (.int .i64 a1), d2]).all (fun x => decide (x ≤ reachBytes)) = true := hsz
  obtain ⟨acts2, hac2, hl2⟩ := actsT_of (hval 2 60 v2 rfl rfl) h2 (fun n hn => by
    have hm : n ∈ DataW.weightsEach Tryd.prog [9, 3, 60] [DataW.lit (.string s0.data.toList), DataW.lit (.int .i64 a1), d2] := by
      simp only [DataW.weightsEach, List.mem_append]
      exact .inr (.inr (.inl hn))
    exact of_decide_eq_true (List.all_eq_true.1 hsz2 n hm))
  refine (ringPlays_any s0 a1 v2 acts2 hl2 W hk hac2).mono fun e W' ⟨he, hg⟩ => ?_
  subst he
  exact ⟨_, rfl, post_of_below (pa := _) (pv := []) hW' (fun _ _ _ => (trodAll_cons_mk (shut_bool Tryd.underlying4 _) trodAll_mk0)) (fun sp hsp => (trodAll_cons_mk (WideElems.Trod_stays laidOut (by kernel_rfl) (of_decide_eq_true (by kernel_rfl)) k0 (fun x hx => hg.same (l0 x hx)) (fun x hx => hsp x (by first | (simp [hx]; done) | (simp at hx)))) (trodAll_cons_mk (WideElems.Trod_stays laidOut (by kernel_rfl) (of_decide_eq_true (by kernel_rfl)) k1 (fun x hx => hg.same (l1 x hx)) (fun x hx => hsp x (by first | (simp [hx]; done) | (simp at hx)))) (trodAll_cons_mk (WideElems.Trod_stays laidOut (by kernel_rfl) (of_decide_eq_true (by kernel_rfl)) k2 (fun x hx => hg.same (l2 x hx)) (fun x hx => hsp x (by first | (simp [hx]; done) | (simp at hx)))) trodAll_mk0)))) (fun _ _ => rfl) (by simp) hg (ok_one (by kernel_rfl) rfl (okWide_bool_mk Tryd.underlying4 _))⟩

theorem closed : joinedFacts Tryd.prog 18 Tryd.f18 (OpenSpec.ofChange Rows.ringPlaysSpec).bare Rows.ringPlaysRow = true := by
  simp only [joinedFacts, Bool.and_eq_true]
  repeat' apply And.intro
  all_goals first
    | with_reducible exact mayEnter_
    | (rw [lifts_]; kernel_rfl)
    | (rw [make_]; kernel_rfl)
    | kernel_rfl
theorem over : Rows.RingPlaysSaid :=
  OpenClaim.holds_of_cond 18 Tryd.f18 rfl rfl rfl rfl rfl rfl rfl ⟨rfl, rfl, rfl, rfl, rfl⟩ rfl rfl rfl rfl rfl (by kernel_rfl) Tryd.func18 closed
    (of_decide_eq_true (by kernel_rfl)) (by unfold Func.isWrapper; first | (rw [if_pos (by decide +kernel)]; kernel_rfl) | (rw [if_neg (by decide +kernel)]; exact ⟨rfl, rfl⟩))
    (fun os started H enc _ F0 => by rw [OpenClaim.pre_eq_preRow]; exact lifted os started H enc F0)

theorem proved : Rows.RingPlaysCardSaid :=
  Claim7.holds_tied_plain_at .later [] [.data] true (true, "d9fe85e70a7df0d4258f35305737afc2beb11fcebc2be5a6fd8553ee38c454fa") false
    over (fun _ h => by cases h) (by kernel_rfl) (fun _ h => by cases h) ringPlays_row_tie rfl ⟨rfl, rfl⟩ main_ rfl
    (fun f fn hf hfn => by
      obtain rfl : f = 18 := Option.some.inj ((show Tryd.prog.funcNamed Rows.ringPlaysRow.func = some 18 by kernel_rfl).symm.trans hf) |>.symm
      obtain rfl : fn = Tryd.f18 := (Option.some.inj (Tryd.func18.symm.trans hfn)).symm
      exact ⟨by kernel_rfl, fun j t ht => by
        rw [Tryd.params18] at ht
        have hm : t ∈ [9, 3, 60] := by simpa using Array.mem_of_getElem? ht
        have hall : ([9, 3, 60].all fun u => !Tryd.prog.wantsStandIn u) = true := by kernel_rfl
        exact (show Tryd.prog.wantsStandIn t = false by simpa using List.all_eq_true.1 hall t hm)⟩)
    (by kernel_rfl)
#print axioms proved
end Go.Proofs.YtkbcilfcfbfiaaaDoor.ringPlays
