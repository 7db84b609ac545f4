/- VeilTwice: the call returns true, and each argument reads as it did, whatever the input, where the listed table reads as the program's text lays it. -/
import Derived.Test.YtkbcilfcfbfiaaaDoorRows
import Derived.Test.YtkbcilfcfbfiaaaDoorTie
import Derived.Test.YtkbcilfcfbfiaaaDoorCards
import Derived.Test.YtkbcilfcfbfiaaaDoorVeil6
import Derived.Test.YtkbcilfcfbfiaaaDoorLaid
import Derived.Test.YtkbcilfcfbfiaaaDoorFacts
import Derived.Test.YtkbcilfcfbfiaaaDoorPost
import Derived.WalkKit
import Derived.ProofKit
import Derived.OpenShut
import Derived.LaidMore
import Derived.Stop.Joined
import Derived.SevenTiedAt
import Derived.Deep.DeepHandedRow
import Derived.Deep.DeepWitnessRowRef
import Derived.SizedLaws
namespace Go.Proofs.YtkbcilfcfbfiaaaDoor.veilTwice
open Go.ChangeShapes Go.WideShapes Go.ChangeAt Go.WideElems Go.RowKit
open Go.ChangeMaps (open_string shut_string)
set_option linter.unusedVariables false
set_option linter.unusedSimpArgs false

theorem witness_row {H : Type} (os : Os) (enc : TypeId × Value → H) :
    (OpenSpec.ofChange Rows.veilTwiceSpec).preRow enc Tryd.prog Tryd.f15 Rows.veilTwiceRow.domain Rows.veilTwiceRow.apart Rows.veilTwiceRow.laid ((World.doorLaid Tryd.prog 400 os).forCall (fun _ _ => 0) ⟨#[], #[.string ByteArray.empty, .int .i64 0, .string ByteArray.empty], []⟩).memory #[.string ByteArray.empty, .int .i64 0, .string ByteArray.empty] :=
  ⟨⟨ChangeSpec.pre_of_preB (s := Rows.veilTwiceSpec) (fuel := 8) (by kernel_rfl), door_met os _⟩, sizedMet_of_sizedB (fuel := 8) (by kernel_rfl)⟩
set_option maxRecDepth 100000 in
theorem lifted (os : Os) (started : os.Started) (H : Type) (enc : TypeId × Value → H) (F0 : Stop.Interp) :
    ReturnsInHanded {} Tryd.checked os 15 .any ((OpenSpec.ofChange Rows.veilTwiceSpec).preRow enc Tryd.prog Tryd.f15 Rows.veilTwiceRow.domain Rows.veilTwiceRow.apart Rows.veilTwiceRow.laid)
      (((OpenSpec.ofChange Rows.veilTwiceSpec).at F0).post enc Tryd.prog Tryd.f15 Rows.veilTwiceRow.apart Rows.veilTwiceRow.fresh Rows.veilTwiceRow.handsOn Rows.veilTwiceRow.again) := by
  refine returnsInHanded_of_row (C := Tryd.checked) (s := OpenSpec.ofChange Rows.veilTwiceSpec) own started (by kernel_rfl) Tryd.func15
    (witness_row_atRef (enc := enc) (C := Tryd.checked) false (World.doorLaid Tryd.prog 400 os) #[.string ByteArray.empty, .int .i64 0, .string ByteArray.empty] rfl (by kernel_rfl) (by kernel_rfl) (by kernel_rfl) (witness_row os enc)) ?_
  intro W base args ds gs before hval0 hW _ _ hsz0 hLaid _ _
  have hsz : (DataW.weightsEach Tryd.prog (Tryd.f15.params.toList ++ (OpenSpec.ofChange Rows.veilTwiceSpec).bare.plain.varTypes Tryd.prog) (ds ++ gs)).all (· ≤ reachBytes) = true := hsz0
  clear hsz0
  have hval : ∀ (j : Nat) t v, Tryd.f15.params[j]? = some t → args[j]? = some v → Value.okWide Tryd.prog W .any base t v := hval0
  have hW' := hW
  obtain ⟨p, q, hA0, hV, rfl, hfz, hnd⟩ := hW
  have hA : DataW.TrodAll enc Tryd.prog W 0 (fun _ => true) true Tryd.f15.params.toList args.toList ds p := hA0
  rw [Tryd.params15] at hA hval hsz
  have hk : Consts W := consts_of hLaid
  obtain ⟨v0, vs0, d0, ds0, p0, q0, hargs, rfl, rfl, h0, r0⟩ := trodAll_cons hA
  obtain ⟨v1, vs1, d1, ds1, p1, q1, rfl, rfl, rfl, h1, r1⟩ := trodAll_cons r0
  obtain ⟨v2, vs2, d2, ds2, p2, q2, rfl, rfl, rfl, h2, r2⟩ := trodAll_cons r1
  obtain ⟨rfl, rfl, rfl⟩ := trodAll_nil r2
  obtain rfl : args = #[v0, v1, v2] := by cases args; simp_all
  obtain ⟨rfl, rfl⟩ := trodVars_none hV
  have k0 := h0
  have k1 := h1
  have k2 := h2
  clear hA0 hval0
  simp only [List.append_nil] at hW' hsz
  have l0 : ∀ x ∈ p0, x.block < W.heap.size := fun x hx => hW'.lt x (by first | (simp [hx]; done) | (simp at hx))
  have l1 : ∀ x ∈ p1, x.block < W.heap.size := fun x hx => hW'.lt x (by first | (simp [hx]; done) | (simp at hx))
  have l2 : ∀ x ∈ p2, x.block < W.heap.size := fun x hx => hW'.lt x (by first | (simp [hx]; done) | (simp at hx))
  obtain ⟨s0, rfl, rfl, rfl, hs0⟩ := open_string Tryd.underlying9 (hval 0 9 v0 rfl rfl) h0
  obtain ⟨a1, rfl, rfl, rfl, w1⟩ := open_int Tryd.underlying3 (hval 1 3 v1 rfl rfl) h1
  have b1 := bounds_i64 w1
  obtain ⟨s2, rfl, rfl, rfl, hs2⟩ := open_string Tryd.underlying9 (hval 2 9 v2 rfl rfl) h2
  have z0 : s0.size ≤ 140737488351232 := by have := sized_string hsz (j := 0) (t := 9) rfl rfl; rw [Array.length_toList] at this; exact this
  have z2 : s2.size ≤ 140737488351232 := by have := sized_string hsz (j := 2) (t := 9) rfl rfl; rw [Array.length_toList] at this; exact this
  refine (veilTwice_any s0 z0 a1 s2 z2 W hk).mono fun e W' ⟨he, hg⟩ => ?_
  subst he
  exact ⟨_, rfl, post_of_below (pa := _) (pv := []) hW' (fun _ _ _ => (trodAll_cons_mk (shut_bool Tryd.underlying4 _) trodAll_mk0)) (fun sp hsp => (trodAll_cons_mk (WideElems.Trod_stays laidOut (by kernel_rfl) (of_decide_eq_true (by kernel_rfl)) k0 (fun x hx => hg.same (l0 x hx)) (fun x hx => hsp x (by first | (simp [hx]; done) | (simp at hx)))) (trodAll_cons_mk (WideElems.Trod_stays laidOut (by kernel_rfl) (of_decide_eq_true (by kernel_rfl)) k1 (fun x hx => hg.same (l1 x hx)) (fun x hx => hsp x (by first | (simp [hx]; done) | (simp at hx)))) (trodAll_cons_mk (WideElems.Trod_stays laidOut (by kernel_rfl) (of_decide_eq_true (by kernel_rfl)) k2 (fun x hx => hg.same (l2 x hx)) (fun x hx => hsp x (by first | (simp [hx]; done) | (simp at hx)))) trodAll_mk0)))) (fun _ _ => rfl) (by simp) hg (ok_one (by kernel_rfl) rfl (okWide_bool_mk Tryd.underlying4 _))⟩

theorem closed : joinedFacts Tryd.prog 15 Tryd.f15 (OpenSpec.ofChange Rows.veilTwiceSpec).bare Rows.veilTwiceRow = true := by
  simp only [joinedFacts, Bool.and_eq_true]
  repeat' apply And.intro
  all_goals first
    | with_reducible exact mayEnter_
    | (rw [lifts_]; kernel_rfl)
    | (rw [make_]; kernel_rfl)
    | kernel_rfl
theorem over : Rows.VeilTwiceSaid :=
  OpenClaim.holds_of_cond 15 Tryd.f15 rfl rfl rfl rfl rfl rfl rfl ⟨rfl, rfl, rfl, rfl, rfl⟩ rfl rfl rfl rfl rfl (by kernel_rfl) Tryd.func15 closed
    (of_decide_eq_true (by kernel_rfl)) (by unfold Func.isWrapper; first | (rw [if_pos (by decide +kernel)]; kernel_rfl) | (rw [if_neg (by decide +kernel)]; exact ⟨rfl, rfl⟩))
    (fun os started H enc _ F0 => by rw [OpenClaim.pre_eq_preRow]; exact lifted os started H enc F0)

theorem proved : Rows.VeilTwiceCardSaid :=
  Claim7.holds_tied_plain_at .later [] [.data] true (true, "d9fe85e70a7df0d4258f35305737afc2beb11fcebc2be5a6fd8553ee38c454fa") false
    over (fun _ h => by cases h) (by kernel_rfl) (fun _ h => by cases h) veilTwice_row_tie rfl ⟨rfl, rfl⟩ main_ rfl
    (fun f fn hf hfn => by
      obtain rfl : f = 15 := Option.some.inj ((show Tryd.prog.funcNamed Rows.veilTwiceRow.func = some 15 by kernel_rfl).symm.trans hf) |>.symm
      obtain rfl : fn = Tryd.f15 := (Option.some.inj (Tryd.func15.symm.trans hfn)).symm
      exact ⟨by kernel_rfl, fun j t ht => by
        rw [Tryd.params15] at ht
        have hm : t ∈ [9, 3, 9] := by simpa using Array.mem_of_getElem? ht
        have hall : ([9, 3, 9].all fun u => !Tryd.prog.wantsStandIn u) = true := by kernel_rfl
        exact (show Tryd.prog.wantsStandIn t = false by simpa using List.all_eq_true.1 hall t hm)⟩)
    (by kernel_rfl)
#print axioms proved
end Go.Proofs.YtkbcilfcfbfiaaaDoor.veilTwice
