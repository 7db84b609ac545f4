/- The laws of the ring: light, awake. -/
import Derived.Test.YtkbcilfcfbfiaaaDoorRing7
namespace Go.Proofs.YtkbcilfcfbfiaaaDoor
open Go.RowKit Go.Proofs
set_option linter.unusedSimpArgs false
set_option linter.unusedVariables false
def lightB (n : Nat) : Bool := decide (n < 500) || decide (16384 < n)
set_option maxRecDepth 100000 in
set_option maxHeartbeats 2000000 in
theorem light_any (c d : Int) (t : ByteArray) (w : World) :
    Calls Tryd.prog 49 #[.agg #[.int .i64 c, .int .i64 d, .string t]] w fun e w' => e = .returned (.bool (lightB t.size)) ∧ Below w.heap.size w w' := by
  by_cases h1 : t.size < 500
  · have g1 : decide ((t.size : Int) < 500) = true := decide_eq_true (by omega)
    have HE := Lib.hid (show lightB t.size = true by unfold lightB; simp [h1])
    go_enter Tryd.func49, Tryd.ntmps49
    go_wp2_with fail
    go_ret
    exact ⟨by rw [HE.out]; rfl, (Below.refl _ _).alloc (Nat.le_refl _) _⟩
  · have g1 : decide ((t.size : Int) < 500) = false := decide_eq_false (by omega)
    have HE := Lib.hid (show lightB t.size = decide ((16384 : Int) < (t.size : Int)) by unfold lightB; simp only [h1, decide_false, Bool.false_or]; exact decide_eq_decide.2 (by omega))
    go_enter Tryd.func49, Tryd.ntmps49
    go_wp2_with fail
    go_ret
    exact ⟨by rw [HE.out]; rfl, (Below.refl _ _).alloc (Nat.le_refl _) _⟩
theorem wpList_loadG {P : Program} {ops : Array Oper} {Q : Exit → Act → World → Prop} {a : Act} {w : World} {rest : List Oper} {o : Oper} (hw : Region.wanted o (yielded ops a.tmps) = true) (ty : TypeId) (x : Operand) (ho : o.op = .load ty x) {p v : Value}
    (hx : a.eval x = p) (hl : (Instr.loadAt ty p).run P w = .ok v w) (h : wpList P ops Q rest (a.put o.dst v) w) : wpList P ops Q (o :: rest) a w := wpList_step fun K hK => by
  rw [if_pos hw]
  unfold Oper.wp
  rw [execLoad ty x ho hx hl, Oper.upon_value]
  exact hK _ _ h
theorem grown_stored (w : World) (o : Obj) (vs : List Value) : Below w.heap.size w ((w.alloc o).setCells w.heap.size 0 vs) := Below.setCells' vs (Nat.le_refl _) 0 ((Below.refl _ _).alloc (Nat.le_refl _) o)
def seedT : ByteArray := { data := #[115, 101, 101, 100] }
def aT : ByteArray := { data := #[97] }
set_option maxRecDepth 100000 in
set_option maxHeartbeats 4000000 in
theorem awakeR_any (w : World) (hk : Consts w) :
    Calls Tryd.prog 48 #[] w fun e w' => e = .returned (.bool true) ∧ Below w.heap.size w w' := by
  have HK := Lib.hid hk
  have HP := Lib.hid hk.lt
  clear hk
  go_enter Tryd.func48, Tryd.ntmps48
  go_wp2_with fail
  refine (ring_new seedT 3 w HK.out (by omega) (by omega) (by decide)).mono ?_
  rintro e w2 ⟨r, g, cap, b, rfl, hR, hB, hb⟩
  have HR := Lib.hid hR
  have HB := Lib.hid hB
  have HBB := Lib.hid hb
  have HK := Lib.hid (HK.out.below hB)
  clear hR hB hb
  go_wp2_with fail
  have hm : MayB 3 ((1 : Nat) : Int) 2 aT.size := by decide
  have hb0 : 0 < b := by have := HBB.out; have := HP.out; omega
  refine (show Calls Tryd.prog 50 #[.pointer (some ⟨r, 0, none⟩), .int .i64 1, .int .i64 2, .string aT] w2 fun e w' => e = .returned (.tuple #[.agg (bytesC (signOf seedT 1 2 aT)), .int .i64 0]) ∧ RingAt w' r g cap b seedT 3 [ln 1 2 aT] ∧ w2.grownBy w' (some b) from rtag_ok 1 2 aT r g cap b 3 seedT [] w2 HK.out HR.out hm (by decide) hb0).mono ?_
  rintro e w3 ⟨rfl, hR, hG⟩
  have HK := Lib.hid (HK.out.only hG hb0)
  have HB := Lib.hid (HB.out.grown hG HB.out.size (fun k e => by have := Option.some.inj e; have := HBB.out; omega))
  have HR := Lib.hid (show RingAt w3 r g cap b seedT 3 [ln 1 2 aT] from hR)
  have hD := signOf_length seedT 1 2 aT
  have HC := Lib.hid (show ∀ w, Consts w → RingAt w r g cap b seedT 3 [ln 1 2 aT] → Calls Tryd.prog 52 #[.pointer (some ⟨r, 0, none⟩), .int .i64 1, .int .i64 2, .string aT, .agg (bytesC (signOf seedT 1 2 aT))] w fun e w' => e = .returned (.bool true) ∧ Below w.heap.size w w' from fun w hk hR => by
    have := rcheck_ok 1 2 aT (signOf seedT 1 2 aT) hD r g cap b 3 seedT [ln 1 2 aT] w hk hR hm
    rw [show (signOf seedT ((1 : Nat) : Int) 2 aT == signOf seedT 1 2 aT) = true from beq_self_eq_true _] at this
    exact this)
  have hsz : (bytesC (signOf seedT 1 2 aT)).size = 32 := by rw [bytesC_size, hD]
  have hone := bytesC_one (signOf seedT 1 2 aT)
  clear hm hb0 hG hR hD
  have HX := Lib.hid (show bytesC (signOf seedT 1 2 aT) = bytesC (signOf seedT 1 2 aT) from rfl)
  generalize bytesC (signOf seedT 1 2 aT) = X at HC hsz hone ⊢
  dsimp only
  iterate 13 go_step
  change wpList _ _ _ _ _ (w3.alloc (.cells z32 25))
  have hz := Blk.new w3 25 z32
  have hi25 : (Tryd.prog.info? 25).map (·.size) = some X.size := by rw [hsz]; kernel_rfl
  refine wpList_store_mid rfl 25 _ _ rfl w3.heap.size 0 X rfl rfl (hz.there 0 _ (by rw [hsz, z32_size]; exact Nat.le_refl _)) hi25 hone ?_
  simp only [Act.put]
  have hz2 := hz.setCells X.toList 0
  rw [putAll_all _ _ (by rw [hsz, z32_size])] at hz2
  have hO := grown_stored w3 (.cells z32 25) X.toList
  generalize (w3.alloc (.cells z32 25)).setCells w3.heap.size 0 X.toList = w5 at hz2 hO ⊢
  have HK := Lib.hid (HK.out.below hO)
  have HR := Lib.hid (HR.out.below hO)
  have HB := Lib.hid (HB.out.trans (hO.mono HB.out.size))
  clear hz hO hi25 hone
  generalize w3.heap.size = q at hz2 ⊢
  have HQ := Lib.hid hz2
  clear hz2
  go_upto_region 5 with (fail)
  refine wp_region_lit ?_
  iterate 11 go_step
  refine wpList_loadG rfl 25 _ rfl (p := .pointer (some ⟨q, 0, none⟩)) rfl (load25 HQ.out hsz) ?_
  simp only [Act.put, List.setIfInBounds_toArray, List.set_cons_zero, List.set_cons_succ]
  clear hsz
  have HM1 := Lib.hid (show ∀ w, RingAt w r g cap b seedT 3 [ln 1 2 aT] → Calls Tryd.prog 56 #[.pointer (some ⟨r, 0, none⟩), .int .i64 1, .int .i64 2, .string aT] w fun e w' => e = .returned (.bool true) ∧ w = w' from fun w hR => made_any 1 2 aT ⟨by omega, by omega⟩ ⟨by omega, by omega⟩ (by decide) r g cap b 3 seedT _ w hR)
  have HM2 := Lib.hid (show ∀ w, RingAt w r g cap b seedT 3 [ln 1 2 aT] → Calls Tryd.prog 56 #[.pointer (some ⟨r, 0, none⟩), .int .i64 2, .int .i64 2, .string aT] w fun e w' => e = .returned (.bool false) ∧ w = w' from fun w hR => made_any 2 2 aT ⟨by omega, by omega⟩ ⟨by omega, by omega⟩ (by decide) r g cap b 3 seedT _ w hR)
  have HLN := Lib.hid (show ∀ w, RingAt w r g cap b seedT 3 [ln 1 2 aT] → Calls Tryd.prog 58 #[.pointer (some ⟨r, 0, none⟩)] w fun e w' => e = .returned (.int .i64 1) ∧ w = w' from fun w hR => rlen_any r g cap b 3 seedT _ w hR)
  have HCL := Lib.hid (show ∀ w, RingAt w r g cap b seedT 3 [ln 1 2 aT] → Calls Tryd.prog 59 #[.pointer (some ⟨r, 0, none⟩)] w fun e w' => e = .returned (.int .i64 3) ∧ w = w' from fun w hR => clients_any r g cap b 3 seedT _ w hR)
  have hS : (strOf (madeOf (by_ seedT) (by_ secretT) 0)).size = 32 := by rw [strOf_size, madeOf_ok _ _ _ (by rw [by_secretT]; omega), tagOf_length]
  have hSC := fun w hk hR => secret_any r g cap b 3 seedT [ln 1 2 aT] w hk hR (by decide)
  generalize strOf (madeOf (by_ seedT) (by_ secretT) 0) = SE at hS hSC
  have hS2 : (SE.size : Int) = 32 := by omega
  have HSC := Lib.hid hSC
  have HS := Lib.hid hS2
  clear hS hS2 hSC
  go_wp2_with fail
  refine (HC.out w5 HK.out HR.out).mono ?_
  rintro e w6 ⟨rfl, hb⟩
  have HK := Lib.hid (HK.out.below hb)
  have HR := Lib.hid (HR.out.below hb)
  have HB := Lib.hid (HB.out.trans (hb.mono HB.out.size))
  clear hb
  go_wp2_with fail
  refine (HM1.out w6 HR.out).mono ?_
  rintro e w' ⟨rfl, rfl⟩
  go_wp2_with fail
  refine (HM2.out w6 HR.out).mono ?_
  rintro e w' ⟨rfl, rfl⟩
  go_wp2_with fail
  refine (HLN.out w6 HR.out).mono ?_
  rintro e w' ⟨rfl, rfl⟩
  go_wp2_with fail
  refine (HCL.out w6 HR.out).mono ?_
  rintro e w' ⟨rfl, rfl⟩
  go_wp2_with fail
  refine (HSC.out w6 HK.out HR.out).mono ?_
  rintro e w7 ⟨rfl, hb⟩
  have HB := Lib.hid (HB.out.trans (hb.mono HB.out.size))
  clear hb
  have hs := HS.out
  go_wp2_with fail
  go_ret
  exact ⟨rfl, HB.out⟩
end Go.Proofs.YtkbcilfcfbfiaaaDoor
