/- The laid table gives the walks their constants. -/
import Derived.Test.YtkbcilfcfbfiaaaDoorRows
import Derived.Test.YtkbcilfcfbfiaaaDoorTake
import Derived.Lib.LaidTab
import Derived.LaidMore
import Derived.ProofKit
import Derived.MakeChecks
import Derived.Stop.Joined
namespace Go.Proofs.YtkbcilfcfbfiaaaDoor
open Go Go.RowKit
set_option linter.unusedVariables false
def zsk : List Int := kl.map fun x => (x.toNat : Int)
def laid1 : List (String × DataW Unit) := [("affidavit/sum.consts", Rows.laid_affidavit_sum_consts)]
theorem laid1_tab : laid1 = [("affidavit/sum.consts", Lib.tabData .u32 zsk)] := by rfl
theorem gConsts : Tryd.prog.globalNamed "affidavit/sum.consts" = some 0 := by kernel_rfl
theorem tConsts : (Tryd.prog.globals[0]?).map (·.type) = some 115 := by kernel_rfl
theorem cells87 : Tryd.prog.cellsOf 87 = 1 := by kernel_rfl
theorem cells115 : Tryd.prog.cellsOf 115 = 64 := by kernel_rfl
theorem consts_of {W : World} (h : laidMetH Tryd.prog laid1 W) : Consts W := by
  rw [MakeChecks.laidMetH_plain _ _ _ (by kernel_rfl), laid1_tab] at h
  have ht := Lib.tabIs_of_head (P := Tryd.prog) gConsts tConsts Tryd.underlying115 Tryd.underlying87 cells87 cells115 h
  intro t ht64
  have hc := ht.cell gConsts t (show t < zsk.length from ht64)
  rw [hc]
  have e : zsk.getD t 0 = V (kc t) := by
    have hl : kl.length = 64 := rfl
    unfold zsk kc
    rw [List.getD_eq_getElem?_getD, List.getD_eq_getElem?_getD, List.getElem?_map, List.getElem?_eq_getElem (by omega)]; rfl
  rw [e]
theorem own : ownKnob Tryd.prog.godebug = none := by kernel_rfl
theorem laidOut : laidOutB Tryd.prog = true := by kernel_rfl
/-- The door's own heap meets the condition. -/
theorem door_met (os : Os) (args : Array Value) : laidMetH Tryd.prog laid1 ((World.doorLaid Tryd.prog 400 os).forCall (fun _ _ => 0) ⟨#[], args, []⟩).memory :=
  laidMetH_of_parts3 (fuel := 8) (laidMet_of_run' 8 (by kernel_rfl) (by kernel_rfl)) (by kernel_rfl) (by kernel_rfl)
end Go.Proofs.YtkbcilfcfbfiaaaDoor
