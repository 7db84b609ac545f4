/- The walk of LinkNone: it comes to true. -/
import Derived.Test.YtdfdgcknahmnnaaAwake
namespace Go.Proofs.Ytdfdgcknahmnnaa
open Go.RowKit Go.Proofs
set_option linter.unusedSimpArgs false
set_option linter.unusedVariables false

set_option maxRecDepth 100000 in
set_option maxHeartbeats 2000000 in
theorem LinkNone_any (k c : Int) (s : ByteArray) (w : World) :
    Calls Try.prog 7 #[.agg #[.int .i64 k, .int .i64 c, .string s]] w fun e w' => e = .returned (.bool true) ∧ Below w.heap.size w w' := by
  go_enter Try.func7, Try.ntmps7
  go_wp2_with fail
  refine (TakeUp_nil c _).mono ?_
  rintro e w' ⟨rfl, rfl⟩
  go_wp2_with fail
  refine (TakeDown_nil c _).mono ?_
  rintro e w' ⟨rfl, rfl⟩
  go_wp2_with fail
  refine (Len_nil c _).mono ?_
  rintro e w' ⟨rfl, rfl⟩
  go_wp2_with fail
  refine (awake_any _).mono ?_
  rintro e w2 ⟨rfl, hb⟩
  have hB0 : Below w.heap.size w (w.alloc (.cells #[.int .i64 k, .int .i64 c, .string s] 36)) := (Below.refl _ _).alloc (Nat.le_refl _) _
  have hBx := hB0.trans (hb.mono (by simp))
  have hbk : Blk w2 w.heap.size 36 #[.int .i64 k, .int .i64 c, .string s] := (Blk.new w 36 #[.int .i64 k, .int .i64 c, .string s]).below hb (by simp)
  have c1 := hbk.cell 1
  have c2 := hbk.cell 2
  simp only [List.getElem?_toArray, List.getElem?_cons_succ, List.getElem?_cons_zero] at c1 c2
  have hB := Lib.hid hBx
  clear hB0 hb hBx hbk
  go_wp2_with fail
  refine (Up_nil c s _).mono ?_
  rintro e w' ⟨rfl, rfl⟩
  go_wp2_with fail
  refine (Down_nil c s _).mono ?_
  rintro e w' ⟨rfl, rfl⟩
  go_wp2_with fail
  refine (Reset_nil c _).mono ?_
  rintro e w' ⟨rfl, rfl⟩
  go_wp2_with fail
  refine (Quiet_nil _).mono ?_
  rintro e w' ⟨rfl, hg⟩
  have hB := Lib.hid (hB.out.trans (below_of_grown hg hB.out.size))
  clear hg
  go_wp2_with fail
  go_ret
  exact ⟨rfl, hB.out⟩
end Go.Proofs.Ytdfdgcknahmnnaa
