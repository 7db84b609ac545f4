/- Turning words: the program's rot, the reference's turn. -/
import Derived.Test.YtkbcilfcfbfiaaaDoorProg
import Derived.Test.YtkbcilfcfbfiaaaDoorSha
import Derived.WalkSpells
import Derived.WalkLawsBesides
import Derived.Deep.QuietTactic
import Derived.BigQuiet
import Derived.Lib.Hide
import Derived.ArgAppend
namespace Go.Proofs.YtkbcilfcfbfiaaaDoor
open Go.RowKit Go.Proofs
set_option linter.unusedSimpArgs false
set_option linter.unusedVariables false

set_option maxHeartbeats 400000 in
theorem rotl_2 (x : BitVec 32) (w : World) :
    Calls Tryd.prog 83 #[.int .u32 (V x), .int .i64 (-2)] w fun e w' => e = .returned (vv (rotr x 2)) ∧ w = w' := by
  have hb : bits .and .u64 (IntKind.u64.wrap (-2)) 31 = 30 := by decide
  have b0 := V_nonneg x
  have b1 := V_lt x
  go_enter Tryd.func83, Tryd.ntmps83
  go_wp2
  go_ret
  refine ⟨?_, rfl⟩
  rw [show rotr x 2 = (x <<< 30) ||| (x >>> 2) from BitVec.or_comm _ _]
  show Ending.returned (.int .u32 _) = .returned (.int .u32 (V _))
  congr 2
  rw [← V_or, ← V_shl x 30 1073741824 rfl, ← V_shr x 2 4 rfl]
  rfl
set_option maxHeartbeats 400000 in
theorem rot_2 (x : BitVec 32) (w : World) :
    Calls Tryd.prog 80 #[.int .u32 (V x), .int .i64 2] w fun e w' => e = .returned (vv (rotr x 2)) ∧ w = w' := by
  go_enter Tryd.func80, Tryd.ntmps80
  go_wp2_with fail
  refine (rotl_2 x w).mono ?_
  rintro e w' ⟨rfl, rfl⟩
  go_wp2_with fail
  go_ret
  exact ⟨rfl, rfl⟩
set_option maxHeartbeats 400000 in
theorem turn_2 (x : BitVec 32) (w : World) :
    Calls Tryd.prog 78 #[.int .u32 (V x), .int .u32 2] w fun e w' => e = .returned (vv (rotr x 2)) ∧ w = w' := by
  have b0 := V_nonneg x
  have b1 := V_lt x
  go_enter Tryd.func78, Tryd.ntmps78
  go_wp2
  go_ret
  refine ⟨?_, rfl⟩
  show Ending.returned (.int .u32 _) = .returned (.int .u32 (V _))
  congr 2
  rw [show rotr x 2 = (x >>> 2) ||| (x <<< 30) from rfl, ← V_or, ← V_shl x 30 1073741824 rfl, ← V_shr x 2 4 rfl]
  rfl

set_option maxHeartbeats 400000 in
theorem rotl_6 (x : BitVec 32) (w : World) :
    Calls Tryd.prog 83 #[.int .u32 (V x), .int .i64 (-6)] w fun e w' => e = .returned (vv (rotr x 6)) ∧ w = w' := by
  have hb : bits .and .u64 (IntKind.u64.wrap (-6)) 31 = 26 := by decide
  have b0 := V_nonneg x
  have b1 := V_lt x
  go_enter Tryd.func83, Tryd.ntmps83
  go_wp2
  go_ret
  refine ⟨?_, rfl⟩
  rw [show rotr x 6 = (x <<< 26) ||| (x >>> 6) from BitVec.or_comm _ _]
  show Ending.returned (.int .u32 _) = .returned (.int .u32 (V _))
  congr 2
  rw [← V_or, ← V_shl x 26 67108864 rfl, ← V_shr x 6 64 rfl]
  rfl
set_option maxHeartbeats 400000 in
theorem rot_6 (x : BitVec 32) (w : World) :
    Calls Tryd.prog 80 #[.int .u32 (V x), .int .i64 6] w fun e w' => e = .returned (vv (rotr x 6)) ∧ w = w' := by
  go_enter Tryd.func80, Tryd.ntmps80
  go_wp2_with fail
  refine (rotl_6 x w).mono ?_
  rintro e w' ⟨rfl, rfl⟩
  go_wp2_with fail
  go_ret
  exact ⟨rfl, rfl⟩
set_option maxHeartbeats 400000 in
theorem turn_6 (x : BitVec 32) (w : World) :
    Calls Tryd.prog 78 #[.int .u32 (V x), .int .u32 6] w fun e w' => e = .returned (vv (rotr x 6)) ∧ w = w' := by
  have b0 := V_nonneg x
  have b1 := V_lt x
  go_enter Tryd.func78, Tryd.ntmps78
  go_wp2
  go_ret
  refine ⟨?_, rfl⟩
  show Ending.returned (.int .u32 _) = .returned (.int .u32 (V _))
  congr 2
  rw [show rotr x 6 = (x >>> 6) ||| (x <<< 26) from rfl, ← V_or, ← V_shl x 26 67108864 rfl, ← V_shr x 6 64 rfl]
  rfl

set_option maxHeartbeats 400000 in
theorem rotl_7 (x : BitVec 32) (w : World) :
    Calls Tryd.prog 83 #[.int .u32 (V x), .int .i64 (-7)] w fun e w' => e = .returned (vv (rotr x 7)) ∧ w = w' := by
  have hb : bits .and .u64 (IntKind.u64.wrap (-7)) 31 = 25 := by decide
  have b0 := V_nonneg x
  have b1 := V_lt x
  go_enter Tryd.func83, Tryd.ntmps83
  go_wp2
  go_ret
  refine ⟨?_, rfl⟩
  rw [show rotr x 7 = (x <<< 25) ||| (x >>> 7) from BitVec.or_comm _ _]
  show Ending.returned (.int .u32 _) = .returned (.int .u32 (V _))
  congr 2
  rw [← V_or, ← V_shl x 25 33554432 rfl, ← V_shr x 7 128 rfl]
  rfl
set_option maxHeartbeats 400000 in
theorem rot_7 (x : BitVec 32) (w : World) :
    Calls Tryd.prog 80 #[.int .u32 (V x), .int .i64 7] w fun e w' => e = .returned (vv (rotr x 7)) ∧ w = w' := by
  go_enter Tryd.func80, Tryd.ntmps80
  go_wp2_with fail
  refine (rotl_7 x w).mono ?_
  rintro e w' ⟨rfl, rfl⟩
  go_wp2_with fail
  go_ret
  exact ⟨rfl, rfl⟩
set_option maxHeartbeats 400000 in
theorem turn_7 (x : BitVec 32) (w : World) :
    Calls Tryd.prog 78 #[.int .u32 (V x), .int .u32 7] w fun e w' => e = .returned (vv (rotr x 7)) ∧ w = w' := by
  have b0 := V_nonneg x
  have b1 := V_lt x
  go_enter Tryd.func78, Tryd.ntmps78
  go_wp2
  go_ret
  refine ⟨?_, rfl⟩
  show Ending.returned (.int .u32 _) = .returned (.int .u32 (V _))
  congr 2
  rw [show rotr x 7 = (x >>> 7) ||| (x <<< 25) from rfl, ← V_or, ← V_shl x 25 33554432 rfl, ← V_shr x 7 128 rfl]
  rfl

set_option maxHeartbeats 400000 in
theorem rotl_11 (x : BitVec 32) (w : World) :
    Calls Tryd.prog 83 #[.int .u32 (V x), .int .i64 (-11)] w fun e w' => e = .returned (vv (rotr x 11)) ∧ w = w' := by
  have hb : bits .and .u64 (IntKind.u64.wrap (-11)) 31 = 21 := by decide
  have b0 := V_nonneg x
  have b1 := V_lt x
  go_enter Tryd.func83, Tryd.ntmps83
  go_wp2
  go_ret
  refine ⟨?_, rfl⟩
  rw [show rotr x 11 = (x <<< 21) ||| (x >>> 11) from BitVec.or_comm _ _]
  show Ending.returned (.int .u32 _) = .returned (.int .u32 (V _))
  congr 2
  rw [← V_or, ← V_shl x 21 2097152 rfl, ← V_shr x 11 2048 rfl]
  rfl
set_option maxHeartbeats 400000 in
theorem rot_11 (x : BitVec 32) (w : World) :
    Calls Tryd.prog 80 #[.int .u32 (V x), .int .i64 11] w fun e w' => e = .returned (vv (rotr x 11)) ∧ w = w' := by
  go_enter Tryd.func80, Tryd.ntmps80
  go_wp2_with fail
  refine (rotl_11 x w).mono ?_
  rintro e w' ⟨rfl, rfl⟩
  go_wp2_with fail
  go_ret
  exact ⟨rfl, rfl⟩
set_option maxHeartbeats 400000 in
theorem turn_11 (x : BitVec 32) (w : World) :
    Calls Tryd.prog 78 #[.int .u32 (V x), .int .u32 11] w fun e w' => e = .returned (vv (rotr x 11)) ∧ w = w' := by
  have b0 := V_nonneg x
  have b1 := V_lt x
  go_enter Tryd.func78, Tryd.ntmps78
  go_wp2
  go_ret
  refine ⟨?_, rfl⟩
  show Ending.returned (.int .u32 _) = .returned (.int .u32 (V _))
  congr 2
  rw [show rotr x 11 = (x >>> 11) ||| (x <<< 21) from rfl, ← V_or, ← V_shl x 21 2097152 rfl, ← V_shr x 11 2048 rfl]
  rfl

set_option maxHeartbeats 400000 in
theorem rotl_13 (x : BitVec 32) (w : World) :
    Calls Tryd.prog 83 #[.int .u32 (V x), .int .i64 (-13)] w fun e w' => e = .returned (vv (rotr x 13)) ∧ w = w' := by
  have hb : bits .and .u64 (IntKind.u64.wrap (-13)) 31 = 19 := by decide
  have b0 := V_nonneg x
  have b1 := V_lt x
  go_enter Tryd.func83, Tryd.ntmps83
  go_wp2
  go_ret
  refine ⟨?_, rfl⟩
  rw [show rotr x 13 = (x <<< 19) ||| (x >>> 13) from BitVec.or_comm _ _]
  show Ending.returned (.int .u32 _) = .returned (.int .u32 (V _))
  congr 2
  rw [← V_or, ← V_shl x 19 524288 rfl, ← V_shr x 13 8192 rfl]
  rfl
set_option maxHeartbeats 400000 in
theorem rot_13 (x : BitVec 32) (w : World) :
    Calls Tryd.prog 80 #[.int .u32 (V x), .int .i64 13] w fun e w' => e = .returned (vv (rotr x 13)) ∧ w = w' := by
  go_enter Tryd.func80, Tryd.ntmps80
  go_wp2_with fail
  refine (rotl_13 x w).mono ?_
  rintro e w' ⟨rfl, rfl⟩
  go_wp2_with fail
  go_ret
  exact ⟨rfl, rfl⟩
set_option maxHeartbeats 400000 in
theorem turn_13 (x : BitVec 32) (w : World) :
    Calls Tryd.prog 78 #[.int .u32 (V x), .int .u32 13] w fun e w' => e = .returned (vv (rotr x 13)) ∧ w = w' := by
  have b0 := V_nonneg x
  have b1 := V_lt x
  go_enter Tryd.func78, Tryd.ntmps78
  go_wp2
  go_ret
  refine ⟨?_, rfl⟩
  show Ending.returned (.int .u32 _) = .returned (.int .u32 (V _))
  congr 2
  rw [show rotr x 13 = (x >>> 13) ||| (x <<< 19) from rfl, ← V_or, ← V_shl x 19 524288 rfl, ← V_shr x 13 8192 rfl]
  rfl

set_option maxHeartbeats 400000 in
theorem rotl_17 (x : BitVec 32) (w : World) :
    Calls Tryd.prog 83 #[.int .u32 (V x), .int .i64 (-17)] w fun e w' => e = .returned (vv (rotr x 17)) ∧ w = w' := by
  have hb : bits .and .u64 (IntKind.u64.wrap (-17)) 31 = 15 := by decide
  have b0 := V_nonneg x
  have b1 := V_lt x
  go_enter Tryd.func83, Tryd.ntmps83
  go_wp2
  go_ret
  refine ⟨?_, rfl⟩
  rw [show rotr x 17 = (x <<< 15) ||| (x >>> 17) from BitVec.or_comm _ _]
  show Ending.returned (.int .u32 _) = .returned (.int .u32 (V _))
  congr 2
  rw [← V_or, ← V_shl x 15 32768 rfl, ← V_shr x 17 131072 rfl]
  rfl
set_option maxHeartbeats 400000 in
theorem rot_17 (x : BitVec 32) (w : World) :
    Calls Tryd.prog 80 #[.int .u32 (V x), .int .i64 17] w fun e w' => e = .returned (vv (rotr x 17)) ∧ w = w' := by
  go_enter Tryd.func80, Tryd.ntmps80
  go_wp2_with fail
  refine (rotl_17 x w).mono ?_
  rintro e w' ⟨rfl, rfl⟩
  go_wp2_with fail
  go_ret
  exact ⟨rfl, rfl⟩
set_option maxHeartbeats 400000 in
theorem turn_17 (x : BitVec 32) (w : World) :
    Calls Tryd.prog 78 #[.int .u32 (V x), .int .u32 17] w fun e w' => e = .returned (vv (rotr x 17)) ∧ w = w' := by
  have b0 := V_nonneg x
  have b1 := V_lt x
  go_enter Tryd.func78, Tryd.ntmps78
  go_wp2
  go_ret
  refine ⟨?_, rfl⟩
  show Ending.returned (.int .u32 _) = .returned (.int .u32 (V _))
  congr 2
  rw [show rotr x 17 = (x >>> 17) ||| (x <<< 15) from rfl, ← V_or, ← V_shl x 15 32768 rfl, ← V_shr x 17 131072 rfl]
  rfl

set_option maxHeartbeats 400000 in
theorem rotl_18 (x : BitVec 32) (w : World) :
    Calls Tryd.prog 83 #[.int .u32 (V x), .int .i64 (-18)] w fun e w' => e = .returned (vv (rotr x 18)) ∧ w = w' := by
  have hb : bits .and .u64 (IntKind.u64.wrap (-18)) 31 = 14 := by decide
  have b0 := V_nonneg x
  have b1 := V_lt x
  go_enter Tryd.func83, Tryd.ntmps83
  go_wp2
  go_ret
  refine ⟨?_, rfl⟩
  rw [show rotr x 18 = (x <<< 14) ||| (x >>> 18) from BitVec.or_comm _ _]
  show Ending.returned (.int .u32 _) = .returned (.int .u32 (V _))
  congr 2
  rw [← V_or, ← V_shl x 14 16384 rfl, ← V_shr x 18 262144 rfl]
  rfl
set_option maxHeartbeats 400000 in
theorem rot_18 (x : BitVec 32) (w : World) :
    Calls Tryd.prog 80 #[.int .u32 (V x), .int .i64 18] w fun e w' => e = .returned (vv (rotr x 18)) ∧ w = w' := by
  go_enter Tryd.func80, Tryd.ntmps80
  go_wp2_with fail
  refine (rotl_18 x w).mono ?_
  rintro e w' ⟨rfl, rfl⟩
  go_wp2_with fail
  go_ret
  exact ⟨rfl, rfl⟩
set_option maxHeartbeats 400000 in
theorem turn_18 (x : BitVec 32) (w : World) :
    Calls Tryd.prog 78 #[.int .u32 (V x), .int .u32 18] w fun e w' => e = .returned (vv (rotr x 18)) ∧ w = w' := by
  have b0 := V_nonneg x
  have b1 := V_lt x
  go_enter Tryd.func78, Tryd.ntmps78
  go_wp2
  go_ret
  refine ⟨?_, rfl⟩
  show Ending.returned (.int .u32 _) = .returned (.int .u32 (V _))
  congr 2
  rw [show rotr x 18 = (x >>> 18) ||| (x <<< 14) from rfl, ← V_or, ← V_shl x 14 16384 rfl, ← V_shr x 18 262144 rfl]
  rfl

set_option maxHeartbeats 400000 in
theorem rotl_19 (x : BitVec 32) (w : World) :
    Calls Tryd.prog 83 #[.int .u32 (V x), .int .i64 (-19)] w fun e w' => e = .returned (vv (rotr x 19)) ∧ w = w' := by
  have hb : bits .and .u64 (IntKind.u64.wrap (-19)) 31 = 13 := by decide
  have b0 := V_nonneg x
  have b1 := V_lt x
  go_enter Tryd.func83, Tryd.ntmps83
  go_wp2
  go_ret
  refine ⟨?_, rfl⟩
  rw [show rotr x 19 = (x <<< 13) ||| (x >>> 19) from BitVec.or_comm _ _]
  show Ending.returned (.int .u32 _) = .returned (.int .u32 (V _))
  congr 2
  rw [← V_or, ← V_shl x 13 8192 rfl, ← V_shr x 19 524288 rfl]
  rfl
set_option maxHeartbeats 400000 in
theorem rot_19 (x : BitVec 32) (w : World) :
    Calls Tryd.prog 80 #[.int .u32 (V x), .int .i64 19] w fun e w' => e = .returned (vv (rotr x 19)) ∧ w = w' := by
  go_enter Tryd.func80, Tryd.ntmps80
  go_wp2_with fail
  refine (rotl_19 x w).mono ?_
  rintro e w' ⟨rfl, rfl⟩
  go_wp2_with fail
  go_ret
  exact ⟨rfl, rfl⟩
set_option maxHeartbeats 400000 in
theorem turn_19 (x : BitVec 32) (w : World) :
    Calls Tryd.prog 78 #[.int .u32 (V x), .int .u32 19] w fun e w' => e = .returned (vv (rotr x 19)) ∧ w = w' := by
  have b0 := V_nonneg x
  have b1 := V_lt x
  go_enter Tryd.func78, Tryd.ntmps78
  go_wp2
  go_ret
  refine ⟨?_, rfl⟩
  show Ending.returned (.int .u32 _) = .returned (.int .u32 (V _))
  congr 2
  rw [show rotr x 19 = (x >>> 19) ||| (x <<< 13) from rfl, ← V_or, ← V_shl x 13 8192 rfl, ← V_shr x 19 524288 rfl]
  rfl

set_option maxHeartbeats 400000 in
theorem rotl_22 (x : BitVec 32) (w : World) :
    Calls Tryd.prog 83 #[.int .u32 (V x), .int .i64 (-22)] w fun e w' => e = .returned (vv (rotr x 22)) ∧ w = w' := by
  have hb : bits .and .u64 (IntKind.u64.wrap (-22)) 31 = 10 := by decide
  have b0 := V_nonneg x
  have b1 := V_lt x
  go_enter Tryd.func83, Tryd.ntmps83
  go_wp2
  go_ret
  refine ⟨?_, rfl⟩
  rw [show rotr x 22 = (x <<< 10) ||| (x >>> 22) from BitVec.or_comm _ _]
  show Ending.returned (.int .u32 _) = .returned (.int .u32 (V _))
  congr 2
  rw [← V_or, ← V_shl x 10 1024 rfl, ← V_shr x 22 4194304 rfl]
  rfl
set_option maxHeartbeats 400000 in
theorem rot_22 (x : BitVec 32) (w : World) :
    Calls Tryd.prog 80 #[.int .u32 (V x), .int .i64 22] w fun e w' => e = .returned (vv (rotr x 22)) ∧ w = w' := by
  go_enter Tryd.func80, Tryd.ntmps80
  go_wp2_with fail
  refine (rotl_22 x w).mono ?_
  rintro e w' ⟨rfl, rfl⟩
  go_wp2_with fail
  go_ret
  exact ⟨rfl, rfl⟩
set_option maxHeartbeats 400000 in
theorem turn_22 (x : BitVec 32) (w : World) :
    Calls Tryd.prog 78 #[.int .u32 (V x), .int .u32 22] w fun e w' => e = .returned (vv (rotr x 22)) ∧ w = w' := by
  have b0 := V_nonneg x
  have b1 := V_lt x
  go_enter Tryd.func78, Tryd.ntmps78
  go_wp2
  go_ret
  refine ⟨?_, rfl⟩
  show Ending.returned (.int .u32 _) = .returned (.int .u32 (V _))
  congr 2
  rw [show rotr x 22 = (x >>> 22) ||| (x <<< 10) from rfl, ← V_or, ← V_shl x 10 1024 rfl, ← V_shr x 22 4194304 rfl]
  rfl

set_option maxHeartbeats 400000 in
theorem rotl_25 (x : BitVec 32) (w : World) :
    Calls Tryd.prog 83 #[.int .u32 (V x), .int .i64 (-25)] w fun e w' => e = .returned (vv (rotr x 25)) ∧ w = w' := by
  have hb : bits .and .u64 (IntKind.u64.wrap (-25)) 31 = 7 := by decide
  have b0 := V_nonneg x
  have b1 := V_lt x
  go_enter Tryd.func83, Tryd.ntmps83
  go_wp2
  go_ret
  refine ⟨?_, rfl⟩
  rw [show rotr x 25 = (x <<< 7) ||| (x >>> 25) from BitVec.or_comm _ _]
  show Ending.returned (.int .u32 _) = .returned (.int .u32 (V _))
  congr 2
  rw [← V_or, ← V_shl x 7 128 rfl, ← V_shr x 25 33554432 rfl]
  rfl
set_option maxHeartbeats 400000 in
theorem rot_25 (x : BitVec 32) (w : World) :
    Calls Tryd.prog 80 #[.int .u32 (V x), .int .i64 25] w fun e w' => e = .returned (vv (rotr x 25)) ∧ w = w' := by
  go_enter Tryd.func80, Tryd.ntmps80
  go_wp2_with fail
  refine (rotl_25 x w).mono ?_
  rintro e w' ⟨rfl, rfl⟩
  go_wp2_with fail
  go_ret
  exact ⟨rfl, rfl⟩
set_option maxHeartbeats 400000 in
theorem turn_25 (x : BitVec 32) (w : World) :
    Calls Tryd.prog 78 #[.int .u32 (V x), .int .u32 25] w fun e w' => e = .returned (vv (rotr x 25)) ∧ w = w' := by
  have b0 := V_nonneg x
  have b1 := V_lt x
  go_enter Tryd.func78, Tryd.ntmps78
  go_wp2
  go_ret
  refine ⟨?_, rfl⟩
  show Ending.returned (.int .u32 _) = .returned (.int .u32 (V _))
  congr 2
  rw [show rotr x 25 = (x >>> 25) ||| (x <<< 7) from rfl, ← V_or, ← V_shl x 7 128 rfl, ← V_shr x 25 33554432 rfl]
  rfl
end Go.Proofs.YtkbcilfcfbfiaaaDoor
