/- A ring: Made, Len, Clients, Secret. -/
import Derived.Test.YtkbcilfcfbfiaaaDoorRing5
namespace Go.Proofs.YtkbcilfcfbfiaaaDoor
open Go.RowKit Go.Proofs
set_option linter.unusedSimpArgs false
set_option linter.unusedVariables false
def secretT : ByteArray := { data := #[115, 101, 99, 114, 101, 116] }
theorem by_secretT : (by_ secretT).length = 6 := rfl
set_option maxRecDepth 100000 in
set_option maxHeartbeats 2000000 in
theorem made_nil (c d : Int) (t : ByteArray) (w : World) :
    Calls Tryd.prog 56 #[.pointer none, .int .i64 c, .int .i64 d, .string t] w fun e w' => e = .returned (.bool false) ∧ w = w' := by
  go_enter Tryd.func56, Tryd.ntmps56
  go_wp2_with fail
  go_ret
  exact ⟨rfl, rfl⟩
set_option maxRecDepth 100000 in
set_option maxHeartbeats 2000000 in
theorem made_any (c d : Int) (t : ByteArray) (hc : In64 c) (hd : In64 d) (ht : t.size ≤ maxLen) (r g cap b N : Nat) (sd : ByteArray) (S : List Ln) (w : World) (hR : RingAt w r g cap b sd N S) :
    Calls Tryd.prog 56 #[.pointer (some ⟨r, 0, none⟩), .int .i64 c, .int .i64 d, .string t] w fun e w' => e = .returned (.bool (decide (ln c d t ∈ S))) ∧ w = w' := by
  have h2 := hR.ring.cell 2
  have hl := hR.book.look hc hd ht
  clear hR
  by_cases hm : ln c d t ∈ S
  · rw [if_pos hm] at hl
    rw [decide_eq_true hm]
    go_enter Tryd.func56, Tryd.ntmps56
    go_wp2_with fail
    go_ret
    exact ⟨rfl, rfl⟩
  · rw [if_neg hm] at hl
    rw [decide_eq_false hm]
    go_enter Tryd.func56, Tryd.ntmps56
    go_wp2_with fail
    go_ret
    exact ⟨rfl, rfl⟩
set_option maxRecDepth 100000 in
set_option maxHeartbeats 2000000 in
theorem rlen_nil (w : World) :
    Calls Tryd.prog 58 #[.pointer none] w fun e w' => e = .returned (.int .i64 0) ∧ w = w' := by
  go_enter Tryd.func58, Tryd.ntmps58
  go_wp2_with fail
  go_ret
  exact ⟨rfl, rfl⟩
set_option maxRecDepth 100000 in
set_option maxHeartbeats 2000000 in
theorem rlen_any (r g cap b N : Nat) (sd : ByteArray) (S : List Ln) (w : World) (hR : RingAt w r g cap b sd N S) :
    Calls Tryd.prog 58 #[.pointer (some ⟨r, 0, none⟩)] w fun e w' => e = .returned (.int .i64 S.length) ∧ w = w' := by
  have h2 := hR.ring.cell 2
  have hl := hR.book.len 3
  clear hR
  go_enter Tryd.func58, Tryd.ntmps58
  go_wp2_with fail
  go_ret
  exact ⟨rfl, rfl⟩
set_option maxRecDepth 100000 in
set_option maxHeartbeats 2000000 in
theorem clients_nil (w : World) :
    Calls Tryd.prog 59 #[.pointer none] w fun e w' => e = .returned (.int .i64 0) ∧ w = w' := by
  go_enter Tryd.func59, Tryd.ntmps59
  go_wp2_with fail
  go_ret
  exact ⟨rfl, rfl⟩
set_option maxRecDepth 100000 in
set_option maxHeartbeats 2000000 in
theorem clients_any (r g cap b N : Nat) (sd : ByteArray) (S : List Ln) (w : World) (hR : RingAt w r g cap b sd N S) :
    Calls Tryd.prog 59 #[.pointer (some ⟨r, 0, none⟩)] w fun e w' => e = .returned (.int .i64 N) ∧ w = w' := by
  have h1 := hR.ring.cell 1
  clear hR
  go_enter Tryd.func59, Tryd.ntmps59
  go_wp2_with fail
  go_ret
  exact ⟨rfl, rfl⟩
set_option maxRecDepth 100000 in
set_option maxHeartbeats 2000000 in
theorem secret_nil (w : World) :
    Calls Tryd.prog 60 #[.pointer none] w fun e w' => e = .returned (.string { data := #[] }) ∧ w = w' := by
  go_enter Tryd.func60, Tryd.ntmps60
  go_wp2_with fail
  go_ret
  exact ⟨rfl, rfl⟩
set_option maxRecDepth 100000 in
set_option maxHeartbeats 2000000 in
theorem secret_any (r g cap b N : Nat) (sd : ByteArray) (S : List Ln) (w : World) (hk : Consts w) (hR : RingAt w r g cap b sd N S) (hs : sd.size ≤ 64) :
    Calls Tryd.prog 60 #[.pointer (some ⟨r, 0, none⟩)] w fun e w' => e = .returned (.string (strOf (madeOf (by_ sd) (by_ secretT) 0))) ∧ Below w.heap.size w w' := by
  have h0 := hR.ring.cell 0
  clear hR
  have HK := Lib.hid hk
  clear hk
  go_enter Tryd.func60, Tryd.ntmps60
  go_wp2_with fail
  refine (make_any sd secretT 0 (by omega) (by omega) w HK.out (by omega)).mono ?_
  rintro e w2 ⟨rfl, hb⟩
  have HB := Lib.hid hb
  clear hb
  generalize hX : strOf (madeOf (by_ sd) (by_ secretT) 0) = R
  have HX := Lib.hid hX
  clear hX
  go_wp2_with fail
  go_ret
  exact ⟨by rw [HX.out]; rfl, HB.out⟩
end Go.Proofs.YtkbcilfcfbfiaaaDoor
