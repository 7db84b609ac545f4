/- The laws' awake. -/
import Derived.Test.YtnddkodenkmoiaaDisk8
namespace Go.Proofs.Ytnddkodenkmoiaa
open Go.RowKit Go.Proofs
set_option linter.unusedSimpArgs false
set_option linter.unusedVariables false
def aa : ByteArray := ⟨#[97, 97]⟩
def bbb : ByteArray := ⟨#[98, 98, 98]⟩
def a1 : Dk := (dk0 2).write 0 aa
def a2 : Dk := a1.sync
def a3 : Dk := a2.write 0 bbb
def a4 : Dk := a3.crash [1]
theorem w1_ok : (dk0 2).writeR 0 aa = 0 := by decide +kernel
theorem w2_ok : a1.syncR = 0 := by decide +kernel
theorem w3_ok : a2.writeR 0 bbb = 0 := by decide +kernel
theorem r4 : a4.readR 0 = (strOf (fillOf (by_ ⟨#[98, 97]⟩)), 0) := by kernel_rfl
theorem l4 : looseI a4.L a4.L.length = [] := by kernel_rfl
theorem n4 : a4.L.length = 2 := by kernel_rfl
theorem ar0 : (dk0 2).armed ≤ 9223372036854775807 := by decide +kernel
theorem ar1 : a1.armed ≤ 9223372036854775807 := by decide +kernel
theorem ar2 : a2.armed ≤ 9223372036854775807 := by decide +kernel
set_option maxRecDepth 100000 in
set_option maxHeartbeats 4000000 in
theorem awake_any (w : World) :
    Calls Try.prog 16 #[] w fun e w' => e = .returned (.bool true) ∧ Below w.heap.size w w' := by
  go_enter Try.func16, Try.ntmps16
  go_wp2_with fail
  refine (new_any 2 w).mono ?_
  rintro e w1 (⟨h, _⟩ | ⟨_, d, g, hd, hg, rfl, hD, hB⟩)
  · exact absurd (by decide +kernel) h
  have HD := Lib.hid hD
  have HB := Lib.hid hB
  clear hD hB
  go_wp2_with fail
  refine (write_any d g (dk0 2) 0 aa w1 HD.out ar0).mono ?_
  rintro e w2 ⟨rfl, hD, hO⟩
  rw [w1_ok]
  have HD := Lib.hid (show DiskAt w2 d g a1 from hD)
  have HB := Lib.hid (HB.out.trans (hO.below HB.out.size hd hg))
  clear hD hO
  go_wp2_with fail
  refine (sync_any d g a1 w2 HD.out ar1).mono ?_
  rintro e w3 ⟨rfl, hD, hO⟩
  rw [w2_ok]
  have HD := Lib.hid (show DiskAt w3 d g a2 from hD)
  have HB := Lib.hid (HB.out.trans (hO.below HB.out.size hd hg))
  clear hD hO
  go_wp2_with fail
  refine (write_any d g a2 0 bbb w3 HD.out ar2).mono ?_
  rintro e w4 ⟨rfl, hD, hO⟩
  rw [w3_ok]
  have HD := Lib.hid (show DiskAt w4 d g a3 from hD)
  have HB := Lib.hid (HB.out.trans (hO.below HB.out.size hd hg))
  clear hD hO
  go_wp2_with fail
  have hb := Blk.new w4 3 #[.int .i64 1]
  have hne : d < w4.heap.size ∧ g < w4.heap.size := ⟨HD.out.1.lt, HD.out.2.1.lt⟩
  have HD := Lib.hid (HD.out.below ((Below.refl w4.heap.size w4).alloc (Nat.le_refl _) (.cells #[.int .i64 1] 3)))
  have HB := Lib.hid (HB.out.alloc HB.out.size (.cells #[.int .i64 1] 3))
  have HK := Lib.hid (show KeepAt d g (w4.alloc (.cells #[.int .i64 1] 3)) (.slice (some ⟨w4.heap.size, 0, none⟩) 1 1) [1] from
    ⟨_, 1, rfl, by decide, fun j k hj => by
      match j, hj with
      | 0, hj =>
        obtain rfl := Option.some.inj hj
        refine ⟨_, rfl, ?_, ?_, ?_⟩
        · rw [Addr.add_mid]; exact hb.cell 0
        · show w4.heap.size ≠ d; omega
        · show w4.heap.size ≠ g; omega⟩)
  clear hb hne
  generalize w4.alloc (.cells #[.int .i64 1] 3) = w5 at HD HB HK ⊢
  refine (crash_any d g a3 _ [1] w5 HD.out HK.out (by decide)).mono ?_
  rintro e w6 ⟨rfl, hD, hO⟩
  have HD := Lib.hid (show DiskAt w6 d g a4 from hD)
  have HB := Lib.hid (HB.out.trans (hO.below HB.out.size hd hg))
  clear hD hO
  go_wp2_with fail
  refine (read_any d g a4 0 w6 HD.out).mono ?_
  rintro e w7 ⟨rfl, rfl⟩
  rw [r4]
  go_wp2_with fail
  refine (fill_any _ w6 (by decide)).mono ?_
  rintro e w7 ⟨rfl, hb⟩
  have HD := Lib.hid (HD.out.below (hb.mono (Nat.le_refl _)))
  have HB := Lib.hid (HB.out.trans (hb.mono HB.out.size))
  clear hb
  generalize strOf (fillOf (by_ ⟨#[98, 97]⟩)) = X
  go_wp2_with fail
  refine (loose_any d g a4 w7 HD.out).mono ?_
  rintro e w8 ⟨v, rfl, hOw, hb⟩
  rw [l4] at hOw
  obtain ⟨q, c, rfl⟩ : ∃ q c, v = .slice q 0 c := by
    rcases hOw.row with ⟨rfl, _⟩ | ⟨a, c, rfl, _⟩
    · exact ⟨_, _, rfl⟩
    · exact ⟨_, _, rfl⟩
  have HD := Lib.hid (HD.out.below hb)
  have HB := Lib.hid (HB.out.trans (hb.mono HB.out.size))
  clear hb hOw
  go_wp2_with fail
  refine (sectors_any d g a4 w8 HD.out).mono ?_
  rintro e w9 ⟨rfl, rfl⟩
  rw [n4]
  go_wp2_with fail
  go_ret
  exact ⟨rfl, HB.out⟩
end Go.Proofs.Ytnddkodenkmoiaa
