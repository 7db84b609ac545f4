/- The cell on a disk that is not armed; the laws' awake. -/
import Derived.Test.YtnddkodenkmoiaaCell6
namespace Go.Proofs.Ytnddkodenkmoiaa
open Go.RowKit Go.Proofs
set_option linter.unusedSimpArgs false
set_option linter.unusedVariables false
structure CellOk (x : Dk) (f size n : Nat) (t : ByteArray) : Prop where
  calm : Calm x
  up : Up x
  has : Content x.B f size n t
theorem dk0_calm (n : Nat) : Calm (dk0 n) := ⟨rfl, Int.le_refl _⟩
theorem dk0_up (n : Nat) : Up (dk0 n) := by
  refine ⟨rfl, fun s hs => ?_, fun s hs => ?_⟩
  · rw [(List.mem_replicate.1 hs).2]; rfl
  · rw [(List.mem_replicate.1 hs).2]; exact sec0_ok
theorem dk0_len (n : Nat) : (dk0 n).L.length = n := by unfold dk0; exact List.length_replicate
theorem dk0_B (n i : Nat) (h : i < n) : (dk0 n).B i = z64 := by
  unfold Dk.B dk0
  rw [List.getElem?_replicate, if_pos h]; rfl
def none_ : ByteArray := ⟨#[]⟩
theorem dk0_ok (m f size : Nat) (h : f + 1 < m) : CellOk (dk0 m) f size 0 none_ :=
  ⟨dk0_calm m, dk0_up m, Content.fresh _ f size none_ rfl (dk0_B m f (by omega)) (dk0_B m (f + 1) h)⟩
/-- Behind Save. -/
def Saved (d g c f size n len : Nat) (x : Dk) (s : ByteArray) (w' : World) : Prop :=
  ∃ x' : Dk, DiskAt w' d g x' ∧ CellOk x' f size n s ∧ x'.L.length = x.L.length ∧ ∀ i, ¬ (f ≤ i ∧ i < f + 2 + 2 * size) → x'.B i = x.B i
theorem save_ok (c d g f size n : Nat) (x : Dk) (t s : ByteArray) (w : World) (hc : CellAt w c d (f : Int) (size : Int)) (hD : DiskAt w d g x) (hK : CellOk x f size n t) (h1 : 1 ≤ size) (h2 : size ≤ 255) (hf : f + 2 + 2 * size ≤ x.L.length)
    (hn : n + 1 ≤ 1099511627776) (hs : s.size ≤ 64 * size) :
    Calls Try.prog 29 #[.pointer (some ⟨c, 0, none⟩), .string s] w fun e w' => e = .returned (.int .i64 0) ∧ Saved d g c f size (n + 1) 0 x s w' ∧ CellAt w' c d (f : Int) (size : Int) ∧ Only2 d g w w' := by
  refine (save_any c d g f size x s w hc hD (by have := hK.calm.2; omega) h1 h2 hf).mono ?_
  rintro e w' ⟨rfl, hD', hO⟩
  obtain ⟨hl, hr⟩ := save_law hK.up hK.has hf h1 h2 hn hs
  have hcm := saveF_calm x f size s hK.calm
  rcases hr with ⟨r0, r1, r2, r3⟩ | ⟨r0, r1, _⟩
  · exact ⟨by rw [r0], ⟨_, hD', ⟨hcm, r1, r2⟩, hl, r3⟩, hD.only2_blk hc hO (by decide) (by decide), hO⟩
  · rw [hcm.1] at r1; cases r1
theorem save_big (c d g f size : Nat) (x : Dk) (s : ByteArray) (w : World) (hc : CellAt w c d (f : Int) (size : Int)) (hD : DiskAt w d g x) (ha : x.armed ≤ 9223372036854775807) (h1 : 1 ≤ size) (h2 : size ≤ 255) (hf : f + 2 + 2 * size ≤ x.L.length)
    (hs : 64 * size < s.size) :
    Calls Try.prog 29 #[.pointer (some ⟨c, 0, none⟩), .string s] w fun e w' => e = .returned (.int .i64 4) ∧ DiskAt w' d g x ∧ CellAt w' c d (f : Int) (size : Int) ∧ Only2 d g w w' := by
  refine (save_any c d g f size x s w hc hD ha h1 h2 hf).mono ?_
  rintro e w' ⟨rfl, hD', hO⟩
  have hv : x.saveF f size s = (x, 4) := by unfold Dk.saveF; rw [if_pos hs]
  rw [hv] at hD' ⊢
  exact ⟨rfl, hD', hD.only2_blk hc hO (by decide) (by decide), hO⟩
theorem load_ok (c d g f size n : Nat) (x : Dk) (t : ByteArray) (w : World) (hc : CellAt w c d (f : Int) (size : Int)) (hD : DiskAt w d g x) (hd : x.down = false) (hK : Content x.B f size n t) (h1 : 1 ≤ size) (h2 : size ≤ 255) (hf : f + 2 + 2 * size ≤ x.L.length)
    (hn : n ≤ 1099511627776) (hn1 : 1 ≤ n) :
    Calls Try.prog 30 #[.pointer (some ⟨c, 0, none⟩)] w fun e w' => e = .returned (.tuple #[.string t, .int .i64 (n : Int), .int .i64 0]) ∧ Below w.heap.size w w' := by
  refine (load_any c d g f size x w hc hD h1 h2 hf).mono ?_
  rintro e w' ⟨rfl, hB⟩
  rw [load_law hd hK h2 hn, if_neg (by omega)]
  exact ⟨rfl, hB⟩
theorem load_ok0 (c d g f size : Nat) (x : Dk) (t : ByteArray) (w : World) (hc : CellAt w c d (f : Int) (size : Int)) (hD : DiskAt w d g x) (hd : x.down = false) (hK : Content x.B f size 0 t) (h1 : 1 ≤ size) (h2 : size ≤ 255) (hf : f + 2 + 2 * size ≤ x.L.length) :
    Calls Try.prog 30 #[.pointer (some ⟨c, 0, none⟩)] w fun e w' => e = .returned (.tuple #[.string ⟨#[]⟩, .int .i64 0, .int .i64 9]) ∧ Below w.heap.size w w' := by
  refine (load_any c d g f size x w hc hD h1 h2 hf).mono ?_
  rintro e w' ⟨rfl, hB⟩
  rw [load_law hd hK h2 (by omega), if_pos rfl]
  exact ⟨rfl, hB⟩
theorem save_nil (t : ByteArray) (w : World) :
    Calls Try.prog 29 #[.pointer none, .string t] w fun e w' => e = .returned (.int .i64 1) ∧ w = w' := by
  go_enter Try.func29, Try.ntmps29
  go_wp2_with fail
  go_ret
  exact ⟨rfl, rfl⟩
theorem load_nil (w : World) :
    Calls Try.prog 30 #[.pointer none] w fun e w' => e = .returned (.tuple #[.string ⟨#[]⟩, .int .i64 0, .int .i64 1]) ∧ w = w' := by
  go_enter Try.func30, Try.ntmps30
  go_wp2_with fail
  go_ret3
  exact ⟨rfl, rfl⟩
theorem new_n (n : Nat) (w : World) (h1 : 1 ≤ n) (h2 : n ≤ 512) :
    Calls Try.prog 21 #[.int .i64 (n : Int)] w fun e w' => ∃ d g, w.heap.size ≤ d ∧ w.heap.size ≤ g ∧ e = .returned (.tuple #[.pointer (some ⟨d, 0, none⟩), .int .i64 0]) ∧ DiskAt w' d g (dk0 n) ∧ Below w.heap.size w w' := by
  refine (new_any (n : Int) w).mono ?_
  rintro e w' (⟨h, _⟩ | ⟨_, d, g, hd, hg, he, hD, hB⟩)
  · exact absurd (by unfold newR; rw [if_neg (by omega)]) h
  · exact ⟨d, g, hd, hg, he, by rwa [Int.toNat_natCast] at hD, hB⟩
set_option maxRecDepth 100000 in
set_option maxHeartbeats 4000000 in
theorem awakeC_any (w : World) :
    Calls Try.prog 28 #[] w fun e w' => e = .returned (.bool true) ∧ Below w.heap.size w w' := by
  go_enter Try.func28, Try.ntmps28
  go_wp2_with fail
  refine (new_n 12 w (by omega) (by omega)).mono ?_
  rintro e w1 ⟨d, g, hd, hg, rfl, hD, hB⟩
  have HD := Lib.hid hD
  have HB := Lib.hid hB
  clear hD hB
  go_wp2_with fail
  refine (open_any d g 0 5 (dk0 12) w1 HD.out rfl (by omega) (by omega) (by rw [dk0_len]; omega)).mono ?_
  rintro e w2 ⟨rfl, hC, hB⟩
  have HD := Lib.hid (HD.out.below hB)
  have HC := Lib.hid hC
  have HB := Lib.hid (HB.out.trans (hB.mono HB.out.size))
  clear hC hB
  generalize w1.heap.size = c at HC ⊢
  go_wp2_with fail
  refine (save_ok c d g 0 5 0 (dk0 12) none_ ⟨#[97]⟩ w2 HC.out HD.out (dk0_ok 12 0 5 (by omega)) (by omega) (by omega) (by rw [dk0_len]; omega) (by omega) (by decide)).mono ?_
  rintro e w3 ⟨rfl, ⟨x1, hD, hK, hl, _⟩, hC, hO⟩
  have HD := Lib.hid hD
  have HC := Lib.hid hC
  have HK := Lib.hid hK
  have HL := Lib.hid (hl.trans (dk0_len 12))
  have HB := Lib.hid (HB.out.trans (hO.below HB.out.size hd hg))
  clear hD hK hl hC hO
  go_wp2_with fail
  refine (save_ok c d g 0 5 1 x1 _ ⟨#[98]⟩ w3 HC.out HD.out HK.out (by omega) (by omega) (by rw [HL.out]; omega) (by omega) (by decide)).mono ?_
  rintro e w4 ⟨rfl, ⟨x2, hD, hK, hl, _⟩, hC, hO⟩
  have HD := Lib.hid hD
  have HC := Lib.hid hC
  have HK := Lib.hid hK
  have HL := Lib.hid (hl.trans HL.out)
  have HB := Lib.hid (HB.out.trans (hO.below HB.out.size hd hg))
  clear hD hK hl hC hO
  go_wp2_with fail
  refine (load_ok c d g 0 5 2 x2 _ w4 HC.out HD.out HK.out.up.up HK.out.has (by omega) (by omega) (by rw [HL.out]; omega) (by omega) (by omega)).mono ?_
  rintro e w5 ⟨rfl, hB⟩
  have HC := Lib.hid (show CellAt w5 c d ((0 : Nat) : Int) ((5 : Nat) : Int) from HC.out.below hB HC.out.lt)
  have HB := Lib.hid (HB.out.trans (hB.mono HB.out.size))
  clear hB
  go_wp2_with fail
  refine (room_any c d _ _ w5 HC.out (by omega) (by omega)).mono ?_
  rintro e w6 ⟨rfl, rfl⟩
  go_wp2_with fail
  go_ret
  exact ⟨rfl, HB.out⟩
set_option maxRecDepth 100000 in
set_option maxHeartbeats 4000000 in
theorem cellNone_any (s : ByteArray) (first size : Int) (w : World) :
    Calls Try.prog 7 #[.string s, .int .i64 first, .int .i64 size] w fun e w' => e = .returned (.bool true) ∧ Below w.heap.size w w' := by
  go_enter Try.func7, Try.ntmps7
  go_wp2_with fail
  refine (load_nil w).mono ?_
  rintro e w' ⟨rfl, rfl⟩
  go_wp2_with fail
  refine (open_nil first size w).mono ?_
  rintro e w' ⟨rfl, rfl⟩
  go_wp2_with fail
  refine (awakeC_any w).mono ?_
  rintro e w' ⟨rfl, hB⟩
  have HB := Lib.hid hB
  clear hB
  go_wp2_with fail
  refine (save_nil s w').mono ?_
  rintro e w2 ⟨rfl, rfl⟩
  go_wp2_with fail
  refine (room_nil w').mono ?_
  rintro e w2 ⟨rfl, rfl⟩
  go_wp2_with fail
  go_ret
  exact ⟨rfl, HB.out⟩
end Go.Proofs.Ytnddkodenkmoiaa
