/- Both disks behind some calls. -/
import Derived.Test.YtnddkodenkmoiaaRdk6
import Derived.Test.YtnddkodenkmoiaaActs4b
namespace Go.Proofs.Ytnddkodenkmoiaa
open Go.RowKit Go.Proofs
set_option linter.unusedSimpArgs false
set_option linter.unusedVariables false
theorem goes_length (X : Dk) : X.goes.L.length = X.L.length := by rw [goes_L]
theorem write_length (X : Dk) (i : Int) (s : ByteArray) : (X.write i s).L.length = X.L.length := by
  unfold Dk.write
  split
  · rfl
  · split
    · rfl
    · split
      · rfl
      · rw [goes_length]
        unfold Dk.putAt
        split
        · exact List.length_set
        · rfl
theorem sync_length (X : Dk) : X.sync.L.length = X.L.length := by
  unfold Dk.sync
  split
  · rfl
  · split
    · exact goes_length X
    · exact List.length_map _
theorem act_length (X : Dk) (k i : Int) (s : ByteArray) (ks : List Int) : (X.act k i s ks).L.length = X.L.length := by
  unfold Dk.act
  split
  · exact write_length X i s
  · split
    · exact sync_length X
    · split
      · unfold Dk.arm; split <;> rfl
      · exact tearSt_length _ _ _ _
theorem IntsAt.keepB {w w' : World} {v : Value} {ks : List Int} {d g x gl go : Nat} (h : IntsAt w v ks) (hb : Below w.heap.size w w') (h1 : w.heap.size ≤ d) (h2 : w.heap.size ≤ g) (h3 : w.heap.size ≤ x) (h4 : w.heap.size ≤ gl) (h5 : w.heap.size ≤ go) : KeepB d g x gl go w' v ks := by
  obtain ⟨o, c, hv, hc, hi⟩ := h
  refine ⟨o, c, hv, hc, fun j k hj => ?_⟩
  obtain ⟨a, ha, hcell⟩ := hi j k hj
  have hlt := World.block_lt_of_cell? w _ hcell
  have hlt2 := hlt
  rw [add_block] at hlt2
  exact ⟨a, ha, (hb.cell hlt).trans hcell, by omega, by omega, by omega, by omega, by omega⟩
def MadeP (w : World) (e : Ending) (w' : World) : Prop :=
  ∃ d g x gl go cl co X, e = .returned (.tuple #[.pointer (some ⟨d, 0, none⟩), .pointer (some ⟨x, 0, none⟩), .bool true]) ∧ Both w' d g x gl go cl co X ∧ X.L.length = 6 ∧ w.heap.size ≤ d ∧ w.heap.size ≤ g ∧ w.heap.size ≤ x ∧ w.heap.size ≤ gl ∧ w.heap.size ≤ go ∧ Below w.heap.size w w'
set_option maxRecDepth 100000 in
set_option maxHeartbeats 4000000 in
theorem made_any (v0 : Value) (acts : List Act4) (hle : acts.length ≤ 9223372036854775807) (w : World) (hac : ActsAt4 w v0 acts) :
    Calls Try.prog 15 #[.int .i64 6, v0] w (MadeP w) := by
  have HAC := Lib.hid hac
  obtain ⟨ao, cp, rfl, _⟩ := hac
  go_enter Try.func15, Try.ntmps15
  go_wp2_with fail
  refine (new_any 6 w).mono ?_
  rintro e w1 (⟨h, _⟩ | ⟨_, d, g, hd, hg, rfl, hD, hB⟩)
  · exact absurd (by decide +kernel) h
  have HD := Lib.hid (show DiskAt w1 d g (dk0 6) from hD)
  have HB := Lib.hid hB
  clear hD hB
  go_wp2_with fail
  refine (newRD_any 6 w1 (by omega) (by omega)).mono ?_
  rintro e w2 ⟨x, gl, go, cl, co, rfl, hR, hx, hgl, hgo, hb⟩
  have HH := Lib.hid (show Both w2 d g x gl go cl co (dk0 6) from ⟨HD.out.below hb, hR⟩)
  have hx : w.heap.size ≤ x := Nat.le_trans HB.out.size hx
  have hgl : w.heap.size ≤ gl := Nat.le_trans HB.out.size hgl
  have hgo : w.heap.size ≤ go := Nat.le_trans HB.out.size hgo
  have HB := Lib.hid (HB.out.trans (hb.mono HB.out.size))
  have HGE := Lib.hid (show w.heap.size ≤ d ∧ w.heap.size ≤ g ∧ w.heap.size ≤ x ∧ w.heap.size ≤ gl ∧ w.heap.size ≤ go from ⟨hd, hg, hx, hgl, hgo⟩)
  clear hR hb HD hd hg hx hgl hgo
  have HX6 := Lib.hid (show (dk0 6).L.length = 6 from rfl)
  generalize dk0 6 = X0 at HH HX6
  go_wp2_with fail
  go_loopw [11] (fun v11 wr => ∃ (i : Nat) (X : Dk), v11 = .int .i64 (i : Int) ∧ i ≤ acts.length ∧ i ≤ 60 ∧ Both wr d g x gl go cl co X ∧ X.L.length = 6 ∧ Below w.heap.size w wr) (fun v11 _ => 60 - (intOf v11).toNat)
  case atStart => exact ⟨0, X0, rfl, by omega, by omega, HH.out, HX6.out, HB.out⟩
  case round =>
    clear HH HX6 HB
    obtain ⟨i, X, rfl, hi1, hi2, hH, hX6, hB⟩ := hrel
    have HH := Lib.hid hH
    have HX6 := Lib.hid hX6
    have HB := Lib.hid hB
    clear hH hX6 hB
    by_cases hin : i < acts.length
    · have i1 : (i : Int) < (acts.length : Int) := by omega
      by_cases hin2 : i < 60
      · have i2 : (i : Int) < 60 := by omega
        obtain ⟨b1, o, cp', hv, hbl, h0, h1, h2, h3, hints, hkl, hn, _⟩ := HAC.out.get HB.out i hin
        injection hv with hv1 hv2 hv3
        subst hv1
        clear hv2 hv3
        have hK := hints.keepB HB.out HGE.out.1 HGE.out.2.1 HGE.out.2.2.1 HGE.out.2.2.2.1 HGE.out.2.2.2.2
        generalize acts[i]'hin = act at h0 h1 h2 h3 hkl hn hK
        obtain ⟨k, n, s, v, ks⟩ := act
        dsimp only at h0 h1 h2 h3 hkl hn hK
        have HK := Lib.hid hK
        have HN := Lib.hid hn
        have HKL := Lib.hid hkl
        clear hints hkl hn hK
        as_aux_lemma =>
          go_wp2_with fail
          refine (do_any d g x gl go cl co X k n s v ks HN.out HKL.out wr HH.out HK.out).mono ?_
          clear h0 h1 h2 h3
          rintro e w3 ⟨rfl, hH, hO⟩
          have HH := Lib.hid hH
          have HX6 := Lib.hid (show (X.act k n s ks).L.length = 6 by rw [act_length]; exact HX6.out)
          have HB := Lib.hid (HB.out.trans (hO.below HB.out.size HGE.out.1 HGE.out.2.1 HGE.out.2.2.1 HGE.out.2.2.2.1 HGE.out.2.2.2.2))
          clear hH hO
          go_wp2_with fail
          go_roundw
          case rel => exact ⟨i + 1, _, by go_num, by omega, by omega, HH.out, HX6.out, HB.out⟩
          case measure => simp [intOf]; omega
      · have i2 : ¬ (i : Int) < 60 := by omega
        as_aux_lemma =>
          go_wp2_with fail
          go_ret3
          exact ⟨d, g, x, gl, go, cl, co, X, rfl, HH.out, HX6.out, HGE.out.1, HGE.out.2.1, HGE.out.2.2.1, HGE.out.2.2.2.1, HGE.out.2.2.2.2, HB.out⟩
    · have i1 : ¬ (i : Int) < (acts.length : Int) := by omega
      as_aux_lemma =>
        go_wp2_with fail
        go_ret3
        exact ⟨d, g, x, gl, go, cl, co, X, rfl, HH.out, HX6.out, HGE.out.1, HGE.out.2.1, HGE.out.2.2.1, HGE.out.2.2.2.1, HGE.out.2.2.2.2, HB.out⟩
end Go.Proofs.Ytnddkodenkmoiaa
