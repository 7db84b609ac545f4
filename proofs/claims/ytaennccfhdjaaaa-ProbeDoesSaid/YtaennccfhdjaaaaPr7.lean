/- container/heap's Push, Pop, Fix. -/
import Derived.Test.YtaennccfhdjaaaaPr6
namespace Go.Proofs.Ytaennccfhdjaaaa
open Go.RowKit Go.Proofs
set_option linter.unusedSimpArgs false
set_option linter.unusedVariables false
/-- What heap.Push leaves. -/
def HPushP (base p : Nat) (o : Option Nat) (N me now next : Int) (f : Nat → En) (m : Nat) (w w' : World) : Prop :=
  ∃ (g cap : Nat) (f' : Nat → En), HeapF f' m ∧ SameC m f f' ∧ PAt w' base p (.slice (some ⟨g, 0, none⟩) m cap) N me now next f' m ∧ Hop p o (some g) w w'
set_option maxRecDepth 100000 in
set_option maxHeartbeats 1000000 in
theorem heapPush_any (base p : Nat) (v : Value) (N me now next : Int) (f : Nat → En) (m : Nat) (x : En) (w : World) (hP : PAt w base p v N me now next f m) (hm : m ≤ 90) (hb : base ≤ w.heap.size) (hh : HeapF f m) :
    Calls Try.prog 18 #[.iface 51 (.pointer (some ⟨p, 4, none⟩)), .iface 53 (enV x)] w fun e w' => e = .returned (.tuple #[]) ∧ HPushP base p v.ownBlock N me now next (putE f m x) (m + 1) w w' := by
  have hpu := push_at ⟨p, 4, none⟩ w
  go_enter Try.func18, Try.ntmps18
  go_wp2_with fail
  refine (pushRow_any base p v N me now next f m x w hP (by omega) hb).mono ?_
  rintro e w1 ⟨rfl, g, cap, hA, hO⟩
  have HH := Lib.hid (hh.up x)
  have HO := Lib.hid hO
  clear hpu hP hh hO
  generalize hf1 : putE f m x = f1 at hA HH
  generalize hm1 : m + 1 = m1 at hA HH
  have HF1 := Lib.hid hf1
  have HM := Lib.hid hm1
  have hq : (m1 : Int) - 1 = (m : Int) := by omega
  have HA := Lib.hid hA
  have hml := len_at hA.sl
  clear hA hm1 hf1
  go_wp2_with fail
  refine (len_any _ m1 cap w1).mono ?_
  rintro e w' ⟨rfl, rfl⟩
  go_wp2_with fail
  refine (up_any base p g cap N me now next f1 m1 m w1 HA.out (by have := HM.out; omega) (by have := HM.out; omega) HH.out).mono ?_
  rintro e w2 ⟨rfl, f', hf, hs, hA, hg⟩
  have HA2 := Lib.hid hA
  have HF := Lib.hid hf
  have HS := Lib.hid hs
  have HG := Lib.hid hg
  clear hf hs hA hg hml
  go_wp2_with fail
  go_end0
  rw [HF1.out, HM.out]
  exact ⟨rfl, g, cap, f', HF.out, HS.out, HA2.out, HO.out.trans (.of_grown' HG.out)⟩
/-- What heap.Pop leaves. -/
def HPopP (base p g cap : Nat) (N me now next : Int) (f : Nat → En) (m : Nat) (w w' : World) : Prop :=
  ∃ f', HeapF f' m ∧ SameC m (swp f 0 m) f' ∧ PAt w' base p (.slice (some ⟨g, 0, none⟩) m cap) N me now next f' m ∧ Hop p (some g) (some g) w w'
set_option maxRecDepth 100000 in
set_option maxHeartbeats 1000000 in
theorem heapPop_any (base p g cap : Nat) (N me now next : Int) (f : Nat → En) (m m1 : Nat) (hm1 : m1 = m + 1) (hm : m ≤ 90) (w : World) (hP : PAt w base p (.slice (some ⟨g, 0, none⟩) m1 cap) N me now next f m1) (hh : HeapF f m1) :
    Calls Try.prog 23 #[.iface 51 (.pointer (some ⟨p, 4, none⟩))] w fun e w' => e = .returned (.iface 53 (enV (f 0))) ∧ HPopP base p g cap N me now next f m w w' := by
  have hq : (m1 : Int) - 1 = (m : Int) := by omega
  have hml := len_at hP.sl
  have hms := swap_at hP.sl
  have HP := Lib.hid hP
  have HM := Lib.hid hm1
  have HH := Lib.hid (show HeapF f (m + 1) from hm1 ▸ hh)
  clear hP hm1 hh
  go_enter Try.func23, Try.ntmps23
  go_wp2_with fail
  refine (len_any _ m1 cap w).mono ?_
  rintro e w' ⟨rfl, rfl⟩
  clear hml
  go_wp2_with fail
  refine (swap_any g m1 cap 0 m f w base HP.out.own (by have := HM.out; omega) (by have := HM.out; omega)).mono ?_
  rintro e w1 ⟨rfl, ho, hg⟩
  have HA := Lib.hid (HP.out.swapped ho hg)
  have HG := Lib.hid hg
  clear ho hg hms
  go_wp2_with fail
  refine (down_any base p g cap N me now next (swp f 0 m) m1 m 0 w1 HA.out (by omega) (by have := HM.out; omega) (by have := HM.out; omega) HH.out.pop).mono ?_
  rintro e w2 ⟨b, f', rfl, hb1, hb2, hs, hk, hA, hg⟩
  have HHF := Lib.hid (show HeapF f' m by
    cases b with
    | true => exact hb1 rfl
    | false => exact (hb2 rfl).zero)
  have HS := Lib.hid hs
  have HK := Lib.hid ((hk m (Nat.le_refl _)).trans (swp_right f 0 m))
  have HG2 := Lib.hid (grownBy_trans HG.out hg)
  have HA2 := Lib.hid hA
  have hpp := pop_at ⟨p, 4, none⟩ w2
  clear hb1 hb2 hs hk hA hg
  go_wp2_with fail
  refine (popRow_any base p g cap N me now next f' m m1 HM.out (by omega) w2 HA2.out).mono ?_
  rintro e w3 ⟨rfl, hA, hO⟩
  have HA3 := Lib.hid hA
  have HO := Lib.hid hO
  clear hA hO hpp
  rw [HK.out]
  go_wp2_with fail
  go_ret
  exact ⟨rfl, f', HHF.out, HS.out, HA3.out, (Hop.of_grown' HG2.out).trans HO.out⟩
/-- What heap.Fix leaves. -/
def HFixP (base p g cap : Nat) (N me now next : Int) (f : Nat → En) (m : Nat) (w w' : World) : Prop :=
  ∃ f', HeapF f' m ∧ SameC m f f' ∧ PAt w' base p (.slice (some ⟨g, 0, none⟩) m cap) N me now next f' m ∧ Hop p (some g) (some g) w w'
set_option maxRecDepth 100000 in
set_option maxHeartbeats 1000000 in
theorem heapFix_any (base p g cap : Nat) (N me now next : Int) (f : Nat → En) (m i : Nat) (hi : i < m) (hm : m ≤ 90) (w : World) (hP : PAt w base p (.slice (some ⟨g, 0, none⟩) m cap) N me now next f m) (hh : BotI f m i) :
    Calls Try.prog 28 #[.iface 51 (.pointer (some ⟨p, 4, none⟩)), .int .i64 i] w fun e w' => e = .returned (.tuple #[]) ∧ HFixP base p g cap N me now next f m w w' := by
  have hml := len_at hP.sl
  have HP := Lib.hid hP
  have HH := Lib.hid hh
  clear hP hh
  go_enter Try.func28, Try.ntmps28
  go_wp2_with fail
  refine (len_any _ m cap w).mono ?_
  rintro e w' ⟨rfl, rfl⟩
  clear hml
  go_wp2_with fail
  refine (down_any base p g cap N me now next f m m i w HP.out (by omega) (by omega) (by omega) HH.out).mono ?_
  rintro e w2 ⟨b, f', rfl, hb1, hb2, hs, hk, hA, hg⟩
  have HS := Lib.hid hs
  have HG := Lib.hid hg
  have HA := Lib.hid hA
  have HB1 := Lib.hid hb1
  have HB2 := Lib.hid hb2
  clear hb1 hb2 hs hk hA hg
  cases b with
  | true =>
    go_wp2_with fail
    go_end0
    exact ⟨rfl, f', HB1.out (by first | rfl | trivial), HS.out, HA.out, .of_grown' HG.out⟩
  | false =>
    go_wp2_with fail
    refine (up_any base p g cap N me now next f' m i w2 HA.out hi (by omega) (HB2.out (by first | rfl | trivial))).mono ?_
    rintro e w3 ⟨rfl, f2, hf, hs, hA, hg⟩
    have HF2 := Lib.hid hf
    have HS2 := Lib.hid (HS.out.trans hs)
    have HA2 := Lib.hid hA
    have HG2 := Lib.hid (grownBy_trans HG.out hg)
    clear hf hs hA hg
    go_wp2_with fail
    go_end0
    exact ⟨rfl, f2, HF2.out, HS2.out, HA2.out, .of_grown' HG2.out⟩
end Go.Proofs.Ytaennccfhdjaaaa
