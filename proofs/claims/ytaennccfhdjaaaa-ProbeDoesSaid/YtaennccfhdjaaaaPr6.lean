/- The prober's row: Pop. -/
import Derived.Test.YtaennccfhdjaaaaPr5
namespace Go.Proofs.Ytaennccfhdjaaaa
open Go.RowKit Go.Proofs
set_option linter.unusedSimpArgs false
set_option linter.unusedVariables false
theorem own_less {w : World} {base e g cap m n : Nat} {f : Nat → En} (h : w.ownsRow base e 2 (.slice (some ⟨g, 0, none⟩) m cap) m (flatE f m)) (hn : n ≤ m) : w.ownsRow base e 2 (.slice (some ⟨g, 0, none⟩) n cap) n (flatE f n) := by
  rcases h.2 with ⟨h', _⟩ | ⟨g', cap', cur, h', hb, hg, hc, hcm, hs, ht⟩
  · cases h'
  · simp only [Value.slice.injEq, Option.some.injEq, Addr.mk.injEq, and_true, true_and] at h'
    obtain ⟨rfl, rfl⟩ := h'
    refine ⟨flatE_length f n, .inr ⟨g, cap, cur, rfl, hb, hg, by omega, hcm, hs, ?_⟩⟩
    rw [← flatE_take f hn, ← ht, List.take_take, Nat.min_eq_left (by omega)]
theorem own_cap {w : World} {base e size g cap m : Nat} {xs : List Value} (h : w.ownsRow base e size (.slice (some ⟨g, 0, none⟩) m cap) m xs) : m ≤ cap ∧ cap ≤ maxLen := by
  rcases h.2 with ⟨h', _⟩ | ⟨g', cap', cur, h', hb, hg, hc, hcm, hs, ht⟩
  · cases h'
  · simp only [Value.slice.injEq, Option.some.injEq, Addr.mk.injEq, and_true, true_and] at h'
    obtain ⟨rfl, rfl⟩ := h'
    exact ⟨hc, hcm⟩
theorem grown_cell (w : World) (p i : Nat) (u : Value) : w.grownBy (w.setCell ⟨p, i, none⟩ u) (some p) :=
  ⟨rfl, rfl, rfl, by simp [World.setCell], fun k _ hr => Below.heap_setCell w ⟨p, i, none⟩ u k (fun e => hr (by rw [e]))⟩
theorem PAt.put4 {w : World} {base p m : Nat} {v v' : Value} {N me now next : Int} {f : Nat → En} (h : Blk w p 49 #[.int .i64 N, .int .i64 me, .int .i64 now, .int .i64 next, v]) (ho : w.ownsRow base 53 2 v' m (flatE f m)) (hne : v'.ownBlock ≠ some p) :
    PAt (w.setCell ⟨p, 4, none⟩ v') base p v' N me now next f m :=
  ⟨h.set_ 4 v', ho.kept (grown_cell w p 4 v') (.inr hne)⟩
set_option maxRecDepth 100000 in
set_option maxHeartbeats 1000000 in
theorem popRow_any (base p g cap : Nat) (N me now next : Int) (f : Nat → En) (m m1 : Nat) (hm1 : m1 = m + 1) (hm : m ≤ 100) (w : World) (hP : PAt w base p (.slice (some ⟨g, 0, none⟩) m1 cap) N me now next f m1) :
    Calls Try.prog 52 #[.pointer (some ⟨p, 4, none⟩)] w fun e w' => e = .returned (.iface 53 (enV (f m))) ∧ PAt w' base p (.slice (some ⟨g, 0, none⟩) m cap) N me now next f m ∧ Hop p (some g) (some g) w w' := by
  obtain ⟨h1, h2⟩ := owns_cells hP.own (k := m) (by omega)
  have hcap := own_cap hP.own
  have hc := hP.sl
  have hq : (m1 : Int) - 1 = (m : Int) := by omega
  have hlt : (m : Int) < (m1 : Int) := by omega
  have hmc : m ≤ cap := by omega
  have hmc' : (m : Int) ≤ (cap : Int) := by omega
  have hpl := hP.blk.lt
  have hfz := hP.blk.frozen 4
  have HP := Lib.hid hP
  have HM := Lib.hid hm1
  clear hP hm1 hcap
  generalize hx : f m = x at h1 h2 ⊢
  have HX := Lib.hid hx
  clear hx
  obtain ⟨x1, x2⟩ := x
  go_enter Try.func52, Try.ntmps52
  go_wp2_with fail
  go_ret
  have hP := HP.out
  have hm1 := HM.out
  exact ⟨rfl, (PAt.put4 hP.blk (own_less hP.own (by omega)) (fun e => hP.ne rfl (Option.some.inj e).symm)).below ((Below.refl _ _).alloc (Nat.le_refl _) _), (Hop.cell w 4 _).trans (.of_below ((Below.refl _ _).alloc (Nat.le_refl _) _))⟩
end Go.Proofs.Ytaennccfhdjaaaa
