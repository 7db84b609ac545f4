/- The walk of LinkDoes: it comes to true. -/
import Derived.Test.YtdfdgcknahmnnaaSame
namespace Go.Proofs.Ytdfdgcknahmnnaa
open Go.RowKit Go.Proofs
set_option linter.unusedSimpArgs false
set_option linter.unusedVariables false

structure ActR where
  k : Int
  c : Int
  s : ByteArray
/-- The slice value v reads as these acts. -/
def ActsAt (w : World) (v : Value) (acts : List ActR) : Prop :=
  ∃ ao c, v = .slice ao acts.length c ∧ ∀ i (hi : i < acts.length), ∃ b o, ao = some ⟨b, o, none⟩ ∧ w.cell? ⟨b, o + i * 3, none⟩ = some (.int .i64 acts[i].k) ∧ w.cell? ⟨b, o + i * 3 + 1, none⟩ = some (.int .i64 acts[i].c) ∧ w.cell? ⟨b, o + i * 3 + 2, none⟩ = some (.string acts[i].s)
theorem ActsAt.below {w w' : World} {v : Value} {acts : List ActR} (h : ActsAt w v acts) (hB : Below w.heap.size w w') : ActsAt w' v acts := by
  obtain ⟨ao, c, rfl, hi⟩ := h
  refine ⟨ao, c, rfl, fun i h => ?_⟩
  obtain ⟨b, o, he, h1, h2, h3⟩ := hi i h
  have l1 := World.block_lt_of_cell? w _ h1
  have hc : ∀ j, w'.cell? ⟨b, j, none⟩ = w.cell? ⟨b, j, none⟩ := fun j => hB.cell (p := ⟨b, j, none⟩) (show b < _ from l1)
  exact ⟨b, o, he, (hc _).trans h1, (hc _).trans h2, (hc _).trans h3⟩

set_option maxRecDepth 100000 in
set_option maxHeartbeats 1000000 in
theorem Does_bad (n : Int) (v : Value) (hn : n < 2 ∨ 8 < n) (w : World) :
    Calls Try.prog 4 #[.int .i64 n, v] w fun e w' => e = .returned (.bool true) ∧ Below w.heap.size w w' := by
  rcases hn with hn | hn
  · go_enter Try.func4, Try.ntmps4
    go_wp2_with fail
    refine (New_bad n w (.inl hn)).mono ?_
    rintro e w' ⟨rfl, rfl⟩
    go_wp2_with fail
    refine (awake_any w).mono ?_
    rintro e w' ⟨rfl, hb⟩
    have HB := Lib.hid hb
    clear hb
    go_wp2_with fail
    go_ret
    exact ⟨rfl, HB.out⟩
  · have h2 : ¬ n < 2 := by omega
    go_enter Try.func4, Try.ntmps4
    go_wp2_with fail
    refine (New_bad n w (.inr hn)).mono ?_
    rintro e w' ⟨rfl, rfl⟩
    go_wp2_with fail
    refine (awake_any w).mono ?_
    rintro e w' ⟨rfl, hb⟩
    have HB := Lib.hid hb
    clear hb
    go_wp2_with fail
    go_ret
    exact ⟨rfl, HB.out⟩

set_option maxRecDepth 100000 in
set_option maxHeartbeats 4000000 in
theorem Does_ok (N : Nat) (hN : 2 ≤ N) (hN8 : N ≤ 8) (ao : Option Addr) (len c : Nat) (hlen : len ≤ 9223372036854775807) (acts : List ActR) (w : World) (hl : Hid (len = acts.length)) (ha : Hid (ActsAt w (.slice ao acts.length c) acts)) :
    Calls Try.prog 4 #[.int .i64 N, .slice ao len c] w fun e w' => e = .returned (.bool true) ∧ Below w.heap.size w w' := by
  have h1 : ¬ (N : Int) < 2 := by omega
  have h2 : ¬ 8 < (N : Int) := by omega
  go_enter Try.func4, Try.ntmps4
  go_wp2_with fail
  refine (New_a N w (by omega) (by omega)).mono ?_
  rintro e w1 ⟨rfl, hL0, hg, hsz⟩
  have hB := Lib.hid (below_of_grown (B := w.heap.size) hg (Nat.le_refl _))
  have hz : w.heap.size ≤ w1.heap.size := by omega
  have HL := Lib.hid hL0
  clear hL0 hg hsz
  go_wp2_with fail
  refine (RNew N hN hN8 w1).mono ?_
  rintro e w2 ⟨u, d, rfl, hR, hg, hu, hd⟩
  have hu' : w.heap.size ≤ u := by omega
  have hd' : w.heap.size ≤ d := by omega
  have HS : Hid (Sync w2 w.heap.size (w1.heap.size + 2) u d N (fun _ => [])) := ⟨HL.out.grown hg, hR⟩
  have hB := Lib.hid (hB.out.trans (below_of_grown hg hz))
  have hz2 := hB.out.size
  clear hR hg hu hd HL
  go_wp2_with fail
  refine (awake_any w2).mono ?_
  rintro e w3 ⟨rfl, hb⟩
  have HS := Lib.hid (HS.out.below hb)
  have hB := Lib.hid (hB.out.trans (hb.mono hz2))
  clear hb
  go_wp2_with fail
  go_loopw [8] (fun i wr => ∃ k : Nat, k ≤ len ∧ k ≤ 60 ∧ i = .int .i64 k ∧ Below w.heap.size w wr ∧ ∃ L, Sync wr w.heap.size (w1.heap.size + 2) u d N L) (fun i _ => 100 - (intOf i).toNat)
  case atStart =>
    exact ⟨0, by omega, by omega, rfl, hB.out, _, HS.out⟩
  case round =>
    obtain ⟨k, hk, hk60, rfl, hBr, L, hSr⟩ := hrel
    clear hB HS
    have hB := Lib.hid hBr
    have HS := Lib.hid hSr
    have hz := hBr.size
    clear hBr hSr
    by_cases hin : k < len ∧ k < 60
    · obtain ⟨hin1, hin2⟩ := hin
      obtain ⟨_, _, hv, hcells⟩ := ha.out.below hB.out
      injection hv with hv1 hv2 hv3
      subst hv1 hv3
      obtain ⟨b, o, rfl, c0, c1, c2⟩ := hcells k (by have := hl.out; omega)
      clear hcells hv2
      generalize acts[k]'(by have := hl.out; omega) = x at c0 c1 c2
      obtain ⟨xk, xc, xs⟩ := x
      dsimp only at c0 c1 c2
      cases hsh : shortB xs with
      | false =>
        have HSH := Lib.hid hsh
        clear hsh
        go_wp2_with fail
        refine (short_any xk xc xs wr).mono ?_
        rintro e w' ⟨rfl, hg⟩
        rw [HSH.out]
        have HS := Lib.hid (HS.out.grown hg)
        have hB := Lib.hid (hB.out.trans (below_of_grown hg hz))
        clear hg
        go_wp2_with fail
        go_roundw
        case rel => exact ⟨k + 1, by omega, by omega, by go_num, hB.out, L, HS.out⟩
        case measure => simp [intOf]; omega
      | true =>
        have HSH := Lib.hid hsh
        clear hsh
        have hbl : b < wr.heap.size := World.block_lt_of_cell? wr _ c0
        have C0 := Lib.hid c0
        have C1 := Lib.hid c1
        have C2 := Lib.hid c2
        go_wp2_with fail
        refine (short_any xk xc xs wr).mono ?_
        rintro e w4 ⟨rfl, hg⟩
        rw [HSH.out]
        have HS := Lib.hid (HS.out.grown hg)
        have hB := Lib.hid (hB.out.trans (below_of_grown hg hz))
        have hbx := below_of_grown (B := wr.heap.size) hg (Nat.le_refl _)
        have c0 : w4.cell? _ = _ := (hbx.cell hbl).trans C0.out
        have c1 : w4.cell? _ = _ := (hbx.cell hbl).trans C1.out
        have c2 : w4.cell? _ = _ := (hbx.cell hbl).trans C2.out
        have hz4 := hB.out.size
        clear hg hbx
        go_wp2_with fail
        refine (do_any w.heap.size (w1.heap.size + 2) u d N xk xc xs w4 L HS.out).mono ?_
        rintro e w5 ⟨rfl, hsy, ho⟩
        have HS := Lib.hid hsy
        have hB := Lib.hid (Only3.below hB.out ho (Nat.le_refl _) hu' hd' hz4)
        have hz5 := hB.out.size
        clear hsy ho
        go_wp2_with fail
        refine (same_any w.heap.size (w1.heap.size + 2) u d N hN hN8 w5 _ HS.out).mono ?_
        rintro e w6 ⟨rfl, hg⟩
        have HS := Lib.hid (HS.out.grown hg)
        have hB := Lib.hid (hB.out.trans (below_of_grown hg hz5))
        clear hg
        go_wp2_with fail
        go_roundw
        case rel => exact ⟨k + 1, by omega, by omega, by go_num, hB.out, _, HS.out⟩
        case measure => simp [intOf]; omega
    · by_cases h60 : k < len
      · have h60' : ¬ k < 60 := by omega
        go_wp2_with fail
        go_ret
        exact ⟨rfl, hB.out⟩
      · go_wp2_with fail
        go_ret
        exact ⟨rfl, hB.out⟩
theorem LinkDoes_any (n : Int) (v : Value) (acts : List ActR) (hle : acts.length ≤ 9223372036854775807) (w : World) (ha : ActsAt w v acts) :
    Calls Try.prog 4 #[.int .i64 n, v] w fun e w' => e = .returned (.bool true) ∧ Below w.heap.size w w' := by
  by_cases hn : n < 2 ∨ 8 < n
  · exact Does_bad n v hn w
  · obtain ⟨N, rfl⟩ := Int.eq_ofNat_of_zero_le (by omega : 0 ≤ n)
    have ha' := ha
    obtain ⟨ao, c, rfl, _⟩ := ha'
    exact Does_ok N (by omega) (by omega) ao acts.length c hle acts w rfl ha
end Go.Proofs.Ytdfdgcknahmnnaa
