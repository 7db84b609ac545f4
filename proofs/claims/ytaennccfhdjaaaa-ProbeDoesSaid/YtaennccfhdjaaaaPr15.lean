/- awake. -/
import Derived.Test.YtaennccfhdjaaaaPr14
namespace Go.Proofs.Ytaennccfhdjaaaa
open Go.RowKit Go.Proofs
set_option linter.unusedSimpArgs false
set_option linter.unusedVariables false
section
variable {w w' : World} {base p g N me : Nat} {now next : Int} {D D' : Int → Int}
theorem ProbAt.congr (h : ProbAt w base p g N me now next D) (k : ∀ s, Who N me s → D s = D' s) : ProbAt w base p g N me now next D' := by
  obtain ⟨cap, f, hP, hC⟩ := h.here
  refine ⟨⟨cap, f, hP, hC.congr fun x => ?_⟩, h.two, h.eight, h.lt⟩
  unfold InHeap
  exact ⟨fun ⟨a, b⟩ => ⟨a, b.trans (k _ a)⟩, fun ⟨a, b⟩ => ⟨a, b.trans (k _ a).symm⟩⟩
theorem ProbAt.gb (h : ProbAt w base p g N me now next D) : base ≤ g := by
  obtain ⟨cap, f, hP, hC⟩ := h.here
  obtain ⟨_, _, hb⟩ := own_blk hP.own (g := g) rfl
  exact hb
theorem ProbAt.row (h : ProbAt w base p g N me now next D) {B n : Nat} {v : Value} {xs : List Value} (ho : w.ownsRow B 3 1 v n xs) {o : Option Nat} (hH : Hop p (some g) o w w') : w'.ownsRow B 3 1 v n xs := by
  obtain ⟨cap, f, hP, hC⟩ := h.here
  refine own_hop ho hH (fun e => ?_) (fun k hk e => ?_)
  · obtain ⟨c, hc, _⟩ := own_blk ho e
    exact Blk.ne_ hc hP.blk (by decide) rfl
  · exact own_ne ho hP.own (by decide) hk e.symm
theorem ProbAt.below_of (h : ProbAt w base p g N me now next D) {w0 : World} {o : Option Nat} (hH : Hop p (some g) o w w') (hp : base ≤ p) (hb : Below base w0 w) (h0 : base ≤ w0.heap.size) : Below base w0 w' :=
  hH.below' hb hp (fun k hk => by have := h.gb; have := Option.some.inj hk; omega) h0
end
/-- A tick at which nothing is due. -/
def TickQ (base p g N me : Nat) (now : Int) (nx : Nat) (D : Int → Int) (w : World) (e : Ending) (w' : World) : Prop :=
  ∃ a c g', e = .returned (.tuple #[.slice a 0 c, .int .i64 (-1)]) ∧ ProbAt w' base p g' N me now nx D ∧ Hop p (some g) (some g') w w'
theorem TickP.still {base p g N me : Nat} {now : Int} {nx : Nat} {D : Int → Int} {busy : Bool} {w w' : World} {e : Ending} (h : TickP base p g N me now nx D busy w e w') (hq : ∀ s, Who N me s → now < D s) : TickQ base p g N me now nx D w e w' := by
  obtain ⟨v6, out, g', he, ho, hm, hs, hn, hA, hH, hl⟩ := h
  have hr : readsT D now busy = false := by
    have := hq (-1) (.inl rfl)
    unfold readsT
    rw [decide_eq_false (by omega)]; rfl
  have hout : out = [] := by
    rw [List.eq_nil_iff_forall_not_mem]
    intro s hs'
    have := (hm s).1 hs'
    have := hq s (.inr this.1)
    omega
  subst hout
  obtain ⟨a, c, rfl⟩ := own_slice ho
  rw [hr] at he hA
  refine ⟨a, c, g', he, hA.congr fun s hw => ?_, hH⟩
  have := hq s hw
  unfold dueT
  rw [if_neg (by omega)]
theorem tick_still (base p g N me : Nat) (now now1 : Int) (hn1 : now1 = now + 1) (nx0 : Nat) (D : Int → Int) (busy : Bool) (w : World) (hA : ProbAt w base p g N me now nx0 D) (h0 : 0 ≤ now) (h1 : now ≤ 1000000) (hnx0 : nx0 < N) (hbase : base ≤ w.heap.size) (hq : ∀ s, Who N me s → now1 < D s) :
    Calls Try.prog 11 #[.pointer (some ⟨p, 0, none⟩), .bool busy] w fun e w' => TickQ base p g N me now1 nx0 D w e w' :=
  (tick_any base p g N me now now1 hn1 nx0 D busy w hA h0 h1 hnx0 hbase).mono fun _ _ h => h.still hq
theorem ints12 (w : World) : IntsAt (w.alloc (.cells #[.int .i64 1, .int .i64 2] 3)) (.slice (some ⟨w.heap.size, 0, none⟩) 2 2) [1, 2] := by
  refine ⟨_, 2, rfl, fun k x hk => ⟨_, rfl, ?_⟩⟩
  rw [(Blk.new w 3 #[.int .i64 1, .int .i64 2]).cell k]
  match k with
  | 0 => simp at hk; simp [hk]
  | 1 => simp at hk; simp [hk]
  | k + 2 => simp at hk
/-- When each is due behind the fourth tick. -/
def due4 (s : Int) : Int := if s = -1 then 7 else 8
def due7 (s : Int) : Int := if s = -1 then 14 else 8
theorem who30 {s : Int} (h : Who 3 0 s) : s = -1 ∨ s = 1 ∨ s = 2 := by unfold Who at h; omega
/-- The fourth tick of awake. -/
def Tick4 (base p g : Nat) (w : World) (e : Ending) (w' : World) : Prop :=
  ∃ (v6 : Value) (g' : Nat), e = .returned (.tuple #[v6, .int .i64 (-1)]) ∧ w'.ownsRow w.heap.size 3 1 v6 2 [.int .i64 1, .int .i64 2] ∧ ProbAt w' base p g' 3 0 4 (1 : Nat) due4 ∧ Hop p (some g) (some g') w w'
theorem TickP.four {base p g : Nat} {w w' : World} {e : Ending} (h : TickP base p g 3 0 4 1 due0 false w e w') : Tick4 base p g w e w' := by
  obtain ⟨v6, out, g', he, ho, hm, hs, hn, hA, hH, hl⟩ := h
  have hr : readsT due0 4 false = false := rfl
  have hout : out = [1, 2] := first_unique hs hn (fun k s hk => by
    match k with
    | 0 =>
      simp at hk; subst hk
      refine ⟨by omega, by decide, by simp, fun q q0 qn qm qd qo => ?_⟩
      unfold leE lessE due0
      simp only
      split <;> split <;> omega
    | 1 =>
      simp at hk; subst hk
      refine ⟨by omega, by decide, by simp, fun q q0 qn qm qd qo => ?_⟩
      simp at qo
      unfold leE lessE due0
      simp only
      split <;> split <;> omega
    | k + 2 => simp at hk) (fun s h => by
      have h1 := h.1
      have h2 := h.2.2.1
      simp at h2
      omega)
  subst hout
  rw [hr] at he hA
  refine ⟨v6, g', he, ho, hA.congr fun s hw => ?_, hH⟩
  unfold dueT due0 due4
  rcases who30 hw with rfl | rfl | rfl <;> decide
/-- The seventh tick of awake. -/
def Tick7 (base p g : Nat) (w : World) (e : Ending) (w' : World) : Prop :=
  ∃ (v6 : Value) (g' : Nat), e = .returned (.tuple #[v6, .int .i64 1]) ∧ ProbAt w' base p g' 3 0 7 (2 : Nat) due7 ∧ Hop p (some g) (some g') w w'
theorem TickP.seven {base p g : Nat} {w w' : World} {e : Ending} (h : TickP base p g 3 0 7 1 due4 false w e w') : Tick7 base p g w e w' := by
  obtain ⟨v6, out, g', he, ho, hm, hs, hn, hA, hH, hl⟩ := h
  have hr : readsT due4 7 false = true := rfl
  rw [hr] at he hA
  refine ⟨v6, g', he, hA.congr fun s hw => ?_, hH⟩
  unfold dueT due4 due7
  rcases who30 hw with rfl | rfl | rfl <;> decide
set_option maxRecDepth 100000 in
set_option maxHeartbeats 2000000 in
theorem awake_any (w : World) : Calls Try.prog 9 #[] w fun e w' => e = .returned (.bool true) ∧ Below w.heap.size w w' := by
  go_enter Try.func9, Try.ntmps9
  go_wp2_with fail
  refine (new_ok 3 0 w (by decide) (by decide) (by decide)).mono ?_
  rintro e w1 ⟨g, rfl, hA, hb, hg⟩
  have HA := Lib.hid (show ProbAt w1 w.heap.size w.heap.size g 3 0 0 (1 : Nat) due0 from hA)
  have HB := Lib.hid hb
  clear hA hb hg
  go_wp2_with fail
  go_loopw [3, 4, 5] (fun v3 _ _ wr => ∃ (k g : Nat), v3 = .int .i64 ((k : Int) + 1) ∧ k ≤ 3 ∧ ProbAt wr w.heap.size w.heap.size g 3 0 k (1 : Nat) due0 ∧ Below w.heap.size w wr) (fun v3 _ _ _ => 4 - (intOf v3).toNat)
  case atStart => exact ⟨0, g, rfl, by omega, HA.out, HB.out⟩
  case round =>
    clear HA HB
    obtain ⟨k, g, rfl, hk, hA, hb⟩ := hrel
    have HA := Lib.hid hA
    have HB := Lib.hid hb
    clear hA hb
    by_cases hlt : k < 3
    · have HQ := Lib.hid (show ∀ s, Who 3 0 s → ((k : Int) + 1) < due0 s from fun s hw => by unfold due0; split <;> omega)
      have hg1 : (k : Int) + 1 < 4 := by omega
      go_wp2_with fail
      refine (tick_still w.heap.size w.heap.size g 3 0 k (k + 1) rfl 1 due0 false wr HA.out (by omega) (by omega) (by omega) HB.out.size HQ.out).mono ?_
      rintro e w2 ⟨a, c, g', rfl, hA, hH⟩
      have HA2 := Lib.hid hA
      have HB2 := Lib.hid (HA.out.below_of hH (Nat.le_refl _) HB.out (Nat.le_refl _))
      clear hA hH
      go_wp2_with fail
      go_roundw
      case rel => exact ⟨k + 1, g', by go_num, by omega, by simpa using HA2.out, HB2.out⟩
      case measure => simp [intOf]; omega
    · obtain rfl : k = 3 := by omega
      go_wp2_with fail
      refine ((tick_any w.heap.size w.heap.size g 3 0 3 4 rfl 1 due0 false wr HA.out (by omega) (by omega) (by omega) HB.out.size).mono fun _ _ h => h.four).mono ?_
      rintro e w2 ⟨v6, g2, rfl, ho, hA, hH⟩
      have HA2 := Lib.hid hA
      have HB2 := Lib.hid (HA.out.below_of hH (Nat.le_refl _) HB.out (Nat.le_refl _))
      have HO2 := Lib.hid ho
      clear hA hH ho
      go_wp2_with fail
      refine (tick_still w.heap.size w.heap.size g2 3 0 4 5 rfl 1 due4 false w2 HA2.out (by omega) (by omega) (by omega) HB2.out.size (fun s hw => by unfold due4; split <;> omega)).mono ?_
      rintro e w3 ⟨a3, c3, g3, rfl, hA, hH⟩
      have HA3 := Lib.hid hA
      have HB3 := Lib.hid (HA2.out.below_of hH (Nat.le_refl _) HB2.out (Nat.le_refl _))
      have HO3 := Lib.hid (HA2.out.row HO2.out hH)
      clear hA hH
      go_wp2_with fail
      refine (tick_still w.heap.size w.heap.size g3 3 0 5 6 rfl 1 due4 false w3 HA3.out (by omega) (by omega) (by omega) HB3.out.size (fun s hw => by unfold due4; split <;> omega)).mono ?_
      rintro e w4 ⟨a4, c4, g4, rfl, hA, hH⟩
      have HA4 := Lib.hid hA
      have HB4 := Lib.hid (HA3.out.below_of hH (Nat.le_refl _) HB3.out (Nat.le_refl _))
      have HO4 := Lib.hid (HA3.out.row HO3.out hH)
      clear hA hH
      go_wp2_with fail
      refine ((tick_any w.heap.size w.heap.size g4 3 0 6 7 rfl 1 due4 false w4 HA4.out (by omega) (by omega) (by omega) HB4.out.size).mono fun _ _ h => h.seven).mono ?_
      rintro e w5 ⟨v7, g5, rfl, hA, hH⟩
      have HA5 := Lib.hid hA
      have HB5 := Lib.hid (HA4.out.below_of hH (Nat.le_refl _) HB4.out (Nat.le_refl _))
      have HO5 := Lib.hid (HA4.out.row HO4.out hH)
      clear hA hH
      go_wp2_with fail
      have hba : Below w5.heap.size w5 (w5.alloc (.cells #[.int .i64 1, .int .i64 2] 3)) := (Below.refl _ _).alloc (Nat.le_refl _) _
      refine (ints_any v6 _ [1, 2] [1, 2] _ ((IntsAt.of_own (l := [1, 2]) HO5.out).below hba) (ints12 w5) (by simp)).mono ?_
      rintro e w6 ⟨rfl, hb⟩
      have HA6 := Lib.hid ((HA5.out.below hba).below hb)
      have HB6 := Lib.hid (HB5.out.trans ((hba.trans (hb.mono hba.size)).mono HB5.out.size))
      clear hb hba
      go_wp2_with fail
      refine (next_any w.heap.size w.heap.size g5 3 0 7 (2 : Nat) due7 w6 HA6.out).mono ?_
      rintro e w' ⟨rfl, rfl⟩
      go_wp2_with fail
      refine (due_yes w.heap.size w.heap.size g5 3 0 7 (2 : Nat) due7 1 w6 HA6.out (by decide)).mono ?_
      rintro e w7 ⟨rfl, hb⟩
      have HB7 := Lib.hid (HB6.out.trans (hb.mono HB6.out.size))
      have hd7 : due7 1 = 8 := rfl
      clear hb
      go_wp2_with fail
      go_ret
      exact ⟨by simp, HB7.out⟩
end Go.Proofs.Ytaennccfhdjaaaa
