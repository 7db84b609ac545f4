/- The reference's prober: New. -/
import Derived.Test.YtaennccfhdjaaaaPr22
namespace Go.Proofs.Ytaennccfhdjaaaa
open Go.RowKit Go.Proofs
set_option linter.unusedSimpArgs false
set_option linter.unusedVariables false
theorem dueRow_push (k : Nat) (E : Nat → Int) : dueRow k E ++ [E k] = dueRow (k + 1) E := by simp [dueRow, List.range_succ]
theorem dueRow_congr {k : Nat} {E E' : Nat → Int} (h : ∀ i, i < k → E i = E' i) : dueRow k E = dueRow k E' := by
  unfold dueRow
  apply List.map_congr_left
  intro i hi
  exact h i (List.mem_range.1 hi)
/-- The reference's dues at first. -/
def rdue0 (me : Nat) : Nat → Int := updE (fun _ => 4) me 7
/-- What the reference's New leaves. -/
def RNewP (N me : Nat) (w : World) (e : Ending) (w' : World) : Prop :=
  ∃ d, e = .returned (.pointer (some ⟨w.heap.size, 0, none⟩)) ∧ RefAt w' w.heap.size w.heap.size d N me 0 (((me + 1) % N : Nat) : Int) (rdue0 me) ∧ Below w.heap.size w w'
set_option maxRecDepth 100000 in
set_option maxHeartbeats 4000000 in
theorem rnew_any (N me : Nat) (w : World) (h2 : 2 ≤ N) (h8 : N ≤ 8) (hme : me < N) :
    Calls Try.prog 12 #[.int .i64 N, .int .i64 me] w fun e w' => RNewP N me w e w' := by
  obtain ⟨i3, hi3, hy0, hy1, hy2⟩ := info_parts info3
  have HI3 := Lib.hid hi3
  clear hi3
  obtain ⟨q, hQ⟩ : ∃ q : Nat, q = (me + 1) % N := ⟨_, rfl⟩
  have hq : ((me : Int) + 1) % (N : Int) = (q : Int) := by rw [hQ, Int.natCast_emod]; rfl
  have HQ := Lib.hid hQ
  clear hQ
  go_enter Try.func12, Try.ntmps12
  go_wp2_with fail
  rw [hq]
  have hst : Blk (w.alloc (.cells #[.int .i64 N, .int .i64 me, .int .i64 0, .int .i64 q, .slice none 0 0] 40)) w.heap.size 40 #[.int .i64 N, .int .i64 me, .int .i64 0, .int .i64 q, .slice none 0 0] := Blk.new w 40 _
  have HST := Lib.hid hst
  clear hst
  go_loopw [6] (fun v6 wr => ∃ (k : Nat) (v : Value), v6 = .int .i64 (k : Int) ∧ k ≤ N ∧ Blk wr w.heap.size 40 #[.int .i64 N, .int .i64 me, .int .i64 0, .int .i64 q, v] ∧ wr.ownsRow w.heap.size 3 1 v k ((dueRow k (fun _ => 4)).map (Value.int .i64)) ∧ Below w.heap.size w wr) (fun v6 _ => N - (intOf v6).toNat)
  case atStart => exact ⟨0, _, rfl, by omega, HST.out, World.ownsRow_nil _ _ _ _, (Below.refl _ _).alloc (Nat.le_refl _) _⟩
  case round =>
    clear HST
    obtain ⟨k, v, rfl, hk, hB, hO, hb⟩ := hrel
    have HBK := Lib.hid hB
    have HOW := Lib.hid hO
    have HB := Lib.hid hb
    have HSZ := Lib.hid hb.size
    have HNE := Lib.hid (show v.ownBlock ≠ some w.heap.size from fun e => by
      obtain ⟨c, hc, _⟩ := own_blk hO e
      exact Blk.ne_ hc hB (by decide) rfl)
    clear hB hO hb
    by_cases hlt : (k : Int) < (N : Int)
    · have c4 : wr.cell? ⟨w.heap.size, 4, none⟩ = some v := HBK.out.cell 4
      go_wp2_with (at_builtin; refine wpList_append_own _ rfl (.tmp 24) (.tmp 25) 31 rfl w.heap.size 3 i3 (.int .i64 0) 1 8 Try.underlying31 HI3.out hy0 hy1 hy2 rfl (by decide) v k ((dueRow k (fun _ => 4)).map (Value.int .i64)) rfl (HOW.out.alloc _) ⟨_, 0, none⟩ 1 1 [.int .i64 4] rfl rfl (cell_one_new _ _ _) (by simp [Value.oneCell']) (by unfold maxLen; omega) (by omega) (by have := HSZ.out; simp; omega) ?_)
      intro v' w3 ho hg _
      have ho' : w3.ownsRow w.heap.size 3 1 v' (k + 1) ((dueRow (k + 1) (fun _ => 4)).map (Value.int .i64)) := by
        rw [← dueRow_push, List.map_append]
        exact ho
      obtain ⟨a', c', rfl⟩ := own_slice ho'
      have hbk := (HBK.out.alloc (.cells #[.int .i64 4] 3)).grown hg (fun e => HNE.out e.symm)
      have HBK3 := Lib.hid hbk
      have HOW3 := Lib.hid ho'
      have HB3 := Lib.hid ((HB.out.alloc HB.out.size (.cells #[.int .i64 4] 3)).grown hg (by have := HB.out.size; simp; omega) (fun k hk => (own_blk HOW.out hk).choose_spec.2))
      have c5 := hbk.cell 4
      have f5 := hbk.frozen 4
      have hl5 := hbk.lt
      have HNE3 := Lib.hid (show (Value.slice a' (k + 1) c').ownBlock ≠ some w.heap.size from fun e => by
        obtain ⟨c, hc, _⟩ := own_blk ho' e
        exact Blk.ne_ hc hbk (by decide) rfl)
      clear ho ho' hg hbk c4
      go_wp2_with fail
      go_roundw
      case rel => exact ⟨k + 1, _, by go_num, by omega, HBK3.out.set_ 4 _, HOW3.out.kept (grown_cell w3 w.heap.size 4 _) (.inr HNE3.out), HB3.out.setCell (Nat.le_refl _) _⟩
      case measure => simp [intOf]; omega
    · obtain rfl : k = N := by omega
      obtain ⟨d, cap, hv⟩ := own_some HOW.out (by omega)
      subst hv
      have c4 : wr.cell? ⟨w.heap.size, 4, none⟩ = some (.slice (some ⟨d, 0, none⟩) k cap) := HBK.out.cell 4
      have HR := Lib.hid (show RefAt wr w.heap.size w.heap.size d k me 0 q (fun _ => 4) from ⟨⟨cap, HBK.out, HOW.out⟩, h2, h8, hme⟩)
      have e1 := HR.out.due hme
      have e2 := HR.out.dueF me
      have i0 : (0 : Int) ≤ (me : Int) := by omega
      have i1 : (me : Int) < (k : Int) := by omega
      have HX := Lib.hid (show RNewP k me w (.returned (.pointer (some ⟨w.heap.size, 0, none⟩))) (wr.setCell ⟨d, me, none⟩ (.int .i64 7)) from ⟨d, rfl, HQ.out ▸ HR.out.setDue hme 7, HB.out.setCell (by have := HR.out.lts; exact this.2.2) _⟩)
      go_wp2_with fail
      go_ret
      exact HX.out
end Go.Proofs.Ytaennccfhdjaaaa
