/- A prober: turn. -/
import Derived.Test.YtaennccfhdjaaaaPr9
namespace Go.Proofs.Ytaennccfhdjaaaa
open Go.RowKit Go.Proofs
set_option linter.unusedSimpArgs false
set_option linter.unusedVariables false
/-- Whose register comes next. -/
def stepN (N me nx : Nat) : Nat := if (nx + 1) % N = me then (me + 1) % N else (nx + 1) % N
theorem PAt.put3 {w : World} {base p m : Nat} {v : Value} {N me now next : Int} {f : Nat → En} (h : PAt w base p v N me now next f m) (n : Int) :
    PAt (w.setCell ⟨p, 3, none⟩ (.int .i64 n)) base p v N me now n f m :=
  ⟨h.blk.set_ 3 _, h.own.kept (grown_cell w p 3 _) (.inr fun e => h.ne e rfl)⟩
theorem PAt.put2 {w : World} {base p m : Nat} {v : Value} {N me now next : Int} {f : Nat → En} (h : PAt w base p v N me now next f m) (n : Int) :
    PAt (w.setCell ⟨p, 2, none⟩ (.int .i64 n)) base p v N me n next f m :=
  ⟨h.blk.set_ 2 _, h.own.kept (grown_cell w p 2 _) (.inr fun e => h.ne e rfl)⟩
set_option maxRecDepth 100000 in
set_option maxHeartbeats 1000000 in
theorem turn_any (base p : Nat) (v : Value) (N me nx : Nat) (now : Int) (f : Nat → En) (m : Nat) (w : World) (hP : PAt w base p v N me now nx f m) (h2 : 2 ≤ N) (h8 : N ≤ 8) (hm : me < N) (hn : nx < N) :
    Calls Try.prog 22 #[.pointer (some ⟨p, 0, none⟩)] w fun e w' => e = .returned (.int .i64 nx) ∧ PAt w' base p v N me now (stepN N me nx : Nat) f m ∧ Hop p v.ownBlock v.ownBlock w w' := by
  obtain ⟨q, hQ⟩ : ∃ q : Nat, q = (nx + 1) % N := ⟨_, rfl⟩
  obtain ⟨q2, hQ2⟩ : ∃ q : Nat, q = (me + 1) % N := ⟨_, rfl⟩
  have hq : ((nx : Int) + 1) % (N : Int) = (q : Int) := by rw [hQ, Int.natCast_emod]; rfl
  have hq2 : ((me : Int) + 1) % (N : Int) = (q2 : Int) := by rw [hQ2, Int.natCast_emod]; rfl
  have HQ := Lib.hid hQ
  have HQ2 := Lib.hid hQ2
  clear hQ hQ2
  have c0 : w.cell? ⟨p, 0, none⟩ = some (.int .i64 N) := hP.blk.cell 0
  have c1 : w.cell? ⟨p, 1, none⟩ = some (.int .i64 me) := hP.blk.cell 1
  have c3 : w.cell? ⟨p, 3, none⟩ = some (.int .i64 nx) := hP.blk.cell 3
  have hfz := hP.blk.frozen 3
  have hpl := hP.blk.lt
  have HP := Lib.hid hP
  clear hP
  go_enter Try.func22, Try.ntmps22
  go_upto_region 3 with (fail)
  have HA := Lib.hid (HP.out.put3 (q : Int))
  have HO := Lib.hid (show Hop p v.ownBlock v.ownBlock w (w.setCell ⟨p, 3, none⟩ (.int .i64 q)) from Hop.cell w 3 _)
  clear c0 c1 c3 hfz hpl
  generalize w.setCell ⟨p, 3, none⟩ (.int .i64 q) = w1 at HA HO ⊢
  have c0 : w1.cell? ⟨p, 0, none⟩ = some (.int .i64 N) := HA.out.blk.cell 0
  have c1 : w1.cell? ⟨p, 1, none⟩ = some (.int .i64 me) := HA.out.blk.cell 1
  have c3 : w1.cell? ⟨p, 3, none⟩ = some (.int .i64 q) := HA.out.blk.cell 3
  have hfz := HA.out.blk.frozen 3
  have hpl := HA.out.blk.lt
  by_cases he : (q : Int) = (me : Int)
  · have hd : decide ((q : Int) = (me : Int)) = true := decide_eq_true he
    have HS := Lib.hid (show stepN N me nx = q2 by unfold stepN; rw [if_pos (by rw [← HQ.out]; omega), HQ2.out])
    obtain rfl : q = me := by omega
    go_quiet (fail)
    go_upto_region 4 with (fail)
    rename_i nq
    have HA := Lib.hid (HA.out.below ((Below.refl _ _).drewN (nq + 1)))
    have HO := Lib.hid (HO.out.trans (.of_below (o := v.ownBlock) ((Below.refl _ _).drewN (nq + 1))))
    clear c0 c1 c3 hfz hpl
    have e : (w1.drewN nq).drew = w1.drewN (nq + 1) := rfl
    rw [← e] at HA HO
    clear e
    generalize w1.drewN nq = w2 at HA HO ⊢
    have q0 : ∀ w', w2.drew = w' → w'.cell? ⟨p, 0, none⟩ = some (.int .i64 N) := fun w' h => h ▸ HA.out.blk.cell 0
    have q1 : ∀ w', w2.drew = w' → w'.cell? ⟨p, 1, none⟩ = some (.int .i64 q) := fun w' h => h ▸ HA.out.blk.cell 1
    refine wp_region_pure (fun a b => a = b) (fun _ => rfl) (fun _ _ _ h h' => h.trans h') [(0,3),(1,3),(2,3),(3,3),(4,0),(5,3),(6,3),(7,3),(8,3),(9,0),(10,3),(11,3),(12,3),(13,2)] (by kernel_rfl) (by kernel_rfl) ?_
    iterate 4 (refine pure_pure (v := ?_) rfl (fun _ _ _ h => h) (by rfl) (fun w' => ?_) ?_; rotate_left; (go_simp; try with_reducible rfl); simp only [Act.put, List.setIfInBounds_toArray, List.set_cons_zero, List.set_cons_succ])
    iterate 1 (refine pure_quiet (v := ?_) rfl (fun _ _ _ h => h) (by rfl) (fun w' hR => ?_) ?_; rotate_left; (go_simp; try with_reducible rfl); simp only [Act.put, List.setIfInBounds_toArray, List.set_cons_zero, List.set_cons_succ])
    iterate 4 (refine pure_pure (v := ?_) rfl (fun _ _ _ h => h) (by rfl) (fun w' => ?_) ?_; rotate_left; (go_simp; try with_reducible rfl); simp only [Act.put, List.setIfInBounds_toArray, List.set_cons_zero, List.set_cons_succ])
    iterate 1 (refine pure_quiet (v := ?_) rfl (fun _ _ _ h => h) (by rfl) (fun w' hR => ?_) ?_; rotate_left; (go_simp; try with_reducible rfl); simp only [Act.put, List.setIfInBounds_toArray, List.set_cons_zero, List.set_cons_succ])
    have hN0 : ¬ N = 0 := by omega
    have hwr : IntKind.i64.wrap ((q : Int) + 1) = (q : Int) + 1 := IntWalk.i64_in _ (by omega)
    have htm : ((q : Int) + 1).tmod (N : Int) = (q2 : Int) := by rw [Int.tmod_eq_emod_of_nonneg (by omega)]; exact hq2
    iterate 3 (refine pure_pure (v := ?_) rfl (fun _ _ _ h => h) (by rfl) (fun w' => ?_) ?_; rotate_left; (go_simp; try with_reducible rfl); simp only [Act.put, List.setIfInBounds_toArray, List.set_cons_zero, List.set_cons_succ])
    clear q0 q1
    have c3 : w2.drew.cell? ⟨p, 3, none⟩ = some (.int .i64 q) := HA.out.blk.cell 3
    have hfz := HA.out.blk.frozen 3
    have hpl := HA.out.blk.lt
    refine pure_eff2 rfl ?_
    go_wp2_with fail
    refine purePost_free ?_
    refine pure_done ?_
    go_wp2_with fail
    go_ret
    rw [HS.out]
    exact ⟨rfl, HA.out.put3 _, HO.out.trans (.cell _ 3 _)⟩
  · have hd : decide ((q : Int) = (me : Int)) = false := decide_eq_false he
    have HS := Lib.hid (show stepN N me nx = q by unfold stepN; rw [if_neg (by rw [← HQ.out]; omega), HQ.out])
    go_quiet (fail)
    go_wp2_with fail
    go_ret
    rw [HS.out]
    exact ⟨rfl, HA.out.below ((Below.refl _ _).drewN _), HO.out.trans (.of_below ((Below.refl _ _).drewN _))⟩
end Go.Proofs.Ytaennccfhdjaaaa
