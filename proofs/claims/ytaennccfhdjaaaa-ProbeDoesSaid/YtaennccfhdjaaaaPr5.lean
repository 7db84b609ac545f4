/- The prober's row: Push, Pop. -/
import Derived.Test.YtaennccfhdjaaaaPr4
import Derived.Maps.AppendAt
namespace Go.Proofs.Ytaennccfhdjaaaa
open Go.RowKit Go.Proofs
set_option linter.unusedSimpArgs false
set_option linter.unusedVariables false
theorem info53 : (Try.prog.info? 53).map (fun i => (i.zero, i.size, i.bytes)) = some (some (.agg #[.int .i64 0, .int .i64 0]), 2, 16) := by kernel_rfl
theorem info_parts {e : TypeId} {z : Value} {s b : Nat} (h : (Try.prog.info? e).map (fun i => (i.zero, i.size, i.bytes)) = some (some z, s, b)) : ∃ i, Try.prog.info? e = some i ∧ i.zero = some z ∧ i.size = s ∧ i.bytes = b := by
  cases hi : Try.prog.info? e with
  | none => rw [hi] at h; cases h
  | some i =>
    rw [hi] at h
    simp only [Option.map_some, Option.some.injEq, Prod.mk.injEq] at h
    exact ⟨i, rfl, h.1, h.2.1, h.2.2⟩
/-- What is done to a prober at p leaves all but it and its row. -/
structure Hop (p : Nat) (o o' : Option Nat) (w w' : World) : Prop where
  os : w'.os = w.os
  tape : w'.tape = w.tape
  output : w'.output = w.output
  size : w.heap.size ≤ w'.heap.size
  block : ∀ k, k < w.heap.size → k ≠ p → some k ≠ o → w'.heap[k]? = w.heap[k]?
  own : o' = o ∨ ∃ g, o' = some g ∧ w.heap.size ≤ g
theorem Hop.trans {p : Nat} {o o' o'' : Option Nat} {a b c : World} (h : Hop p o o' a b) (k : Hop p o' o'' b c) : Hop p o o'' a c :=
  ⟨k.os.trans h.os, k.tape.trans h.tape, k.output.trans h.output, Nat.le_trans h.size k.size,
   fun i hi hp ho => (k.block i (Nat.lt_of_lt_of_le hi h.size) hp (by
     rcases h.own with e | ⟨g, e, hg⟩
     · rw [e]; exact ho
     · rw [e]; intro e'; have := Option.some.inj e'; omega)).trans (h.block i hi hp ho), by
   rcases k.own with e | ⟨g, e, hg⟩
   · rcases h.own with e' | ⟨g', e', hg'⟩
     · exact .inl (e.trans e')
     · exact .inr ⟨g', e.trans e', hg'⟩
   · exact .inr ⟨g, e, Nat.le_trans h.size hg⟩⟩
theorem Hop.of_grown {p : Nat} {o o' : Option Nat} {w w' : World} (h : w.grownBy w' o) (ho : o' = o ∨ ∃ g, o' = some g ∧ w.heap.size ≤ g) : Hop p o o' w w' := ⟨h.os, h.tape, h.output, h.size, fun k hk _ hr => h.block k hk hr, ho⟩
theorem Hop.of_grown' {p : Nat} {o : Option Nat} {w w' : World} (h : w.grownBy w' o) : Hop p o o w w' := Hop.of_grown h (.inl rfl)
theorem Hop.of_below {p : Nat} {o : Option Nat} {w w' : World} (h : Below w.heap.size w w') : Hop p o o w w' := Hop.of_grown' (grownBy_of_below h o)
theorem Hop.cell {p : Nat} {o : Option Nat} (w : World) (i : Nat) (u : Value) : Hop p o o w (w.setCell ⟨p, i, none⟩ u) :=
  ⟨rfl, rfl, rfl, by simp [World.setCell], fun k _ hp _ => Below.heap_setCell w ⟨p, i, none⟩ u k hp, .inl rfl⟩
/-- What Push leaves. -/
def PushP (base p : Nat) (o : Option Nat) (N me now next : Int) (f : Nat → En) (m : Nat) (x : En) (w w' : World) : Prop :=
  ∃ g cap, PAt w' base p (.slice (some ⟨g, 0, none⟩) (m + 1) cap) N me now next (putE f m x) (m + 1) ∧ Hop p o (some g) w w'
theorem len_any (a : Option Addr) (m cap : Nat) (w : World) : Calls Try.prog 48 #[.slice a m cap] w fun e w' => e = .returned (.int .i64 m) ∧ w = w' := by
  go_enter Try.func48, Try.ntmps48
  go_wp2_with fail
  go_ret
  exact ⟨rfl, rfl⟩
theorem own_some {w : World} {base e size n : Nat} {v : Value} {xs : List Value} (h : w.ownsRow base e size v n xs) (hn : 0 < n) : ∃ g cap, v = .slice (some ⟨g, 0, none⟩) n cap := by
  rcases h.2 with ⟨_, h⟩ | ⟨g, cap, _, h, _⟩
  · omega
  · exact ⟨g, cap, h⟩
theorem assert53 (v : Value) (w : World) : (Instr.typeAssert (.iface 53 v) 20 53 true).run Try.prog w = .ok (.tuple #[v, .bool true]) w := by kernel_rfl
set_option maxRecDepth 100000 in
set_option maxHeartbeats 1000000 in
theorem pushRow_any (base p : Nat) (v : Value) (N me now next : Int) (f : Nat → En) (m : Nat) (x : En) (w : World) (hP : PAt w base p v N me now next f m) (hm : m ≤ 100) (hb : base ≤ w.heap.size) :
    Calls Try.prog 53 #[.pointer (some ⟨p, 4, none⟩), .iface 53 (enV x)] w fun e w' => e = .returned (.tuple #[]) ∧ PushP base p v.ownBlock N me now next f m x w w' := by
  obtain ⟨i0, hi, hz0, hz1, hz2⟩ := info_parts info53
  have HI := Lib.hid hi
  clear hi
  obtain ⟨x1, x2⟩ := x
  have hta := assert53 (.agg #[.int .i64 x1, .int .i64 x2]) w
  go_enter Try.func53, Try.ntmps53
  go_upto_region 2 with (fail)
  have HA := Lib.hid (hP.below ((Below.refl _ _).alloc (Nat.le_refl _) (.cells #[.int .i64 x1, .int .i64 x2] 53)))
  have hx := Blk.new w 53 #[.int .i64 x1, .int .i64 x2]
  have HO := Lib.hid (show Hop p v.ownBlock v.ownBlock w (w.alloc (.cells #[.int .i64 x1, .int .i64 x2] 53)) from .of_below ((Below.refl _ _).alloc (Nat.le_refl _) _))
  have HPL := Lib.hid (show p ≠ w.heap.size from fun e => by have := hP.blk.lt; omega)
  clear hta hP
  generalize w.alloc (.cells #[.int .i64 x1, .int .i64 x2] 53) = w1 at HA HO hx ⊢
  have q0 : ∀ w', KeptOn (fun _ => True) w1.drew w' → w'.cell? ⟨p, 4, none⟩ = some v := fun w' h => h.cell (w := w1.drew) HA.out.sl trivial
  have q1 : ∀ w', KeptOn (fun _ => True) w1.drew w' → w'.cell? ⟨w.heap.size, 0, none⟩ = some (.int .i64 x1) := fun w' h => h.cell (w := w1.drew) (hx.cell 0) trivial
  have q2 : ∀ w', KeptOn (fun _ => True) w1.drew w' → w'.cell? ⟨w.heap.size, 1, none⟩ = some (.int .i64 x2) := fun w' h => h.cell (w := w1.drew) (hx.cell 1) trivial
  have HX := Lib.hid hx
  clear hx
  refine wp_region_pure (KeptOn fun _ => True) (KeptOn.refl _) (KeptOn.trans) [(0,3),(1,3),(2,3),(3,0),(4,0),(5,1),(6,2),(7,3),(8,2)] (by kernel_rfl) (by kernel_rfl) ?_
  iterate 3 (refine pure_pure (v := ?_) rfl (fun _ _ _ h => h) (by rfl) (fun w' => ?_) ?_; rotate_left; (go_simp; try with_reducible rfl); simp only [Act.put, List.setIfInBounds_toArray, List.set_cons_zero, List.set_cons_succ])
  iterate 2 (refine pure_quiet (v := ?_) rfl (fun _ _ _ h => h) (by rfl) (fun w' hR => ?_) ?_; rotate_left; (go_simp; try with_reducible rfl); simp only [Act.put, List.setIfInBounds_toArray, List.set_cons_zero, List.set_cons_succ])
  refine pure_eff rfl ?_
  go_wp2_with fail
  refine purePost_need (KeptOn.trans _ _ _ (KeptOn.alloc (D := fun _ => True) w1 (Obj.cells #[Value.int IntKind.i64 x1, Value.int IntKind.i64 x2] 53)) (KeptOn.drew _)) ?_
  clear q0 q1 q2
  have hgb : Below w1.heap.size w1 (w1.alloc (Obj.cells #[Value.int IntKind.i64 x1, Value.int IntKind.i64 x2] 53)).drew := ((Below.refl _ _).alloc (Nat.le_refl _) _).drewN 1
  have HA2 := Lib.hid (HA.out.below hgb)
  have HO2 := Lib.hid (HO.out.trans (.of_below hgb))
  have HPL2 := Lib.hid (show p ≠ w1.heap.size from fun e => by have := HA.out.blk.lt; omega)
  have HN := Lib.hid (show Blk (w1.alloc (Obj.cells #[Value.int IntKind.i64 x1, Value.int IntKind.i64 x2] 53)).drew w1.heap.size 53 #[.int .i64 x1, .int .i64 x2] from Blk.new w1 53 _)
  have HBS := Lib.hid (show base ≤ (w1.alloc (Obj.cells #[Value.int IntKind.i64 x1, Value.int IntKind.i64 x2] 53)).drew.heap.size from Nat.le_trans hb (Nat.le_trans HO.out.size hgb.size))
  clear hgb HA HO HX
  generalize (w1.alloc (Obj.cells #[Value.int IntKind.i64 x1, Value.int IntKind.i64 x2] 53)).drew = w2 at HA2 HO2 HN HBS ⊢
  generalize w1.heap.size = q at HN HPL2 ⊢
  refine pure_eff2 rfl ?_
  refine wpList_append_own_at _ rfl (.tmp 15) (.tmp 17) 47 rfl base 53 i0 (.agg #[.int .i64 0, .int .i64 0]) 2 16 Try.underlying47 HI.out hz0 hz1 hz2 rfl (by decide) v m (flatE f m) rfl HA2.out.own ⟨q, 0, none⟩ 1 1 [.int .i64 x1, .int .i64 x2] rfl rfl ?_ (by simp [Value.oneCell']) (by unfold maxLen; omega) (by omega) HBS.out ?_
  · intro j u hu
    have hj := HN.out.cell j
    have e : (⟨q, 0, none⟩ : Addr).add j = ⟨q, j, none⟩ := by unfold Addr.add; split <;> simp_all
    rw [e, hj]
    simpa using hu
  · intro v' w3 ho hg hnil hob
    simp only [Act.put, List.setIfInBounds_toArray, List.set_cons_zero, List.set_cons_succ]
    obtain ⟨g, cap, rfl⟩ := own_some ho (by omega)
    rw [flatE_push f m (x1, x2)] at ho
    have hpg : p ≠ g := by
      rcases hob with e | e
      · exact HA2.out.ne e.symm
      · have e := Option.some.inj e
        have := HA2.out.blk.lt
        simp only at e
        omega
    have hbk := HA2.out.blk.grown hg (by
      intro e
      exact HA2.out.ne e.symm rfl)
    have HOG := Lib.hid (show Hop p v.ownBlock (some g) w w3 from HO2.out.trans (.of_grown hg (by
      rcases hob with e | e
      · exact .inl e
      · exact .inr ⟨_, e, Nat.le_refl _⟩)))
    have HPG := Lib.hid hpg
    have HOW := Lib.hid ho
    have HBK := Lib.hid hbk
    have hc4 := hbk.cell 4
    have hf4 := hbk.frozen 4
    clear ho hg hnil hob hpg hbk
    go_wp2_with fail
    refine purePost_free ?_
    iterate 1 (refine pure_pure (v := ?_) rfl (fun _ _ _ h => h) (by rfl) (fun w' => ?_) ?_; rotate_left; (go_simp; try with_reducible rfl); simp only [Act.put, List.setIfInBounds_toArray, List.set_cons_zero, List.set_cons_succ])
    refine pure_eff2 rfl ?_
    go_wp2_with fail
    refine purePost_free ?_
    refine pure_done ?_
    go_wp2_with fail
    go_end0
    refine ⟨rfl, g, cap, ⟨HBK.out.set_ 4 _, HOW.out.kept (Hop.cell (o := none) w3 4 _ |> fun h => ⟨h.os, h.tape, h.output, h.size, fun k hk hr => h.block k hk (fun e => hr (by rw [e])) (by simp)⟩ : w3.grownBy _ (some p)) (.inr fun e => HPG.out (Option.some.inj e).symm)⟩, HOG.out.trans (.cell w3 4 _)⟩
end Go.Proofs.Ytaennccfhdjaaaa
