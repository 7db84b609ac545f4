/- The reference's disk: New. -/
import Derived.Test.YtnddkodenkmoiaaRdk4
import Derived.Maps.AppendAt
namespace Go.Proofs.Ytnddkodenkmoiaa
open Go.RowKit Go.Proofs
set_option linter.unusedSimpArgs false
set_option linter.unusedVariables false
/-- The call's own row of strings. -/
def OwnT (w : World) (base : Nat) (v : Value) (ts : List ByteArray) : Prop := w.ownsRow base 9 1 v ts.length (ts.map Value.string)
theorem OwnT.nil (w : World) (base : Nat) : OwnT w base (.slice none 0 0) [] := ⟨rfl, .inl ⟨rfl, rfl⟩⟩
theorem OwnT.blk {w : World} {base : Nat} {v : Value} {ts : List ByteArray} (h : OwnT w base v ts) : ∀ k, v.ownBlock = some k → base ≤ k ∧ ∃ cs, Blk w k 9 cs := by
  obtain ⟨h1, ⟨rfl, h⟩ | ⟨g, cap, cur, rfl, h2, h3, h4, h5, h6, h7⟩⟩ := h
  · intro k hk; cases hk
  · intro k hk
    obtain rfl : g = k := by simpa [Value.ownBlock] using hk
    exact ⟨h2, cur, h3⟩
theorem OwnT.ne_ {w : World} {base r : Nat} {v : Value} {ts : List ByteArray} {t : TypeId} {cs : Array Value} (h : OwnT w base v ts) (hr : Blk w r t cs) (ht : t ≠ 9) : v.ownBlock ≠ some r := by
  intro e
  obtain ⟨_, cs', hb⟩ := h.blk r e
  exact hr.ne_ hb ht rfl
theorem OwnT.kept {w w' : World} {base : Nat} {v : Value} {ts : List ByteArray} (h : OwnT w base v ts) (hb : ∀ k, v.ownBlock = some k → w'.heap[k]? = w.heap[k]?) : OwnT w' base v ts := by
  obtain ⟨h1, h | ⟨g, cap, cur, rfl, h2, h3, r⟩⟩ := h
  · exact ⟨h1, .inl h⟩
  · exact ⟨h1, .inr ⟨g, cap, cur, rfl, h2, (hb g rfl).trans h3, r⟩⟩
theorem OwnT.below {w w' : World} {base : Nat} {v : Value} {ts : List ByteArray} (h : OwnT w base v ts) (hb : Below w.heap.size w w') : OwnT w' base v ts :=
  h.kept fun k hk => hb.block k (by obtain ⟨_, cs, hB⟩ := h.blk k hk; exact hB.lt)
theorem OwnT.form {w : World} {base : Nat} {v : Value} {ts : List ByteArray} (h : OwnT w base v ts) : ∃ a c, v = .slice a ts.length c := by
  obtain ⟨h1, ⟨rfl, h⟩ | ⟨g, cap, cur, rfl, _⟩⟩ := h
  · exact ⟨none, 0, by rw [h]⟩
  · exact ⟨_, _, rfl⟩
theorem OwnT.strs {w : World} {base : Nat} {v : Value} {ts : List ByteArray} (h : OwnT w base v ts) (hn : 0 < ts.length) : ∃ g c, v = .slice (some ⟨g, 0, none⟩) ts.length c ∧ base ≤ g ∧ v.ownBlock = some g ∧ StrsB w g ts := by
  obtain ⟨h1, ⟨rfl, h⟩ | ⟨g, cap, cur, rfl, h2, h3, h4, h5, h6, h7⟩⟩ := h
  · omega
  · refine ⟨g, cap, rfl, h2, rfl, cur, h3, ?_⟩
    rw [← h7]; simp
theorem wpList_ownT {ops : Array Oper} {rest : List Oper} {o : Oper} {a : Act} {w : World} {Q : Exit → Act → World → Prop} (hgd : o.guard = none) (s x : Operand)
    (ho : o.op = .call { callee := .builtin .append, args := #[s, x], argTypes := #[30, 30] })
    (base : Nat) (v : Value) (xs : List ByteArray) (hs : a.eval s = v) (hown : OwnT w base v xs)
    (t : ByteArray) (hx : a.eval x = .slice (some ⟨w.heap.size, 0, none⟩) 1 1)
    (hn : xs.length + 1 ≤ 1000000000) (hbase : base ≤ w.heap.size)
    (h : ∀ v' w', OwnT w' base v' (xs ++ [t]) → w.grownBy w' v.ownBlock → (v'.ownBlock = v.ownBlock ∨ v'.ownBlock = some (w.heap.size + 1)) → wpList Try.prog ops Q rest (a.put o.dst v') w') : wpList Try.prog ops Q (o :: rest) a (w.alloc (.cells #[.string t] 9)) := by
  have hs9 : (Try.prog.info? 9).map (fun i => (i.size, i.bytes, i.zero)) = some (1, 16, some (.string { data := #[] })) := by kernel_rfl
  obtain ⟨i, hi, hi2⟩ := Option.map_eq_some_iff.1 hs9
  simp only [Prod.mk.injEq] at hi2
  obtain ⟨e1, e2, e3⟩ := hi2
  have hb := Blk.new w 9 #[.string t]
  have hown2 : (w.alloc (.cells #[.string t] 9)).ownsRow base 9 1 v xs.length (xs.map Value.string) := hown.kept fun k hk => Below.heap_alloc w _ k (by obtain ⟨_, cs, hB⟩ := hown.blk k hk; exact hB.lt)
  refine wpList_append_own_at (w.alloc (.cells #[.string t] 9)) hgd s x 30 ho base 9 i (.string { data := #[] }) 1 16 Try.underlying30 hi e3 e1 e2 rfl (by omega) v xs.length (xs.map Value.string) hs hown2 ⟨w.heap.size, 0, none⟩ 1 1 [.string t] hx rfl ?_ (by intro y hy; obtain rfl := List.mem_singleton.1 hy; rfl) (by simp [maxLen]; omega) (by omega) (by simp; omega) ?_
  · intro j y hj
    match j, hj with
    | 0, hj =>
      obtain rfl := Option.some.inj hj
      rw [Addr.add_mid]
      exact hb.cell 0
  · intro v' w' h2 h3 _ h5
    refine h v' w' ?_ (grownBy_trans (World.grownBy_alloc w _ _) h3) (by simpa using h5)
    unfold OwnT
    rw [List.length_append, List.map_append]
    exact h2
def zS : ByteArray := strOf (fillOf (by_ ⟨#[]⟩))
/-- What the reference's New leaves. -/
def NewRDP (n : Nat) (w : World) (e : Ending) (w' : World) : Prop :=
  ∃ x gl go cl co, e = .returned (.tuple #[.pointer (some ⟨x, 0, none⟩), .int .i64 0]) ∧ RD w' x gl go cl co (dk0 n) ∧ w.heap.size ≤ x ∧ w.heap.size ≤ gl ∧ w.heap.size ≤ go ∧ Below w.heap.size w w'
/-- The disk in the making. -/
def MadeRD (B n : Nat) (w0 : World) (x i : Nat) (wr : World) : Prop :=
  ∃ vL vO, Blk wr x 32 #[vL, vO, .int .i64 0, .bool false] ∧ OwnT wr B vL (List.replicate i zS) ∧ OwnT wr B vO (List.replicate i ⟨#[]⟩) ∧ (∀ k, vL.ownBlock = some k → vO.ownBlock ≠ some k) ∧ Below B w0 wr
theorem MadeRD.done {B n x i : Nat} {w0 wr : World} (h : MadeRD B n w0 x n wr) (hx : B ≤ x) (h1 : 1 ≤ n) (h2 : n ≤ 512) (hB : B = w0.heap.size) : NewRDP n w0 (.returned (.tuple #[.pointer (some ⟨x, 0, none⟩), .int .i64 0])) wr := by
  obtain ⟨vL, vO, hb, hL, hO, hne, hW⟩ := h
  obtain ⟨gl, cl, rfl, hgl, el, hsl⟩ := hL.strs (by simp; omega)
  obtain ⟨go, co, rfl, hgo, eo, hso⟩ := hO.strs (by simp; omega)
  simp only [List.length_replicate] at hb
  have hl : (dk0 n).L.length = n := by unfold dk0; exact List.length_replicate
  subst hB
  refine ⟨x, gl, go, cl, co, rfl, ⟨by rw [hl]; exact hb, ?_, ?_, fun e => hne gl el (by rw [e]; exact eo), fun s hs => ?_, by rw [hl]; exact h1, by rw [hl]; exact h2, Int.le_refl _, by show (0 : Int) ≤ 9223372036854775807; decide⟩, hx, hgl, hgo, hW⟩
  · have e : NowL (dk0 n).L = List.replicate n zS := by unfold NowL dk0; rw [List.map_replicate]; rfl
    rw [e]; exact hsl
  · have e : OldL (dk0 n).L = List.replicate n ⟨#[]⟩ := by unfold OldL dk0; rw [List.map_replicate]; rfl
    rw [e]; exact hso
  · rw [(List.mem_replicate.1 hs).2]; exact sec0_ok
set_option maxRecDepth 100000 in
set_option maxHeartbeats 4000000 in
theorem newRD_any (n : Nat) (w : World) (h1 : 1 ≤ n) (h2 : n ≤ 512) :
    Calls Try.prog 39 #[.int .i64 (n : Int)] w (NewRDP n w) := by
  have g1 : decide ((n : Int) < 1) = false := decide_eq_false (by omega)
  have g2 : decide (512 < (n : Int)) = false := decide_eq_false (by omega)
  go_enter Try.func39, Try.ntmps39
  go_wp2_with fail
  clear g1 g2
  have HB0 := Blk.new w 32 #[.slice none 0 0, .slice none 0 0, .int .i64 0, .bool false]
  have HM := Lib.hid (show MadeRD w.heap.size n w w.heap.size 0 (w.alloc (.cells #[.slice none 0 0, .slice none 0 0, .int .i64 0, .bool false] 32)) from ⟨_, _, HB0, OwnT.nil _ _, OwnT.nil _ _, (fun k e => by cases e), (Below.refl _ _).alloc (Nat.le_refl _) _⟩)
  clear HB0
  go_loopw [5] (fun v5 wr => ∃ i : Nat, v5 = .int .i64 (i : Int) ∧ i ≤ n ∧ MadeRD w.heap.size n w w.heap.size i wr) (fun v5 _ => n - (intOf v5).toNat)
  case atStart => exact ⟨0, rfl, by omega, HM.out⟩
  case round =>
    obtain ⟨i, rfl, hi, hM⟩ := hrel
    clear HM
    by_cases hlt : i < n
    · have i1 : (i : Int) < (n : Int) := by omega
      obtain ⟨vL, vO, hX, hL, hO, hne, hB⟩ := hM
      obtain ⟨aL, cL, rfl⟩ := hL.form
      obtain ⟨aO, cO, rfl⟩ := hO.form
      simp only [List.length_replicate] at hX hL hO hne
      have HX := Lib.hid hX
      have HL := Lib.hid hL
      have HO := Lib.hid hO
      have HNE := Lib.hid hne
      have HB := Lib.hid hB
      clear hX hL hO hne hB
      go_upto_region 7 with (fail)
      have HX := Lib.hid HX.out.drew
      have HL := Lib.hid (show OwnT wr.drew w.heap.size _ _ from HL.out)
      have HO := Lib.hid (show OwnT wr.drew w.heap.size _ _ from HO.out)
      have HB := Lib.hid (show Below w.heap.size w wr.drew from HB.out.drewN 1)
      have c0 : ∀ w', KeptOn (fun _ => True) wr.drew w' → w'.cell? ⟨w.heap.size, 0, none⟩ = some (.slice aL i cL) := fun w' h => h.cell (w := wr.drew) (HX.out.cell 0) trivial
      generalize hw1 : wr.drew = w1 at HX HL HO HB c0
      refine wp_region_pure (KeptOn fun _ => True) (KeptOn.refl _) (KeptOn.trans) [(0,3),(1,3),(2,3),(3,3),(4,0),(5,1),(6,1),(7,2),(8,3),(9,3),(10,2)] (by kernel_rfl) (by kernel_rfl) ?_
      rw [hw1]
      clear hw1
      iterate 4 (refine pure_pure (v := ?_) rfl (fun _ _ _ h => h) (by rfl) (fun w' => ?_) ?_; rotate_left; (go_simp; try with_reducible rfl); simp only [Act.put, List.setIfInBounds_toArray, List.set_cons_zero, List.set_cons_succ])
      iterate 1 (refine pure_quiet (v := ?_) rfl (fun _ _ _ h => h) (by rfl) (fun w' hR => ?_) ?_; rotate_left; (go_simp; try with_reducible rfl); simp only [Act.put, List.setIfInBounds_toArray, List.set_cons_zero, List.set_cons_succ])
      clear c0
      refine pure_eff rfl ?_
      go_wp2_with fail
      refine (fill_any ⟨#[]⟩ w1 (by decide)).mono ?_
      rintro e w2 ⟨rfl, hb⟩
      have HKe := Lib.hid (show KeptOn (fun _ => True) w1 w2 from KeptOn.below hb (fun b hb _ => hb))
      have HX := Lib.hid (HX.out.below hb HX.out.lt)
      have HL := Lib.hid (HL.out.below hb)
      have HO := Lib.hid (HO.out.below hb)
      have HB := Lib.hid (HB.out.trans (hb.mono HB.out.size))
      clear hb
      generalize hz : strOf (fillOf (by_ ⟨#[]⟩)) = z
      have HZ := Lib.hid (show zS = z from hz)
      clear hz
      go_wp2_with fail
      refine purePost_need HKe.out ?_
      refine pure_eff rfl ?_
      go_wp2_with fail
      refine purePost_need (KeptOn.alloc _ _) ?_
      refine pure_eff2 rfl ?_
      refine wpList_ownT rfl _ _ rfl w.heap.size (.slice aL i cL) (List.replicate i zS) rfl HL.out z rfl (by simp; omega) HB.out.size ?_
      intro v3 w3 hL hG hv
      obtain ⟨aL2, cL2, rfl⟩ := hL.form
      rw [List.length_append, List.length_replicate, List.length_singleton] at hL hv ⊢
      have HX := Lib.hid (HX.out.grown hG (fun e => HL.out.ne_ HX.out (by decide) e.symm))
      have HO2 := Lib.hid (HO.out.kept (w' := w3) (fun k hk => hG.block k (by obtain ⟨_, cs, hB⟩ := HO.out.blk k hk; exact hB.lt) (fun e => HNE.out k e.symm hk)))
      have HNE := Lib.hid (show ∀ k, (Value.slice aL2 (i + 1) cL2).ownBlock = some k → (Value.slice aO i cO).ownBlock ≠ some k from fun k hk hk2 => by
        rcases hv with hv | hv
        · exact HNE.out k (by rw [← hv]; exact hk) hk2
        · rw [hv] at hk
          obtain rfl := Option.some.inj hk
          obtain ⟨_, cs, hB⟩ := HO.out.blk _ hk2
          have := hB.lt
          omega)
      have HB := Lib.hid (HB.out.grown hG HB.out.size (fun k hk => (HL.out.blk k hk).1))
      have HL := Lib.hid (show OwnT w3 w.heap.size (.slice aL2 (i + 1) cL2) (List.replicate (i + 1) zS) by rw [List.replicate_succ', HZ.out]; rw [HZ.out] at hL; exact hL)
      have HO := HO2
      clear hL hG hv HO2
      refine wpList_nil ?_
      refine purePost_free ?_
      simp only [Act.put, List.setIfInBounds_toArray, List.set_cons_zero, List.set_cons_succ]
      iterate 2 (refine pure_pure (v := ?_) rfl (fun _ _ _ h => h) (by rfl) (fun w' => ?_) ?_; rotate_left; (go_simp; try with_reducible rfl); simp only [Act.put, List.setIfInBounds_toArray, List.set_cons_zero, List.set_cons_succ])
      have c0 := HX.out.cell 0
      have f0 := HX.out.frozen 0
      refine pure_eff2 rfl ?_
      go_wp2_with fail
      refine purePost_free ?_
      refine pure_done ?_
      clear c0 f0
      have hx2 := HX.out.set_ 0 (.slice aL2 (i + 1) cL2)
      have HL := Lib.hid (HL.out.kept (w' := w3.setCell ⟨w.heap.size, 0, none⟩ (.slice aL2 (i + 1) cL2)) (fun k hk => Below.heap_setCell w3 _ _ k (fun e => HL.out.ne_ HX.out (by decide) (by rw [hk]; exact congrArg some e))))
      have HO := Lib.hid (HO.out.kept (w' := w3.setCell ⟨w.heap.size, 0, none⟩ (.slice aL2 (i + 1) cL2)) (fun k hk => Below.heap_setCell w3 _ _ k (fun e => HO.out.ne_ HX.out (by decide) (by rw [hk]; exact congrArg some e))))
      have HB := Lib.hid (HB.out.setCell (p := ⟨w.heap.size, 0, none⟩) (Nat.le_refl _) (.slice aL2 (i + 1) cL2))
      generalize w3.setCell ⟨w.heap.size, 0, none⟩ (.slice aL2 (i + 1) cL2) = w4 at hx2 HL HO HB ⊢
      have HX := Lib.hid (show Blk w4 w.heap.size 32 #[.slice aL2 (i + 1) cL2, .slice aO i cO, .int .i64 0, .bool false] from hx2)
      clear hx2
      have c1 : w4.cell? ⟨w.heap.size, 1, none⟩ = some (.slice aO i cO) := HX.out.cell 1
      go_upto_region 8 with (fail)
      refine wp_region_lit ?_
      iterate 18 go_step
      clear c1
      refine wpList_ownT rfl _ _ rfl w.heap.size (.slice aO i cO) (List.replicate i ⟨#[]⟩) rfl HO.out ⟨#[]⟩ rfl (by simp; omega) HB.out.size ?_
      intro v5 w5 hL hG hv
      obtain ⟨aO2, cO2, rfl⟩ := hL.form
      rw [List.length_append, List.length_replicate, List.length_singleton] at hL hv ⊢
      have HX := Lib.hid (HX.out.grown hG (fun e => HO.out.ne_ HX.out (by decide) e.symm))
      have HL2 := Lib.hid (HL.out.kept (w' := w5) (fun k hk => hG.block k (by obtain ⟨_, cs, hB⟩ := HL.out.blk k hk; exact hB.lt) (fun e => HNE.out k hk e.symm)))
      have HNE := Lib.hid (show ∀ k, (Value.slice aL2 (i + 1) cL2).ownBlock = some k → (Value.slice aO2 (i + 1) cO2).ownBlock ≠ some k from fun k hk hk2 => by
        rcases hv with hv | hv
        · exact HNE.out k hk (by rw [← hv]; exact hk2)
        · rw [hv] at hk2
          obtain rfl := Option.some.inj hk2
          obtain ⟨_, cs, hB⟩ := HL.out.blk _ hk
          have := hB.lt
          omega)
      have HB := Lib.hid (HB.out.grown hG HB.out.size (fun k hk => (HO.out.blk k hk).1))
      have HO := Lib.hid (show OwnT w5 w.heap.size (.slice aO2 (i + 1) cO2) (List.replicate (i + 1) ⟨#[]⟩) by rw [List.replicate_succ']; exact hL)
      have HL := HL2
      clear hL hG hv HL2
      simp only [Act.put]
      have c1 := HX.out.cell 1
      have f1 := HX.out.frozen 1
      have hx2 := HX.out.set_ 1 (.slice aO2 (i + 1) cO2)
      have HLf := Lib.hid (HL.out.kept (w' := w5.setCell ⟨w.heap.size, 1, none⟩ (.slice aO2 (i + 1) cO2)) (fun k hk => Below.heap_setCell w5 _ _ k (fun e => HL.out.ne_ HX.out (by decide) (by rw [hk]; exact congrArg some e))))
      have HOf := Lib.hid (HO.out.kept (w' := w5.setCell ⟨w.heap.size, 1, none⟩ (.slice aO2 (i + 1) cO2)) (fun k hk => Below.heap_setCell w5 _ _ k (fun e => HO.out.ne_ HX.out (by decide) (by rw [hk]; exact congrArg some e))))
      have HBf := Lib.hid (HB.out.setCell (p := ⟨w.heap.size, 1, none⟩) (Nat.le_refl _) (.slice aO2 (i + 1) cO2))
      have HXf := Lib.hid hx2
      clear hx2
      go_wp2_with fail
      go_roundw
      case rel => exact ⟨i + 1, by go_num, by omega, _, _, HXf.out, HLf.out, HOf.out, HNE.out, HBf.out⟩
      case measure => simp [intOf]; omega
    · have i1 : ¬ ((i : Int) < (n : Int)) := by omega
      obtain rfl : i = n := by omega
      have HQ := Lib.hid (MadeRD.done (i := i) hM (Nat.le_refl _) h1 h2 rfl)
      clear hM
      go_wp2_with fail
      go_ret2
      exact HQ.out
end Go.Proofs.Ytnddkodenkmoiaa
