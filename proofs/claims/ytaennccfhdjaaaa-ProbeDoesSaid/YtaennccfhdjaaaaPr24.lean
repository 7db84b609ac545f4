/- The reference's prober: Tick. -/
import Derived.Test.YtaennccfhdjaaaaPr23
namespace Go.Proofs.Ytaennccfhdjaaaa
open Go.RowKit Go.Proofs
set_option linter.unusedSimpArgs false
set_option linter.unusedVariables false
/-- The memory in the midst of the reference's tick. -/
structure RTM (w wr : World) (base x d N me : Nat) (now nx : Int) (E : Nat → Int) (v6 : Value) (out : List Int) : Prop where
  rf : RefAt wr base x d N me now nx E
  out : wr.ownsRow w.heap.size 3 1 v6 out.length (out.map (Value.int .i64))
  hop : Hop x (some d) (some d) w wr
  xl : x < w.heap.size
  dl : d < w.heap.size
section
variable {w wr w' : World} {base x d N me : Nat} {now nx now' nx' : Int} {E E' : Nat → Int} {v6 v6' : Value} {out out' : List Int}
theorem RTM.no6 (h : RTM w wr base x d N me now nx E v6 out) {k : Nat} (hk : k < w.heap.size) : v6.ownBlock ≠ some k := fun e => by
  obtain ⟨_, _, hb⟩ := own_blk h.out e
  omega
theorem RTM.hopped (h : RTM w wr base x d N me now nx E v6 out) (hR : RefAt w' base x d N me now' nx' E') (hH : Hop x (some d) (some d) wr w') : RTM w w' base x d N me now' nx' E' v6 out :=
  ⟨hR, own_hop h.out hH (h.no6 h.xl) (fun k hk e => h.no6 h.dl (hk.trans e)), h.hop.trans hH, h.xl, h.dl⟩
theorem RTM.below (h : RTM w wr base x d N me now nx E v6 out) (hb : Below wr.heap.size wr w') : RTM w w' base x d N me now nx E v6 out := h.hopped (h.rf.below hb) (.of_below hb)
theorem RTM.grow6 (h : RTM w wr base x d N me now nx E v6 out) (ho : w'.ownsRow w.heap.size 3 1 v6' out'.length (out'.map (Value.int .i64))) (hg : wr.grownBy w' v6.ownBlock) : RTM w w' base x d N me now nx E v6' out' := by
  obtain ⟨cap, hk, hr⟩ := h.rf.blk
  exact ⟨⟨⟨cap, hk.grown hg (fun e => h.no6 h.xl e.symm), own_kept' hr fun k hk' => by
      simp [Value.ownBlock] at hk'
      subst hk'
      exact hg.block d (Nat.lt_of_lt_of_le h.dl h.hop.size) (fun e => h.no6 h.dl e.symm)⟩, h.rf.two, h.rf.eight, h.rf.lt⟩, ho, h.hop.grow hg fun k hk e => h.no6 hk e.symm, h.xl, h.dl⟩
theorem RTM.due (h : RTM w wr base x d N me now nx E v6 out) {i : Nat} (hi : i < N) (v : Int) : RTM w (wr.setCell ⟨d, i, none⟩ (.int .i64 v)) base x d N me now nx (updE E i v) v6 out :=
  h.hopped (h.rf.setDue hi v) (.of_grown' (o := some d) (grown_cell wr d i _))
theorem RTM.next (h : RTM w wr base x d N me now nx E v6 out) (v : Int) : RTM w (wr.setCell ⟨x, 3, none⟩ (.int .i64 v)) base x d N me now v E v6 out := h.hopped (h.rf.putNext v) (.cell wr 3 _)
end
/-- What the reference's tick leaves. -/
def RTickP (base x d N me : Nat) (now : Int) (nx : Nat) (D : Int → Int) (busy : Bool) (out : List Int) (w : World) (e : Ending) (w' : World) : Prop :=
  ∃ (v6 : Value) (E' : Nat → Int), e = .returned (.tuple #[v6, .int .i64 (if readsT D now busy = true then (nx : Int) else -1)]) ∧
    w'.ownsRow w.heap.size 3 1 v6 out.length (out.map (Value.int .i64)) ∧ RefAt w' base x d N me now ((if readsT D now busy = true then stepN N me nx else nx : Nat) : Int) E' ∧
    (∀ j : Nat, j < N → j ≠ me → dueT D now busy j = E' j) ∧ dueT D now busy (-1) = E' me ∧ Hop x (some d) (some d) w w'
/-- The dues when k of those told are set. -/
def toldE (E : Nat → Int) (out : List Int) (now : Int) : Nat → Int := fun j => if (j : Int) ∈ out then now + 4 else E j
theorem toldE_nil (E : Nat → Int) (now : Int) : toldE E [] now = E := by funext j; simp [toldE]
theorem toldE_step (E : Nat → Int) (out : List Int) (now : Int) (i : Nat) : updE (toldE E out now) i (now + 4) = toldE E (out ++ [(i : Int)]) now := by
  funext j
  unfold updE toldE
  by_cases e : j = i
  · rw [if_pos e, if_pos (by simp [e])]
  · rw [if_neg e]
    have : ((j : Int) ∈ out ++ [(i : Int)]) ↔ (j : Int) ∈ out := by
      simp only [List.mem_append, List.mem_singleton]
      constructor
      · rintro (h | h)
        · exact h
        · omega
      · exact .inl
    by_cases h : (j : Int) ∈ out
    · rw [if_pos h, if_pos (this.2 h)]
    · rw [if_neg h, if_neg (fun h' => h (this.1 h'))]
section
variable {N me : Nat} {D : Int → Int} {now : Int} {out : List Int} {E : Nat → Int}
theorem told_else (hm : ∀ s, s ∈ out ↔ ((0 ≤ s ∧ s < (N : Int) ∧ s ≠ (me : Int)) ∧ D s ≤ now)) (hDE : ∀ j : Nat, j < N → j ≠ me → D j = E j) (busy : Bool) (j : Nat) (hj : j < N) (hne : j ≠ me) : dueT D now busy j = toldE E out now j := by
  unfold dueT toldE
  by_cases h : D j ≤ now
  · rw [if_pos h, if_pos (by omega), if_pos ((hm j).2 ⟨⟨by omega, by omega, by omega⟩, h⟩)]
  · rw [if_neg h, if_neg (fun h' => h ((hm j).1 h').2), hDE j hj hne]
theorem told_me (hm : ∀ s, s ∈ out ↔ ((0 ≤ s ∧ s < (N : Int) ∧ s ≠ (me : Int)) ∧ D s ≤ now)) : toldE E out now me = E me := by
  unfold toldE
  rw [if_neg (fun h => ((hm me).1 h).1.2.2 rfl)]
end
set_option maxRecDepth 100000 in
set_option maxHeartbeats 8000000 in
theorem rtick_any (base x d N me : Nat) (now now1 : Int) (hn1 : now1 = now + 1) (nx0 : Nat) (E : Nat → Int) (D : Int → Int) (busy : Bool) (out : List Int) (w : World) (hR : RefAt w base x d N me now nx0 E) (h0 : 0 ≤ now) (h1 : now ≤ 1000000) (hnx0 : nx0 < N)
    (hDE : ∀ j : Nat, j < N → j ≠ me → D j = E j) (hDm : D (-1) = E me) (hm : ∀ s, s ∈ out ↔ ((0 ≤ s ∧ s < (N : Int) ∧ s ≠ (me : Int)) ∧ D s ≤ now1))
    (hs : ∀ k s, out[k]? = some s → FirstIs N me D now1 (out.take k) s) (hn : ∀ s, ¬ FirstIs N me D now1 out s) (hol : out.length ≤ 8) :
    Calls Try.prog 24 #[.pointer (some ⟨x, 0, none⟩), .bool busy] w fun e w' => RTickP base x d N me now1 nx0 D busy out w e w' := by
  obtain ⟨i3, hi3, hy0, hy1, hy2⟩ := info_parts info3
  have HI3 := Lib.hid hi3
  have HDE := Lib.hid hDE
  have HDM := Lib.hid hDm
  have HMM := Lib.hid hm
  have HS := Lib.hid hs
  have HN := Lib.hid hn
  have hq1 : now + 1 = now1 := hn1.symm
  have hb0 : 0 ≤ now1 := by omega
  have hb1 : now1 ≤ 1000001 := by omega
  obtain ⟨cap0, hbk, _⟩ := hR.blk
  have c2 : w.cell? ⟨x, 2, none⟩ = some (.int .i64 now) := hbk.cell 2
  have hfz := hbk.frozen 2
  have hpl := hbk.lt
  have HST := Lib.hid (show RTM w (w.setCell ⟨x, 2, none⟩ (.int .i64 now1)) base x d N me now1 nx0 E (.slice none 0 0) [] from ⟨hR.putNow now1, World.ownsRow_nil _ _ _ _, .cell w 2 _, hR.lts.1, hR.lts.2.1⟩)
  have HE := Lib.hid (⟨hR.two, hR.eight, hR.lt⟩ : 2 ≤ N ∧ N ≤ 8 ∧ me < N)
  clear hi3 hDE hDm hm hs hn hn1 hR hbk
  go_enter Try.func24, Try.ntmps24
  go_wp2_with fail
  clear hq1 c2 hfz hpl
  generalize w.setCell ⟨x, 2, none⟩ (.int .i64 now1) = w1 at HST ⊢
  refine (rfirst_any base x d N me now1 nx0 E D (.slice none 0 0) [] w1 HST.out.rf ⟨none, 0, rfl, fun k x hk => by simp at hk⟩ (by simp) HDE.out).mono ?_
  rintro e w2 ⟨r, rfl, hr, hb⟩
  have HM := Lib.hid (HST.out.below hb)
  have HRR := Lib.hid hr
  clear hr hb HST
  go_wp2_with fail
  go_loopw [6, 7] (fun v6 v7 wr => ∃ (k : Nat) (r : Int), k ≤ out.length ∧ v7 = .int .i64 r ∧ ((r = -1 ∧ ∀ s, ¬ FirstIs N me D now1 (out.take k) s) ∨ (0 ≤ r ∧ FirstIs N me D now1 (out.take k) r)) ∧ RTM w wr base x d N me now1 nx0 E v6 (out.take k)) (fun v6 _ _ => out.length - lenV v6)
  case atStart => exact ⟨0, r, by omega, rfl, HRR.out, HM.out⟩
  case round =>
    clear HM HRR
    obtain ⟨k, r, hk, rfl, hr, hM⟩ := hrel
    have HM := Lib.hid hM
    have hlk : (out.take k).length = k := by simp; omega
    have HLK := Lib.hid hlk
    have HSZ := Lib.hid hM.hop.size
    have hO : wr.ownsRow w.heap.size 3 1 u6 k ((out.take k).map (Value.int .i64)) := by have := hM.out; rw [hlk] at this; exact this
    obtain ⟨a6, c6, rfl⟩ := own_slice hO
    have HOA := Lib.hid hO
    clear hM hO
    rcases Nat.lt_or_ge k out.length with hlt | hge
    · have hget : out[k]? = some out[k] := List.getElem?_eq_getElem hlt
      have hF := HS.out k out[k] hget
      have hrk : r = out[k] := by
        rcases hr with h | h
        · exact absurd hF (h.2 _)
        · exact h.2.unique hF
      have hr0 : 0 ≤ r := by rw [hrk]; exact hF.1.1
      have HT := Lib.hid (show out.take k ++ [r] = out.take (k + 1) by rw [hrk]; exact (List.take_succ_eq_append_getElem hlt).symm)
      clear hget hF hrk hr
      go_wp2_with (at_builtin; refine wpList_append_own _ rfl (.tmp 26) (.tmp 28) 31 rfl w.heap.size 3 i3 (.int .i64 0) 1 8 Try.underlying31 HI3.out hy0 hy1 hy2 rfl (by decide) (.slice a6 k c6) k ((out.take k).map (Value.int .i64)) rfl (HOA.out.alloc _) ⟨wr.heap.size, 0, none⟩ 1 1 [.int .i64 r] rfl rfl (cell_one_new _ _ _) (by simp [Value.oneCell']) (by unfold maxLen; omega) (by omega) (by have := HSZ.out; simp; omega) ?_)
      intro v6' w5 ho hg _
      have ho' : w5.ownsRow w.heap.size 3 1 v6' (out.take (k + 1)).length ((out.take (k + 1)).map (Value.int .i64)) := by
        rw [show (out.take (k + 1)).length = k + 1 by simp; omega, ← HT.out, List.map_append, List.map_take]
        first | exact ho | (rw [← List.map_take]; exact ho)
      have HM5 := Lib.hid ((HM.out.below ((Below.refl _ _).alloc (Nat.le_refl _) (.cells #[.int .i64 r] 3))).grow6 ho' hg)
      have HLV := Lib.hid (own_lenV ho)
      clear ho ho' hg
      go_wp2_with fail
      refine (rfirst_any base x d N me now1 nx0 E D v6' (out.take (k + 1)) w5 HM5.out.rf (IntsAt.of_own HM5.out.out) (by simp; omega) HDE.out).mono ?_
      rintro e w6 ⟨r', rfl, hr', hb⟩
      have HM6 := Lib.hid (HM5.out.below hb)
      have HR6 := Lib.hid hr'
      clear hr' hb
      go_wp2_with fail
      go_roundw
      case rel => exact ⟨k + 1, r', by omega, rfl, HR6.out, HM6.out⟩
      case measure =>
        have h7 := HLV.out
        show out.length - lenV v6' < out.length - k
        rw [h7]
        omega
    · obtain rfl : k = out.length := by omega
      have hrm : r = -1 := by
        rcases hr with h | h
        · exact h.1
        · rw [List.take_length] at h; exact absurd h.2 (HN.out r)
      subst hrm
      clear hr HSZ hlk HLK
      rw [List.take_length] at HM
      go_wp2_with fail
      go_loopw [8] (fun v8 wq => ∃ k : Nat, v8 = .int .i64 (k : Int) ∧ k ≤ out.length ∧ RTM w wq base x d N me now1 nx0 (toldE E (out.take k) now1) (.slice a6 out.length c6) out) (fun v8 _ => out.length - (intOf v8).toNat)
      case atStart => exact ⟨0, rfl, by omega, by rw [List.take_zero, toldE_nil]; simpa using HM.out⟩
      case round =>
        clear HM
        obtain ⟨k, rfl, hk, hM⟩ := hrel
        have HM := Lib.hid hM
        obtain ⟨cap, hbk, _⟩ := hM.rf.blk
        by_cases hlt : (k : Int) < (out.length : Int)
        · have k1 : k < out.length := by omega
          obtain ⟨a', c', hv', hc'⟩ := IntsAt.of_own hM.out
          injection hv' with hv1 hv2 hv3
          subst hv1 hv3
          obtain ⟨g6, rfl, x1⟩ := hc' k out[k] (List.getElem?_eq_getElem k1)
          have hF := (HS.out k out[k] (List.getElem?_eq_getElem k1)).1
          obtain ⟨s, hsn⟩ := Int.eq_ofNat_of_zero_le hF.1
          have HT := Lib.hid (show out.take k ++ [(s : Int)] = out.take (k + 1) by rw [← hsn]; exact (List.take_succ_eq_append_getElem k1).symm)
          have hsN : s < N := by have := hF.2.1; omega
          rw [hsn] at x1
          clear hc' hF hsn hv2
          have k0 : (0 : Int) ≤ (k : Int) := by omega
          have s0 : (0 : Int) ≤ (s : Int) := by omega
          have s1 : (s : Int) < (N : Int) := by omega
          have hwn : IntKind.i64.wrap (now1 + 4) = now1 + 4 := IntWalk.i64_in _ (by omega)
          go_upto_region 10 with (fail)
          have q2 : ∀ w', wr.drew = w' → w'.cell? ⟨x, 2, none⟩ = some (.int .i64 now1) := fun w' h => h ▸ hbk.cell 2
          have q4 : ∀ w', wr.drew = w' → w'.cell? ⟨x, 4, none⟩ = some (.slice (some ⟨d, 0, none⟩) N cap) := fun w' h => h ▸ hbk.cell 4
          have q6 : ∀ w', wr.drew = w' → w'.cell? ⟨g6, k, none⟩ = some (.int .i64 s) := fun w' h => h ▸ x1
          clear hbk x1 hM
          refine wp_region_pure (fun a b => a = b) (fun _ => rfl) (fun _ _ _ h h' => h.trans h') [(0,3),(1,3),(2,3),(3,0),(4,3),(5,3),(6,3),(7,0),(8,3),(9,3),(10,3),(11,0),(12,3),(13,3),(14,2)] (by kernel_rfl) (by kernel_rfl) ?_
          iterate 3 (refine pure_pure (v := ?_) rfl (fun _ _ _ h => h) (by rfl) (fun w' => ?_) ?_; rotate_left; (go_simp; try with_reducible rfl); simp only [Act.put, List.setIfInBounds_toArray, List.set_cons_zero, List.set_cons_succ])
          iterate 1 (refine pure_quiet (v := ?_) rfl (fun _ _ _ h => h) (by rfl) (fun w' hR => ?_) ?_; rotate_left; (go_simp; try with_reducible rfl); simp only [Act.put, List.setIfInBounds_toArray, List.set_cons_zero, List.set_cons_succ])
          iterate 3 (refine pure_pure (v := ?_) rfl (fun _ _ _ h => h) (by rfl) (fun w' => ?_) ?_; rotate_left; (go_simp; try with_reducible rfl); simp only [Act.put, List.setIfInBounds_toArray, List.set_cons_zero, List.set_cons_succ])
          iterate 1 (refine pure_quiet (v := ?_) rfl (fun _ _ _ h => h) (by rfl) (fun w' hR => ?_) ?_; rotate_left; (go_simp; try with_reducible rfl); simp only [Act.put, List.setIfInBounds_toArray, List.set_cons_zero, List.set_cons_succ])
          iterate 3 (refine pure_pure (v := ?_) rfl (fun _ _ _ h => h) (by rfl) (fun w' => ?_) ?_; rotate_left; (go_simp; try with_reducible rfl); simp only [Act.put, List.setIfInBounds_toArray, List.set_cons_zero, List.set_cons_succ])
          iterate 1 (refine pure_quiet (v := ?_) rfl (fun _ _ _ h => h) (by rfl) (fun w' hR => ?_) ?_; rotate_left; (go_simp; try with_reducible rfl); simp only [Act.put, List.setIfInBounds_toArray, List.set_cons_zero, List.set_cons_succ])
          iterate 2 (refine pure_pure (v := ?_) rfl (fun _ _ _ h => h) (by rfl) (fun w' => ?_) ?_; rotate_left; (go_simp; try with_reducible rfl); simp only [Act.put, List.setIfInBounds_toArray, List.set_cons_zero, List.set_cons_succ])
          clear q2 q4 q6
          have e1 : wr.drew.cell? ⟨d, s, none⟩ = _ := HM.out.rf.due hsN
          have e2 := HM.out.rf.dueF s
          refine pure_eff2 rfl ?_
          go_wp2_with fail
          refine purePost_free ?_
          refine pure_done ?_
          go_wp2_with fail
          go_roundw
          case rel => exact ⟨k + 1, by go_num, by omega, by rw [← HT.out, ← toldE_step]; exact (HM.out.due hsN _).below ((Below.refl _ _).drewN 1)⟩
          case measure => simp [intOf]; omega
        · obtain rfl : k = out.length := by omega
          rw [List.take_length] at HM
          have HDT := Lib.hid (fun b j hj hne => told_else (E := E) HMM.out HDE.out b j hj hne)
          have HME := Lib.hid (told_me (E := E) HMM.out)
          have c1 : wr.cell? ⟨x, 1, none⟩ = some (.int .i64 me) := hbk.cell 1
          have c2 : wr.cell? ⟨x, 2, none⟩ = some (.int .i64 now1) := hbk.cell 2
          have c4 : wr.cell? ⟨x, 4, none⟩ = some (.slice (some ⟨d, 0, none⟩) N cap) := hbk.cell 4
          have cm : wr.cell? ⟨d, me, none⟩ = some (.int .i64 (E me)) := by rw [← HME.out]; exact HM.out.rf.due HE.out.2.2
          have m0 : (0 : Int) ≤ (me : Int) := by omega
          have m1 : (me : Int) < (N : Int) := by have := HE.out.2.2; omega
          clear hbk hM
          cases busy with
          | true =>
            as_aux_lemma =>
              have HRD := Lib.hid (show readsT D now1 true = false by unfold readsT; simp)
              go_upto_region 11 with (fail)
              go_quiet (fail)
              rename_i nq
              have HM2 := Lib.hid (HM.out.below ((Below.refl _ _).drewN nq))
              generalize wr.drewN nq = w2 at HM2 ⊢
              clear c1 c2 c4 cm
              go_wp2_with fail
              go_ret2
              exact ⟨_, _, by rw [HRD.out]; rfl, HM2.out.out, by rw [HRD.out]; exact HM2.out.rf, fun j hj hne => HDT.out true j hj hne, by rw [HME.out, ← HDM.out]; unfold dueT; split <;> simp, HM2.out.hop⟩
          | false =>
            by_cases hdue : now1 < E me
            · have hg : decide (now1 < E me) = true := decide_eq_true hdue
              as_aux_lemma =>
                have HRD := Lib.hid (show readsT D now1 false = false by have := HDM.out; unfold readsT; rw [decide_eq_false (by omega)]; rfl)
                go_upto_region 11 with (fail)
                go_quiet (fail)
                rename_i nq
                have HM2 := Lib.hid (HM.out.below ((Below.refl _ _).drewN nq))
                generalize wr.drewN nq = w2 at HM2 ⊢
                clear c1 c2 c4 cm hg
                go_wp2_with fail
                go_ret2
                exact ⟨_, _, by rw [HRD.out]; rfl, HM2.out.out, by rw [HRD.out]; exact HM2.out.rf, fun j hj hne => HDT.out false j hj hne, by rw [HME.out, ← HDM.out]; have := HDM.out; unfold dueT; rw [if_neg (by omega)], HM2.out.hop⟩
            · have hg : decide (now1 < E me) = false := decide_eq_false hdue
              as_aux_lemma =>
                have HRD := Lib.hid (show readsT D now1 false = true by have := HDM.out; unfold readsT; rw [decide_eq_true (by omega)]; rfl)
                go_upto_region 11 with (fail)
                go_quiet (fail)
                rename_i nq
                have HM2 := Lib.hid (HM.out.below ((Below.refl _ _).drewN nq))
                generalize wr.drewN nq = w2 at HM2 ⊢
                clear c1 c2 c4 cm hg
                go_upto_region 13 with (fail)
                obtain ⟨cap2, hbk, _⟩ := HM2.out.rf.blk
                have q1 : ∀ w', w2.drew = w' → w'.cell? ⟨x, 1, none⟩ = some (.int .i64 me) := fun w' h => h ▸ hbk.cell 1
                have q2 : ∀ w', w2.drew = w' → w'.cell? ⟨x, 2, none⟩ = some (.int .i64 now1) := fun w' h => h ▸ hbk.cell 2
                have q4 : ∀ w', w2.drew = w' → w'.cell? ⟨x, 4, none⟩ = some (.slice (some ⟨d, 0, none⟩) N cap2) := fun w' h => h ▸ hbk.cell 4
                have hwn : IntKind.i64.wrap (now1 + 7) = now1 + 7 := IntWalk.i64_in _ (by omega)
                clear hbk
                refine wp_region_pure (fun a b => a = b) (fun _ => rfl) (fun _ _ _ h h' => h.trans h') [(0,3),(1,3),(2,3),(3,0),(4,3),(5,3),(6,3),(7,0),(8,3),(9,3),(10,3),(11,0),(12,3),(13,3),(14,2)] (by kernel_rfl) (by kernel_rfl) ?_
                iterate 3 (refine pure_pure (v := ?_) rfl (fun _ _ _ h => h) (by rfl) (fun w' => ?_) ?_; rotate_left; (go_simp; try with_reducible rfl); simp only [Act.put, List.setIfInBounds_toArray, List.set_cons_zero, List.set_cons_succ])
                iterate 1 (refine pure_quiet (v := ?_) rfl (fun _ _ _ h => h) (by rfl) (fun w' hR => ?_) ?_; rotate_left; (go_simp; try with_reducible rfl); simp only [Act.put, List.setIfInBounds_toArray, List.set_cons_zero, List.set_cons_succ])
                iterate 3 (refine pure_pure (v := ?_) rfl (fun _ _ _ h => h) (by rfl) (fun w' => ?_) ?_; rotate_left; (go_simp; try with_reducible rfl); simp only [Act.put, List.setIfInBounds_toArray, List.set_cons_zero, List.set_cons_succ])
                iterate 1 (refine pure_quiet (v := ?_) rfl (fun _ _ _ h => h) (by rfl) (fun w' hR => ?_) ?_; rotate_left; (go_simp; try with_reducible rfl); simp only [Act.put, List.setIfInBounds_toArray, List.set_cons_zero, List.set_cons_succ])
                iterate 3 (refine pure_pure (v := ?_) rfl (fun _ _ _ h => h) (by rfl) (fun w' => ?_) ?_; rotate_left; (go_simp; try with_reducible rfl); simp only [Act.put, List.setIfInBounds_toArray, List.set_cons_zero, List.set_cons_succ])
                iterate 1 (refine pure_quiet (v := ?_) rfl (fun _ _ _ h => h) (by rfl) (fun w' hR => ?_) ?_; rotate_left; (go_simp; try with_reducible rfl); simp only [Act.put, List.setIfInBounds_toArray, List.set_cons_zero, List.set_cons_succ])
                iterate 2 (refine pure_pure (v := ?_) rfl (fun _ _ _ h => h) (by rfl) (fun w' => ?_) ?_; rotate_left; (go_simp; try with_reducible rfl); simp only [Act.put, List.setIfInBounds_toArray, List.set_cons_zero, List.set_cons_succ])
                clear q1 q2 q4
                have e1 : w2.drew.cell? ⟨d, me, none⟩ = _ := HM2.out.rf.due HE.out.2.2
                have e2 := HM2.out.rf.dueF me
                refine pure_eff2 rfl ?_
                go_wp2_with fail
                refine purePost_free ?_
                refine pure_done ?_
                have HM3 := Lib.hid ((HM2.out.due HE.out.2.2 (now1 + 7)).below ((Below.refl _ _).drewN 1))
                have e : (w2.setCell ⟨d, me, none⟩ (.int .i64 (now1 + 7))).drewN 1 = (w2.setCell ⟨d, me, none⟩ (.int .i64 (now1 + 7))).drew := rfl
                rw [e] at HM3
                clear e1 e2 e hwn
                generalize (w2.setCell ⟨d, me, none⟩ (.int .i64 (now1 + 7))).drew = w3 at HM3 ⊢
                obtain ⟨q, hQ⟩ : ∃ q : Nat, q = (nx0 + 1) % N := ⟨_, rfl⟩
                obtain ⟨q2, hQ2⟩ : ∃ q : Nat, q = (me + 1) % N := ⟨_, rfl⟩
                have hq : ((nx0 : Int) + 1) % (N : Int) = (q : Int) := by rw [hQ, Int.natCast_emod]; rfl
                have hq2 : ((me : Int) + 1) % (N : Int) = (q2 : Int) := by rw [hQ2, Int.natCast_emod]; rfl
                have HQ := Lib.hid hQ
                have HQ2 := Lib.hid hQ2
                have HXE := Lib.hid (fun j (hj : j < N) (hne : j ≠ me) => (HDT.out false j hj hne).trans (show toldE E out now1 j = updE (toldE E out now1) me (now1 + 7) j by unfold updE; rw [if_neg hne]))
                have HXM := Lib.hid (show dueT D now1 false (-1) = updE (toldE E out now1) me (now1 + 7) me by have := HDM.out; unfold dueT updE; rw [if_pos (by omega), if_pos rfl]; simp)
                have h2 := HE.out.1
                have h8 := HE.out.2.1
                clear hQ hQ2
                obtain ⟨cap3, hbk, _⟩ := HM3.out.rf.blk
                have c0 : w3.cell? ⟨x, 0, none⟩ = some (.int .i64 N) := hbk.cell 0
                have c3 : w3.cell? ⟨x, 3, none⟩ = some (.int .i64 nx0) := hbk.cell 3
                have hfz := hbk.frozen 3
                have hpl := hbk.lt
                clear hbk
                go_upto_region 16 with (fail)
                have HM4 := Lib.hid (HM3.out.next (q : Int))
                clear c0 c3 hfz hpl
                generalize w3.setCell ⟨x, 3, none⟩ (.int .i64 q) = w4 at HM4 ⊢
                obtain ⟨cap4, hbk, _⟩ := HM4.out.rf.blk
                have c1 : w4.cell? ⟨x, 1, none⟩ = some (.int .i64 me) := hbk.cell 1
                have c3 : w4.cell? ⟨x, 3, none⟩ = some (.int .i64 q) := hbk.cell 3
                clear hbk
                by_cases he : (q : Int) = (me : Int)
                · have hd : decide ((q : Int) = (me : Int)) = true := decide_eq_true he
                  have HST := Lib.hid (show stepN N me nx0 = q2 by unfold stepN; rw [if_pos (by rw [← HQ.out]; omega), HQ2.out])
                  have heb : ((q : Int) == (me : Int)) = true := by simp; omega
                  go_quiet (fail)
                  rename_i nq
                  have HM5 := Lib.hid (HM4.out.below ((Below.refl _ _).drewN nq))
                  generalize w4.drewN nq = w5 at HM5 ⊢
                  clear c1 c3 hd
                  go_upto_region 17 with (fail)
                  obtain ⟨cap5, hbk, _⟩ := HM5.out.rf.blk
                  have q0 : ∀ w', w5.drew = w' → w'.cell? ⟨x, 0, none⟩ = some (.int .i64 N) := fun w' h => h ▸ hbk.cell 0
                  have q1 : ∀ w', w5.drew = w' → w'.cell? ⟨x, 1, none⟩ = some (.int .i64 me) := fun w' h => h ▸ hbk.cell 1
                  have c3 : w5.drew.cell? ⟨x, 3, none⟩ = some (.int .i64 q) := hbk.cell 3
                  have hfz : w5.drew.frozen? ⟨x, 3, none⟩ = false := hbk.frozen 3
                  have hpl : x < w5.drew.heap.size := hbk.lt
                  have hN0 : ¬ N = 0 := by omega
                  have hwr : IntKind.i64.wrap ((me : Int) + 1) = (me : Int) + 1 := IntWalk.i64_in _ (by have := HE.out.2.2; omega)
                  have htm : ((me : Int) + 1).tmod (N : Int) = (q2 : Int) := by rw [Int.tmod_eq_emod_of_nonneg (by omega)]; exact hq2
                  clear hbk
                  refine wp_region_pure (fun a b => a = b) (fun _ => rfl) (fun _ _ _ h h' => h.trans h') [(0,3),(1,3),(2,3),(3,3),(4,0),(5,3),(6,3),(7,3),(8,3),(9,0),(10,3),(11,3),(12,3),(13,2)] (by kernel_rfl) (by kernel_rfl) ?_
                  iterate 4 (refine pure_pure (v := ?_) rfl (fun _ _ _ h => h) (by rfl) (fun w' => ?_) ?_; rotate_left; (go_simp; try with_reducible rfl); simp only [Act.put, List.setIfInBounds_toArray, List.set_cons_zero, List.set_cons_succ])
                  iterate 1 (refine pure_quiet (v := ?_) rfl (fun _ _ _ h => h) (by rfl) (fun w' hR => ?_) ?_; rotate_left; (go_simp; try with_reducible rfl); simp only [Act.put, List.setIfInBounds_toArray, List.set_cons_zero, List.set_cons_succ])
                  iterate 4 (refine pure_pure (v := ?_) rfl (fun _ _ _ h => h) (by rfl) (fun w' => ?_) ?_; rotate_left; (go_simp; try with_reducible rfl); simp only [Act.put, List.setIfInBounds_toArray, List.set_cons_zero, List.set_cons_succ])
                  iterate 1 (refine pure_quiet (v := ?_) rfl (fun _ _ _ h => h) (by rfl) (fun w' hR => ?_) ?_; rotate_left; (go_simp; try with_reducible rfl); simp only [Act.put, List.setIfInBounds_toArray, List.set_cons_zero, List.set_cons_succ])
                  iterate 3 (refine pure_pure (v := ?_) rfl (fun _ _ _ h => h) (by rfl) (fun w' => ?_) ?_; rotate_left; (go_simp; try with_reducible rfl); simp only [Act.put, List.setIfInBounds_toArray, List.set_cons_zero, List.set_cons_succ])
                  clear q0 q1
                  refine pure_eff2 rfl ?_
                  go_wp2_with fail
                  refine purePost_free ?_
                  refine pure_done ?_
                  have HM6 := Lib.hid ((HM5.out.next (q2 : Int)).below ((Below.refl _ _).drewN 1))
                  have e : (w5.setCell ⟨x, 3, none⟩ (.int .i64 (q2 : Int))).drewN 1 = (w5.setCell ⟨x, 3, none⟩ (.int .i64 (q2 : Int))).drew := rfl
                  rw [e] at HM6
                  clear c3 hfz hpl e
                  generalize (w5.setCell ⟨x, 3, none⟩ (.int .i64 (q2 : Int))).drew = w6 at HM6 ⊢
                  go_wp2_with fail
                  go_ret2
                  exact ⟨_, _, by rw [HRD.out]; rfl, HM6.out.out, by rw [HRD.out, if_pos rfl, HST.out]; exact HM6.out.rf, HXE.out, HXM.out, HM6.out.hop⟩
                · have hd : decide ((q : Int) = (me : Int)) = false := decide_eq_false he
                  have heb : ((q : Int) == (me : Int)) = false := by simp; omega
                  have HST := Lib.hid (show stepN N me nx0 = q by unfold stepN; rw [if_neg (by rw [← HQ.out]; omega), HQ.out])
                  go_quiet (fail)
                  rename_i nq
                  have HM5 := Lib.hid (HM4.out.below ((Below.refl _ _).drewN nq))
                  generalize w4.drewN nq = w5 at HM5 ⊢
                  clear c1 c3 hd
                  go_wp2_with fail
                  go_ret2
                  exact ⟨_, _, by rw [HRD.out]; rfl, HM5.out.out, by rw [HRD.out, if_pos rfl, HST.out]; exact HM5.out.rf, HXE.out, HXM.out, HM5.out.hop⟩
end Go.Proofs.Ytaennccfhdjaaaa
