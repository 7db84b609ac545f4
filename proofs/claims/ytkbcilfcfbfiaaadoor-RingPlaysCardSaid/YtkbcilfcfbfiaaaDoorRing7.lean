/- A ring: New. -/
import Derived.Test.YtkbcilfcfbfiaaaDoorRing6
namespace Go.Proofs.YtkbcilfcfbfiaaaDoor
open Go.RowKit Go.Proofs
set_option linter.unusedSimpArgs false
set_option linter.unusedVariables false
/-- The call's own row of strings. -/
def OwnT (w : World) (base : Nat) (v : Value) (ts : List ByteArray) : Prop := w.ownsRow base 9 1 v ts.length (ts.map Value.string)
theorem OwnT.nil (w : World) (base : Nat) : OwnT w base (.slice none 0 0) [] := ⟨rfl, .inl ⟨rfl, rfl⟩⟩
theorem OwnT.blk {w : World} {base : Nat} {v : Value} {ts : List ByteArray} (h : OwnT w base v ts) : ∀ k, v.ownBlock = some k → base ≤ k ∧ ∃ cs, Blk w k 9 cs := by
  obtain ⟨h1, ⟨rfl, h⟩ | ⟨g, cap, cur, rfl, h2, h3, h4, h5, h6, h7⟩⟩ := h
  · intro k hk; cases hk
  · intro k hk
    obtain rfl : g = k := by simpa [Value.ownBlock] using hk
    exact ⟨h2, cur, h3⟩
theorem OwnT.ne_ {w : World} {base r : Nat} {v : Value} {ts : List ByteArray} {t : TypeId} {cs : Array Value} (h : OwnT w base v ts) (hr : Blk w r t cs) (ht : t ≠ 9) : v.ownBlock ≠ some r := by
  intro e
  obtain ⟨_, cs', hb⟩ := h.blk r e
  exact hr.ne_ hb ht rfl
theorem OwnT.kept {w w' : World} {base : Nat} {v : Value} {ts : List ByteArray} (h : OwnT w base v ts) (hb : ∀ k, v.ownBlock = some k → w'.heap[k]? = w.heap[k]?) : OwnT w' base v ts := by
  obtain ⟨h1, h | ⟨g, cap, cur, rfl, h2, h3, r⟩⟩ := h
  · exact ⟨h1, .inl h⟩
  · exact ⟨h1, .inr ⟨g, cap, cur, rfl, h2, (hb g rfl).trans h3, r⟩⟩
theorem OwnT.below {w w' : World} {base : Nat} {v : Value} {ts : List ByteArray} (h : OwnT w base v ts) (hb : Below w.heap.size w w') : OwnT w' base v ts :=
  h.kept fun k hk => hb.block k (by obtain ⟨_, cs, hB⟩ := h.blk k hk; exact hB.lt)
theorem OwnT.cell {w : World} {base g n cap : Nat} {ts : List ByteArray} (h : OwnT w base (.slice (some ⟨g, 0, none⟩) n cap) ts) {j : Nat} {t : ByteArray} (hj : ts[j]? = some t) : w.cell? ⟨g, j, none⟩ = some (.string t) := by
  obtain ⟨h1, ⟨hv, _⟩ | ⟨g', cap', cur, hv, h2, h3, h4, h5, h6, h7⟩⟩ := h
  · cases hv
  · simp only [Value.slice.injEq, Option.some.injEq, Addr.mk.injEq] at hv
    obtain ⟨⟨rfl, _⟩, _, _⟩ := hv
    rw [cell_of_row w g j cur 9 (0, 0) h3]
    have hj2 := (List.getElem?_eq_some_iff.1 hj).1
    have e : (ts.map Value.string)[j]? = some (.string t) := by rw [List.getElem?_map, hj]; rfl
    rw [← h7, List.getElem?_take_of_lt (by omega)] at e
    simpa using e
theorem wpList_ownT {ops : Array Oper} {rest : List Oper} {o : Oper} {a : Act} {w : World} {Q : Exit → Act → World → Prop} (hgd : o.guard = none) (s x : Operand)
    (ho : o.op = .call { callee := .builtin .append, args := #[s, x], argTypes := #[31, 31] })
    (base : Nat) (v : Value) (xs : List ByteArray) (hs : a.eval s = v) (hown : OwnT w base v xs)
    (t : ByteArray) (hx : a.eval x = .slice (some ⟨w.heap.size, 0, none⟩) 1 1)
    (hn : xs.length + 1 ≤ 1000000000) (hbase : base ≤ w.heap.size)
    (h : ∀ v' w', OwnT w' base v' (xs ++ [t]) → (w.alloc (.cells #[.string t] 9)).grownBy w' v.ownBlock → wpList Tryd.prog ops Q rest (a.put o.dst v') w') : wpList Tryd.prog ops Q (o :: rest) a (w.alloc (.cells #[.string t] 9)) := by
  have hs9 : (Tryd.prog.info? 9).map (fun i => (i.size, i.bytes, i.zero)) = some (1, 16, some (.string { data := #[] })) := by kernel_rfl
  obtain ⟨i, hi, hi2⟩ := Option.map_eq_some_iff.1 hs9
  simp only [Prod.mk.injEq] at hi2
  obtain ⟨e1, e2, e3⟩ := hi2
  have hb := Blk.new w 9 #[.string t]
  have hown2 : (w.alloc (.cells #[.string t] 9)).ownsRow base 9 1 v xs.length (xs.map Value.string) := hown.kept fun k hk => Below.heap_alloc w _ k (by obtain ⟨_, cs, hB⟩ := hown.blk k hk; exact hB.lt)
  refine wpList_append_own (w.alloc (.cells #[.string t] 9)) hgd s x 31 ho base 9 i (.string { data := #[] }) 1 16 Tryd.underlying31 hi e3 e1 e2 rfl (by omega) v xs.length (xs.map Value.string) hs hown2 ⟨w.heap.size, 0, none⟩ 1 1 [.string t] hx rfl ?_ (by intro y hy; obtain rfl := List.mem_singleton.1 hy; rfl) (by simp [maxLen]; omega) (by omega) (by simp; omega) ?_
  · intro j y hj
    match j, hj with
    | 0, hj =>
      obtain rfl := Option.some.inj hj
      rw [Addr.add_mid]
      exact hb.cell 0
  · intro v' w' h2 h3 _
    refine h v' w' ?_ h3
    unfold OwnT
    rw [List.length_append, List.map_append]
    exact h2
/-- The keys of the first clients. -/
def keysTo (sd : ByteArray) (n : Nat) : List ByteArray := (List.range n).map (keyS sd)
theorem keysTo_length (sd : ByteArray) (n : Nat) : (keysTo sd n).length = n := by unfold keysTo; simp
theorem keysTo_next (sd : ByteArray) (n : Nat) : keysTo sd n ++ [keyS sd n] = keysTo sd (n + 1) := by unfold keysTo; rw [List.range_succ, List.map_append]; rfl
theorem keysTo_get (sd : ByteArray) {n j : Nat} (h : j < n) : (keysTo sd n)[j]? = some (keyS sd j) := by unfold keysTo; simp [h]
set_option maxRecDepth 100000 in
set_option maxHeartbeats 2000000 in
theorem key_any (sd : ByteArray) (j s0 : Nat) (hj : j < 1000) (hs : sd.size ≤ 64) (w : World) (hk : Consts w) (hB : Blk w s0 9 #[.string sd]) :
    Calls Tryd.prog 74 #[.int .i64 j, .pointer (some ⟨s0, 0, none⟩)] w fun e w' => e = .returned (.string (keyS sd j)) ∧ Below w.heap.size w w' := by
  have h0 := hB.cell 0
  have HK := Lib.hid hk
  clear hk hB
  go_enter Tryd.func74, Tryd.ntmps74
  go_wp2_with fail
  refine (make_any sd clientT j (by omega) (by omega) w HK.out (by omega)).mono ?_
  rintro e w2 ⟨rfl, hb⟩
  have HB := Lib.hid hb
  clear hb
  generalize hX : strOf (madeOf (by_ sd) (by_ clientT) j) = R
  have HX := Lib.hid (show keyS sd j = R from hX)
  clear hX
  go_wp2_with fail
  go_ret
  exact ⟨by rw [HX.out]; rfl, HB.out⟩
set_option maxRecDepth 100000 in
set_option maxHeartbeats 2000000 in
theorem new_bad (sd : ByteArray) (c : Int) (w : World) (h : ¬ (2 ≤ c ∧ c ≤ 8 ∧ sd.size ≤ 64)) :
    Calls Tryd.prog 46 #[.string sd, .int .i64 c] w fun e w' => e = .returned (.tuple #[.pointer none, .int .i64 2]) ∧ Below w.heap.size w w' := by
  by_cases c1 : c < 2
  · go_enter Tryd.func46, Tryd.ntmps46
    have g1 : decide (c < 2) = true := decide_eq_true c1
    go_wp2_with fail
    go_ret2
    exact ⟨rfl, (Below.refl _ _).alloc (Nat.le_refl _) _⟩
  · have g1 : decide (c < 2) = false := decide_eq_false c1
    by_cases c2 : 8 < c
    · have g2 : decide (8 < c) = true := decide_eq_true c2
      go_enter Tryd.func46, Tryd.ntmps46
      go_wp2_with fail
      go_ret2
      exact ⟨rfl, (Below.refl _ _).alloc (Nat.le_refl _) _⟩
    · have g2 : decide (8 < c) = false := decide_eq_false c2
      have g3 : decide ((64 : Int) < (sd.size : Int)) = true := decide_eq_true (by omega)
      go_enter Tryd.func46, Tryd.ntmps46
      go_wp2_with fail
      go_ret2
      exact ⟨rfl, (Below.refl _ _).alloc (Nat.le_refl _) _⟩
/-- Behind New. -/
def NewP (sd : ByteArray) (N : Nat) (w : World) (e : Ending) (w' : World) : Prop :=
  ∃ r g cap b, e = .returned (.tuple #[.pointer (some ⟨r, 0, none⟩), .int .i64 0]) ∧ RingAt w' r g cap b sd N [] ∧ Below w.heap.size w w' ∧ w.heap.size ≤ b
set_option maxRecDepth 100000 in
set_option maxHeartbeats 4000000 in
theorem ring_new (sd : ByteArray) (N : Nat) (w : World) (hk : Consts w) (h2 : 2 ≤ N) (h8 : N ≤ 8) (hs : sd.size ≤ 64) :
    Calls Tryd.prog 46 #[.string sd, .int .i64 N] w (NewP sd N w) := by
  have g1 : decide ((N : Int) < 2) = false := decide_eq_false (by omega)
  have g2 : decide (8 < (N : Int)) = false := decide_eq_false (by omega)
  have g3 : decide ((64 : Int) < (sd.size : Int)) = false := decide_eq_false (by omega)
  have hmm := @run_makeMap Tryd.prog
  go_enter Tryd.func46, Tryd.ntmps46
  go_upto_region 5 with (fail)
  have hw3 : Below w.heap.size w (((w.alloc (.cells #[.string sd] 9)).alloc (.map #[] 0)).alloc (.cells #[.string sd, .slice none 0 0, .map (some (w.heap.size + 1))] 108)) := (((Below.refl _ _).alloc (Nat.le_refl _) _).alloc (by simp) _).alloc (by simp; omega) _
  have hS0 : Blk (((w.alloc (.cells #[.string sd] 9)).alloc (.map #[] 0)).alloc (.cells #[.string sd, .slice none 0 0, .map (some (w.heap.size + 1))] 108)) w.heap.size 9 #[.string sd] := ((Blk.new w 9 _).alloc _).alloc _
  have hMp : BookAt (((w.alloc (.cells #[.string sd] 9)).alloc (.map #[] 0)).alloc (.cells #[.string sd, .slice none 0 0, .map (some (w.heap.size + 1))] 108)) (w.heap.size + 1) [] := by
    have := BookAt.new (w.alloc (.cells #[.string sd] 9))
    rw [World.size_alloc] at this
    exact this.alloc _
  have hRg : Blk (((w.alloc (.cells #[.string sd] 9)).alloc (.map #[] 0)).alloc (.cells #[.string sd, .slice none 0 0, .map (some (w.heap.size + 1))] 108)) (w.heap.size + 1 + 1) 108 #[.string sd, .slice none 0 0, .map (some (w.heap.size + 1))] := by
    have := Blk.new ((w.alloc (.cells #[.string sd] 9)).alloc (.map #[] 0)) 108 #[.string sd, .slice none 0 0, .map (some (w.heap.size + 1))]
    rwa [World.size_alloc, World.size_alloc] at this
  generalize ((w.alloc (.cells #[.string sd] 9)).alloc (.map #[] 0)).alloc (.cells #[.string sd, .slice none 0 0, .map (some (w.heap.size + 1))] 108) = w3 at hw3 hS0 hMp hRg ⊢
  have HK := Lib.hid hk
  have HB0 := Lib.hid hw3
  have HS0 := Lib.hid hS0
  have HM0 := Lib.hid hMp
  have HR0 := Lib.hid hRg
  clear hk hw3 hS0 hMp hRg g1 g2 g3 hmm
  go_wp2_with fail
  go_loopw [26] (fun v26 wr => ∃ i : Nat, i ≤ N ∧ v26 = .int .i64 (i : Int) ∧ (∃ vr, Blk wr (w.heap.size + 1 + 1) 108 #[.string sd, vr, .map (some (w.heap.size + 1))] ∧ OwnT wr (w.heap.size + 1) vr (keysTo sd i)) ∧ BookAt wr (w.heap.size + 1) [] ∧ Blk wr w.heap.size 9 #[.string sd] ∧ Below w.heap.size w wr) (fun v26 _ => N - (intOf v26).toNat)
  case atStart => exact ⟨0, by omega, rfl, ⟨_, HR0.out, OwnT.nil _ _⟩, HM0.out, HS0.out, HB0.out⟩
  case round =>
    obtain ⟨i, hi, rfl, ⟨vr, hR, hO⟩, hM, hS, hB⟩ := hrel
    clear HB0 HS0 HM0 HR0
    have HK := Lib.hid (HK.out.below hB)
    have HB := Lib.hid hB
    have HS := Lib.hid hS
    have HM := Lib.hid hM
    have HR := Lib.hid hR
    have HO := Lib.hid hO
    clear hB hS hM hR hO
    by_cases hlt : i < N
    · have i1 : (i : Int) < (N : Int) := by omega
      have hrn : ∀ cs t, Blk wr (w.heap.size + 1 + 1) t cs → w.heap.size + 1 + 1 < wr.heap.size := fun _ _ h => h.lt
      have HLT := Lib.hid HR.out.lt
      go_upto_region 8 with (fail)
      have e1 : ∀ w', KeptOn (fun q => q = w.heap.size + 1 + 1) wr.drew w' → w'.cell? ⟨w.heap.size + 1 + 1, 1, none⟩ = some vr := fun w' h => h.cell (w := wr.drew) (HR.out.cell 1) rfl
      refine wp_region_keep (KeptOn fun q => q = w.heap.size + 1 + 1) (KeptOn.refl _) (KeptOn.trans) [(0,0),(1,0),(2,0),(3,0),(4,0),(5,0),(6,0),(7,1),(8,1),(9,1),(10,0),(11,0),(12,2)] (by kernel_rfl) (by kernel_rfl) ?_
      iterate 7 (refine keep_quiet (v := ?_) rfl (fun _ _ _ h => h) (by rfl) (fun w' hR => ?_) ?_; rotate_left; (go_simp; try with_reducible rfl); simp only [Act.put, List.setIfInBounds_toArray, List.set_cons_zero, List.set_cons_succ])
      clear e1
      refine keep_eff rfl ?_
      go_wp2_with fail
      refine (key_any sd i w.heap.size (by omega) hs wr.drew HK.out HS.out).mono ?_
      rintro e w4 ⟨rfl, hb⟩
      have HKe := Lib.hid (show KeptOn (fun q => q = w.heap.size + 1 + 1) wr.drew w4 from KeptOn.below hb (fun b hb _ => hb))
      have HR := Lib.hid (Blk.below (show Blk wr.drew _ 108 _ from HR.out) hb HR.out.lt)
      have HS := Lib.hid (Blk.below (show Blk wr.drew _ 9 _ from HS.out) hb HS.out.lt)
      have HM := Lib.hid (HM.out.drew.below hb)
      have HO := Lib.hid (OwnT.below (show OwnT wr.drew _ _ _ from HO.out) hb)
      have HB := Lib.hid (Below.trans (show Below w.heap.size w wr.drew from HB.out.drewN 1) (hb.mono HB.out.size))
      clear hb
      have HN := Lib.hid (keysTo_next sd i)
      generalize keyS sd i = K at HN ⊢
      go_wp2_with fail
      refine keepPost_need HKe.out ?_
      refine keep_eff rfl ?_
      go_wp2_with fail
      refine keepPost_need (KeptOn.alloc _ _) ?_
      refine keep_eff rfl ?_
      refine wpList_ownT rfl _ _ rfl (w.heap.size + 1) vr (keysTo sd i) rfl HO.out K rfl (by rw [keysTo_length]; omega) (by have := HR.out.lt; omega) ?_
      intro v' w' hO hG
      rw [HN.out] at hO
      simp only [Act.put]
      have n1 : vr.ownBlock ≠ some (w.heap.size + 1 + 1) := HO.out.ne_ HR.out (by decide)
      have n2 : vr.ownBlock ≠ some w.heap.size := fun e => by have := (HO.out.blk _ e).1; omega
      have n3 : vr.ownBlock ≠ some (w.heap.size + 1) := fun e => by
        obtain ⟨_, cs, hb⟩ := HO.out.blk _ e
        exact HM.out.ne_ hb rfl
      have n4 : ∀ k, vr.ownBlock = some k → w.heap.size ≤ k := fun k e => by have := (HO.out.blk _ e).1; omega
      have HKe := Lib.hid (show KeptOn (fun q => q = w.heap.size + 1 + 1) (w4.alloc (.cells #[.string K] 9)) w' from KeptOn.grown hG (fun g hg e => n1 (by rw [hg, e])))
      have HG := Lib.hid (grownBy_trans (World.grownBy_alloc w4 (.cells #[.string K] 9) vr.ownBlock) hG)
      have HR := Lib.hid (HR.out.grown HG.out (fun e => n1 e.symm))
      have HS := Lib.hid (HS.out.grown HG.out (fun e => n2 e.symm))
      have HM := Lib.hid (HM.out.kept HG.out (fun e => n3 e.symm))
      have HB := Lib.hid (HB.out.grown HG.out HB.out.size n4)
      have HO := Lib.hid hO
      clear hO hG n1 n2 n3 n4 HG HN
      refine wpList_nil ?_
      refine keepPost_need HKe.out ?_
      clear HKe
      iterate 2 (refine keep_quiet (v := ?_) rfl (fun _ _ _ h => h) (by rfl) (fun w' hR => ?_) ?_; rotate_left; (go_simp; try with_reducible rfl); simp only [Act.put, List.setIfInBounds_toArray, List.set_cons_zero, List.set_cons_succ])
      obtain ⟨g2, cap2, hv'⟩ : ∃ g cap, v' = .slice (some ⟨g, 0, none⟩) (i + 1) cap := by
        have h := own_form (n := (keysTo sd (i + 1)).length) HO.out (by rw [keysTo_length]; omega)
        rwa [keysTo_length] at h
      subst hv'
      generalize hi1 : i + 1 = m at HR HS HM HO HB ⊢
      have HI1 := Lib.hid hi1
      clear hi1
      have r1 := HR.out.cell 1
      have f1 := HR.out.frozen 1
      refine keep_eff rfl ?_
      go_wp2_with fail
      clear r1 f1
      refine keepPost_free ?_
      refine keep_done ?_
      have hR2 := HR.out.set_ 1 (Value.slice (some ⟨g2, 0, none⟩) m cap2)
      have hn9 : (Value.slice (some ⟨g2, 0, none⟩) m cap2).ownBlock ≠ some (w.heap.size + 1 + 1) := HO.out.ne_ HR.out (by decide)
      have HS := Lib.hid (HS.out.far (p := ⟨w.heap.size + 1 + 1, 1, none⟩) (by show w.heap.size ≠ w.heap.size + 1 + 1; omega) (Value.slice (some ⟨g2, 0, none⟩) m cap2))
      have HM := Lib.hid (HM.out.block (w' := w'.setCell ⟨w.heap.size + 1 + 1, 1, none⟩ (Value.slice (some ⟨g2, 0, none⟩) m cap2)) (Below.heap_setCell w' _ (Value.slice (some ⟨g2, 0, none⟩) m cap2) _ (by show w.heap.size + 1 ≠ w.heap.size + 1 + 1; omega)))
      have HO := Lib.hid (HO.out.kept (w' := w'.setCell ⟨w.heap.size + 1 + 1, 1, none⟩ (Value.slice (some ⟨g2, 0, none⟩) m cap2)) (fun k hk => Below.heap_setCell w' _ (Value.slice (some ⟨g2, 0, none⟩) m cap2) _ (by rintro rfl; exact hn9 hk)))
      have HB := Lib.hid (HB.out.setCell (p := ⟨w.heap.size + 1 + 1, 1, none⟩) (by show w.heap.size ≤ w.heap.size + 1 + 1; omega) (Value.slice (some ⟨g2, 0, none⟩) m cap2))
      have HR := Lib.hid (show Blk (w'.setCell ⟨w.heap.size + 1 + 1, 1, none⟩ (Value.slice (some ⟨g2, 0, none⟩) m cap2)) (w.heap.size + 1 + 1) 108 #[.string sd, .slice (some ⟨g2, 0, none⟩) m cap2, .map (some (w.heap.size + 1))] from hR2)
      clear hR2 hn9
      generalize w'.setCell ⟨w.heap.size + 1 + 1, 1, none⟩ (Value.slice (some ⟨g2, 0, none⟩) m cap2) = w6 at HS HM HO HB HR ⊢
      go_wp2_with fail
      go_roundw
      case rel => exact ⟨i + 1, by omega, by go_num, ⟨_, HR.out, by rw [HI1.out]; exact HO.out⟩, HM.out, HS.out, HB.out⟩
      case measure => simp [intOf]; omega
    · have hiN : i = N := by omega
      subst hiN
      have i1 : ¬ (i : Int) < (i : Int) := by omega
      obtain ⟨g, cap, rfl⟩ : ∃ g cap, vr = .slice (some ⟨g, 0, none⟩) i cap := by
        have h := own_form (n := (keysTo sd i).length) HO.out (by rw [keysTo_length]; omega)
        rwa [keysTo_length] at h
      go_wp2_with fail
      go_ret2
      exact ⟨w.heap.size + 1 + 1, g, cap, w.heap.size + 1, rfl, ⟨HR.out, fun j hj => HO.out.cell (keysTo_get sd hj), HM.out, h2, h8⟩, HB.out, by omega⟩
end Go.Proofs.YtkbcilfcfbfiaaaDoor
