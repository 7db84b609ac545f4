/- The reference's disk: Crash. -/
import Derived.Test.YtnddkodenkmoiaaRdk3
import Derived.Test.YtnddkodenkmoiaaCelq
import Derived.Laws.Concat
namespace Go.Proofs.Ytnddkodenkmoiaa
open Go.RowKit Go.Proofs
set_option linter.unusedSimpArgs false
set_option linter.unusedVariables false
theorem looseTo_loose (L : List Sec) : ∀ (ks : List Int) (c t : Nat) (s : Sec), (looseTo L L.length)[c]? = some t → (tearSt (looseTo L L.length) ks L c)[t]? = some s → s.loose = true := by
  intro ks c t s ht hs
  have hc := (List.getElem?_eq_some_iff.1 ht).1
  have hn := looseTo_nodup L L.length
  have hnot : t ∉ (looseTo L L.length).take c := by
    intro hm
    obtain ⟨j, hj⟩ := List.getElem?_of_mem hm
    have hjc : j < c := by
      have := (List.getElem?_eq_some_iff.1 hj).1
      rw [List.length_take] at this; omega
    rw [List.getElem?_take_of_lt hjc] at hj
    have := (List.getElem?_inj (by omega) hn).1 (hj.trans ht.symm)
    omega
  rw [tearSt_get _ _ _ hn c (by omega), if_neg hnot] at hs
  obtain ⟨s', h1, h2⟩ := (mem_looseTo L t).1 (List.mem_of_getElem? ht)
  rw [hs] at h1
  rw [Option.some.inj h1]; exact h2
theorem size_tear {a b : List UInt8} (h : a.length = 64) (k : Nat) : ((strOf a).extract 0 k).size + ((strOf b).extract k 64).size ≤ 9223372036854775807 := by
  have e : (strOf a).size = 64 := h
  simp only [ByteArray.size_extract]
  omega
theorem strOf_size64 {l : List UInt8} (h : l.length = 64) : (strOf l).size = 64 := h
/-- v is a row of ints, far from the reference's disk. -/
def KeepR (x gl go : Nat) (w : World) (v : Value) (ks : List Int) : Prop :=
  ∃ o c, v = .slice o ks.length c ∧ ks.length ≤ c ∧ ∀ j k, ks[j]? = some k → ∃ a, o = some a ∧ w.cell? (a.add j) = some (.int .i64 k) ∧ a.block ≠ x ∧ a.block ≠ gl ∧ a.block ≠ go
theorem cat_tear (s : Sec) (h1 : s.b.length = 64) (h2 : s.old.length = 64) (k : Nat) (hk : k ≤ 64) : (strOf s.b).extract 0 k ++ (strOf s.old).extract k 64 = strOf (s.b.take k ++ s.old.drop k) := by
  have e : ∀ (l : List UInt8) (a b : Nat), (strOf l).extract a b = strOf ((l.take b).drop a) := fun l a b => by
    unfold strOf
    ext1
    simp [ByteArray.data_extract, List.extract_eq_take_drop, List.drop_take]
  rw [e, e, List.drop_zero, List.take_of_length_le (Nat.le_of_eq h2)]
  unfold strOf
  ext1
  simp
set_option maxRecDepth 100000 in
set_option maxHeartbeats 4000000 in
theorem crashR_any (x gl go cl co : Nat) (X : Dk) (v : Value) (ks : List Int) (w : World) (h : RD w x gl go cl co X) (hk : KeepR x gl go w v ks) (hkl : ks.length ≤ 9223372036854775807) :
    Calls Try.prog 43 #[.pointer (some ⟨x, 0, none⟩), v] w fun e w' => e = .returned (.tuple #[]) ∧ RD w' x gl go cl co (X.crash ks) ∧ Only3 x gl go w w' := by
  have H := Lib.hid h
  obtain ⟨ok, ck, rfl, hkc, hkr⟩ := hk
  have HK := Lib.hid hkr
  clear h hkr
  go_enter Try.func43, Try.ntmps43
  go_wp2_with fail
  refine (looseR_any x gl go cl co X w H.out).mono ?_
  rintro e w1 ⟨v1, rfl, hO, hB⟩
  have hd1 := H.out.head.lt
  have hg1 := H.out.now.lt
  have ho1 := H.out.old.lt
  obtain ⟨a1, c1, rfl, hc1⟩ : ∃ a c, v1 = .slice a (looseTo X.L X.L.length).length c ∧ ∀ (j : Nat) (t : Nat), (looseTo X.L X.L.length)[j]? = some t → ∃ q, a = some q ∧ w1.cell? (q.add j) = some (.int .i64 (t : Int)) ∧ q.block ≠ x ∧ q.block ≠ gl ∧ q.block ≠ go := by
    have hr := hO.row
    have hlt := hO.lt
    have hlen : (looseI X.L X.L.length).length = (looseTo X.L X.L.length).length := by unfold looseI; rw [List.length_map]
    have hget : ∀ (j : Nat) (t : Nat), (looseTo X.L X.L.length)[j]? = some t → (looseI X.L X.L.length)[j]? = some (t : Int) := fun j t h => by unfold looseI; rw [List.getElem?_map, h]; rfl
    rcases hr with ⟨rfl, h⟩ | ⟨a, c, rfl, h⟩
    · rw [h] at hlen hget
      exact ⟨none, 0, by rw [← hlen]; rfl, fun j t h => absurd (hget j t h) (by simp)⟩
    · refine ⟨some a, c, by rw [hlen], fun j t hj => ⟨a, rfl, h j _ (hget j t hj), ?_, ?_, ?_⟩⟩
      all_goals have := (hlt a.block rfl).1; omega
  have HC := Lib.hid hc1
  clear hc1 hO
  have hll := looseI_length X.L X.L.length
  unfold looseI at hll
  rw [List.length_map] at hll
  have hlen := H.out.top
  have HB := Lib.hid hB
  have HLM := Lib.hid (show ∀ t ∈ looseTo X.L X.L.length, t < X.L.length from fun t ht => by
    unfold looseTo at ht
    exact List.mem_range.1 (List.mem_filter.1 ht).1)
  have HLL := Lib.hid (looseTo_loose X.L)
  clear hB
  have HX := Lib.hid (show X.crash ks = ⟨tearSt (looseTo X.L X.L.length) ks X.L (looseTo X.L X.L.length).length, 0, false⟩ from rfl)
  generalize looseTo X.L X.L.length = LI at HC hll HX HLM HLL ⊢
  go_wp2_with fail
  go_loopw [5, 6, 7] (fun v5 _ _ wr => ∃ c : Nat, c ≤ LI.length ∧ v5 = .int .i64 (c : Int) ∧ RD wr x gl go cl co { X with L := tearSt LI ks X.L c } ∧ Only3 x gl go w1 wr) (fun v5 _ _ _ => LI.length - (intOf v5).toNat)
  case atStart => exact ⟨0, by omega, rfl, H.out.below HB.out, Only3.refl _ _ _ _⟩
  case round =>
    obtain ⟨c, hc, rfl, hD, hO⟩ := hrel
    have HD := Lib.hid hD
    have HO := Lib.hid hO
    clear hD hO
    by_cases hlt : c < LI.length
    · have i1 : (c : Int) < (LI.length : Int) := by omega
      obtain ⟨t, ht⟩ : ∃ t, LI[c]? = some t := ⟨_, List.getElem?_eq_getElem hlt⟩
      have htl := HLM.out t (List.mem_of_getElem? ht)
      obtain ⟨q, rfl, hq, hqx, hqg, hqo⟩ := HC.out c t ht
      have hq2 := HO.out.cell hq (by rw [add_block]; exact hqx) (by rw [add_block]; exact hqg) (by rw [add_block]; exact hqo)
      obtain ⟨s, hs⟩ : ∃ s, (tearSt LI ks X.L c)[t]? = some s := ⟨_, List.getElem?_eq_getElem (by rw [tearSt_length]; exact htl)⟩
      have hso : s.ok := HD.out.ok s (List.mem_of_getElem? hs)
      have HLO := Lib.hid (show s.loose = true from HLL.out ks c t s ht hs)
      have HN := Lib.hid (show tearSt LI ks X.L (c + 1) = (tearSt LI ks X.L c).set t (s.tear (kAt ks c)) by
        show tearAt (tearSt LI ks X.L c) (LI.getD c 0) (kAt ks c) = _
        rw [List.getD_eq_getElem?_getD, ht]
        show tearAt (tearSt LI ks X.L c) t (kAt ks c) = _
        unfold tearAt; rw [hs])
      have HSS := Lib.hid hs
      have HSO := Lib.hid hso
      have c0 := HD.out.row0
      have c1 := HD.out.row1
      simp only [tearSt_length] at c0 c1
      have t1 : (t : Int) < (X.L.length : Int) := by omega
      clear hs hso hq ht hqx hqg hqo
      by_cases hks : c < ks.length
      · have i2 : (c : Int) < (ks.length : Int) := by omega
        obtain ⟨kk, hkk⟩ : ∃ k, ks[c]? = some k := ⟨_, List.getElem?_eq_getElem hks⟩
        obtain ⟨ak, rfl, hak, h1, h2, h3⟩ := HK.out c kk hkk
        have hak2 := HO.out.cell ((HB.out.cell (World.block_lt_of_cell? w _ hak)).trans hak) (by rw [add_block]; exact h1) (by rw [add_block]; exact h2) (by rw [add_block]; exact h3)
        have hkA : kAt ks c = kk.toNat % 65 := by unfold kAt; rw [List.getD_eq_getElem?_getD, hkk]; rfl
        clear hak h1 h2 h3
        by_cases hkn : 0 < kk
        · have hcat := cat_tear s HSO.out.1 HSO.out.2 (kAt ks c) (kAt_le ks c)
          have HCAT := Lib.hid (show ∀ w', (Op.stringOp .add ((strOf s.b).extract 0 (kAt ks c)) ((strOf s.old).extract (kAt ks c) 64)).run Try.prog w' = .ok (.string (strOf (s.b.take (kAt ks c) ++ s.old.drop (kAt ks c)))) w' from fun w' => by
            rw [← hcat]
            exact run_string_add_sum w' _ _ (size_tear HSO.out.1 _))
          clear hcat
          have hk64 := kAt_le ks c
          go_upto_region 7 with (fail)
          rw [show kk % 65 = ((kAt ks c : Nat) : Int) from by omega]
          clear hak2 hkA
          as_aux_lemma =>
            go_upto_region 8 with (fail)
            clear hq2
            have e0 : ∀ w', wr.drew = w' → w'.cell? ⟨x, 0, none⟩ = some (.slice (some ⟨gl, 0, none⟩) X.L.length cl) := fun w' h => h ▸ c0
            have e1 : ∀ w', wr.drew = w' → w'.cell? ⟨x, 1, none⟩ = some (.slice (some ⟨go, 0, none⟩) X.L.length co) := fun w' h => h ▸ c1
            have e2 : ∀ w', wr.drew = w' → w'.cell? ⟨gl, t, none⟩ = some (.string (strOf s.b)) := fun w' h => h ▸ (HD.out.sec HSS.out).1
            have e3 : ∀ w', wr.drew = w' → w'.cell? ⟨go, t, none⟩ = some (.string (strOf s.old)) := fun w' h => by have := (HD.out.sec HSS.out).2; rw [show s.oldS = strOf s.old by unfold Sec.oldS; rw [HLO.out]; rfl] at this; exact h ▸ this
            clear c0 c1
            have HD1 := Lib.hid HD.out.drew
            have HO1 := Lib.hid HO.out.drew
            have z1 : (strOf s.b).size = 64 := by rw [strOf_size64 HSO.out.1]
            have z2 : (strOf s.old).size = 64 := by rw [strOf_size64 HSO.out.2]
            have hcat := HCAT.out
            have z3 : ((kAt ks c : Nat) : Int) ≤ 64 := by have := kAt_le ks c; omega
            have z4 : (0 : Int) ≤ ((kAt ks c : Nat) : Int) := by omega
            have z5 : kAt ks c ≤ 64 := kAt_le ks c
            generalize strOf s.b = A at e2 z1 hcat
            generalize strOf s.old = B at e3 z2 hcat
            generalize hw1 : wr.drew = w2 at e0 e1 e2 e3 HD1 HO1
            refine wp_region_pure (fun a b => a = b) (fun _ => rfl) (fun _ _ _ h h' => h.trans h') [(0,3),(1,3),(2,3),(3,0),(4,3),(5,3),(6,3),(7,3),(8,0),(9,3),(10,3),(11,0),(12,3),(13,3),(14,3),(15,3),(16,3),(17,0),(18,3),(19,3),(20,0),(21,3),(22,3),(23,3),(24,3),(25,2)] (by kernel_rfl) (by kernel_rfl) ?_
            rw [hw1]
            clear hw1
            iterate 3 (refine pure_pure (v := ?_) rfl (fun _ _ _ h => h) (by rfl) (fun w' => ?_) ?_; rotate_left; (go_simp; try with_reducible rfl); simp only [Act.put, List.setIfInBounds_toArray, List.set_cons_zero, List.set_cons_succ])
            iterate 1 (refine pure_quiet (v := ?_) rfl (fun _ _ _ h => h) (by rfl) (fun w' hR => ?_) ?_; rotate_left; (go_simp; try with_reducible rfl); simp only [Act.put, List.setIfInBounds_toArray, List.set_cons_zero, List.set_cons_succ])
            iterate 4 (refine pure_pure (v := ?_) rfl (fun _ _ _ h => h) (by rfl) (fun w' => ?_) ?_; rotate_left; (go_simp; try with_reducible rfl); simp only [Act.put, List.setIfInBounds_toArray, List.set_cons_zero, List.set_cons_succ])
            iterate 1 (refine pure_quiet (v := ?_) rfl (fun _ _ _ h => h) (by rfl) (fun w' hR => ?_) ?_; rotate_left; (go_simp; try with_reducible rfl); simp only [Act.put, List.setIfInBounds_toArray, List.set_cons_zero, List.set_cons_succ])
            iterate 2 (refine pure_pure (v := ?_) rfl (fun _ _ _ h => h) (by rfl) (fun w' => ?_) ?_; rotate_left; (go_simp; try with_reducible rfl); simp only [Act.put, List.setIfInBounds_toArray, List.set_cons_zero, List.set_cons_succ])
            iterate 1 (refine pure_quiet (v := ?_) rfl (fun _ _ _ h => h) (by rfl) (fun w' hR => ?_) ?_; rotate_left; (go_simp; try with_reducible rfl); simp only [Act.put, List.setIfInBounds_toArray, List.set_cons_zero, List.set_cons_succ])
            iterate 5 (refine pure_pure (v := ?_) rfl (fun _ _ _ h => h) (by rfl) (fun w' => ?_) ?_; rotate_left; (go_simp; try with_reducible rfl); simp only [Act.put, List.setIfInBounds_toArray, List.set_cons_zero, List.set_cons_succ])
            iterate 1 (refine pure_quiet (v := ?_) rfl (fun _ _ _ h => h) (by rfl) (fun w' hR => ?_) ?_; rotate_left; (go_simp; try with_reducible rfl); simp only [Act.put, List.setIfInBounds_toArray, List.set_cons_zero, List.set_cons_succ])
            iterate 2 (refine pure_pure (v := ?_) rfl (fun _ _ _ h => h) (by rfl) (fun w' => ?_) ?_; rotate_left; (go_simp; try with_reducible rfl); simp only [Act.put, List.setIfInBounds_toArray, List.set_cons_zero, List.set_cons_succ])
            iterate 1 (refine pure_quiet (v := ?_) rfl (fun _ _ _ h => h) (by rfl) (fun w' hR => ?_) ?_; rotate_left; (go_simp; try with_reducible rfl); simp only [Act.put, List.setIfInBounds_toArray, List.set_cons_zero, List.set_cons_succ])
            iterate 4 (refine pure_pure (v := ?_) rfl (fun _ _ _ h => h) (by rfl) (fun w' => ?_) ?_; rotate_left; (go_simp; try with_reducible rfl); simp only [Act.put, List.setIfInBounds_toArray, List.set_cons_zero, List.set_cons_succ])
            clear e0 e1 e2 e3 hcat z1 z2 z3 z4 z5
            have c1 := (HD1.out.sec HSS.out).1
            have f1 := HD1.out.now.frozen t
            refine pure_eff2 rfl ?_
            go_wp2_with fail
            refine purePost_free ?_
            refine pure_done ?_
            clear c1 f1
            have hn := HD1.out.storeNow (s' := { s with b := s.b.take (kAt ks c) ++ s.old.drop (kAt ks c) }) HSS.out (tear_ok HSO.out _ (kAt_le ks c)) rfl
            have HO := Lib.hid (HO1.out.set_ (p := ⟨gl, t, none⟩) (.inr (.inl rfl)) (.string (strOf (s.b.take (kAt ks c) ++ s.old.drop (kAt ks c)))))
            generalize w2.setCell ⟨gl, t, none⟩ (.string (strOf (s.b.take (kAt ks c) ++ s.old.drop (kAt ks c)))) = w3 at hn HO ⊢
            have HD2 := Lib.hid hn
            clear hn HD HD1 HO1
            have c1 := HD2.out.row1
            rw [show (DkS { X with L := tearSt LI ks X.L c } t { s with b := s.b.take (kAt ks c) ++ s.old.drop (kAt ks c) }).L.length = X.L.length from by unfold DkS; rw [List.length_set]; exact tearSt_length _ _ _ _] at c1
            have hs2 : (DkS { X with L := tearSt LI ks X.L c } t { s with b := s.b.take (kAt ks c) ++ s.old.drop (kAt ks c) }).L[t]? = some { s with b := s.b.take (kAt ks c) ++ s.old.drop (kAt ks c) } := List.getElem?_set_self (by rw [tearSt_length]; exact htl)
            have hc := (HD2.out.sec hs2).2
            have hf := HD2.out.old.frozen t
            have hn := HD2.out.storeOld (s' := s.tear (kAt ks c)) hs2 (tear_ok HSO.out _ (kAt_le ks c)) rfl
            rw [show (s.tear (kAt ks c)).oldS = ⟨#[]⟩ from rfl, show DkS (DkS { X with L := tearSt LI ks X.L c } t { s with b := s.b.take (kAt ks c) ++ s.old.drop (kAt ks c) }) t (s.tear (kAt ks c)) = { X with L := tearSt LI ks X.L (c + 1) } by
              unfold DkS; rw [List.set_set, HN.out]] at hn
            have HD3 := Lib.hid hn
            have HO3 := Lib.hid (HO.out.set_ (p := ⟨go, t, none⟩) (.inr (.inr rfl)) (.string ⟨#[]⟩))
            clear hn hs2
            generalize Sec.oldS { s with b := s.b.take (kAt ks c) ++ s.old.drop (kAt ks c) } = o2 at hc
            go_wp2_with fail
            go_roundw
            case rel => exact ⟨c + 1, by omega, by go_num, HD3.out, HO3.out⟩
            case measure => simp [intOf]; omega
        · have hk0 : kAt ks c = 0 := by omega
          have HCAT := Lib.hid (show (strOf s.old).extract 0 64 = strOf (s.b.take (kAt ks c) ++ s.old.drop (kAt ks c)) by
            have := cat_tear s HSO.out.1 HSO.out.2 (kAt ks c) (kAt_le ks c)
            rw [← this, hk0]
            have e : (strOf s.b).extract 0 0 = ByteArray.empty := by ext1; simp [ByteArray.data_extract]
            rw [e]; ext1; simp)
          go_upto_region 7 with (fail)
          clear hak2 hkA hk0
          as_aux_lemma =>
            go_upto_region 8 with (fail)
            clear hq2
            have e0 : ∀ w', wr.drew = w' → w'.cell? ⟨x, 0, none⟩ = some (.slice (some ⟨gl, 0, none⟩) X.L.length cl) := fun w' h => h ▸ c0
            have e1 : ∀ w', wr.drew = w' → w'.cell? ⟨x, 1, none⟩ = some (.slice (some ⟨go, 0, none⟩) X.L.length co) := fun w' h => h ▸ c1
            have e2 : ∀ w', wr.drew = w' → w'.cell? ⟨gl, t, none⟩ = some (.string (strOf s.b)) := fun w' h => h ▸ (HD.out.sec HSS.out).1
            have e3 : ∀ w', wr.drew = w' → w'.cell? ⟨go, t, none⟩ = some (.string (strOf s.old)) := fun w' h => by have := (HD.out.sec HSS.out).2; rw [show s.oldS = strOf s.old by unfold Sec.oldS; rw [HLO.out]; rfl] at this; exact h ▸ this
            clear c0 c1
            have HD1 := Lib.hid HD.out.drew
            have HO1 := Lib.hid HO.out.drew
            have z1 : (strOf s.b).size = 64 := by rw [strOf_size64 HSO.out.1]
            have z2 : (strOf s.old).size = 64 := by rw [strOf_size64 HSO.out.2]
            have z3 : ((kAt ks c : Nat) : Int) ≤ 64 := by have := kAt_le ks c; omega
            have z4 : (0 : Int) ≤ ((kAt ks c : Nat) : Int) := by omega
            have z5 : kAt ks c ≤ 64 := kAt_le ks c
            generalize strOf s.b = A at e2 z1
            generalize strOf s.old = B at e3 z2 HCAT
            generalize hw1 : wr.drew = w2 at e0 e1 e2 e3 HD1 HO1
            refine wp_region_pure (fun a b => a = b) (fun _ => rfl) (fun _ _ _ h h' => h.trans h') [(0,3),(1,3),(2,3),(3,0),(4,3),(5,3),(6,3),(7,3),(8,0),(9,3),(10,3),(11,0),(12,3),(13,3),(14,3),(15,3),(16,3),(17,0),(18,3),(19,3),(20,0),(21,3),(22,3),(23,3),(24,3),(25,2)] (by kernel_rfl) (by kernel_rfl) ?_
            rw [hw1]
            clear hw1
            iterate 3 (refine pure_pure (v := ?_) rfl (fun _ _ _ h => h) (by rfl) (fun w' => ?_) ?_; rotate_left; (go_simp; try with_reducible rfl); simp only [Act.put, List.setIfInBounds_toArray, List.set_cons_zero, List.set_cons_succ])
            iterate 1 (refine pure_quiet (v := ?_) rfl (fun _ _ _ h => h) (by rfl) (fun w' hR => ?_) ?_; rotate_left; (go_simp; try with_reducible rfl); simp only [Act.put, List.setIfInBounds_toArray, List.set_cons_zero, List.set_cons_succ])
            iterate 4 (refine pure_pure (v := ?_) rfl (fun _ _ _ h => h) (by rfl) (fun w' => ?_) ?_; rotate_left; (go_simp; try with_reducible rfl); simp only [Act.put, List.setIfInBounds_toArray, List.set_cons_zero, List.set_cons_succ])
            iterate 1 (refine pure_quiet (v := ?_) rfl (fun _ _ _ h => h) (by rfl) (fun w' hR => ?_) ?_; rotate_left; (go_simp; try with_reducible rfl); simp only [Act.put, List.setIfInBounds_toArray, List.set_cons_zero, List.set_cons_succ])
            iterate 2 (refine pure_pure (v := ?_) rfl (fun _ _ _ h => h) (by rfl) (fun w' => ?_) ?_; rotate_left; (go_simp; try with_reducible rfl); simp only [Act.put, List.setIfInBounds_toArray, List.set_cons_zero, List.set_cons_succ])
            iterate 1 (refine pure_quiet (v := ?_) rfl (fun _ _ _ h => h) (by rfl) (fun w' hR => ?_) ?_; rotate_left; (go_simp; try with_reducible rfl); simp only [Act.put, List.setIfInBounds_toArray, List.set_cons_zero, List.set_cons_succ])
            iterate 5 (refine pure_pure (v := ?_) rfl (fun _ _ _ h => h) (by rfl) (fun w' => ?_) ?_; rotate_left; (go_simp; try with_reducible rfl); simp only [Act.put, List.setIfInBounds_toArray, List.set_cons_zero, List.set_cons_succ])
            iterate 1 (refine pure_quiet (v := ?_) rfl (fun _ _ _ h => h) (by rfl) (fun w' hR => ?_) ?_; rotate_left; (go_simp; try with_reducible rfl); simp only [Act.put, List.setIfInBounds_toArray, List.set_cons_zero, List.set_cons_succ])
            iterate 2 (refine pure_pure (v := ?_) rfl (fun _ _ _ h => h) (by rfl) (fun w' => ?_) ?_; rotate_left; (go_simp; try with_reducible rfl); simp only [Act.put, List.setIfInBounds_toArray, List.set_cons_zero, List.set_cons_succ])
            iterate 1 (refine pure_quiet (v := ?_) rfl (fun _ _ _ h => h) (by rfl) (fun w' hR => ?_) ?_; rotate_left; (go_simp; try with_reducible rfl); simp only [Act.put, List.setIfInBounds_toArray, List.set_cons_zero, List.set_cons_succ])
            iterate 4 (refine pure_pure (v := ?_) rfl (fun _ _ _ h => h) (by rfl) (fun w' => ?_) ?_; rotate_left; (go_simp; try with_reducible rfl); simp only [Act.put, List.setIfInBounds_toArray, List.set_cons_zero, List.set_cons_succ])
            rw [HCAT.out]
            clear e0 e1 e2 e3 z1 z2 z3 z4 z5
            have c1 := (HD1.out.sec HSS.out).1
            have f1 := HD1.out.now.frozen t
            refine pure_eff2 rfl ?_
            go_wp2_with fail
            refine purePost_free ?_
            refine pure_done ?_
            clear c1 f1
            have hn := HD1.out.storeNow (s' := { s with b := s.b.take (kAt ks c) ++ s.old.drop (kAt ks c) }) HSS.out (tear_ok HSO.out _ (kAt_le ks c)) rfl
            have HO := Lib.hid (HO1.out.set_ (p := ⟨gl, t, none⟩) (.inr (.inl rfl)) (.string (strOf (s.b.take (kAt ks c) ++ s.old.drop (kAt ks c)))))
            generalize w2.setCell ⟨gl, t, none⟩ (.string (strOf (s.b.take (kAt ks c) ++ s.old.drop (kAt ks c)))) = w3 at hn HO ⊢
            have HD2 := Lib.hid hn
            clear hn HD HD1 HO1
            have c1 := HD2.out.row1
            rw [show (DkS { X with L := tearSt LI ks X.L c } t { s with b := s.b.take (kAt ks c) ++ s.old.drop (kAt ks c) }).L.length = X.L.length from by unfold DkS; rw [List.length_set]; exact tearSt_length _ _ _ _] at c1
            have hs2 : (DkS { X with L := tearSt LI ks X.L c } t { s with b := s.b.take (kAt ks c) ++ s.old.drop (kAt ks c) }).L[t]? = some { s with b := s.b.take (kAt ks c) ++ s.old.drop (kAt ks c) } := List.getElem?_set_self (by rw [tearSt_length]; exact htl)
            have hc := (HD2.out.sec hs2).2
            have hf := HD2.out.old.frozen t
            have hn := HD2.out.storeOld (s' := s.tear (kAt ks c)) hs2 (tear_ok HSO.out _ (kAt_le ks c)) rfl
            rw [show (s.tear (kAt ks c)).oldS = ⟨#[]⟩ from rfl, show DkS (DkS { X with L := tearSt LI ks X.L c } t { s with b := s.b.take (kAt ks c) ++ s.old.drop (kAt ks c) }) t (s.tear (kAt ks c)) = { X with L := tearSt LI ks X.L (c + 1) } by
              unfold DkS; rw [List.set_set, HN.out]] at hn
            have HD3 := Lib.hid hn
            have HO3 := Lib.hid (HO.out.set_ (p := ⟨go, t, none⟩) (.inr (.inr rfl)) (.string ⟨#[]⟩))
            clear hn hs2
            generalize Sec.oldS { s with b := s.b.take (kAt ks c) ++ s.old.drop (kAt ks c) } = o2 at hc
            go_wp2_with fail
            go_roundw
            case rel => exact ⟨c + 1, by omega, by go_num, HD3.out, HO3.out⟩
            case measure => simp [intOf]; omega
      · have hk0 : kAt ks c = 0 := by unfold kAt; rw [List.getD_eq_getElem?_getD, List.getElem?_eq_none (by omega)]; rfl
        have HCAT := Lib.hid (show (strOf s.old).extract 0 64 = strOf (s.b.take (kAt ks c) ++ s.old.drop (kAt ks c)) by
          have := cat_tear s HSO.out.1 HSO.out.2 (kAt ks c) (kAt_le ks c)
          rw [← this, hk0]
          have e : (strOf s.b).extract 0 0 = ByteArray.empty := by ext1; simp [ByteArray.data_extract]
          rw [e]; ext1; simp)
        have i2 : ¬ (c : Int) < (ks.length : Int) := by omega
        go_upto_region 7 with (fail)
        clear hk0
        as_aux_lemma =>
          go_upto_region 8 with (fail)
          clear hq2
          have e0 : ∀ w', wr.drew = w' → w'.cell? ⟨x, 0, none⟩ = some (.slice (some ⟨gl, 0, none⟩) X.L.length cl) := fun w' h => h ▸ c0
          have e1 : ∀ w', wr.drew = w' → w'.cell? ⟨x, 1, none⟩ = some (.slice (some ⟨go, 0, none⟩) X.L.length co) := fun w' h => h ▸ c1
          have e2 : ∀ w', wr.drew = w' → w'.cell? ⟨gl, t, none⟩ = some (.string (strOf s.b)) := fun w' h => h ▸ (HD.out.sec HSS.out).1
          have e3 : ∀ w', wr.drew = w' → w'.cell? ⟨go, t, none⟩ = some (.string (strOf s.old)) := fun w' h => by have := (HD.out.sec HSS.out).2; rw [show s.oldS = strOf s.old by unfold Sec.oldS; rw [HLO.out]; rfl] at this; exact h ▸ this
          clear c0 c1
          have HD1 := Lib.hid HD.out.drew
          have HO1 := Lib.hid HO.out.drew
          have z1 : (strOf s.b).size = 64 := by rw [strOf_size64 HSO.out.1]
          have z2 : (strOf s.old).size = 64 := by rw [strOf_size64 HSO.out.2]
          have z3 : ((kAt ks c : Nat) : Int) ≤ 64 := by have := kAt_le ks c; omega
          have z4 : (0 : Int) ≤ ((kAt ks c : Nat) : Int) := by omega
          have z5 : kAt ks c ≤ 64 := kAt_le ks c
          generalize strOf s.b = A at e2 z1
          generalize strOf s.old = B at e3 z2 HCAT
          generalize hw1 : wr.drew = w2 at e0 e1 e2 e3 HD1 HO1
          refine wp_region_pure (fun a b => a = b) (fun _ => rfl) (fun _ _ _ h h' => h.trans h') [(0,3),(1,3),(2,3),(3,0),(4,3),(5,3),(6,3),(7,3),(8,0),(9,3),(10,3),(11,0),(12,3),(13,3),(14,3),(15,3),(16,3),(17,0),(18,3),(19,3),(20,0),(21,3),(22,3),(23,3),(24,3),(25,2)] (by kernel_rfl) (by kernel_rfl) ?_
          rw [hw1]
          clear hw1
          iterate 3 (refine pure_pure (v := ?_) rfl (fun _ _ _ h => h) (by rfl) (fun w' => ?_) ?_; rotate_left; (go_simp; try with_reducible rfl); simp only [Act.put, List.setIfInBounds_toArray, List.set_cons_zero, List.set_cons_succ])
          iterate 1 (refine pure_quiet (v := ?_) rfl (fun _ _ _ h => h) (by rfl) (fun w' hR => ?_) ?_; rotate_left; (go_simp; try with_reducible rfl); simp only [Act.put, List.setIfInBounds_toArray, List.set_cons_zero, List.set_cons_succ])
          iterate 4 (refine pure_pure (v := ?_) rfl (fun _ _ _ h => h) (by rfl) (fun w' => ?_) ?_; rotate_left; (go_simp; try with_reducible rfl); simp only [Act.put, List.setIfInBounds_toArray, List.set_cons_zero, List.set_cons_succ])
          iterate 1 (refine pure_quiet (v := ?_) rfl (fun _ _ _ h => h) (by rfl) (fun w' hR => ?_) ?_; rotate_left; (go_simp; try with_reducible rfl); simp only [Act.put, List.setIfInBounds_toArray, List.set_cons_zero, List.set_cons_succ])
          iterate 2 (refine pure_pure (v := ?_) rfl (fun _ _ _ h => h) (by rfl) (fun w' => ?_) ?_; rotate_left; (go_simp; try with_reducible rfl); simp only [Act.put, List.setIfInBounds_toArray, List.set_cons_zero, List.set_cons_succ])
          iterate 1 (refine pure_quiet (v := ?_) rfl (fun _ _ _ h => h) (by rfl) (fun w' hR => ?_) ?_; rotate_left; (go_simp; try with_reducible rfl); simp only [Act.put, List.setIfInBounds_toArray, List.set_cons_zero, List.set_cons_succ])
          iterate 5 (refine pure_pure (v := ?_) rfl (fun _ _ _ h => h) (by rfl) (fun w' => ?_) ?_; rotate_left; (go_simp; try with_reducible rfl); simp only [Act.put, List.setIfInBounds_toArray, List.set_cons_zero, List.set_cons_succ])
          iterate 1 (refine pure_quiet (v := ?_) rfl (fun _ _ _ h => h) (by rfl) (fun w' hR => ?_) ?_; rotate_left; (go_simp; try with_reducible rfl); simp only [Act.put, List.setIfInBounds_toArray, List.set_cons_zero, List.set_cons_succ])
          iterate 2 (refine pure_pure (v := ?_) rfl (fun _ _ _ h => h) (by rfl) (fun w' => ?_) ?_; rotate_left; (go_simp; try with_reducible rfl); simp only [Act.put, List.setIfInBounds_toArray, List.set_cons_zero, List.set_cons_succ])
          iterate 1 (refine pure_quiet (v := ?_) rfl (fun _ _ _ h => h) (by rfl) (fun w' hR => ?_) ?_; rotate_left; (go_simp; try with_reducible rfl); simp only [Act.put, List.setIfInBounds_toArray, List.set_cons_zero, List.set_cons_succ])
          iterate 4 (refine pure_pure (v := ?_) rfl (fun _ _ _ h => h) (by rfl) (fun w' => ?_) ?_; rotate_left; (go_simp; try with_reducible rfl); simp only [Act.put, List.setIfInBounds_toArray, List.set_cons_zero, List.set_cons_succ])
          rw [HCAT.out]
          clear e0 e1 e2 e3 z1 z2 z3 z4 z5
          have c1 := (HD1.out.sec HSS.out).1
          have f1 := HD1.out.now.frozen t
          refine pure_eff2 rfl ?_
          go_wp2_with fail
          refine purePost_free ?_
          refine pure_done ?_
          clear c1 f1
          have hn := HD1.out.storeNow (s' := { s with b := s.b.take (kAt ks c) ++ s.old.drop (kAt ks c) }) HSS.out (tear_ok HSO.out _ (kAt_le ks c)) rfl
          have HO := Lib.hid (HO1.out.set_ (p := ⟨gl, t, none⟩) (.inr (.inl rfl)) (.string (strOf (s.b.take (kAt ks c) ++ s.old.drop (kAt ks c)))))
          generalize w2.setCell ⟨gl, t, none⟩ (.string (strOf (s.b.take (kAt ks c) ++ s.old.drop (kAt ks c)))) = w3 at hn HO ⊢
          have HD2 := Lib.hid hn
          clear hn HD HD1 HO1
          have c1 := HD2.out.row1
          rw [show (DkS { X with L := tearSt LI ks X.L c } t { s with b := s.b.take (kAt ks c) ++ s.old.drop (kAt ks c) }).L.length = X.L.length from by unfold DkS; rw [List.length_set]; exact tearSt_length _ _ _ _] at c1
          have hs2 : (DkS { X with L := tearSt LI ks X.L c } t { s with b := s.b.take (kAt ks c) ++ s.old.drop (kAt ks c) }).L[t]? = some { s with b := s.b.take (kAt ks c) ++ s.old.drop (kAt ks c) } := List.getElem?_set_self (by rw [tearSt_length]; exact htl)
          have hc := (HD2.out.sec hs2).2
          have hf := HD2.out.old.frozen t
          have hn := HD2.out.storeOld (s' := s.tear (kAt ks c)) hs2 (tear_ok HSO.out _ (kAt_le ks c)) rfl
          rw [show (s.tear (kAt ks c)).oldS = ⟨#[]⟩ from rfl, show DkS (DkS { X with L := tearSt LI ks X.L c } t { s with b := s.b.take (kAt ks c) ++ s.old.drop (kAt ks c) }) t (s.tear (kAt ks c)) = { X with L := tearSt LI ks X.L (c + 1) } by
            unfold DkS; rw [List.set_set, HN.out]] at hn
          have HD3 := Lib.hid hn
          have HO3 := Lib.hid (HO.out.set_ (p := ⟨go, t, none⟩) (.inr (.inr rfl)) (.string ⟨#[]⟩))
          clear hn hs2
          generalize Sec.oldS { s with b := s.b.take (kAt ks c) ++ s.old.drop (kAt ks c) } = o2 at hc
          go_wp2_with fail
          go_roundw
          case rel => exact ⟨c + 1, by omega, by go_num, HD3.out, HO3.out⟩
          case measure => simp [intOf]; omega
    · have i1 : ¬ ((c : Int) < (LI.length : Int)) := by omega
      have hcN : c = LI.length := by omega
      subst hcN
      have f2 := HD.out.head.frozen 2
      have f3 := HD.out.head.frozen 3
      have c2 := HD.out.armed
      have c3 := HD.out.down
      have hn := ((HD.out.setDown false).setArmed 0 (by omega) (by omega))
      have HDf := Lib.hid hn
      have HOf := Lib.hid ((HO.out.set_ (p := ⟨x, 3, none⟩) (.inl rfl) (.bool false)).set_ (p := ⟨x, 2, none⟩) (.inl rfl) (.int .i64 0))
      clear hn
      go_wp2_with fail
      go_end0
      exact ⟨rfl, by rw [HX.out]; exact HDf.out, (Only3.of_below HB.out).trans HOf.out⟩
end Go.Proofs.Ytnddkodenkmoiaa
