/- The disk: tear, Loose. -/
import Derived.Test.YtnddkodenkmoiaaDisk4
import Derived.Test.YtnddkodenkmoiaaFork
import Derived.Laws.IdiomCopy
namespace Go.Proofs.Ytnddkodenkmoiaa
open Go.RowKit Go.Proofs
set_option linter.unusedSimpArgs false
set_option linter.unusedVariables false
def Sec.tear (s : Sec) (k : Nat) : Sec := { s with b := s.b.take k ++ s.old.drop k, loose := false }
theorem tear_ok {s : Sec} (h : s.ok) (k : Nat) (hk : k ≤ 64) : (s.tear k).ok := by
  have h1 := h.1
  have h2 := h.2
  refine ⟨?_, h2⟩
  show (s.b.take k ++ s.old.drop k).length = 64
  rw [List.length_append, List.length_take, List.length_drop]; omega
theorem secC_tear {s : Sec} (h : s.ok) (k : Nat) (hk : k ≤ 64) : ∀ j, j < 129 → (secC { s with b := s.b.take k ++ s.old.drop k })[j]? = if k ≤ j ∧ j < k + ((s.old.drop k).map bb).length then ((s.old.drop k).map bb)[j - k]? else (secC s)[j]? := by
  intro j _
  have h1 := h.1
  have h2 := h.2
  have hl : ((s.b.take k).map bb).length = k := by rw [List.length_map, List.length_take]; omega
  have := splice ((s.b.take k).map bb) ((s.b.drop k).map bb) ((s.old.drop k).map bb) (s.old.map bb ++ [.bool s.loose]) (by rw [List.length_map, List.length_map, List.length_drop, List.length_drop]; omega) j
  rw [hl] at this
  have e1 : secC { s with b := s.b.take k ++ s.old.drop k } = (s.b.take k).map bb ++ ((s.old.drop k).map bb ++ (s.old.map bb ++ [.bool s.loose])) := by
    unfold secC; simp
  have e2 : secC s = (s.b.take k).map bb ++ ((s.b.drop k).map bb ++ (s.old.map bb ++ [.bool s.loose])) := by
    have e : s.b.map bb = (s.b.take k).map bb ++ (s.b.drop k).map bb := by rw [← List.map_append, List.take_append_drop]
    unfold secC
    rw [e, List.append_assoc]
  rw [e1, e2]
  exact this
set_option maxRecDepth 100000 in
set_option maxHeartbeats 2000000 in
theorem tear_any (d g : Nat) (x : Dk) (j : Nat) (s : Sec) (k : Nat) (w : World) (h : DiskAt w d g (DkS x j s)) (hj : j < x.L.length) (hso : s.ok) (hk : k ≤ 64) :
    Calls Try.prog 52 #[.pointer (some ⟨g, j * 129, none⟩), .int .i64 (k : Int)] w fun e w' => e = .returned (.tuple #[]) ∧ DiskAt w' d g (DkS x j (s.tear k)) ∧ Only2 d g w w' := by
  have H := Lib.hid h
  have HSO := Lib.hid hso
  clear h
  have k1 : (k : Int) ≤ 64 := by omega
  have k0 : (0 : Int) ≤ (k : Int) := by omega
  go_enter Try.func52, Try.ntmps52
  by_cases h64 : k = 64
  · subst h64
    have hD0 : DiskAt w.drew d g (DkS x j s) := H.out.drew
    have hsame : ({ s with b := s.b.take 64 ++ s.old.drop 64 } : Sec) = s := by
      rw [List.take_of_length_le (by have := HSO.out.1; omega), List.drop_eq_nil_of_le (by have := HSO.out.2; omega), List.append_nil]
    have HN := Lib.hid (hD0.cells hj (s' := s.tear 64) (tear_ok HSO.out 64 hk) 128 [.bool false] (by simp) (by
      have := secC_loose' HSO.out false
      rw [show s.tear 64 = { s with loose := false } from by
        have h := congrArg Sec.safe hsame
        exact h]
      exact this))
    have HON := Lib.hid ((Only2.refl d g w).drew.cells (j * 129 + 128) [.bool false])
    have cl := (hD0.sec hj 128 (by omega)).trans (secC_loose HSO.out)
    have cf := hD0.2.1.frozen (j * 129 + 128)
    clear hD0 hsame
    go_upto_region 0 with (fail)
    refine wp_region_keep (KeptOn fun _ => True) (KeptOn.refl _) (KeptOn.trans) [(0,0),(1,0),(2,0),(3,0),(4,0),(5,0),(6,0),(7,0),(8,0),(9,0),(10,2)] (by kernel_rfl) (by kernel_rfl) ?_
    iterate 10 (refine keep_quiet (v := ?_) rfl (fun _ _ _ h => h) (by rfl) (fun w' hR => ?_) ?_; rotate_left; (go_simp; try with_reducible rfl); simp only [Act.put, List.setIfInBounds_toArray, List.set_cons_zero, List.set_cons_succ])
    refine keep_eff rfl ?_
    refine wpList_copyIs rfl _ _ 94 94 rfl _ _ rfl rfl (run_copy_none (P := Try.prog) w.drew 94 94 3 5 _ _ _ _ _ _ Try.underlying94 (by kernel_rfl) (by rfl)) ?_
    refine wpList_nil ?_
    refine keepPost_free ?_
    refine keep_done ?_
    simp only [Act.put]
    go_wp2_with fail
    go_end0
    exact ⟨rfl, HN.out, HON.out⟩
  · have hk2 : k < 64 := by omega
    have e1 : (64 : Nat) ≠ k := fun h => h64 h.symm
    clear h64
    go_upto_region 0 with (fail)
    refine wp_region_keep (KeptOn fun _ => True) (KeptOn.refl _) (KeptOn.trans) [(0,0),(1,0),(2,0),(3,0),(4,0),(5,0),(6,0),(7,0),(8,0),(9,0),(10,2)] (by kernel_rfl) (by kernel_rfl) ?_
    iterate 10 (refine keep_quiet (v := ?_) rfl (fun _ _ _ h => h) (by rfl) (fun w' hR => ?_) ?_; rotate_left; (go_simp; try with_reducible rfl); simp only [Act.put, List.setIfInBounds_toArray, List.set_cons_zero, List.set_cons_succ])
    refine keep_eff rfl ?_
    have hD0 : DiskAt w.drew d g (DkS x j s) := H.out.drew
    have hl1 : ((s.old.drop k).map bb).length = 64 - k := by rw [List.length_map, List.length_drop, HSO.out.2]
    have hrun := run_copy_cells (P := Try.prog) w.drew 94 94 3 5 g (j * 129 + k) (64 - k) (64 - k) ⟨g, j * 129 + 64 + k, none⟩ (64 - k) (64 - k) ((s.old.drop k).map bb) Try.underlying94 (by kernel_rfl) (by rw [hl1]; exact (Nat.min_self _).symm) (fun q v hq => by
        have hq1 := (List.getElem?_eq_some_iff.1 hq).1
        rw [hl1] at hq1
        rw [Addr.add_mid, Nat.add_assoc, Nat.add_assoc]
        refine (hD0.sec hj (64 + (k + q)) (by omega)).trans ?_
        have hq2 := secC_old HSO.out (j := k + q) (by omega)
        rw [hq2, ← hq, List.getElem?_map, List.getElem?_drop, List.getD_eq_getElem?_getD, List.getElem?_eq_getElem (by have := HSO.out.2; omega)]; rfl) (fun q hq => by rw [hl1] at hq; exact (hD0.thereS hj k (64 - k) (by omega) q hq).1) (fun q hq => by rw [hl1] at hq; exact (hD0.thereS hj k (64 - k) (by omega) q hq).2) (by
        intro v hv
        obtain ⟨x, _, rfl⟩ := List.mem_map.1 hv
        rfl)
    refine wpList_copyIs rfl _ _ 94 94 rfl _ _ rfl rfl hrun ?_
    clear hrun
    have hc := hD0.cells hj (s' := { s with b := s.b.take k ++ s.old.drop k }) ⟨by
      have h1 := HSO.out.1
      have h2 := HSO.out.2
      show (s.b.take k ++ s.old.drop k).length = 64
      rw [List.length_append, List.length_take, List.length_drop]; omega, HSO.out.2⟩ k ((s.old.drop k).map bb) (by rw [hl1]; omega) (secC_tear HSO.out k hk)
    have hO := ((Only2.refl d g w).drew).cells (j * 129 + k) ((s.old.drop k).map bb)
    clear hl1 hD0
    generalize w.drew.setCells g (j * 129 + k) ((s.old.drop k).map bb) = w2 at hc hO ⊢
    have hso2 : ({ s with b := s.b.take k ++ s.old.drop k } : Sec).ok := by
      have h1 := HSO.out.1
      have h2 := HSO.out.2
      refine ⟨?_, h2⟩
      show (s.b.take k ++ s.old.drop k).length = 64
      rw [List.length_append, List.length_take, List.length_drop]; omega
    have cl := (hc.sec hj 128 (by omega)).trans (secC_loose hso2)
    have cf := hc.2.1.frozen (j * 129 + 128)
    have hn := hc.cells hj (s' := s.tear k) (tear_ok HSO.out k hk) 128 [.bool false] (by simp) (secC_loose' hso2 false)
    have HN := Lib.hid hn
    have HON := Lib.hid (hO.cells (j * 129 + 128) [.bool false])
    clear hc hO hso2 hn
    refine wpList_nil ?_
    refine keepPost_free ?_
    refine keep_done ?_
    simp only [Act.put]
    go_wp2_with fail
    go_end0
    exact ⟨rfl, HN.out, HON.out⟩
end Go.Proofs.Ytnddkodenkmoiaa
