/- The disk: Crash. -/
import Derived.Test.YtnddkodenkmoiaaDisk6
namespace Go.Proofs.Ytnddkodenkmoiaa
open Go.RowKit Go.Proofs
set_option linter.unusedSimpArgs false
set_option linter.unusedVariables false
theorem Only2.cell {d g : Nat} {a b : World} (h : Only2 d g a b) {p : Addr} {v : Value} (hc : a.cell? p = some v) (h1 : p.block ≠ d) (h2 : p.block ≠ g) : b.cell? p = some v := by
  have hl := World.block_lt_of_cell? a p hc
  have := h.block p.block hl h1 h2
  unfold World.cell? at hc ⊢
  rw [this]; exact hc
theorem add_block (q : Addr) (c : Nat) : (q.add c).block = q.block := by
  unfold Addr.add; (repeat' split) <;> rfl
/-- The number of bytes that are kept of the c-th loose sector. -/
def kAt (ks : List Int) (c : Nat) : Nat := (ks.getD c 0).toNat % 65
theorem kAt_le (ks : List Int) (c : Nat) : kAt ks c ≤ 64 := by unfold kAt; omega
def tearAt (L : List Sec) (i k : Nat) : List Sec := match L[i]? with
  | some s => L.set i (s.tear k)
  | none => L
def tearSt (LI : List Nat) (ks : List Int) (L : List Sec) : Nat → List Sec
  | 0 => L
  | c + 1 => tearAt (tearSt LI ks L c) (LI.getD c 0) (kAt ks c)
theorem tearAt_length (L : List Sec) (i k : Nat) : (tearAt L i k).length = L.length := by unfold tearAt; split <;> simp
theorem tearSt_length (LI : List Nat) (ks : List Int) (L : List Sec) (c : Nat) : (tearSt LI ks L c).length = L.length := by
  induction c with
  | zero => rfl
  | succ c ih => show (tearAt _ _ _).length = _; rw [tearAt_length, ih]
def Dk.crash (x : Dk) (ks : List Int) : Dk := ⟨tearSt (looseTo x.L x.L.length) ks x.L (looseTo x.L x.L.length).length, 0, false⟩
/-- v is a row of ints, far from the disk. -/
def KeepAt (d g : Nat) (w : World) (v : Value) (ks : List Int) : Prop :=
  ∃ o c, v = .slice o ks.length c ∧ ks.length ≤ c ∧ ∀ j k, ks[j]? = some k → ∃ a, o = some a ∧ w.cell? (a.add j) = some (.int .i64 k) ∧ a.block ≠ d ∧ a.block ≠ g
set_option maxRecDepth 100000 in
set_option maxHeartbeats 2000000 in
theorem crash_nil (v : Value) (w : World) :
    Calls Try.prog 25 #[.pointer none, v] w fun e w' => e = .returned (.int .i64 1) ∧ w = w' := by
  go_enter Try.func25, Try.ntmps25
  go_wp2_with fail
  go_ret
  exact ⟨rfl, rfl⟩
set_option maxRecDepth 100000 in
set_option maxHeartbeats 2000000 in
theorem crash_any (d g : Nat) (x : Dk) (v : Value) (ks : List Int) (w : World) (h : DiskAt w d g x) (hk : KeepAt d g w v ks) (hkl : ks.length ≤ 9223372036854775807) :
    Calls Try.prog 25 #[.pointer (some ⟨d, 0, none⟩), v] w fun e w' => e = .returned (.int .i64 0) ∧ DiskAt w' d g (x.crash ks) ∧ Only2 d g w w' := by
  have H := Lib.hid h
  obtain ⟨ok, ck, rfl, hkc, hkr⟩ := hk
  have HK := Lib.hid hkr
  clear h hkr
  go_enter Try.func25, Try.ntmps25
  go_wp2_with fail
  refine (loose_any d g x w H.out).mono ?_
  rintro e w1 ⟨v1, rfl, hO, hB⟩
  have hd1 := H.out.1.lt
  have hg1 := H.out.2.1.lt
  obtain ⟨a1, c1, rfl, hc1⟩ : ∃ a c, v1 = .slice a (looseTo x.L x.L.length).length c ∧ ∀ (j : Nat) (t : Nat), (looseTo x.L x.L.length)[j]? = some t → ∃ q, a = some q ∧ w1.cell? (q.add j) = some (.int .i64 (t : Int)) ∧ q.block ≠ d ∧ q.block ≠ g := by
    have hr := hO.row
    have hlt := hO.lt
    have hlen : (looseI x.L x.L.length).length = (looseTo x.L x.L.length).length := by unfold looseI; rw [List.length_map]
    have hget : ∀ (j : Nat) (t : Nat), (looseTo x.L x.L.length)[j]? = some t → (looseI x.L x.L.length)[j]? = some (t : Int) := fun j t h => by unfold looseI; rw [List.getElem?_map, h]; rfl
    rcases hr with ⟨rfl, h⟩ | ⟨a, c, rfl, h⟩
    · rw [h] at hlen hget
      exact ⟨none, 0, by rw [← hlen]; rfl, fun j t h => absurd (hget j t h) (by simp)⟩
    · refine ⟨some a, c, by rw [hlen], fun j t hj => ⟨a, rfl, h j _ (hget j t hj), ?_, ?_⟩⟩
      · have := (hlt a.block rfl).1; omega
      · have := (hlt a.block rfl).1; omega
  have HC := Lib.hid hc1
  clear hc1 hO
  have hll := looseI_length x.L x.L.length
  unfold looseI at hll
  rw [List.length_map] at hll
  have hlen := H.out.2.2.2.2
  have HB := Lib.hid hB
  have HLM := Lib.hid (show ∀ t ∈ looseTo x.L x.L.length, t < x.L.length from fun t ht => by
    unfold looseTo at ht
    exact List.mem_range.1 (List.mem_filter.1 ht).1)
  clear hB
  have HX := Lib.hid (show x.crash ks = ⟨tearSt (looseTo x.L x.L.length) ks x.L (looseTo x.L x.L.length).length, 0, false⟩ from rfl)
  generalize looseTo x.L x.L.length = LI at HC hll HX HLM ⊢
  go_wp2_with fail
  go_loopw [1, 6, 7, 8, 14] (fun v1 _ _ _ v14 wr => ∃ c : Nat, c ≤ LI.length ∧ v14 = .int .i64 (c : Int) ∧ (∃ o cp, v1 = .slice o (ks.length - c) cp ∧ ks.length - c ≤ cp ∧ ∀ j k, ks[c + j]? = some k → ∃ a, o = some a ∧ w.cell? (a.add j) = some (.int .i64 k) ∧ a.block ≠ d ∧ a.block ≠ g) ∧ DiskAt wr d g { x with L := tearSt LI ks x.L c } ∧ Only2 d g w1 wr) (fun _ _ _ _ v14 _ => LI.length - (intOf v14).toNat)
  case atStart => exact ⟨0, by omega, rfl, ⟨_, _, rfl, hkc, by simpa using HK.out⟩, H.out.below HB.out, Only2.refl _ _ _⟩
  case round =>
    obtain ⟨c, hc, rfl, ⟨o, cp, rfl, hcp, hcr⟩, hD, hO⟩ := hrel
    have HD := Lib.hid hD
    have HO := Lib.hid hO
    have HCR := Lib.hid hcr
    clear hD hO hcr
    by_cases hlt : c < LI.length
    · have i1 : (c : Int) < (LI.length : Int) := by omega
      obtain ⟨t, ht⟩ : ∃ t, LI[c]? = some t := ⟨_, List.getElem?_eq_getElem hlt⟩
      have htl := HLM.out t (List.mem_of_getElem? ht)
      obtain ⟨q, rfl, hq, hqd, hqg⟩ := HC.out c t ht
      have hq2 := HO.out.cell hq (by rw [add_block]; exact hqd) (by rw [add_block]; exact hqg)
      have c0 := HD.out.row
      simp only [tearSt_length] at c0
      obtain ⟨s, hs⟩ : ∃ s, (tearSt LI ks x.L c)[t]? = some s := ⟨_, List.getElem?_eq_getElem (by rw [tearSt_length]; exact htl)⟩
      have hso : s.ok := HD.out.2.2.1 s (List.mem_of_getElem? hs)
      have HN := Lib.hid (show tearSt LI ks x.L (c + 1) = (tearSt LI ks x.L c).set t (s.tear (kAt ks c)) by
        show tearAt (tearSt LI ks x.L c) (LI.getD c 0) (kAt ks c) = _
        rw [List.getD_eq_getElem?_getD, ht]
        show tearAt (tearSt LI ks x.L c) t (kAt ks c) = _
        unfold tearAt; rw [hs])
      have HSS := Lib.hid hs
      have HSO := Lib.hid hso
      have HQ := Lib.hid hq
      have HT := Lib.hid ht
      clear hs hso hq ht
      by_cases hks : c < ks.length
      · have i2 : 0 < ((ks.length - c : Nat) : Int) := by omega
        have i3 : (1 : Int) ≤ ((ks.length - c : Nat) : Int) := by omega
        obtain ⟨kk, hkk⟩ : ∃ k, ks[c]? = some k := ⟨_, List.getElem?_eq_getElem hks⟩
        obtain ⟨ak, rfl, hak, hakd, hakg⟩ := HCR.out 0 kk (by simpa using hkk)
        have hak2 := HO.out.cell ((HB.out.cell (World.block_lt_of_cell? w _ hak)).trans hak) (by rw [add_block]; exact hakd) (by rw [add_block]; exact hakg)
        rw [Addr.add_zero'] at hak2
        have hK : ∀ w', KeptOn (fun _ => True) wr.drew w' → w'.cell? ak = some (.int .i64 kk) := fun w' h => h.cell (w := wr.drew) hak2 trivial
        clear hak hakd hakg
        have hkA : kAt ks c = kk.toNat % 65 := by unfold kAt; rw [List.getD_eq_getElem?_getD, hkk]; rfl
        by_cases hcp1 : cp = 1
        · subst hcp1
          by_cases hkn : kk < 0
          · 
            go_upto_region 8 with (fail)
            refine wp_region_keep (KeptOn fun _ => True) (KeptOn.refl _) (KeptOn.trans) [(0,0),(1,0),(2,0),(3,0),(4,0),(5,0),(6,0),(7,0),(8,0)] (by kernel_rfl) (by kernel_rfl) ?_
            iterate 9 (refine keep_quiet (v := ?_) rfl (fun _ _ _ h => h) (by rfl) (fun w' hR => ?_) ?_; rotate_left; (go_simp; try with_reducible rfl); simp only [Act.put, List.setIfInBounds_toArray, List.set_cons_zero, List.set_cons_succ])
            refine keep_done ?_
            go_wp2_with fail
            have hL : t < ({ x with L := tearSt LI ks x.L c } : Dk).L.length := by show t < (tearSt LI ks x.L c).length; rw [tearSt_length]; exact htl
            have htr := tear_any d g { x with L := tearSt LI ks x.L c } t s (kAt ks c) wr.drew (by rw [DkS_self (x := { x with L := tearSt LI ks x.L c }) HSS.out]; exact HD.out.drew) hL HSO.out (kAt_le _ _)
            rw [show ((kAt ks c : Nat) : Int) = 0 from by omega] at htr
            refine htr.mono ?_
            clear htr
            rintro e w3 ⟨rfl, hD, hO3⟩
            have HD3 := Lib.hid (show DiskAt w3 d g { x with L := tearSt LI ks x.L (c + 1) } by rw [HN.out]; exact hD)
            have HO3 := Lib.hid ((HO.out.drew).trans hO3)
            clear hD hO3
            go_wp2_with fail
            go_roundw
            case rel => exact ⟨c + 1, by omega, by go_num, ⟨some ak, 0, by rw [show ks.length - (c + 1) = 0 by omega], by omega, fun j k h => absurd h (by rw [List.getElem?_eq_none (by omega)]; simp)⟩, HD3.out, HO3.out⟩
            case measure => simp [intOf]; omega
          · have hkn2 : 0 ≤ kk := by omega
            clear hkn
            go_upto_region 8 with (fail)
            refine wp_region_keep (KeptOn fun _ => True) (KeptOn.refl _) (KeptOn.trans) [(0,0),(1,0),(2,0),(3,0),(4,0),(5,0),(6,0),(7,0),(8,0)] (by kernel_rfl) (by kernel_rfl) ?_
            iterate 9 (refine keep_quiet (v := ?_) rfl (fun _ _ _ h => h) (by rfl) (fun w' hR => ?_) ?_; rotate_left; (go_simp; try with_reducible rfl); simp only [Act.put, List.setIfInBounds_toArray, List.set_cons_zero, List.set_cons_succ])
            refine keep_done ?_
            go_wp2_with fail
            have hL : t < ({ x with L := tearSt LI ks x.L c } : Dk).L.length := by show t < (tearSt LI ks x.L c).length; rw [tearSt_length]; exact htl
            have htr := tear_any d g { x with L := tearSt LI ks x.L c } t s (kAt ks c) wr.drew (by rw [DkS_self (x := { x with L := tearSt LI ks x.L c }) HSS.out]; exact HD.out.drew) hL HSO.out (kAt_le _ _)
            rw [show ((kAt ks c : Nat) : Int) = kk % 65 from by omega] at htr
            refine htr.mono ?_
            clear htr
            rintro e w3 ⟨rfl, hD, hO3⟩
            have HD3 := Lib.hid (show DiskAt w3 d g { x with L := tearSt LI ks x.L (c + 1) } by rw [HN.out]; exact hD)
            have HO3 := Lib.hid ((HO.out.drew).trans hO3)
            clear hD hO3
            go_wp2_with fail
            go_roundw
            case rel => exact ⟨c + 1, by omega, by go_num, ⟨some ak, 0, by rw [show ks.length - (c + 1) = 0 by omega], by omega, fun j k h => absurd h (by rw [List.getElem?_eq_none (by omega)]; simp)⟩, HD3.out, HO3.out⟩
            case measure => simp [intOf]; omega
        · by_cases hkn : kk < 0
          · 
            go_upto_region 8 with (fail)
            refine wp_region_keep (KeptOn fun _ => True) (KeptOn.refl _) (KeptOn.trans) [(0,0),(1,0),(2,0),(3,0),(4,0),(5,0),(6,0),(7,0),(8,0)] (by kernel_rfl) (by kernel_rfl) ?_
            iterate 9 (refine keep_quiet (v := ?_) rfl (fun _ _ _ h => h) (by rfl) (fun w' hR => ?_) ?_; rotate_left; (go_simp; try with_reducible rfl); simp only [Act.put, List.setIfInBounds_toArray, List.set_cons_zero, List.set_cons_succ])
            refine keep_done ?_
            go_wp2_with fail
            have hL : t < ({ x with L := tearSt LI ks x.L c } : Dk).L.length := by show t < (tearSt LI ks x.L c).length; rw [tearSt_length]; exact htl
            have htr := tear_any d g { x with L := tearSt LI ks x.L c } t s (kAt ks c) wr.drew (by rw [DkS_self (x := { x with L := tearSt LI ks x.L c }) HSS.out]; exact HD.out.drew) hL HSO.out (kAt_le _ _)
            rw [show ((kAt ks c : Nat) : Int) = 0 from by omega] at htr
            refine htr.mono ?_
            clear htr
            rintro e w3 ⟨rfl, hD, hO3⟩
            have HD3 := Lib.hid (show DiskAt w3 d g { x with L := tearSt LI ks x.L (c + 1) } by rw [HN.out]; exact hD)
            have HO3 := Lib.hid ((HO.out.drew).trans hO3)
            clear hD hO3
            go_wp2_with fail
            go_roundw
            case rel => exact ⟨c + 1, by omega, by go_num, ⟨_, _, rfl, by omega, fun j k h => ⟨_, rfl, by have := HCR.out (1 + j) k (by rw [← h]; congr 1; omega); obtain ⟨a, ha, h1, h2, h3⟩ := this; obtain rfl := Option.some.inj ha; rw [← Addr.add_add] at h1; exact ⟨h1, h2, h3⟩⟩⟩, HD3.out, HO3.out⟩
            case measure => simp [intOf]; omega
          · have hkn2 : 0 ≤ kk := by omega
            clear hkn
            go_upto_region 8 with (fail)
            refine wp_region_keep (KeptOn fun _ => True) (KeptOn.refl _) (KeptOn.trans) [(0,0),(1,0),(2,0),(3,0),(4,0),(5,0),(6,0),(7,0),(8,0)] (by kernel_rfl) (by kernel_rfl) ?_
            iterate 9 (refine keep_quiet (v := ?_) rfl (fun _ _ _ h => h) (by rfl) (fun w' hR => ?_) ?_; rotate_left; (go_simp; try with_reducible rfl); simp only [Act.put, List.setIfInBounds_toArray, List.set_cons_zero, List.set_cons_succ])
            refine keep_done ?_
            go_wp2_with fail
            have hL : t < ({ x with L := tearSt LI ks x.L c } : Dk).L.length := by show t < (tearSt LI ks x.L c).length; rw [tearSt_length]; exact htl
            have htr := tear_any d g { x with L := tearSt LI ks x.L c } t s (kAt ks c) wr.drew (by rw [DkS_self (x := { x with L := tearSt LI ks x.L c }) HSS.out]; exact HD.out.drew) hL HSO.out (kAt_le _ _)
            rw [show ((kAt ks c : Nat) : Int) = kk % 65 from by omega] at htr
            refine htr.mono ?_
            clear htr
            rintro e w3 ⟨rfl, hD, hO3⟩
            have HD3 := Lib.hid (show DiskAt w3 d g { x with L := tearSt LI ks x.L (c + 1) } by rw [HN.out]; exact hD)
            have HO3 := Lib.hid ((HO.out.drew).trans hO3)
            clear hD hO3
            go_wp2_with fail
            go_roundw
            case rel => exact ⟨c + 1, by omega, by go_num, ⟨_, _, rfl, by omega, fun j k h => ⟨_, rfl, by have := HCR.out (1 + j) k (by rw [← h]; congr 1; omega); obtain ⟨a, ha, h1, h2, h3⟩ := this; obtain rfl := Option.some.inj ha; rw [← Addr.add_add] at h1; exact ⟨h1, h2, h3⟩⟩⟩, HD3.out, HO3.out⟩
            case measure => simp [intOf]; omega
      · have i2 : ¬ (0 < ((ks.length - c : Nat) : Int)) := by omega
        have hkA : kAt ks c = 0 := by unfold kAt; rw [List.getD_eq_getElem?_getD, List.getElem?_eq_none (by omega)]; rfl
        go_wp2_with fail
        have hL : t < ({ x with L := tearSt LI ks x.L c } : Dk).L.length := by show t < (tearSt LI ks x.L c).length; rw [tearSt_length]; exact htl
        have htr := tear_any d g { x with L := tearSt LI ks x.L c } t s (kAt ks c) wr (by rw [DkS_self (x := { x with L := tearSt LI ks x.L c }) HSS.out]; exact HD.out) hL HSO.out (kAt_le _ _)
        rw [show ((kAt ks c : Nat) : Int) = 0 from by omega] at htr
        refine htr.mono ?_
        clear htr
        rintro e w3 ⟨rfl, hD, hO3⟩
        have HD3 := Lib.hid (show DiskAt w3 d g { x with L := tearSt LI ks x.L (c + 1) } by rw [HN.out]; exact hD)
        have HO3 := Lib.hid ((HO.out).trans hO3)
        clear hD hO3
        go_wp2_with fail
        go_roundw
        case rel => exact ⟨c + 1, by omega, by go_num, ⟨o, cp, by rw [show ks.length - (c + 1) = ks.length - c by omega], by omega, fun j k h => absurd h (by rw [List.getElem?_eq_none (by omega)]; simp)⟩, HD3.out, HO3.out⟩
        case measure => simp [intOf]; omega
    · have i1 : ¬ ((c : Int) < (LI.length : Int)) := by omega
      have hcN : c = LI.length := by omega
      subst hcN
      have HE := Lib.hid ((HD.out.setDown false).setArmed 0)
      have cd := HD.out.down
      have ca := HD.out.armed
      have fd := HD.out.1.frozen 2
      have fa := HD.out.1.frozen 1
      go_wp2_with fail
      go_ret
      exact ⟨rfl, by rw [HX.out]; exact HE.out, ((Only2.of_below HB.out).trans HO.out |>.set_ (p := ⟨d, 2, none⟩) (.inl rfl) _).set_ (p := ⟨d, 1, none⟩) (.inl rfl) _⟩
end Go.Proofs.Ytnddkodenkmoiaa
