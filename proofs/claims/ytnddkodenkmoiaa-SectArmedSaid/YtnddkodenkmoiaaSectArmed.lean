/- SectArmed answers true. -/
import Derived.Test.YtnddkodenkmoiaaDisk9
namespace Go.Proofs.Ytnddkodenkmoiaa
open Go.RowKit Go.Proofs
set_option linter.unusedSimpArgs false
set_option linter.unusedVariables false
theorem tearSt_loose (LI : List Nat) (ks : List Int) (L : List Sec) : ∀ c, c ≤ LI.length → ∀ i s, (tearSt LI ks L c)[i]? = some s → s.loose = true → (∃ s0, L[i]? = some s0 ∧ s0.loose = true) ∧ i ∉ LI.take c
  | 0, _, i, s, h, hl => ⟨⟨s, h, hl⟩, by simp⟩
  | c + 1, hc, i, s, h, hl => by
    have ih := tearSt_loose LI ks L c (by omega)
    obtain ⟨t, ht⟩ : ∃ t, LI[c]? = some t := ⟨_, List.getElem?_eq_getElem (by omega)⟩
    have hg : LI.getD c 0 = t := by rw [List.getD_eq_getElem?_getD, ht]; rfl
    have htk : LI.take (c + 1) = LI.take c ++ [t] := by rw [List.take_add_one, ht]; rfl
    change (tearAt (tearSt LI ks L c) (LI.getD c 0) (kAt ks c))[i]? = some s at h
    rw [hg] at h
    unfold tearAt at h
    by_cases hti : t = i
    · subst hti
      cases hq : (tearSt LI ks L c)[t]? with
      | none => rw [hq] at h; simp only [hq] at h; cases h
      | some s1 =>
        rw [hq] at h
        simp only at h
        rw [List.getElem?_set_self (List.getElem?_eq_some_iff.1 hq).1] at h
        obtain rfl := Option.some.inj h
        cases hl
    · have h2 : (tearSt LI ks L c)[i]? = some s := by
        cases hq : (tearSt LI ks L c)[t]? with
        | none => rw [hq] at h; exact h
        | some s1 => rw [hq] at h; simp only at h; rw [List.getElem?_set_ne hti] at h; exact h
      obtain ⟨h3, h4⟩ := ih i s h2 hl
      refine ⟨h3, ?_⟩
      rw [htk, List.mem_append, List.mem_singleton]
      rintro (h5 | h5)
      · exact h4 h5
      · exact hti h5.symm
theorem crash_loose (x : Dk) (ks : List Int) (n : Nat) : looseI (x.crash ks).L n = [] := by
  unfold looseI looseTo
  rw [List.map_eq_nil_iff, List.filter_eq_nil_iff]
  intro i hi hl
  cases hq : (x.crash ks).L[i]? with
  | none => rw [hq] at hl; simp at hl
  | some s =>
    rw [hq] at hl
    have hlo : s.loose = true := by simpa using hl
    obtain ⟨⟨s0, h1, h2⟩, h3⟩ := tearSt_loose (looseTo x.L x.L.length) ks x.L _ (Nat.le_refl _) i s hq hlo
    rw [List.take_length] at h3
    apply h3
    unfold looseTo
    rw [List.mem_filter, List.mem_range]
    exact ⟨(List.getElem?_eq_some_iff.1 h1).1, by rw [h1]; simp [h2]⟩
theorem Blk.only2 {d g : Nat} {w w' : World} {r : Nat} {t : TypeId} {cs : Array Value} (h : Blk w r t cs) (hO : Only2 d g w w') (h1 : r ≠ d) (h2 : r ≠ g) : Blk w' r t cs := (hO.block r h.lt h1 h2).trans h
def xx : ByteArray := ⟨#[120]⟩
/-- A disk that is armed for its k-th write, behind c writes. -/
def st (k : Nat) : Nat → Dk
  | 0 => (dk0 9).arm (k : Int)
  | c + 1 => (st k c).write ((c + 1 : Nat) : Int) xx
def stOk (k : Nat) : Bool := (List.range k).all (fun c => decide ((st k c).armed ≤ 9223372036854775807) && (st k c).down == false && ((c + 1 == k) || ((st k c).writeR ((c + 1 : Nat) : Int) xx == 0))) && ((st k (k - 1)).syncR == 12) && (st k (k - 1)).sync.down && ((looseI (st k (k - 1)).sync.L (st k (k - 1)).sync.L.length).length == k - 1) && decide ((st k (k - 1)).sync.armed ≤ 9223372036854775807) && ((dk0 9).armR (k : Int) == 0)
theorem stOk_all : (List.range 7).all (fun k => k == 0 || stOk k) = true := by decide +kernel
theorem stOk_of {k : Nat} (h1 : 1 ≤ k) (h2 : k ≤ 6) : (∀ c, c < k → (st k c).armed ≤ 9223372036854775807 ∧ (st k c).down = false ∧ (c + 1 < k → (st k c).writeR ((c + 1 : Nat) : Int) xx = 0)) ∧ (st k (k - 1)).syncR = 12 ∧ (st k (k - 1)).sync.down = true ∧ (looseI (st k (k - 1)).sync.L (st k (k - 1)).sync.L.length).length = k - 1 ∧ (st k (k - 1)).sync.armed ≤ 9223372036854775807 ∧ (dk0 9).armR (k : Int) = 0 := by
  have h := List.all_eq_true.1 stOk_all k (List.mem_range.2 (by omega))
  have h0 : (k == 0) = false := by simpa using (show k ≠ 0 by omega)
  rw [h0, Bool.false_or] at h
  unfold stOk at h
  simp only [Bool.and_eq_true, List.all_eq_true, List.mem_range, decide_eq_true_eq, beq_iff_eq, Bool.or_eq_true] at h
  obtain ⟨⟨⟨⟨⟨h, h3⟩, h4⟩, h5⟩, h7⟩, h6⟩ := h
  refine ⟨fun c hc => ⟨(h c hc).1.1, (h c hc).1.2, fun hlt => ?_⟩, h3, h4, h5, h7, h6⟩
  rcases (h c hc).2 with h7 | h7
  · omega
  · exact h7
set_option maxRecDepth 100000 in
set_option maxHeartbeats 4000000 in
theorem sectArmed_any (n k i : Int) (s : ByteArray) (o : Option Addr) (ks : List Int) (cp : Nat) (w : World) (hn0 : 0 ≤ n) (hn1 : n ≤ 255) (hcp : ks.length ≤ cp) (hks : ∀ j k, ks[j]? = some k → ∃ a, o = some a ∧ w.cell? (a.add j) = some (.int .i64 k)) (hkl : ks.length ≤ 9223372036854775807) :
    Calls Try.prog 4 #[.int .u8 n, .agg #[.int .i64 k, .int .i64 i, .string s, .slice o ks.length cp]] w fun e w' => e = .returned (.bool true) ∧ Below w.heap.size w w' := by
  have HKS := Lib.hid hks
  clear hks
  go_enter Try.func4, Try.ntmps4
  go_wp2_with fail
  have HR := Lib.hid (Blk.new w 38 #[.int .i64 k, .int .i64 i, .string s, .slice o ks.length cp])
  have HB := Lib.hid ((Below.refl w.heap.size w).alloc (Nat.le_refl _) (.cells #[.int .i64 k, .int .i64 i, .string s, .slice o ks.length cp] 38))
  generalize w.alloc (.cells #[.int .i64 k, .int .i64 i, .string s, .slice o ks.length cp] 38) = w0 at HR HB ⊢
  have hrl := HR.out.lt
  refine (new_any 9 w0).mono ?_
  rintro e w1 (⟨h, _⟩ | ⟨_, d, g, hd, hg, rfl, hD, hB⟩)
  · exact absurd (by decide +kernel) h
  have HR := Lib.hid (HR.out.below hB HR.out.lt)
  have hd2 : w.heap.size ≤ d := Nat.le_trans HB.out.size hd
  have hg2 : w.heap.size ≤ g := Nat.le_trans HB.out.size hg
  have HB := Lib.hid (HB.out.trans (hB.mono HB.out.size))
  have HD := Lib.hid hD
  clear hB hD
  go_wp2_with fail
  obtain ⟨m, hm⟩ : ∃ m : Nat, n % 6 + 1 = (m : Int) := ⟨(n % 6 + 1).toNat, by omega⟩
  have hm1 : 1 ≤ m := by omega
  have hm2 : m ≤ 6 := by omega
  rw [hm]
  clear hm
  obtain ⟨hst, hsy, hdn, hll, hsa, har⟩ := stOk_of hm1 hm2
  have HST := Lib.hid hst
  have HSY := Lib.hid hsy
  have HDN := Lib.hid hdn
  have HLL := Lib.hid hll
  have HSA := Lib.hid hsa
  clear hst hsy hdn hll hsa
  refine (arm_any d g (dk0 9) (m : Int) w1 HD.out).mono ?_
  rintro e w2 ⟨rfl, hD, hO⟩
  rw [har]
  have HD := Lib.hid (show DiskAt w2 d g (st m 0) from hD)
  have HR := Lib.hid (HR.out.only2 hO (by omega) (by omega))
  have HB := Lib.hid (HB.out.trans (hO.below HB.out.size hd2 hg2))
  clear hD hO har
  go_wp2_with fail
  refine (awake_any w2).mono ?_
  rintro e w3 ⟨rfl, hb⟩
  have HD := Lib.hid (HD.out.below hb)
  have HR := Lib.hid (HR.out.below hb HR.out.lt)
  have HB := Lib.hid (HB.out.trans (hb.mono HB.out.size))
  clear hb
  go_wp2_with fail
  have hrd : w.heap.size ≠ d := by omega
  have hrg : w.heap.size ≠ g := by omega
  go_loopw [8] (fun v8 wr => ∃ c : Nat, c + 1 ≤ m ∧ v8 = .int .i64 ((c + 1 : Nat) : Int) ∧ DiskAt wr d g (st m c) ∧ Blk wr w.heap.size 38 #[.int .i64 k, .int .i64 i, .string s, .slice o ks.length cp] ∧ Below w.heap.size w wr) (fun v8 _ => m - (intOf v8).toNat)
  case atStart => exact ⟨0, hm1, rfl, HD.out, HR.out, HB.out⟩
  case round =>
    obtain ⟨c, hc, rfl, hD, hR, hB⟩ := hrel
    clear HD HR HB
    have HD := Lib.hid hD
    have HR := Lib.hid hR
    have HB := Lib.hid hB
    clear hD hR hB
    obtain ⟨ha, hdn, hw⟩ := HST.out c (by omega)
    by_cases hlt : c + 1 < m
    · have i1 : ((c + 1 : Nat) : Int) < (m : Int) := by omega
      have hw2 := hw hlt
      obtain ⟨_, hdn2, _⟩ := HST.out (c + 1) hlt
      have HDN2 := Lib.hid hdn2
      clear hw hdn hdn2
      go_wp2_with fail
      refine (write_any d g (st m c) ((c + 1 : Nat) : Int) xx wr HD.out ha).mono ?_
      rintro e w4 ⟨rfl, hD, hO⟩
      rw [hw2]
      have HD := Lib.hid (show DiskAt w4 d g (st m (c + 1)) from hD)
      have HR := Lib.hid (HR.out.only2 hO hrd hrg)
      have HB := Lib.hid (HB.out.trans (hO.below HB.out.size hd2 hg2))
      clear hD hO hw2
      go_wp2_with fail
      refine (down_any d g (st m (c + 1)) w4 HD.out).mono ?_
      rintro e w5 ⟨rfl, rfl⟩
      rw [HDN2.out]
      go_wp2_with fail
      go_roundw
      case rel => exact ⟨c + 1, by omega, by go_num, HD.out, HR.out, HB.out⟩
      case measure => simp [intOf]; omega
    · have i1 : ¬ (((c + 1 : Nat) : Int) < (m : Int)) := by omega
      have hmc : m = c + 1 := by omega
      subst hmc
      have hs12 : (st (c + 1) c).syncR = 12 := HSY.out
      have HDN := Lib.hid (show (st (c + 1) c).sync.down = true from HDN.out)
      have HLL := Lib.hid (show (looseI (st (c + 1) c).sync.L (st (c + 1) c).sync.L.length).length = c from HLL.out)
      clear hw hdn HST HSY
      go_wp2_with fail
      refine (sync_any d g (st (c + 1) c) wr HD.out ha).mono ?_
      rintro e w4 ⟨rfl, hD, hO⟩
      rw [hs12]
      have HD := Lib.hid hD
      have HR := Lib.hid (HR.out.only2 hO hrd hrg)
      have HB := Lib.hid (HB.out.trans (hO.below HB.out.size hd2 hg2))
      clear hD hO hs12 ha
      have HAR := Lib.hid (show (st (c + 1) c).sync.armed ≤ 9223372036854775807 from HSA.out)
      generalize (st (c + 1) c).sync = x at HD HDN HLL HAR
      go_wp2_with fail
      refine (down_any d g x w4 HD.out).mono ?_
      rintro e w5 ⟨rfl, rfl⟩
      rw [HDN.out]
      go_wp2_with fail
      refine (loose_any d g x w4 HD.out).mono ?_
      rintro e w5 ⟨v, rfl, hOw, hb⟩
      have hrow := hOw.row
      have hlq := HLL.out
      obtain ⟨q, qc, rfl⟩ : ∃ q qc, v = .slice q c qc := by
        rcases hrow with ⟨rfl, h⟩ | ⟨a, qc, rfl, _⟩
        · rw [h] at hlq
          exact ⟨none, 0, by rw [← hlq]; rfl⟩
        · rw [hlq]; exact ⟨_, _, rfl⟩
      clear hrow hlq hOw
      have HD := Lib.hid (HD.out.below hb)
      have HR := Lib.hid (HR.out.below hb HR.out.lt)
      have HB := Lib.hid (HB.out.trans (hb.mono HB.out.size))
      clear hb
      have i2 : ((c + 1 : Nat) : Int) - 1 = (c : Int) := by omega
      go_wp2_with fail
      refine (read_any d g x 0 w5 HD.out).mono ?_
      rintro e w6 ⟨rfl, rfl⟩
      rw [show x.readR 0 = (⟨#[]⟩, 12) by unfold Dk.readR; rw [if_pos HDN.out]]
      clear i2
      have r1 := HR.out.cell 1
      have r2 := HR.out.cell 2
      go_wp2_with fail
      have hxw : x.write i s = x := by unfold Dk.write; rw [if_pos HDN.out]
      have hxa : x.arm i = x := by unfold Dk.arm Dk.armR; rw [if_pos HDN.out]; rfl
      have hxs : x.sync = x := by unfold Dk.sync; rw [if_pos HDN.out]
      have hwr : x.writeR i s = 12 := by unfold Dk.writeR; rw [if_pos HDN.out]
      have har : x.armR i = 12 := by unfold Dk.armR; rw [if_pos HDN.out]
      have hsr : x.syncR = 12 := by unfold Dk.syncR; rw [if_pos HDN.out]
      refine (write_any d g x i s w5 HD.out HAR.out).mono ?_
      rintro e w6 ⟨rfl, hD, hO⟩
      rw [hwr]
      rw [hxw] at hD
      clear r1 r2
      have HD := Lib.hid hD
      have HR := Lib.hid (HR.out.only2 hO hrd hrg)
      have HB := Lib.hid (HB.out.trans (hO.below HB.out.size hd2 hg2))
      clear hD hO
      go_wp2_with fail
      refine (sync_any d g x w6 HD.out HAR.out).mono ?_
      rintro e w7 ⟨rfl, hD, hO⟩
      rw [hsr]
      rw [hxs] at hD
      have HD := Lib.hid hD
      have HR := Lib.hid (HR.out.only2 hO hrd hrg)
      have HB := Lib.hid (HB.out.trans (hO.below HB.out.size hd2 hg2))
      clear hD hO
      have r1 := HR.out.cell 1
      go_wp2_with fail
      refine (arm_any d g x i w7 HD.out).mono ?_
      rintro e w8 ⟨rfl, hD, hO⟩
      rw [har]
      rw [hxa] at hD
      clear r1 hxw hxa hxs hwr har hsr
      have HD := Lib.hid hD
      have HR := Lib.hid (HR.out.only2 hO hrd hrg)
      have HB := Lib.hid (HB.out.trans (hO.below HB.out.size hd2 hg2))
      clear hD hO
      have r3 := HR.out.cell 3
      go_wp2_with fail
      have hK : KeepAt d g w8 (.slice o ks.length cp) ks := ⟨o, cp, rfl, hcp, fun j k hj => by
        obtain ⟨a, ha, hc⟩ := HKS.out j k hj
        have hlt := World.block_lt_of_cell? w _ hc
        have hab := add_block a j
        exact ⟨a, ha, (HB.out.cell hlt).trans hc, by omega, by omega⟩⟩
      refine (crash_any d g x _ ks w8 HD.out hK hkl).mono ?_
      rintro e w9 ⟨rfl, hD, hO⟩
      clear r3 hK
      have HD := Lib.hid hD
      have HB := Lib.hid (HB.out.trans (hO.below HB.out.size hd2 hg2))
      have HCL := Lib.hid (crash_loose x ks)
      have HCD := Lib.hid (show (x.crash ks).down = false from rfl)
      clear hD hO HR
      generalize x.crash ks = y at HD HCL HCD
      go_wp2_with fail
      refine (down_any d g y w9 HD.out).mono ?_
      rintro e w10 ⟨rfl, rfl⟩
      rw [HCD.out]
      go_wp2_with fail
      refine (loose_any d g y w9 HD.out).mono ?_
      rintro e w10 ⟨v, rfl, hOw, hb⟩
      rw [HCL.out] at hOw
      obtain ⟨q, qc, rfl⟩ : ∃ q c, v = .slice q 0 c := by
        rcases hOw.row with ⟨rfl, _⟩ | ⟨a, c, rfl, _⟩
        · exact ⟨_, _, rfl⟩
        · exact ⟨_, _, rfl⟩
      have HB := Lib.hid (HB.out.trans (hb.mono HB.out.size))
      clear hb hOw
      go_wp2_with fail
      go_ret
      exact ⟨rfl, HB.out⟩
end Go.Proofs.Ytnddkodenkmoiaa
