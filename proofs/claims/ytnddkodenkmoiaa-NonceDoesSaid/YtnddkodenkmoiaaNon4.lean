/- The allocator: Take; the laws' awake; NonceNone. -/
import Derived.Test.YtnddkodenkmoiaaNon3
namespace Go.Proofs.Ytnddkodenkmoiaa
open Go.RowKit Go.Proofs
set_option linter.unusedSimpArgs false
set_option linter.unusedVariables false
/-- Behind Take. -/
def TakeP (a c d g f size : Nat) (x : Dk) (next limit : Int) (w : World) (e : Ending) (w' : World) : Prop :=
  ∃ r, r = someE x f size next limit 1 ∧
    ((r ≠ 0 ∧ e = .returned (.tuple #[.int .i64 0, .int .i64 r]) ∧ SysAt w' a c d g f size next limit (someX x f size next limit 1)) ∨
     (r = 0 ∧ e = .returned (.tuple #[.int .i64 next, .int .i64 0]) ∧ SysAt w' a c d g f size (next + 1) (someL next limit 1) (someX x f size next limit 1))) ∧ OnlyS (S3 d g a) w w'
theorem own_zero {w : World} {base : Nat} {v : Value} {next : Int} (h : OwnI w base v (listN next (1 : Int).toNat)) : ∃ q cap, v = .slice (some ⟨q, 0, none⟩) 1 cap ∧ w.cell? ⟨q, 0, none⟩ = some (.int .i64 next) := by
  obtain ⟨h1, ⟨rfl, h⟩ | ⟨g, cap, cur, rfl, h2, h3, h4, h5, h6, h7⟩⟩ := h
  · cases h
  · refine ⟨g, cap, rfl, ?_⟩
    rw [show w.cell? ⟨g, 0, none⟩ = cur[0]? from cell_of_row w g 0 cur 3 (0, 0) h3]
    have e := congrArg (fun l => l[0]?) h7
    simp only [List.getElem?_take] at e
    rw [if_pos (by show 0 < 1 * 1; omega), Array.getElem?_toList] at e
    rw [e]
    show some (ii (next + ((0 : Nat) : Int))) = _
    unfold ii; simp
set_option maxRecDepth 100000 in
set_option maxHeartbeats 4000000 in
theorem take_any (a c d g f size : Nat) (x : Dk) (next limit : Int) (w : World) (hS : SysAt w a c d g f size next limit x) (ha : x.armed ≤ 9223372036854775807) (h1 : 1 ≤ size) (h2 : size ≤ 255) (hf : f + 2 + 2 * size ≤ x.L.length)
    (hn0 : 0 ≤ next) (hn1 : next ≤ 1099511627776) (hl0 : 0 ≤ limit) (hl1 : limit ≤ 2199023255000) :
    Calls Try.prog 38 #[.pointer (some ⟨a, 0, none⟩)] w (TakeP a c d g f size x next limit w) := by
  go_enter Try.func38, Try.ntmps38
  go_wp2_with fail
  refine (some_any a c d g f size x next limit 1 w hS ha h1 h2 hf hn0 hn1 hl0 hl1).mono ?_
  rintro e w2 ⟨v, r, rfl, hr, ⟨hr0, rfl, hs⟩ | ⟨rfl, hO, hs⟩, hon⟩
  · have HS := Lib.hid hs
    have HO := Lib.hid hon
    have HR := Lib.hid hr
    have hr0b : (r == 0) = false := beq_eq_false_iff_ne.2 hr0
    clear hs hon hS hr
    go_wp2_with fail
    go_ret2
    exact ⟨r, HR.out, .inl ⟨hr0, rfl, HS.out⟩, HO.out⟩
  · obtain ⟨q, cap, rfl, hcell⟩ := own_zero hO
    have HS := Lib.hid hs
    have HO := Lib.hid hon
    have HR := Lib.hid hr
    clear hs hon hS hO hr
    go_wp2_with fail
    go_ret2
    exact ⟨0, HR.out, .inr ⟨rfl, rfl, HS.out⟩, HO.out⟩
theorem take_nil (w : World) :
    Calls Try.prog 38 #[.pointer none] w fun e w' => e = .returned (.tuple #[.int .i64 0, .int .i64 1]) ∧ Below w.heap.size w w' := by
  go_enter Try.func38, Try.ntmps38
  go_wp2_with fail
  refine (some_nil 1 w).mono ?_
  rintro e w2 ⟨rfl, hb⟩
  have HB := Lib.hid hb
  clear hb
  go_wp2_with fail
  go_ret2
  exact ⟨rfl, HB.out⟩
/-- A step of an allocator whose disk is not armed. -/
theorem some_calm {x : Dk} {f size cnt : Nat} {t : ByteArray} {next limit n : Int} (hK : CellOk x f size cnt t) (hf : f + 2 + 2 * size ≤ x.L.length) (h1 : 1 ≤ size) (h2 : size ≤ 255) (hc : cnt + 1 ≤ 1099511627776)
    (hn1 : 1 ≤ n) (hn2 : n ≤ 256) (hnx0 : 0 ≤ next) (hnx : next ≤ 1099511627760 - n + 1) (hl0 : 0 ≤ limit) (hl : limit ≤ 2199023255000) :
    someE x f size next limit n = 0 ∧ (someX x f size next limit n).L.length = x.L.length ∧
      CellOk (someX x f size next limit n) f size (if limit < next + n then cnt + 1 else cnt) (if limit < next + n then numT (someL next limit n) else t) := by
  by_cases h : limit < next + n
  · have hr := resL_bd h
    have hsz := numT_size (resL (next + n) limit) (by omega)
    obtain ⟨hl', hs⟩ := save_law hK.up hK.has hf h1 h2 hc (s := numT (resL (next + n) limit)) (by omega)
    have hcm := saveF_calm x f size (numT (resL (next + n) limit)) hK.calm
    have eE : someE x f size next limit n = (x.saveF f size (numT (resL (next + n) limit))).2 := by unfold someE; rw [if_neg (by omega), if_neg (by omega), if_pos h]
    have eX : someX x f size next limit n = (x.saveF f size (numT (resL (next + n) limit))).1 := by unfold someX; rw [if_neg (by omega), if_neg (by omega), if_pos h]
    have eL : someL next limit n = resL (next + n) limit := by unfold someL; rw [if_pos h]
    rw [if_pos h, if_pos h, eE, eX, eL]
    rcases hs with ⟨r0, r1, r2, _⟩ | ⟨_, r1, _⟩
    · exact ⟨r0, hl', hcm, r1, r2⟩
    · rw [hcm.1] at r1; cases r1
  · have eE : someE x f size next limit n = 0 := by unfold someE; rw [if_neg (by omega), if_neg (by omega), if_neg h]
    have eX : someX x f size next limit n = x := by unfold someX; rw [if_neg (by omega), if_neg (by omega), if_neg h]
    rw [if_neg h, if_neg h, eE, eX]
    exact ⟨rfl, rfl, hK⟩
/-- What Open makes of a number's text. -/
theorem open_num {x : Dk} {f size cnt : Nat} {k : Nat} (hU : x.down = false) (hC : Content x.B f size cnt (numT (k : Int))) (hs : size ≤ 255) (hc : cnt ≤ 1099511627776) (h1 : 1 ≤ cnt) (hk : k ≤ 1099511627776) :
    openE (x.loadF f size) = 0 ∧ openN (x.loadF f size) = (k : Int) := by
  have hl := load_law hU hC hs hc
  rw [if_neg (by omega)] at hl
  have hr : readP (by_ (numT (k : Int))) = ((k : Int), ((numOf (k : Int)).length : Int), 0) := readP_num k (by omega)
  rw [hl]
  refine ⟨?_, ?_⟩
  · unfold openE
    rw [if_neg (by simp), if_neg (by simp)]
    simp only [hr]
    rw [if_neg]
    rintro (h | h | h | h)
    · exact h rfl
    · have : (numT (k : Int)).size = (numOf (k : Int)).length := by unfold numT; rw [strOf_size]
      omega
    · omega
    · omega
  · unfold openN
    rw [if_neg (by simp)]
    simp only [hr]
theorem open_fresh {x : Dk} {f size : Nat} {t : ByteArray} (hU : x.down = false) (hC : Content x.B f size 0 t) (hs : size ≤ 255) :
    openE (x.loadF f size) = 0 ∧ openN (x.loadF f size) = 0 := by
  have hl := load_law hU hC hs (by omega)
  rw [if_pos rfl] at hl
  rw [hl]
  exact ⟨rfl, rfl⟩
theorem openA_ok (c d g f size : Nat) (x : Dk) (k : Int) (w : World) (hc : CellAt w c d (f : Int) (size : Int)) (hD : DiskAt w d g x) (h1 : 1 ≤ size) (h2 : size ≤ 255) (hf : f + 2 + 2 * size ≤ x.L.length) (ho : openE (x.loadF f size) = 0 ∧ openN (x.loadF f size) = k) :
    Calls Try.prog 32 #[.pointer (some ⟨c, 0, none⟩)] w fun e w' => (∃ a, w.heap.size ≤ a ∧ e = .returned (.tuple #[.pointer (some ⟨a, 0, none⟩), .int .i64 0]) ∧ SysAt w' a c d g f size k k x) ∧ Below w.heap.size w w' := by
  refine (openA_any c d g f size x w hc hD h1 h2 hf).mono ?_
  rintro e w' ⟨⟨_, a, ha, he, hA⟩ | ⟨hne, _⟩, hB⟩
  · rw [ho.2] at hA
    exact ⟨⟨a, ha, he, hA, hc.below hB hc.lt, hD.below hB⟩, hB⟩
  · exact absurd ho.1 hne
set_option maxRecDepth 100000 in
set_option maxHeartbeats 4000000 in
theorem awakeN_any (w : World) :
    Calls Try.prog 33 #[] w fun e w' => e = .returned (.bool true) ∧ Below w.heap.size w w' := by
  go_enter Try.func33, Try.ntmps33
  go_wp2_with fail
  refine (new_n 6 w (by omega) (by omega)).mono ?_
  rintro e w1 ⟨d, g, hd, hg, rfl, hD, hB⟩
  have HD := Lib.hid hD
  have HB := Lib.hid hB
  clear hD hB
  go_wp2_with fail
  refine (open_any d g 0 1 (dk0 6) w1 HD.out rfl (by omega) (by omega) (by rw [dk0_len]; omega)).mono ?_
  rintro e w2 ⟨rfl, hC, hB⟩
  have HD := Lib.hid (HD.out.below hB)
  have HC := Lib.hid hC
  have HB := Lib.hid (HB.out.trans (hB.mono HB.out.size))
  clear hC hB
  generalize w1.heap.size = c at HC ⊢
  have HK0 := Lib.hid (dk0_ok 6 0 1 (by omega))
  go_wp2_with fail
  refine (openA_ok c d g 0 1 (dk0 6) 0 w2 HC.out HD.out (by omega) (by omega) (by rw [dk0_len]; omega) (open_fresh HK0.out.up.up HK0.out.has (by omega))).mono ?_
  rintro e w3 ⟨⟨a, haw, rfl, hS⟩, hB⟩
  have haw : w.heap.size ≤ a := by have := HB.out.size; omega
  have HS := Lib.hid hS
  have HB := Lib.hid (HB.out.trans (hB.mono HB.out.size))
  have HC := Lib.hid hS.cell
  clear hS hB HD
  go_wp2_with fail
  refine (take_any a c d g 0 1 (dk0 6) 0 0 w3 HS.out (by decide +kernel) (by omega) (by omega) (by rw [dk0_len]; omega) (by omega) (by omega) (by omega) (by omega)).mono ?_
  obtain ⟨e0, l0, k0⟩ := some_calm (next := 0) (limit := 0) (n := 1) HK0.out (by rw [dk0_len]; omega) (by omega) (by omega) (by omega) (by omega) (by omega) (by omega) (by omega) (by omega) (by omega)
  rw [show (if (0 : Int) < 0 + 1 then 0 + 1 else 0 : Nat) = 1 from rfl, show (if (0 : Int) < 0 + 1 then numT (someL 0 0 1) else none_) = numT ((16 : Nat) : Int) from rfl] at k0
  have HK1 := Lib.hid k0
  have HL1 := Lib.hid (l0.trans (dk0_len 6))
  clear k0 l0
  rintro e w4 ⟨r, hr, ⟨hr0, _⟩ | ⟨rfl, rfl, hS⟩, hO⟩
  · exact absurd (hr.trans e0) hr0
  have HS1 := Lib.hid (show SysAt w4 a c d g 0 1 1 16 _ from hS)
  have HB := Lib.hid (HB.out.trans (hO.below HB.out.size (by rintro i (rfl | rfl | rfl) <;> assumption)))
  clear hS hO hr e0 HS HK0
  generalize someX (dk0 6) 0 1 0 0 1 = x1 at HS1 HK1 HL1
  go_wp2_with fail
  refine (openA_ok c d g 0 1 x1 ((16 : Nat) : Int) w4 HS1.out.cell HS1.out.disk (by omega) (by omega) (by rw [HL1.out]; omega) (open_num HK1.out.up.up HK1.out.has (by omega) (by omega) (by omega) (by omega))).mono ?_
  rintro e w5 ⟨⟨b, hbw, rfl, hS⟩, hB⟩
  have hbw2 : w.heap.size ≤ b := by have := HB.out.size; omega
  have hab : a ≠ b := by have := HS1.out.alloc.lt; omega
  have HA := Lib.hid (show AllocAt w5 a c 1 16 from HS1.out.alloc.below hB HS1.out.alloc.lt)
  have HS := Lib.hid hS
  have HB := Lib.hid (HB.out.trans (hB.mono HB.out.size))
  clear hS hB HS1
  go_wp2_with fail
  refine (take_any b c d g 0 1 x1 16 16 w5 HS.out (by have := HK1.out.calm.2; omega) (by omega) (by omega) (by rw [HL1.out]; omega) (by omega) (by omega) (by omega) (by omega)).mono ?_
  obtain ⟨e0, l0, k0⟩ := some_calm (next := 16) (limit := 16) (n := 1) HK1.out (by rw [HL1.out]; omega) (by omega) (by omega) (by omega) (by omega) (by omega) (by omega) (by omega) (by omega) (by omega)
  clear k0 l0
  rintro e w6 ⟨r, hr, ⟨hr0, _⟩ | ⟨rfl, rfl, hS⟩, hO⟩
  · exact absurd (hr.trans e0) hr0
  have HA := Lib.hid (show AllocAt w6 a c 1 16 from hO.blk HA.out (by
    rintro (e | e | e)
    · exact HA.out.ne_ HS.out.disk.1 (by decide) e
    · exact HA.out.ne_ HS.out.disk.2.1 (by decide) e
    · exact hab e))
  have HB := Lib.hid (HB.out.trans (hO.below HB.out.size (by rintro i (rfl | rfl | rfl) <;> assumption)))
  clear hS hO hr e0
  go_wp2_with fail
  refine (limit_any a c 1 16 w6 HA.out).mono ?_
  rintro e w7 ⟨rfl, rfl⟩
  go_wp2_with fail
  refine (next_any a c 1 16 w6 HA.out).mono ?_
  rintro e w7 ⟨rfl, rfl⟩
  go_wp2_with fail
  go_ret
  exact ⟨rfl, HB.out⟩
set_option maxRecDepth 100000 in
set_option maxHeartbeats 4000000 in
theorem nonceNone_any (n : Int) (w : World) :
    Calls Try.prog 12 #[.int .i64 n] w fun e w' => e = .returned (.bool true) ∧ Below w.heap.size w w' := by
  go_enter Try.func12, Try.ntmps12
  go_wp2_with fail
  refine (take_nil w).mono ?_
  rintro e w1 ⟨rfl, hB⟩
  have HB := Lib.hid hB
  clear hB
  go_wp2_with fail
  refine (some_nil n w1).mono ?_
  rintro e w2 ⟨rfl, hB⟩
  have HB := Lib.hid (HB.out.trans (hB.mono HB.out.size))
  clear hB
  go_wp2_with fail
  refine (openA_nil w2).mono ?_
  rintro e w3 ⟨rfl, rfl⟩
  go_wp2_with fail
  refine (awakeN_any w2).mono ?_
  rintro e w3 ⟨rfl, hB⟩
  have HB := Lib.hid (HB.out.trans (hB.mono HB.out.size))
  clear hB
  go_wp2_with fail
  refine (next_nil w3).mono ?_
  rintro e w4 ⟨rfl, rfl⟩
  go_wp2_with fail
  refine (limit_nil w3).mono ?_
  rintro e w4 ⟨rfl, rfl⟩
  go_wp2_with fail
  go_ret
  exact ⟨rfl, HB.out⟩
end Go.Proofs.Ytnddkodenkmoiaa
