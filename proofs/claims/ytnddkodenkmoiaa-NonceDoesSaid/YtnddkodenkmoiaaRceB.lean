/- The reference's allocator: Open, Some; both systems side by side. -/
import Derived.Test.YtnddkodenkmoiaaRce6
import Derived.Test.YtnddkodenkmoiaaRnum
import Derived.Test.YtnddkodenkmoiaaNon4
import Derived.Test.YtnddkodenkmoiaaRdk6
import Derived.Test.YtnddkodenkmoiaaActs4
/- The reference's allocator: Open. -/
namespace Go.Proofs.Ytnddkodenkmoiaa
open Go.RowKit Go.Proofs
set_option linter.unusedSimpArgs false
set_option linter.unusedVariables false
/-- The reference's allocator at block b: its cell, the next number, the limit. -/
def AllocR (w : World) (b y : Nat) (next limit : Int) : Prop := Blk w b 84 #[.pointer (some ⟨y, 0, none⟩), .int .i64 next, .int .i64 limit]
theorem readP_le (l : List UInt8) (h : (readP l).2.2 = 0) : (readP l).2.1 ≤ (l.length : Int) := by
  have ha : aOf l ≤ l.length := by
    unfold aOf
    split
    · rename_i h1
      cases l with
      | nil => exact absurd h1 (by decide)
      | cons a l => simp
    · omega
  have he := endN_le ha
  unfold readP at h ⊢
  by_cases c1 : shapeE l (aOf l) (endN l (aOf l)) 59 ≠ 0
  · rw [if_pos c1] at h; exact absurd h c1
  · rw [if_neg c1] at h ⊢
    by_cases c2 : aOf l = 1 ∧ endN l (aOf l) = 2 ∧ l.getD 1 0 = 48
    · rw [if_pos c2] at h; exact absurd h (by decide)
    · rw [if_neg c2] at h ⊢
      by_cases c3 : 9223372036854775807 + aOf l < valFrom l (aOf l) 0
      · rw [if_pos c3] at h; exact absurd h (by decide)
      · rw [if_neg c3]
        have c4 : endN l (aOf l) ≠ l.length := by
          intro e
          unfold shapeE at c1
          rw [if_pos e] at c1
          exact c1 (by decide)
        show ((endN l (aOf l) : Nat) : Int) + 1 ≤ _
        omega
set_option maxRecDepth 100000 in
set_option maxHeartbeats 4000000 in
theorem openAR_any (y x gl go cl co : Nat) (X : Dk) (w : World) (hC : CellR w y x) (hR : RD w x gl go cl co X) (hl : X.L.length = 6) :
    Calls Try.prog 41 #[.pointer (some ⟨y, 0, none⟩)] w fun e w' =>
      ((openE (X.loadF 1 1) = 0 ∧ ∃ b, w.heap.size ≤ b ∧ e = .returned (.tuple #[.pointer (some ⟨b, 0, none⟩), .int .i64 0]) ∧ AllocR w' b y (openN (X.loadF 1 1)) (openN (X.loadF 1 1))) ∨
       (openE (X.loadF 1 1) ≠ 0 ∧ e = .returned (.tuple #[.pointer none, .int .i64 (openE (X.loadF 1 1))]))) ∧ Below w.heap.size w w' := by
  have hsz := loadF_size hR.ok 1 1
  have HC := Lib.hid hC
  have HR := Lib.hid hR
  clear hC hR
  go_enter Try.func41, Try.ntmps41
  go_wp2_with fail
  refine (loadR_any y x gl go cl co X w HC.out HR.out hl).mono ?_
  rintro e w1 ⟨rfl, hB⟩
  have HB := Lib.hid hB
  clear hB
  obtain ⟨⟨txt, n, code⟩, hp⟩ : ∃ p, X.loadF 1 1 = p := ⟨_, rfl⟩
  rw [hp] at hsz ⊢
  have HP := Lib.hid hp
  clear hp
  simp only at hsz ⊢
  by_cases h9 : code = 9
  · have HE := Lib.hid (show openE (X.loadF 1 1) = 0 by rw [HP.out]; unfold openE; rw [if_pos h9])
    have HN := Lib.hid (show openN (X.loadF 1 1) = 0 by rw [HP.out]; unfold openN; rw [if_pos h9])
    subst h9
    go_wp2_with fail
    go_ret2
    refine ⟨.inl ⟨HE.out, _, HB.out.size, rfl, ?_⟩, HB.out.alloc HB.out.size _⟩
    rw [HN.out]; exact Blk.new w1 84 _
  · by_cases h0 : code = 0
    · subst h0
      have HE := Lib.hid (show openE (X.loadF 1 1) = if (readP (by_ txt)).2.2 ≠ 0 ∨ (readP (by_ txt)).2.1 < (txt.size : Int) ∨ (readP (by_ txt)).1 < 0 ∨ 1099511627776 < (readP (by_ txt)).1 then 6 else 0 by rw [HP.out]; unfold openE; rw [if_neg h9, if_neg (by simp)])
      have HN := Lib.hid (show openN (X.loadF 1 1) = (readP (by_ txt)).1 by rw [HP.out]; unfold openN; rw [if_neg h9])
      have HRP := Lib.hid (readP_le (by_ txt))
      go_wp2_with fail
      refine (readR_any txt w1 (by unfold maxLen; omega)).mono ?_
      rintro e w' ⟨rfl, rfl⟩
      generalize readP (by_ txt) = r at HE HN HRP ⊢
      obtain ⟨r1, r2, r3⟩ := r
      simp only at HE HN HRP ⊢
      by_cases k3 : r3 = 0
      · by_cases k2 : r2 < (txt.size : Int)
        · have HE2 := Lib.hid (HE.out.trans (if_pos (.inr (.inl k2))))
          have kb : (r2 == (txt.size : Int)) = false := beq_eq_false_iff_ne.2 (by omega)
          subst k3
          go_wp2_with fail
          go_ret2
          exact ⟨.inr ⟨by rw [HE2.out]; decide, by rw [HE2.out]; rfl⟩, HB.out⟩
        · obtain rfl : r2 = (txt.size : Int) := by have := HRP.out k3; rw [← by_size] at this; omega
          by_cases k1 : r1 < 0
          · have HE2 := Lib.hid (HE.out.trans (if_pos (.inr (.inr (.inl k1)))))
            subst k3
            go_wp2_with fail
            go_ret2
            exact ⟨.inr ⟨by rw [HE2.out]; decide, by rw [HE2.out]; rfl⟩, HB.out⟩
          · by_cases k4 : 1099511627776 < r1
            · have HE2 := Lib.hid (HE.out.trans (if_pos (.inr (.inr (.inr k4)))))
              subst k3
              go_wp2_with fail
              go_ret2
              exact ⟨.inr ⟨by rw [HE2.out]; decide, by rw [HE2.out]; rfl⟩, HB.out⟩
            · have HE2 := Lib.hid (HE.out.trans (if_neg (by rintro (h | h | h | h) <;> first | exact h k3 | omega)))
              subst k3
              go_wp2_with fail
              go_ret2
              refine ⟨.inl ⟨HE2.out, _, HB.out.size, rfl, ?_⟩, HB.out.alloc HB.out.size _⟩
              rw [HN.out]; exact Blk.new _ 84 _
      · have HE2 := Lib.hid (HE.out.trans (if_pos (.inl k3)))
        have k3b : (r3 == 0) = false := beq_eq_false_iff_ne.2 k3
        go_wp2_with fail
        go_ret2
        exact ⟨.inr ⟨by rw [HE2.out]; decide, by rw [HE2.out]; rfl⟩, HB.out⟩
    · have HE := Lib.hid (show openE (X.loadF 1 1) = code by rw [HP.out]; unfold openE; rw [if_neg h9, if_pos h0])
      have b9 : (code == 9) = false := beq_eq_false_iff_ne.2 h9
      have b0 : (code == 0) = false := beq_eq_false_iff_ne.2 h0
      go_wp2_with fail
      go_ret2
      exact ⟨.inr ⟨by rw [HE.out]; exact h0, by rw [HE.out]; rfl⟩, HB.out⟩
end Go.Proofs.Ytnddkodenkmoiaa
/- The reference's allocator: Some. -/
namespace Go.Proofs.Ytnddkodenkmoiaa
open Go.RowKit Go.Proofs
set_option linter.unusedSimpArgs false
set_option linter.unusedVariables false
def S4 (x gl go b : Nat) : Nat → Prop := fun i => i = x ∨ i = gl ∨ i = go ∨ i = b
/-- The reference: allocator, cell, disk. -/
structure RefAt (w : World) (b y x gl go cl co : Nat) (next limit : Int) (X : Dk) : Prop where
  alloc : AllocR w b y next limit
  cell : CellR w y x
  disk : RD w x gl go cl co X
section
variable {w w' : World} {b y x gl go cl co : Nat} {next limit : Int} {X : Dk}
theorem Only3.keptT {a c : World} {q : Nat} {t : TypeId} {cs : Array Value} (h : Only3 x gl go a c) (hR : RD a x gl go cl co X) (hq : Blk a q t cs) (h1 : t ≠ 32) (h2 : t ≠ 9) : KeptOn (fun i => i = q) a c := by
  obtain ⟨A, hA⟩ := hR.now.blk
  obtain ⟨B, hB⟩ := hR.old.blk
  exact ⟨h.size, fun i hi e => by subst e; exact h.block i hi (hq.ne_ hR.head h1) (hq.ne_ hA h2) (hq.ne_ hB h2)⟩
theorem RD.far (h : RD w x gl go cl co X) {p : Addr} (h1 : x ≠ p.block) (h2 : gl ≠ p.block) (h3 : go ≠ p.block) (u : Value) : RD (w.setCell p u) x gl go cl co X :=
  { h with head := h.head.far h1 u, now := h.now.far h2 u, old := h.old.far h3 u }
theorem RD.grownB (h : RD w x gl go cl co X) {row : Option Nat} (hg : w.grownBy w' row) (h1 : some x ≠ row) (h2 : some gl ≠ row) (h3 : some go ≠ row) : RD w' x gl go cl co X :=
  { h with head := h.head.grown hg h1, now := h.now.same (hg.block gl h.now.lt h2), old := h.old.same (hg.block go h.old.lt h3) }
theorem RD.neT (h : RD w x gl go cl co X) {q : Nat} {t : TypeId} {cs : Array Value} (hq : Blk w q t cs) (h1 : t ≠ 32) (h2 : t ≠ 9) : x ≠ q ∧ gl ≠ q ∧ go ≠ q := by
  obtain ⟨A, hA⟩ := h.now.blk
  obtain ⟨B, hB⟩ := h.old.blk
  exact ⟨h.head.ne_ hq (fun e => h1 e.symm), hA.ne_ hq (fun e => h2 e.symm), hB.ne_ hq (fun e => h2 e.symm)⟩
theorem RefAt.ne (h : RefAt w b y x gl go cl co next limit X) : y ≠ b ∧ x ≠ b ∧ gl ≠ b ∧ go ≠ b :=
  ⟨h.cell.ne_ h.alloc (by decide), h.disk.neT h.alloc (by decide) (by decide)⟩
theorem RefAt.below (h : RefAt w b y x gl go cl co next limit X) (hb : Below w.heap.size w w') : RefAt w' b y x gl go cl co next limit X :=
  ⟨h.alloc.below hb h.alloc.lt, h.cell.below hb h.cell.lt, h.disk.below hb⟩
theorem RefAt.drew (h : RefAt w b y x gl go cl co next limit X) : RefAt w.drew b y x gl go cl co next limit X := ⟨h.alloc, h.cell, h.disk.drew⟩
theorem RefAt.setNext (h : RefAt w b y x gl go cl co next limit X) (n : Int) : RefAt (w.setCell ⟨b, 1, none⟩ (.int .i64 n)) b y x gl go cl co n limit X := by
  obtain ⟨n1, n2, n3, n4⟩ := h.ne
  exact ⟨h.alloc.set_ 1 (.int .i64 n), h.cell.far (p := ⟨b, 1, none⟩) n1 _, h.disk.far (p := ⟨b, 1, none⟩) n2 n3 n4 _⟩
theorem RefAt.setLimit (h : RefAt w b y x gl go cl co next limit X) (n : Int) : RefAt (w.setCell ⟨b, 2, none⟩ (.int .i64 n)) b y x gl go cl co next n X := by
  obtain ⟨n1, n2, n3, n4⟩ := h.ne
  exact ⟨h.alloc.set_ 2 (.int .i64 n), h.cell.far (p := ⟨b, 2, none⟩) n1 _, h.disk.far (p := ⟨b, 2, none⟩) n2 n3 n4 _⟩
theorem RefAt.grown3 {base : Nat} {v : Value} {xs : List Int} (h : RefAt w b y x gl go cl co next limit X) (ho : OwnI w base v xs) (hg : w.grownBy w' v.ownBlock) : RefAt w' b y x gl go cl co next limit X := by
  obtain ⟨A, hA⟩ := h.disk.now.blk
  obtain ⟨B, hB⟩ := h.disk.old.blk
  exact ⟨h.alloc.grown hg (fun e => own3_ne ho h.alloc (by decide) e.symm), h.cell.grown hg (fun e => own3_ne ho h.cell (by decide) e.symm),
    h.disk.grownB hg (fun e => own3_ne ho h.disk.head (by decide) e.symm) (fun e => own3_ne ho hA (by decide) e.symm) (fun e => own3_ne ho hB (by decide) e.symm)⟩
theorem OnlyS.of_only3 {S : Nat → Prop} {a c : World} (h : Only3 x gl go a c) (h1 : S x) (h2 : S gl) (h3 : S go) : OnlyS S a c :=
  ⟨h.os, h.tape, h.output, h.size, fun i hi hs => h.block i hi (fun e => hs (e ▸ h1)) (fun e => hs (e ▸ h2)) (fun e => hs (e ▸ h3))⟩
end
/-- Behind the reference's Some. -/
def SomeRP (b y x gl go cl co : Nat) (X : Dk) (next limit n : Int) (w : World) (e : Ending) (w' : World) : Prop :=
  ∃ v r, e = .returned (.tuple #[v, .int .i64 r]) ∧ r = someE X 1 1 next limit n ∧
    ((r ≠ 0 ∧ v = .slice none 0 0 ∧ RefAt w' b y x gl go cl co next limit (someX X 1 1 next limit n)) ∨
     (r = 0 ∧ OwnI w' w.heap.size v (listN next n.toNat) ∧ RefAt w' b y x gl go cl co (next + n) (someL next limit n) (someX X 1 1 next limit n))) ∧ OnlyS (S4 x gl go b) w w'
set_option maxRecDepth 100000 in
set_option maxHeartbeats 8000000 in
theorem someR_any (b y x gl go cl co : Nat) (X : Dk) (next limit n : Int) (w : World) (hS : RefAt w b y x gl go cl co next limit X) (hl : X.L.length = 6)
    (hn0 : 0 ≤ next) (hn1 : next ≤ 1099511627776) (hl0 : 0 ≤ limit) (hl1 : limit ≤ 2199023255000) :
    Calls Try.prog 45 #[.pointer (some ⟨b, 0, none⟩), .int .i64 n] w (SomeRP b y x gl go cl co X next limit n w) := by
  have cB1 : w.cell? ⟨b, 1, none⟩ = some (.int .i64 next) := Blk.cell hS.alloc 1
  have cB2 : w.cell? ⟨b, 2, none⟩ = some (.int .i64 limit) := Blk.cell hS.alloc 2
  have HS := Lib.hid hS
  have HLN := Lib.hid hl
  clear hS hl
  by_cases hb : n < 1 ∨ 256 < n
  · have HE := Lib.hid (show someE X 1 1 next limit n = 2 by unfold someE; rw [if_pos hb])
    have HX := Lib.hid (show someX X 1 1 next limit n = X by unfold someX; rw [if_pos hb])
    rcases hb with hb | hb
    · go_enter Try.func45, Try.ntmps45
      go_wp2_with fail
      go_ret2
      exact ⟨_, 2, rfl, HE.out.symm, .inl ⟨by decide, rfl, by rw [HX.out]; exact HS.out⟩, OnlyS.refl _ _⟩
    · have hb1 : ¬ n < 1 := by omega
      go_enter Try.func45, Try.ntmps45
      go_wp2_with fail
      go_ret2
      exact ⟨_, 2, rfl, HE.out.symm, .inl ⟨by decide, rfl, by rw [HX.out]; exact HS.out⟩, OnlyS.refl _ _⟩
  · have hb1 : ¬ n < 1 := by omega
    have hb2 : ¬ 256 < n := by omega
    by_cases h3 : 1099511627760 - n + 1 < next
    · have HE := Lib.hid (show someE X 1 1 next limit n = 3 by unfold someE; rw [if_neg hb, if_pos h3])
      have HX := Lib.hid (show someX X 1 1 next limit n = X by unfold someX; rw [if_neg hb, if_pos h3])
      have h4 : 1099511627760 < next + n - 1 := by omega
      clear hb h3
      go_enter Try.func45, Try.ntmps45
      go_wp2_with fail
      go_ret2
      exact ⟨_, 3, rfl, HE.out.symm, .inl ⟨by decide, rfl, by rw [HX.out]; exact HS.out⟩, OnlyS.refl _ _⟩
    · have HE0 := Lib.hid (show someE X 1 1 next limit n = if limit < next + n then (X.saveF 1 1 (numT (resL (next + n) limit))).2 else 0 by unfold someE; rw [if_neg hb, if_neg h3])
      have HX0 := Lib.hid (show someX X 1 1 next limit n = if limit < next + n then (X.saveF 1 1 (numT (resL (next + n) limit))).1 else X by unfold someX; rw [if_neg hb, if_neg h3])
      have HL0 := Lib.hid (show someL next limit n = if limit < next + n then resL (next + n) limit else limit from rfl)
      have h4 : ¬ 1099511627760 < next + n - 1 := by omega
      clear hb h3
      obtain ⟨n, rfl⟩ : ∃ m : Nat, n = (m : Int) := ⟨n.toNat, by omega⟩
      go_enter Try.func45, Try.ntmps45
      go_wp2_with fail
      go_loopw [6] (fun v6 wr => ∃ k : Nat, v6 = .int .i64 (limit + 16 * (k : Int)) ∧ (k = 0 ∨ limit + 16 * (k : Int) < next + (n : Int) + 16) ∧ wr = w) (fun v6 _ => (next + (n : Int) - intOf v6).toNat)
      case atStart => exact ⟨0, by simp, .inl rfl, rfl⟩
      case round =>
        obtain ⟨k, rfl, hk, rfl⟩ := hrel
        obtain ⟨v, hv⟩ : ∃ v, limit + 16 * (k : Int) = v := ⟨_, rfl⟩
        rw [hv] at hk ⊢
        have hv0 : limit ≤ v := by omega
        have hv1 : v ≤ 2199023255300 := by omega
        by_cases hlt : v < next + (n : Int)
        · have HV := Lib.hid hv
          have HK := Lib.hid hk
          clear hv hk
          go_wp2_with fail
          go_roundw
          case rel => exact ⟨k + 1, by have := HV.out; congr 1; omega, .inr (by have := HV.out; omega), trivial⟩
          case measure => simp [intOf]; omega
        · by_cases hk0 : k = 0
          · obtain rfl : v = limit := by omega
            have hr : ¬ v < next + (n : Int) := hlt
            have HE := Lib.hid (HE0.out.trans (if_neg hr))
            have HX := Lib.hid (HX0.out.trans (if_neg hr))
            have HL := Lib.hid (HL0.out.trans (if_neg hr))
            have HO := Lib.hid (OnlyS.refl (S4 x gl go b) wr)
            obtain ⟨w, rfl⟩ : ∃ w0, w0 = wr := ⟨_, rfl⟩
            clear hv hk hk0 hr HE0 HX0 HL0
            as_aux_lemma =>
              go_wp2_with fail
              go_loopw [8, 9] (fun v8 v9 wr => ∃ k : Nat, v9 = .int .i64 (k : Int) ∧ k ≤ n ∧ OwnI wr w.heap.size v8 (listN next k) ∧ RefAt wr b y x gl go cl co next v X ∧ OnlyS (S4 x gl go b) w wr) (fun _ v9 _ => n - (intOf v9).toNat)
              case atStart => exact ⟨0, rfl, by omega, OwnI.nil _ _, HS.out, HO.out⟩
              case round =>
                obtain ⟨k, rfl, hk, hOw, hSy, hOn⟩ := hrel
                have HOW := Lib.hid hOw
                have HSY := Lib.hid hSy
                have HON := Lib.hid hOn
                clear hOw hSy hOn
                have cB1 : wr.cell? ⟨b, 1, none⟩ = some (.int .i64 next) := Blk.cell HSY.out.alloc 1
                by_cases hlt : k < n
                · have i1 : (k : Int) < (n : Int) := by omega
                  go_wp2_with (at_builtin; refine wpList_ownI rfl _ _ rfl w.heap.size u8 (listN next k) rfl HOW.out (next + (k : Int)) rfl (by rw [listN_length]; omega) HON.out.size ?_)
                  intro v' w8 hO8 hG8
                  rw [listN_next] at hO8
                  have HO8 := Lib.hid hO8
                  have hsy8 := HSY.out.grown3 HOW.out hG8
                  have hon8 := HON.out.own HOW.out hG8
                  have HSY := Lib.hid hsy8
                  have HON := Lib.hid hon8
                  clear hO8 hG8 hsy8 hon8 cB1
                  go_wp2_with fail
                  go_roundw
                  case rel => exact ⟨k + 1, by go_num, by omega, HO8.out, HSY.out, HON.out⟩
                  case measure => simp [intOf]; omega
                · obtain rfl : k = n := by omega
                  have i1 : ¬ (k : Int) < (k : Int) := by omega
                  have fB1 := HSY.out.alloc.frozen 1
                  go_wp2_with fail
                  go_ret2
                  exact ⟨_, 0, rfl, HE.out.symm, .inr ⟨rfl, by rw [Int.toNat_natCast]; exact HOW.out.set3 (p := ⟨b, 1, none⟩) (fun e => own3_ne HOW.out HSY.out.alloc (by decide) e) _, by rw [HX.out, HL.out]; exact HSY.out.setNext _⟩, HON.out.set_ (p := ⟨b, 1, none⟩) (.inr (.inr (.inr rfl))) _⟩
          · have hres : limit < next + (n : Int) := by omega
            have hvr : v = resL (next + (n : Int)) limit := by unfold resL; omega
            have hlv : limit < v := by omega
            have HE1 := Lib.hid (HE0.out.trans (if_pos hres))
            have HX1 := Lib.hid (HX0.out.trans (if_pos hres))
            have HL := Lib.hid (HL0.out.trans (if_pos hres))
            rw [← hvr] at HE1 HX1 HL
            obtain ⟨m, rfl⟩ : ∃ m : Nat, v = (m : Int) := ⟨v.toNat, by omega⟩
            obtain ⟨w, rfl⟩ : ∃ w0, w0 = wr := ⟨_, rfl⟩
            clear hv hk hk0 hvr hres HE0 HX0 HL0
            as_aux_lemma =>
              go_upto_region 9 with (fail)
              clear cB1 cB2
              have HS := Lib.hid HS.out.drew
              have HO := Lib.hid (OnlyS.refl (S4 x gl go b) w).drew
              generalize hw2 : w.drew = w2 at HS HO
              have e0 : ∀ w', KeptOn (fun i => i = b) w2 w' → w'.cell? ⟨b, 0, none⟩ = some (.pointer (some ⟨y, 0, none⟩)) := fun w' h => h.cell (w := w2) (Blk.cell HS.out.alloc 0) rfl
              refine wp_region_pure (KeptOn fun i => i = b) (KeptOn.refl _) (KeptOn.trans) [(0,3),(1,3),(2,3),(3,0),(4,3),(5,1),(6,1),(7,3)] (by kernel_rfl) (by kernel_rfl) ?_
              rw [hw2]
              clear hw2
              iterate 3 (refine pure_pure (v := ?_) rfl (fun _ _ _ h => h) (by rfl) (fun w' => ?_) ?_; rotate_left; (go_simp; try with_reducible rfl); simp only [Act.put, List.setIfInBounds_toArray, List.set_cons_zero, List.set_cons_succ])
              iterate 1 (refine pure_quiet (v := ?_) rfl (fun _ _ _ h => h) (by rfl) (fun w' hR => ?_) ?_; rotate_left; (go_simp; try with_reducible rfl); simp only [Act.put, List.setIfInBounds_toArray, List.set_cons_zero, List.set_cons_succ])
              iterate 1 (refine pure_pure (v := ?_) rfl (fun _ _ _ h => h) (by rfl) (fun w' => ?_) ?_; rotate_left; (go_simp; try with_reducible rfl); simp only [Act.put, List.setIfInBounds_toArray, List.set_cons_zero, List.set_cons_succ])
              clear e0
              refine pure_eff rfl ?_
              go_wp2_with fail
              refine (rnumber_any m (by omega) w2).mono ?_
              rintro e w3 ⟨rfl, hb⟩
              have HKe := Lib.hid (show KeptOn (fun i => i = b) w2 w3 from ⟨hb.size, fun i hi _ => hb.block i hi⟩)
              have HO := Lib.hid (HO.out.trans (OnlyS.of_below hb))
              have HS := Lib.hid (HS.out.below hb)
              clear hb
              have HT := Lib.hid (numT_size (m : Int) (by omega))
              have hT := HT.out
              have hsv := fun w h => saveR_any y x gl go cl co X (numT (m : Int)) w h
              rw [show strOf (numOf (m : Int)) = numT (m : Int) from rfl]
              generalize numT (m : Int) = TX at hT HE1 HX1 hsv ⊢
              have HSV := Lib.hid hsv
              clear hsv HT
              go_wp2_with fail
              refine purePost_need HKe.out ?_
              refine pure_eff rfl ?_
              go_wp2_with fail
              refine (HSV.out w3 HS.out.cell HS.out.disk HLN.out (by omega)).mono ?_
              rintro e w4 ⟨rfl, hD, hO⟩
              have HKe := Lib.hid (show KeptOn (fun i => i = b) w3 w4 from hO.keptT HS.out.disk HS.out.alloc (by decide) (by decide))
              have HO := Lib.hid (HO.out.trans (OnlyS.of_only3 hO (.inl rfl) (.inr (.inl rfl)) (.inr (.inr (.inl rfl)))))
              have HA := Lib.hid (show AllocR w4 b y next limit from hO.blk HS.out.disk HS.out.alloc (by decide) (by decide))
              have HC := Lib.hid (show CellR w4 y x from hO.blk HS.out.disk HS.out.cell (by decide) (by decide))
              have HD := Lib.hid hD
              clear hD hO HSV
              generalize (X.saveF 1 1 TX).2 = r at HE1 ⊢
              generalize (X.saveF 1 1 TX).1 = X2 at HX1 HD
              have HS := Lib.hid (show RefAt w4 b y x gl go cl co next limit X2 from ⟨HA.out, HC.out, HD.out⟩)
              clear HA HC HD hT
              go_wp2_with fail
              refine purePost_need HKe.out ?_
              iterate 1 (refine pure_pure (v := ?_) rfl (fun _ _ _ h => h) (by rfl) (fun w' => ?_) ?_; rotate_left; (go_simp; try with_reducible rfl); simp only [Act.put, List.setIfInBounds_toArray, List.set_cons_zero, List.set_cons_succ])
              refine pure_done ?_
              by_cases hr : r = 0
              · subst hr
                have fB2 := HS.out.alloc.frozen 2
                have cB2 : w4.cell? ⟨b, 2, none⟩ = some (.int .i64 limit) := Blk.cell HS.out.alloc 2
                have HE := Lib.hid HE1.out
                have HX := Lib.hid HX1.out
                go_upto_region 13 with (fail)
                clear fB2 cB2
                have HS := Lib.hid (HS.out.setLimit (m : Int))
                have HO := Lib.hid (HO.out.set_ (p := ⟨b, 2, none⟩) (.inr (.inr (.inr rfl))) (.int .i64 (m : Int)))
                generalize w4.setCell ⟨b, 2, none⟩ (.int .i64 (m : Int)) = w5 at HS HO ⊢
                go_wp2_with fail
                go_loopw [8, 9] (fun v8 v9 wr => ∃ k : Nat, v9 = .int .i64 (k : Int) ∧ k ≤ n ∧ OwnI wr w.heap.size v8 (listN next k) ∧ RefAt wr b y x gl go cl co next (m : Int) X2 ∧ OnlyS (S4 x gl go b) w wr) (fun _ v9 _ => n - (intOf v9).toNat)
                case atStart => exact ⟨0, rfl, by omega, OwnI.nil _ _, HS.out, HO.out⟩
                case round =>
                  obtain ⟨k, rfl, hk, hOw, hSy, hOn⟩ := hrel
                  have HOW := Lib.hid hOw
                  have HSY := Lib.hid hSy
                  have HON := Lib.hid hOn
                  clear hOw hSy hOn
                  have cB1 : wr.cell? ⟨b, 1, none⟩ = some (.int .i64 next) := Blk.cell HSY.out.alloc 1
                  by_cases hlt : k < n
                  · have i1 : (k : Int) < (n : Int) := by omega
                    go_wp2_with (at_builtin; refine wpList_ownI rfl _ _ rfl w.heap.size u8 (listN next k) rfl HOW.out (next + (k : Int)) rfl (by rw [listN_length]; omega) HON.out.size ?_)
                    intro v' w8 hO8 hG8
                    rw [listN_next] at hO8
                    have HO8 := Lib.hid hO8
                    have hsy8 := HSY.out.grown3 HOW.out hG8
                    have hon8 := HON.out.own HOW.out hG8
                    have HSY := Lib.hid hsy8
                    have HON := Lib.hid hon8
                    clear hO8 hG8 hsy8 hon8 cB1
                    go_wp2_with fail
                    go_roundw
                    case rel => exact ⟨k + 1, by go_num, by omega, HO8.out, HSY.out, HON.out⟩
                    case measure => simp [intOf]; omega
                  · obtain rfl : k = n := by omega
                    have i1 : ¬ (k : Int) < (k : Int) := by omega
                    have fB1 := HSY.out.alloc.frozen 1
                    go_wp2_with fail
                    go_ret2
                    exact ⟨_, 0, rfl, HE.out.symm, .inr ⟨rfl, by rw [Int.toNat_natCast]; exact HOW.out.set3 (p := ⟨b, 1, none⟩) (fun e => own3_ne HOW.out HSY.out.alloc (by decide) e) _, by rw [HX.out, HL.out]; exact HSY.out.setNext _⟩, HON.out.set_ (p := ⟨b, 1, none⟩) (.inr (.inr (.inr rfl))) _⟩
              · have hrb : (r == 0) = false := beq_eq_false_iff_ne.2 hr
                go_wp2_with fail
                go_ret2
                exact ⟨_, r, rfl, HE1.out.symm, .inl ⟨hr, rfl, by rw [HX1.out]; exact HS.out⟩, HO.out⟩
end Go.Proofs.Ytnddkodenkmoiaa
/- Both systems side by side; Ints. -/
namespace Go.Proofs.Ytnddkodenkmoiaa
open Go.RowKit Go.Proofs
set_option linter.unusedSimpArgs false
set_option linter.unusedVariables false
/-- Both cells on both disks. -/
structure Sys2 (w : World) (c d g y x gl go cl co : Nat) (X Y : Dk) : Prop where
  pc : CellAt w c d ((1 : Nat) : Int) ((1 : Nat) : Int)
  pd : DiskAt w d g X
  rc : CellR w y x
  rd : RD w x gl go cl co Y
section
variable {w w' : World} {a b c d g y x gl go cl co : Nat} {n l n' l' : Int} {X Y Z : Dk}
theorem Sys2.below (h : Sys2 w c d g y x gl go cl co X Y) (hb : Below w.heap.size w w') : Sys2 w' c d g y x gl go cl co X Y :=
  ⟨h.pc.below hb h.pc.lt, h.pd.below hb, h.rc.below hb h.rc.lt, h.rd.below hb⟩
theorem Sys2.drew (h : Sys2 w c d g y x gl go cl co X Y) : Sys2 w.drew c d g y x gl go cl co X Y := ⟨h.pc, h.pd, h.rc, h.rd.drew⟩
theorem Sys2.prog2 (h : Sys2 w c d g y x gl go cl co X Y) (hO : Only2 d g w w') (hD : DiskAt w' d g Z) : Sys2 w' c d g y x gl go cl co Z Y :=
  ⟨hO.blk h.pd h.pc (by decide) (by decide), hD, hO.blk h.pd h.rc (by decide) (by decide), h.rd.only2 h.pd hO⟩
theorem Sys2.ref3 (h : Sys2 w c d g y x gl go cl co X Y) (hO : Only3 x gl go w w') (hR : RD w' x gl go cl co Z) : Sys2 w' c d g y x gl go cl co X Z :=
  ⟨hO.blk h.rd h.pc (by decide) (by decide), h.pd.only3 h.rd hO, hO.blk h.rd h.rc (by decide) (by decide), hR⟩
theorem S3.not {q : Nat} {t : TypeId} {cs : Array Value} (hD : DiskAt w d g X) (hA : AllocAt w a c n l) (hq : Blk w q t cs) (h1 : t ≠ 89) (h2 : t ≠ 93) (h3 : t ≠ 107) : ¬ S3 d g a q := by
  rintro (e | e | e)
  · exact hq.ne_ hD.1 h1 e
  · exact hq.ne_ hD.2.1 h2 e
  · exact hq.ne_ hA h3 e
theorem S3.blk {q : Nat} {t : TypeId} {cs : Array Value} (hO : OnlyS (S3 d g a) w w') (hD : DiskAt w d g X) (hA : AllocAt w a c n l) (hq : Blk w q t cs) (h1 : t ≠ 89) (h2 : t ≠ 93) (h3 : t ≠ 107) : Blk w' q t cs :=
  hO.blk hq (S3.not hD hA hq h1 h2 h3)
theorem Sys2.progS (h : Sys2 w c d g y x gl go cl co X Y) (hA : AllocAt w a c n l) (hO : OnlyS (S3 d g a) w w') (hS : SysAt w' a c d g 1 1 n' l' Z) : Sys2 w' c d g y x gl go cl co Z Y := by
  obtain ⟨A, hNow⟩ := h.rd.now.blk
  obtain ⟨B, hOld⟩ := h.rd.old.blk
  exact ⟨hS.cell, hS.disk, S3.blk hO h.pd hA h.rc (by decide) (by decide) (by decide),
    { h.rd with
      head := S3.blk hO h.pd hA h.rd.head (by decide) (by decide) (by decide)
      now := h.rd.now.same (hO.block gl hNow.lt (S3.not h.pd hA hNow (by decide) (by decide) (by decide)))
      old := h.rd.old.same (hO.block go hOld.lt (S3.not h.pd hA hOld (by decide) (by decide) (by decide))) }⟩
theorem S4.not {q : Nat} {t : TypeId} {cs : Array Value} (hR : RD w x gl go cl co Y) (hB : AllocR w b y n l) (hq : Blk w q t cs) (h1 : t ≠ 32) (h2 : t ≠ 9) (h3 : t ≠ 84) : ¬ S4 x gl go b q := by
  obtain ⟨A, hNow⟩ := hR.now.blk
  obtain ⟨B, hOld⟩ := hR.old.blk
  rintro (e | e | e | e)
  · exact hq.ne_ hR.head h1 e
  · exact hq.ne_ hNow h2 e
  · exact hq.ne_ hOld h2 e
  · exact hq.ne_ hB h3 e
theorem S4.blk {q : Nat} {t : TypeId} {cs : Array Value} (hO : OnlyS (S4 x gl go b) w w') (hR : RD w x gl go cl co Y) (hB : AllocR w b y n l) (hq : Blk w q t cs) (h1 : t ≠ 32) (h2 : t ≠ 9) (h3 : t ≠ 84) : Blk w' q t cs :=
  hO.blk hq (S4.not hR hB hq h1 h2 h3)
theorem Sys2.refS (h : Sys2 w c d g y x gl go cl co X Y) (hB : AllocR w b y n l) (hO : OnlyS (S4 x gl go b) w w') (hS : RefAt w' b y x gl go cl co n' l' Z) : Sys2 w' c d g y x gl go cl co X Z :=
  ⟨S4.blk hO h.rd hB h.pc (by decide) (by decide) (by decide),
    ⟨S4.blk hO h.rd hB h.pd.1 (by decide) (by decide) (by decide), S4.blk hO h.rd hB h.pd.2.1 (by decide) (by decide) (by decide), h.pd.2.2⟩, hS.cell, hS.disk⟩
theorem OwnI.same {base : Nat} {v : Value} {xs : List Int} (h : OwnI w base v xs) (hb : ∀ k, v.ownBlock = some k → w'.heap[k]? = w.heap[k]?) : OwnI w' base v xs := by
  obtain ⟨h1, h2⟩ := h
  refine ⟨h1, ?_⟩
  rcases h2 with h2 | ⟨g, cap, cur, rfl, h3, h4, h5⟩
  · exact .inl h2
  · exact .inr ⟨g, cap, cur, rfl, h3, (hb g rfl).trans h4, h5⟩
theorem OwnI.refS {base : Nat} {v : Value} {xs : List Int} (h : OwnI w base v xs) (hR : RD w x gl go cl co Y) (hB : AllocR w b y n l) (hO : OnlyS (S4 x gl go b) w w') : OwnI w' base v xs := by
  refine h.same fun k hk => ?_
  obtain ⟨cs, hq⟩ := own3_blk h hk
  exact hO.block k hq.lt (S4.not hR hB hq (by decide) (by decide) (by decide))
end
theorem headF_lenR (i n l : Nat) (p : Dk × Int) : (headF i n l p).1.L.length = p.1.L.length := by
  unfold headF
  split
  · split
    · split
      · rw [sync_len, write_len, sync_len]
      · rw [write_len, sync_len]
    · rw [sync_len]
  · rfl
theorem partsF_lenR (base : Nat) (t : ByteArray) : ∀ (m c : Nat) (x : Dk), (partsF base t m c x).1.L.length = x.L.length
  | 0, c, x => rfl
  | m + 1, c, x => by
    unfold partsF
    split
    · split
      · rw [partsF_lenR base t m (c + 1), write_len]
      · rw [write_len]
    · rfl
theorem saveF_lenR (x : Dk) (f size : Nat) (t : ByteArray) : (x.saveF f size t).1.L.length = x.L.length := by
  unfold Dk.saveF
  split
  · rfl
  · split
    · rfl
    · split
      · rfl
      · rw [headF_lenR, partsF_lenR]
theorem someX_lenR (x : Dk) (f size : Nat) (nx lm n : Int) : (someX x f size nx lm n).L.length = x.L.length := by
  unfold someX
  split
  · rfl
  · split
    · rfl
    · split
      · exact saveF_lenR _ _ _ _
      · rfl
theorem arm_LR (x : Dk) (n : Int) : (x.arm n).L = x.L ∧ (x.arm n).down = x.down := by unfold Dk.arm; split <;> exact ⟨rfl, rfl⟩
theorem arm_lenR (x : Dk) (n : Int) : (x.arm n).L.length = x.L.length := by rw [(arm_LR x n).1]
theorem own_lenR {w : World} {base : Nat} {v : Value} {xs : List Int} (h : OwnI w base v xs) : ∃ ao cap, v = .slice ao xs.length cap := by
  obtain ⟨h1, ⟨rfl, h⟩ | ⟨g, cap, cur, rfl, _⟩⟩ := h
  · exact ⟨_, _, by rw [h]⟩
  · exact ⟨_, _, rfl⟩
theorem IntsAt.keepBR {w w' : World} {v : Value} {ks : List Int} {d g x gl go : Nat} (h : IntsAt w v ks) (hb : Below w.heap.size w w') (h1 : w.heap.size ≤ d) (h2 : w.heap.size ≤ g) (h3 : w.heap.size ≤ x) (h4 : w.heap.size ≤ gl) (h5 : w.heap.size ≤ go) : KeepB d g x gl go w' v ks := by
  obtain ⟨o, c, hv, hc, hi⟩ := h
  refine ⟨o, c, hv, hc, fun j k hj => ?_⟩
  obtain ⟨a, ha, hcell⟩ := hi j k hj
  have hlt := World.block_lt_of_cell? w _ hcell
  have hlt2 := hlt
  rw [add_block] at hlt2
  exact ⟨a, ha, (hb.cell hlt).trans hcell, by omega, by omega, by omega, by omega, by omega⟩
/-- Both allocators, or none. -/
def Al2 (w : World) (c y : Nat) (va vb : Value) (E n l : Int) (B : Nat) : Prop :=
  (E = 0 ∧ ∃ a b, va = .pointer (some ⟨a, 0, none⟩) ∧ vb = .pointer (some ⟨b, 0, none⟩) ∧ AllocAt w a c n l ∧ AllocR w b y n l ∧ B ≤ a ∧ B ≤ b) ∨ (E ≠ 0 ∧ va = .pointer none ∧ vb = .pointer none)
theorem openN_bd (p : ByteArray × Int × Int) (h : openE p = 0) : 0 ≤ openN p ∧ openN p ≤ 1099511627776 := by
  unfold openE at h
  unfold openN
  by_cases h9 : p.2.2 = 9
  · rw [if_pos h9]; omega
  · rw [if_neg h9] at h ⊢
    by_cases h0 : p.2.2 ≠ 0
    · rw [if_pos h0] at h; exact absurd h h0
    · rw [if_neg h0] at h
      split at h
      · exact absurd h (by decide)
      · omega
/-- What Some answers, bounded. -/
theorem some_bd {X : Dk} {n l m : Int} (h : someE X 1 1 n l m = 0) (hn0 : 0 ≤ n) (hn1 : n ≤ 1099511627776) (hl0 : 0 ≤ l) (hl1 : l ≤ 1099511627776) :
    0 ≤ n + m ∧ n + m ≤ 1099511627776 ∧ 0 ≤ someL n l m ∧ someL n l m ≤ 1099511627776 ∧ 1 ≤ m ∧ m ≤ 256 := by
  unfold someE at h
  by_cases h1 : m < 1 ∨ 256 < m
  · rw [if_pos h1] at h; exact absurd h (by decide)
  · rw [if_neg h1] at h
    by_cases h2 : 1099511627760 - m + 1 < n
    · rw [if_pos h2] at h; exact absurd h (by decide)
    · unfold someL
      split
      · rename_i h3
        have := resL_bd h3
        omega
      · omega
theorem RowI.form {w : World} {v : Value} {xs : List Int} (h : RowI w v xs) : ∃ o c, v = .slice o xs.length c ∧ ∀ j t, xs[j]? = some t → ∃ a, o = some a ∧ w.cell? (a.add j) = some (.int .i64 t) := by
  rcases h with ⟨rfl, rfl⟩ | ⟨a, c, rfl, h⟩
  · exact ⟨none, 0, rfl, fun j t hj => by simp at hj⟩
  · exact ⟨some a, c, rfl, fun j t hj => ⟨a, rfl, h j t hj⟩⟩
set_option maxRecDepth 100000 in
set_option maxHeartbeats 4000000 in
theorem ints_any (v1 v2 : Value) (xs : List Int) (w : World) (h1 : RowI w v1 xs) (h2 : RowI w v2 xs) (hx : xs.length ≤ 1000000) :
    Calls Try.prog 46 #[v1, v2] w fun e w' => e = .returned (.bool true) ∧ Below w.heap.size w w' := by
  obtain ⟨o1, c1, rfl, f1⟩ := h1.form
  obtain ⟨o2, c2, rfl, f2⟩ := h2.form
  have H1 := Lib.hid f1
  have H2 := Lib.hid f2
  obtain ⟨n, hn⟩ : ∃ n, xs.length = n := ⟨_, rfl⟩
  have HN := Lib.hid hn
  rw [hn] at hx ⊢
  clear h1 h2 f1 f2 hn
  go_enter Try.func46, Try.ntmps46
  go_wp2_with fail
  go_loopw [5] (fun v5 wr => ∃ k : Nat, v5 = .int .i64 (k : Int) ∧ k ≤ n ∧ Below w.heap.size w wr) (fun v5 _ => n - (intOf v5).toNat)
  case atStart => exact ⟨0, rfl, by omega, Below.refl _ _⟩
  case round =>
    obtain ⟨k, rfl, hk, hb⟩ := hrel
    by_cases hlt : k < n
    · have i1 : (k : Int) < (n : Int) := by omega
      obtain ⟨t, ht⟩ : ∃ t, xs[k]? = some t := ⟨_, List.getElem?_eq_getElem (by rw [HN.out]; exact hlt)⟩
      obtain ⟨a1, rfl, hc1⟩ := H1.out k t ht
      obtain ⟨a2, rfl, hc2⟩ := H2.out k t ht
      have hd1 := (hb.cell (World.block_lt_of_cell? w _ hc1)).trans hc1
      have hd2 := (hb.cell (World.block_lt_of_cell? w _ hc2)).trans hc2
      have HB := Lib.hid (show Below w.heap.size w wr.drew from hb.drew)
      have htt : (t != t) = false := by simp
      clear hb hc1 hc2 ht
      go_upto_region 6 with (fail)
      have e1 : ∀ w', wr.drew = w' → w'.cell? (a1.add k) = some (.int .i64 t) := fun w' h => h ▸ hd1
      have e2 : ∀ w', wr.drew = w' → w'.cell? (a2.add k) = some (.int .i64 t) := fun w' h => h ▸ hd2
      clear hd1 hd2
      generalize hw2 : wr.drew = w2 at e1 e2 HB
      refine wp_region_pure (fun a b => a = b) (fun _ => rfl) (fun _ _ _ h h' => h.trans h') [(0,3),(1,3),(2,3),(3,0),(4,3),(5,3),(6,3),(7,0),(8,3)] (by kernel_rfl) (by kernel_rfl) ?_
      rw [hw2]
      clear hw2
      iterate 3 (refine pure_pure (v := ?_) rfl (fun _ _ _ h => h) (by rfl) (fun w' => ?_) ?_; rotate_left; (go_simp; try with_reducible rfl); simp only [Act.put, List.setIfInBounds_toArray, List.set_cons_zero, List.set_cons_succ])
      iterate 1 (refine pure_quiet (v := ?_) rfl (fun _ _ _ h => h) (by rfl) (fun w' hR => ?_) ?_; rotate_left; (go_simp; try with_reducible rfl); simp only [Act.put, List.setIfInBounds_toArray, List.set_cons_zero, List.set_cons_succ])
      iterate 3 (refine pure_pure (v := ?_) rfl (fun _ _ _ h => h) (by rfl) (fun w' => ?_) ?_; rotate_left; (go_simp; try with_reducible rfl); simp only [Act.put, List.setIfInBounds_toArray, List.set_cons_zero, List.set_cons_succ])
      iterate 1 (refine pure_quiet (v := ?_) rfl (fun _ _ _ h => h) (by rfl) (fun w' hR => ?_) ?_; rotate_left; (go_simp; try with_reducible rfl); simp only [Act.put, List.setIfInBounds_toArray, List.set_cons_zero, List.set_cons_succ])
      iterate 1 (refine pure_pure (v := ?_) rfl (fun _ _ _ h => h) (by rfl) (fun w' => ?_) ?_; rotate_left; (go_simp; try with_reducible rfl); simp only [Act.put, List.setIfInBounds_toArray, List.set_cons_zero, List.set_cons_succ])
      refine pure_done ?_
      clear e1 e2 htt
      go_wp2_with fail
      go_roundw
      case rel => exact ⟨k + 1, by go_num, by omega, HB.out⟩
      case measure => simp [intOf]; omega
    · have i1 : ¬ (k : Int) < (n : Int) := by omega
      go_wp2_with fail
      go_ret
      exact ⟨rfl, hb⟩
end Go.Proofs.Ytnddkodenkmoiaa
