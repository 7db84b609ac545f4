/- The allocator: Some. -/
import Derived.Test.YtnddkodenkmoiaaNon2
namespace Go.Proofs.Ytnddkodenkmoiaa
open Go.RowKit Go.Proofs
set_option linter.unusedSimpArgs false
set_option linter.unusedVariables false
/-- An allocator, its cell, its disk. -/
structure SysAt (w : World) (a c d g f size : Nat) (next limit : Int) (x : Dk) : Prop where
  alloc : AllocAt w a c next limit
  cell : CellAt w c d (f : Int) (size : Int)
  disk : DiskAt w d g x
section
variable {w w' : World} {a c d g f size : Nat} {next limit : Int} {x : Dk}
theorem SysAt.ne (h : SysAt w a c d g f size next limit x) : a ≠ c ∧ a ≠ d ∧ a ≠ g ∧ c ≠ d ∧ c ≠ g ∧ d ≠ g :=
  ⟨h.alloc.ne_ h.cell (by decide), h.alloc.ne_ h.disk.1 (by decide), h.alloc.ne_ h.disk.2.1 (by decide), h.cell.ne_ h.disk.1 (by decide), h.cell.ne_ h.disk.2.1 (by decide), h.disk.ne⟩
theorem SysAt.below (h : SysAt w a c d g f size next limit x) (hb : Below w.heap.size w w') : SysAt w' a c d g f size next limit x :=
  ⟨h.alloc.below hb h.alloc.lt, h.cell.below hb h.cell.lt, h.disk.below hb⟩
theorem SysAt.drew (h : SysAt w a c d g f size next limit x) : SysAt w.drew a c d g f size next limit x := ⟨h.alloc, h.cell, h.disk⟩
theorem SysAt.setNext (h : SysAt w a c d g f size next limit x) (n : Int) : SysAt (w.setCell ⟨a, 1, none⟩ (.int .i64 n)) a c d g f size n limit x := by
  obtain ⟨n1, n2, n3, _⟩ := h.ne
  exact ⟨h.alloc.set_ 1 (.int .i64 n), h.cell.far (p := ⟨a, 1, none⟩) (fun e => n1 e.symm) _, h.disk.far2 (p := ⟨a, 1, none⟩) n2 n3 _⟩
theorem own3_blk {base : Nat} {v : Value} {xs : List Int} (h : OwnI w base v xs) {k : Nat} (hk : v.ownBlock = some k) : ∃ cs, Blk w k 3 cs := by
  obtain ⟨h1, ⟨rfl, h⟩ | ⟨g, cap, cur, rfl, h2, h3, _⟩⟩ := h
  · cases hk
  · obtain rfl : g = k := by simpa [Value.ownBlock] using hk
    exact ⟨cur, h3⟩
theorem own3_ne {base r : Nat} {v : Value} {xs : List Int} {t : TypeId} {cs : Array Value} (h : OwnI w base v xs) (hr : Blk w r t cs) (ht : t ≠ 3) : v.ownBlock ≠ some r := by
  intro e
  obtain ⟨cs', hb⟩ := own3_blk h e
  exact hr.ne_ hb ht rfl
theorem SysAt.grown3 {base : Nat} {v : Value} {xs : List Int} (h : SysAt w a c d g f size next limit x) (ho : OwnI w base v xs) (hg : w.grownBy w' v.ownBlock) : SysAt w' a c d g f size next limit x :=
  ⟨h.alloc.grown hg (fun e => own3_ne ho h.alloc (by decide) e.symm), h.cell.grown hg (fun e => own3_ne ho h.cell (by decide) e.symm), h.disk.1.grown hg (fun e => own3_ne ho h.disk.1 (by decide) e.symm), h.disk.2.1.grown hg (fun e => own3_ne ho h.disk.2.1 (by decide) e.symm), h.disk.2.2⟩
theorem OwnI.set3 {base : Nat} {v : Value} {xs : List Int} (h : OwnI w base v xs) {p : Addr} (hp : v.ownBlock ≠ some p.block) (u : Value) : OwnI (w.setCell p u) base v xs := by
  obtain ⟨h1, h2⟩ := h
  refine ⟨h1, ?_⟩
  rcases h2 with h2 | ⟨g, cap, cur, rfl, h3, h4, h5⟩
  · exact .inl h2
  · refine .inr ⟨g, cap, cur, rfl, h3, ?_, h5⟩
    exact (show Blk (w.setCell p u) g 3 cur from (show Blk w g 3 cur from h4).far (fun e => hp (by simp [Value.ownBlock, e])) u)
end
theorem OnlyS.own {S : Nat → Prop} {w0 w w' : World} {v : Value} {xs : List Int} (k : OnlyS S w0 w) (h : OwnI w w0.heap.size v xs) (hg : w.grownBy w' v.ownBlock) : OnlyS S w0 w' :=
  ⟨hg.os.trans k.os, hg.tape.trans k.tape, hg.output.trans k.output, Nat.le_trans k.size hg.size, fun i hi hs => by
    rw [hg.block i (Nat.lt_of_lt_of_le hi k.size) (fun e => by have := (h.lt i e.symm).1; omega)]
    exact k.block i hi hs⟩
/-- Numbers from next on. -/
def listN (next : Int) (k : Nat) : List Int := (List.range k).map fun (j : Nat) => next + (j : Int)
theorem listN_length (next : Int) (k : Nat) : (listN next k).length = k := by unfold listN; simp
theorem listN_next (next : Int) (k : Nat) : listN next k ++ [next + (k : Int)] = listN next (k + 1) := by unfold listN; rw [List.range_succ, List.map_append]; rfl
def someE (x : Dk) (f size : Nat) (next limit n : Int) : Int :=
  if n < 1 ∨ 256 < n then 2 else if 1099511627760 - n + 1 < next then 3 else if limit < next + n then (x.saveF f size (numT (resL (next + n) limit))).2 else 0
def someX (x : Dk) (f size : Nat) (next limit n : Int) : Dk :=
  if n < 1 ∨ 256 < n then x else if 1099511627760 - n + 1 < next then x else if limit < next + n then (x.saveF f size (numT (resL (next + n) limit))).1 else x
def someL (next limit n : Int) : Int := if limit < next + n then resL (next + n) limit else limit
/-- Behind Some. -/
def SomeP (a c d g f size : Nat) (x : Dk) (next limit n : Int) (w : World) (e : Ending) (w' : World) : Prop :=
  ∃ v r, e = .returned (.tuple #[v, .int .i64 r]) ∧ r = someE x f size next limit n ∧
    ((r ≠ 0 ∧ v = .slice none 0 0 ∧ SysAt w' a c d g f size next limit (someX x f size next limit n)) ∨
     (r = 0 ∧ OwnI w' w.heap.size v (listN next n.toNat) ∧ SysAt w' a c d g f size (next + n) (someL next limit n) (someX x f size next limit n))) ∧ OnlyS (S3 d g a) w w'
theorem some_nil (n : Int) (w : World) :
    Calls Try.prog 34 #[.pointer none, .int .i64 n] w fun e w' => e = .returned (.tuple #[.slice none 0 0, .int .i64 1]) ∧ Below w.heap.size w w' := by
  go_enter Try.func34, Try.ntmps34
  go_wp2_with fail
  go_ret2
  exact ⟨rfl, (Below.refl _ _).alloc (Nat.le_refl _) _⟩
set_option maxRecDepth 100000 in
set_option maxHeartbeats 8000000 in
theorem some_any (a c d g f size : Nat) (x : Dk) (next limit n : Int) (w : World) (hS : SysAt w a c d g f size next limit x) (ha : x.armed ≤ 9223372036854775807) (h1 : 1 ≤ size) (h2 : size ≤ 255) (hf : f + 2 + 2 * size ≤ x.L.length)
    (hn0 : 0 ≤ next) (hn1 : next ≤ 1099511627776) (hl0 : 0 ≤ limit) (hl1 : limit ≤ 2199023255000) :
    Calls Try.prog 34 #[.pointer (some ⟨a, 0, none⟩), .int .i64 n] w (SomeP a c d g f size x next limit n w) := by
  have hbx := Blk.new w 59 #[.pointer (some ⟨a, 0, none⟩)]
  have hS2 := hS.below ((Below.refl _ _).alloc (Nat.le_refl _) (.cells #[.pointer (some ⟨a, 0, none⟩)] 59))
  have hO2 : OnlyS (S3 d g a) w (w.alloc (.cells #[.pointer (some ⟨a, 0, none⟩)] 59)) := OnlyS.of_below ((Below.refl _ _).alloc (Nat.le_refl _) _)
  have hwlt := hbx.lt
  have HBX := Lib.hid hbx
  have HS := Lib.hid hS2
  have HO := Lib.hid hO2
  have HW := Lib.hid hwlt
  clear hbx hS hS2 hO2 hwlt
  by_cases hb : n < 1 ∨ 256 < n
  · have HE := Lib.hid (show someE x f size next limit n = 2 by unfold someE; rw [if_pos hb])
    have HX := Lib.hid (show someX x f size next limit n = x by unfold someX; rw [if_pos hb])
    rcases hb with hb | hb
    · go_enter Try.func34, Try.ntmps34
      go_wp2_with fail
      go_ret2
      exact ⟨_, 2, rfl, HE.out.symm, .inl ⟨by decide, rfl, by rw [HX.out]; exact HS.out⟩, HO.out⟩
    · have hb1 : ¬ n < 1 := by omega
      go_enter Try.func34, Try.ntmps34
      go_wp2_with fail
      go_ret2
      exact ⟨_, 2, rfl, HE.out.symm, .inl ⟨by decide, rfl, by rw [HX.out]; exact HS.out⟩, HO.out⟩
  · have hb1 : ¬ n < 1 := by omega
    have hb2 : ¬ 256 < n := by omega
    have cA1 : (w.alloc (.cells #[.pointer (some ⟨a, 0, none⟩)] 59)).cell? ⟨a, 1, none⟩ = some (.int .i64 next) := Blk.cell HS.out.alloc 1
    by_cases h3 : 1099511627760 - n + 1 < next
    · have HE := Lib.hid (show someE x f size next limit n = 3 by unfold someE; rw [if_neg hb, if_pos h3])
      have HX := Lib.hid (show someX x f size next limit n = x by unfold someX; rw [if_neg hb, if_pos h3])
      clear hb
      go_enter Try.func34, Try.ntmps34
      go_wp2_with fail
      go_ret2
      exact ⟨_, 3, rfl, HE.out.symm, .inl ⟨by decide, rfl, by rw [HX.out]; exact HS.out⟩, HO.out⟩
    · have HE := Lib.hid (show someE x f size next limit n = if limit < next + n then (x.saveF f size (numT (resL (next + n) limit))).2 else 0 by unfold someE; rw [if_neg hb, if_neg h3])
      have HX := Lib.hid (show someX x f size next limit n = if limit < next + n then (x.saveF f size (numT (resL (next + n) limit))).1 else x by unfold someX; rw [if_neg hb, if_neg h3])
      have HLL0 := Lib.hid (show someL next limit n = if limit < next + n then resL (next + n) limit else limit from rfl)
      clear hb
      obtain ⟨n, rfl⟩ : ∃ m : Nat, n = (m : Int) := ⟨n.toNat, by omega⟩
      go_enter Try.func34, Try.ntmps34
      go_upto_region 7 with fail
      clear cA1
      generalize w.alloc (.cells #[.pointer (some ⟨a, 0, none⟩)] 59) = w1 at HBX HS HO HW ⊢
      have hA0 : ∀ w', KeptOn (fun _ => True) w1.drew w' → w'.cell? ⟨w.heap.size, 0, none⟩ = some (.pointer (some ⟨a, 0, none⟩)) := fun w' h => h.cell (w := w1.drew) (HBX.out.cell 0) trivial
      have hA1 : ∀ w', KeptOn (fun _ => True) w1.drew w' → w'.cell? ⟨a, 1, none⟩ = some (.int .i64 next) := fun w' h => h.cell (w := w1.drew) (Blk.cell HS.out.alloc 1) trivial
      have hA2 : ∀ w', KeptOn (fun _ => True) w1.drew w' → w'.cell? ⟨a, 2, none⟩ = some (.int .i64 limit) := fun w' h => h.cell (w := w1.drew) (Blk.cell HS.out.alloc 2) trivial
      have hw1 : IntKind.i64.wrap (next + (n : Int)) = next + (n : Int) := IntWalk.i64_in _ (by omega)
      refine wp_region_keep2 (KeptOn fun _ => True) (KeptOn.refl _) (KeptOn.trans) [(0,0), (1,0), (2,0), (3,0), (4,0), (5,0), (6,0), (7,0), (8,0), (9,0), (10,0)] (by kernel_rfl) (by kernel_rfl) ?_
      iterate 11 (refine keep_quiet (v := ?_) rfl (fun _ _ _ h => h) (by rfl) (fun w' hR => ?_) ?_; rotate_left; (go_simp; try with_reducible rfl); simp only [Act.put, List.setIfInBounds_toArray, List.set_cons_zero, List.set_cons_succ])
      refine keep_done ?_
      clear hA0 hA1 hA2 hw1
      by_cases hres : limit < next + (n : Int)
      · have hrb := resL_bd hres
        have HEE := Lib.hid (HE.out.trans (if_pos hres))
        have HXX := Lib.hid (HX.out.trans (if_pos hres))
        have HLL := Lib.hid (HLL0.out.trans (if_pos hres))
        have hA0 : ∀ w', KeptOn (fun _ => True) w1.drew.drew w' → w'.cell? ⟨w.heap.size, 0, none⟩ = some (.pointer (some ⟨a, 0, none⟩)) := fun w' h => h.cell (w := w1.drew.drew) (HBX.out.cell 0) trivial
        have hA1 : ∀ w', KeptOn (fun _ => True) w1.drew.drew w' → w'.cell? ⟨a, 1, none⟩ = some (.int .i64 next) := fun w' h => h.cell (w := w1.drew.drew) (Blk.cell HS.out.alloc 1) trivial
        have hw1 : IntKind.i64.wrap (next + (n : Int)) = next + (n : Int) := IntWalk.i64_in _ (by omega)
        go_upto_region 8 with fail
        refine wp_region_keep2 (KeptOn fun _ => True) (KeptOn.refl _) (KeptOn.trans) [(0,0),(1,0),(2,0),(3,0),(4,0),(5,0),(6,0),(7,2),(8,2)] (by kernel_rfl) (by kernel_rfl) ?_
        iterate 7 (refine keep_quiet (v := ?_) rfl (fun _ _ _ h => h) (by rfl) (fun w' hR => ?_) ?_; rotate_left; (go_simp; try with_reducible rfl); simp only [Act.put, List.setIfInBounds_toArray, List.set_cons_zero, List.set_cons_succ])
        refine keep_eff rfl ?_
        clear hA0 hA1 hw1
        go_wp2_with fail
        refine (reserve_any a c d g f size x next limit (next + (n : Int)) w1.drew.drew HS.out.alloc HS.out.cell HS.out.disk ha h1 h2 hf hl0 hres (by omega)).mono ?_
        rintro e w2 ⟨rfl, hAl, hCe, hDi, hO3⟩
        have HBX2 := Lib.hid (hO3.blk (show Blk w1.drew.drew w.heap.size 59 _ from HBX.out) (by
          rintro (e | e | e)
          · exact HBX.out.ne_ HS.out.disk.1 (by decide) e
          · exact HBX.out.ne_ HS.out.disk.2.1 (by decide) e
          · exact HBX.out.ne_ HS.out.alloc (by decide) e))
        have HO2 := Lib.hid (HO.out.drew.drew.trans hO3)
        obtain ⟨L2, hLd⟩ : ∃ L, resL (next + (n : Int)) limit = L := ⟨_, rfl⟩
        rw [hLd] at hAl hDi HEE HXX HLL hrb ⊢
        obtain ⟨r, hr⟩ : ∃ r, (x.saveF f size (numT L2)).2 = r := ⟨_, rfl⟩
        obtain ⟨x2, hx2⟩ : ∃ x2, (x.saveF f size (numT L2)).1 = x2 := ⟨_, rfl⟩
        rw [hr] at hAl HEE ⊢
        rw [hx2] at hDi HXX
        clear hLd hr hx2 hO3
        by_cases hr0 : r = 0
        · subst hr0
          have HS2 := Lib.hid (show SysAt w2 a c d g f size next L2 x2 from ⟨hAl, hCe, hDi⟩)
          have HE2 := Lib.hid HEE.out
          have HX2 := Lib.hid HXX.out
          clear hAl hCe hDi
          go_wp2_with fail
          refine keepPost_free ?_
          refine keep_eff rfl ?_
          go_wp2_with fail
          refine keepPost_free ?_
          refine keep_done ?_
          have hL2 : 0 ≤ L2 ∧ L2 ≤ 2199023255600 := by omega
          have HLB := Lib.hid (show 0 ≤ L2 ∧ L2 ≤ 2199023255600 from hL2)
          clear hL2
          go_wp2_with fail
          go_loopw [8, 52] (fun v8 v52 wr => ∃ k : Nat, v52 = .int .i64 (k : Int) ∧ k ≤ n ∧ OwnI wr w.heap.size v8 (listN next k) ∧ SysAt wr a c d g f size (next + (k : Int)) L2 x2 ∧ Blk wr w.heap.size 59 #[.pointer (some ⟨a, 0, none⟩)] ∧ OnlyS (S3 d g a) w wr) (fun _ v52 _ => n - (intOf v52).toNat)
          case atStart => exact ⟨0, rfl, by omega, OwnI.nil _ _, by simpa using HS2.out, HBX2.out, HO2.out⟩
          case round =>
            obtain ⟨k, rfl, hk, hOw, hSy, hBx, hOn⟩ := hrel
            have HOW := Lib.hid hOw
            have HSY := Lib.hid hSy
            have HBK := Lib.hid hBx
            have HON := Lib.hid hOn
            clear hOw hSy hBx hOn
            by_cases hlt : k < n
            · have i1 : (k : Int) < (n : Int) := by omega
              go_upto_region 15 with fail
              refine wp_region_lit ?_
              iterate 8 go_step
              refine (one_any a c w.heap.size (next + (k : Int)) L2 wr HSY.out.alloc HBK.out (by omega) (by omega)).mono ?_
              rintro e w7 ⟨rfl, rfl⟩
              have hsy7 := HSY.out.setNext (next + (k : Int) + 1)
              have hbk7 := HBK.out.far (p := ⟨a, 1, none⟩) (fun e => HSY.out.alloc.ne_ HBK.out (by decide) e.symm) (.int .i64 (next + (k : Int) + 1))
              have hon7 := HON.out.set_ (p := ⟨a, 1, none⟩) (.inr (.inr rfl)) (.int .i64 (next + (k : Int) + 1))
              have how7 := HOW.out.set3 (p := ⟨a, 1, none⟩) (fun e => own3_ne HOW.out HSY.out.alloc (by decide) e) (.int .i64 (next + (k : Int) + 1))
              generalize wr.setCell ⟨a, 1, none⟩ (.int .i64 (next + (k : Int) + 1)) = w7 at hsy7 hbk7 hon7 how7 ⊢
              have HOW := Lib.hid how7
              have HSY := Lib.hid hsy7
              have HBK := Lib.hid hbk7
              have HON := Lib.hid hon7
              clear hsy7 hbk7 hon7 how7
              dsimp only
              iterate 4 go_step
              refine wpList_ownI rfl _ _ rfl w.heap.size u8 (listN next k) rfl HOW.out (next + (k : Int)) rfl (by rw [listN_length]; omega) HON.out.size ?_
              intro v' w8 hO8 hG8
              rw [listN_next] at hO8
              have HO8 := Lib.hid hO8
              have hsy8 := HSY.out.grown3 HOW.out hG8
              have hbk8 := HBK.out.grown hG8 (fun e => own3_ne HOW.out HBK.out (by decide) e.symm)
              have hon8 := HON.out.own HOW.out hG8
              have HSY := Lib.hid hsy8
              have HBK := Lib.hid hbk8
              have HON := Lib.hid hon8
              clear hO8 hG8 hsy8 hbk8 hon8
              simp only [Act.put]
              go_wp2_with fail
              go_roundw
              case rel => exact ⟨k + 1, by go_num, by omega, HO8.out, by rw [show next + ((k + 1 : Nat) : Int) = next + (k : Int) + 1 by omega]; exact HSY.out, HBK.out, HON.out⟩
              case measure => simp [intOf]; omega
            · obtain rfl : k = n := by omega
              have i1 : ¬ (k : Int) < (k : Int) := by omega
              go_wp2_with fail
              go_ret2
              exact ⟨_, 0, rfl, by rw [HE2.out], .inr ⟨rfl, by simpa using HOW.out, by rw [HX2.out, HLL.out]; exact HSY.out⟩, HON.out⟩
        · have HS2 := Lib.hid (show SysAt w2 a c d g f size next limit x2 from ⟨by unfold limA at hAl; rw [if_neg hr0] at hAl; exact hAl, hCe, hDi⟩)
          have hr0b : (r == 0) = false := beq_eq_false_iff_ne.2 hr0
          clear hAl hCe hDi
          go_wp2_with fail
          refine keepPost_free ?_
          refine keep_eff rfl ?_
          go_wp2_with fail
          refine keepPost_free ?_
          refine keep_done ?_
          go_wp2_with fail
          go_ret2
          exact ⟨_, r, rfl, HEE.out.symm, .inl ⟨hr0, rfl, by rw [HXX.out]; exact HS2.out⟩, HO2.out⟩
      · have HE2 := Lib.hid (HE.out.trans (if_neg hres))
        have HX2 := Lib.hid (HX.out.trans (if_neg hres))
        have HLL := Lib.hid (HLL0.out.trans (if_neg hres))
        obtain ⟨L2, rfl⟩ : ∃ L2, L2 = limit := ⟨_, rfl⟩
        obtain ⟨x2, rfl⟩ : ∃ x2, x2 = x := ⟨_, rfl⟩
        have HS2 := Lib.hid HS.out.drew
        have HBX2 := Lib.hid (show Blk w1.drew w.heap.size 59 _ from HBX.out)
        have HO2 := Lib.hid (HO.out.drew)
        have hL2 : 0 ≤ L2 ∧ L2 ≤ 2199023255600 := by omega
        have HLB := Lib.hid (show 0 ≤ L2 ∧ L2 ≤ 2199023255600 from hL2)
        clear hL2
        go_wp2_with fail
        go_loopw [8, 52] (fun v8 v52 wr => ∃ k : Nat, v52 = .int .i64 (k : Int) ∧ k ≤ n ∧ OwnI wr w.heap.size v8 (listN next k) ∧ SysAt wr a c d g f size (next + (k : Int)) L2 x2 ∧ Blk wr w.heap.size 59 #[.pointer (some ⟨a, 0, none⟩)] ∧ OnlyS (S3 d g a) w wr) (fun _ v52 _ => n - (intOf v52).toNat)
        case atStart => exact ⟨0, rfl, by omega, OwnI.nil _ _, by simpa using HS2.out, HBX2.out, HO2.out⟩
        case round =>
          obtain ⟨k, rfl, hk, hOw, hSy, hBx, hOn⟩ := hrel
          have HOW := Lib.hid hOw
          have HSY := Lib.hid hSy
          have HBK := Lib.hid hBx
          have HON := Lib.hid hOn
          clear hOw hSy hBx hOn
          by_cases hlt : k < n
          · have i1 : (k : Int) < (n : Int) := by omega
            go_upto_region 15 with fail
            refine wp_region_lit ?_
            iterate 8 go_step
            refine (one_any a c w.heap.size (next + (k : Int)) L2 wr HSY.out.alloc HBK.out (by omega) (by omega)).mono ?_
            rintro e w7 ⟨rfl, rfl⟩
            have hsy7 := HSY.out.setNext (next + (k : Int) + 1)
            have hbk7 := HBK.out.far (p := ⟨a, 1, none⟩) (fun e => HSY.out.alloc.ne_ HBK.out (by decide) e.symm) (.int .i64 (next + (k : Int) + 1))
            have hon7 := HON.out.set_ (p := ⟨a, 1, none⟩) (.inr (.inr rfl)) (.int .i64 (next + (k : Int) + 1))
            have how7 := HOW.out.set3 (p := ⟨a, 1, none⟩) (fun e => own3_ne HOW.out HSY.out.alloc (by decide) e) (.int .i64 (next + (k : Int) + 1))
            generalize wr.setCell ⟨a, 1, none⟩ (.int .i64 (next + (k : Int) + 1)) = w7 at hsy7 hbk7 hon7 how7 ⊢
            have HOW := Lib.hid how7
            have HSY := Lib.hid hsy7
            have HBK := Lib.hid hbk7
            have HON := Lib.hid hon7
            clear hsy7 hbk7 hon7 how7
            dsimp only
            iterate 4 go_step
            refine wpList_ownI rfl _ _ rfl w.heap.size u8 (listN next k) rfl HOW.out (next + (k : Int)) rfl (by rw [listN_length]; omega) HON.out.size ?_
            intro v' w8 hO8 hG8
            rw [listN_next] at hO8
            have HO8 := Lib.hid hO8
            have hsy8 := HSY.out.grown3 HOW.out hG8
            have hbk8 := HBK.out.grown hG8 (fun e => own3_ne HOW.out HBK.out (by decide) e.symm)
            have hon8 := HON.out.own HOW.out hG8
            have HSY := Lib.hid hsy8
            have HBK := Lib.hid hbk8
            have HON := Lib.hid hon8
            clear hO8 hG8 hsy8 hbk8 hon8
            simp only [Act.put]
            go_wp2_with fail
            go_roundw
            case rel => exact ⟨k + 1, by go_num, by omega, HO8.out, by rw [show next + ((k + 1 : Nat) : Int) = next + (k : Int) + 1 by omega]; exact HSY.out, HBK.out, HON.out⟩
            case measure => simp [intOf]; omega
          · obtain rfl : k = n := by omega
            have i1 : ¬ (k : Int) < (k : Int) := by omega
            go_wp2_with fail
            go_ret2
            exact ⟨_, 0, rfl, by rw [HE2.out], .inr ⟨rfl, by simpa using HOW.out, by rw [HX2.out, HLL.out]; exact HSY.out⟩, HON.out⟩
end Go.Proofs.Ytnddkodenkmoiaa
