/- The reference: a word of four bytes, the constants. -/
import Derived.Test.YtkbcilfcfbfiaaaDoorSumm
namespace Go.Proofs.YtkbcilfcfbfiaaaDoor
open Go.RowKit Go.Proofs
set_option linter.unusedSimpArgs false
set_option linter.unusedVariables false

/-- A slice of bytes in memory: the bytes l lie in block b from offset o on. -/
def At (w : World) (b o : Nat) (l : List UInt8) : Prop := ∀ i, i < l.length → w.cell? ⟨b, o + i, none⟩ = some (bb (l.getD i 0))

theorem V_nat (n : Nat) (h : n < 4294967296) : (n : Int) = V (BitVec.ofNat 32 n) := by
  unfold V; rw [BitVec.toNat_ofNat, Nat.mod_eq_of_lt (by omega)]
theorem or_add (a b k : Nat) (h : b < 2 ^ k) : (a * 2 ^ k) ||| b = a * 2 ^ k + b := by
  rw [← Nat.shiftLeft_eq, Nat.shiftLeft_add_eq_or_of_lt h]
theorem push_nat (x : BitVec 32) (c : UInt8) (h : x.toNat < 16777216) : (push x c).toNat = x.toNat * 256 + c.toNat := by
  have hc : c.toNat < 256 := c.toNat_lt
  unfold push
  rw [BitVec.toNat_or, BitVec.toNat_shiftLeft, BitVec.toNat_ofNat, Nat.mod_eq_of_lt (by omega : c.toNat < 2 ^ 32), Nat.shiftLeft_eq, Nat.mod_eq_of_lt (by omega)]
  exact or_add x.toNat c.toNat 8 hc
theorem word_nat (l : List UInt8) (t : Nat) : (word l t).toNat = (l.getD (4 * t) 0).toNat * 16777216 + (l.getD (4 * t + 1) 0).toNat * 65536 + (l.getD (4 * t + 2) 0).toNat * 256 + (l.getD (4 * t + 3) 0).toNat := by
  have h0 : (l.getD (4 * t) 0).toNat < 256 := UInt8.toNat_lt _
  have h1 : (l.getD (4 * t + 1) 0).toNat < 256 := UInt8.toNat_lt _
  have h2 : (l.getD (4 * t + 2) 0).toNat < 256 := UInt8.toNat_lt _
  have h3 : (l.getD (4 * t + 3) 0).toNat < 256 := UInt8.toNat_lt _
  have e1 : (pw l t 1).toNat = (l.getD (4 * t) 0).toNat := by
    show (push 0 _).toNat = _
    rw [push_nat _ _ (by simp)]; simp
  have e2 : (pw l t 2).toNat = (l.getD (4 * t) 0).toNat * 256 + (l.getD (4 * t + 1) 0).toNat := by
    show (push (pw l t 1) _).toNat = _
    rw [push_nat _ _ (by omega), e1]
  have e3 : (pw l t 3).toNat = ((l.getD (4 * t) 0).toNat * 256 + (l.getD (4 * t + 1) 0).toNat) * 256 + (l.getD (4 * t + 2) 0).toNat := by
    show (push (pw l t 2) _).toNat = _
    rw [push_nat _ _ (by omega), e2]
  show (push (pw l t 3) (l.getD (4 * t + 3) 0)).toNat = _
  rw [push_nat _ _ (by omega), e3]
  omega

set_option maxRecDepth 100000 in
set_option maxHeartbeats 2000000 in
theorem word_any (b o : Nat) (l : List UInt8) (cap t : Nat) (w : World) (h : At w b o l) (ht : 4 * t + 3 < l.length) (hl : l.length < 1600000000000000) :
    Calls Tryd.prog 77 #[.slice (some ⟨b, o, none⟩) l.length cap, .int .i64 (4 * (t : Int))] w fun e w' => e = .returned (.int .u32 (V (word l t))) ∧ Below w.heap.size w w' := by
  have c0 : ∀ w', KeptOn (fun _ => True) w.drew w' → w'.cell? ⟨b, o + 4 * t, none⟩ = some (.int .u8 ((l.getD (4 * t) 0).toNat : Int)) := fun w' hK => hK.cell (w := w.drew) (h (4 * t) (by omega)) trivial
  have c1 : ∀ w', KeptOn (fun _ => True) w.drew w' → w'.cell? ⟨b, o + (4 * t + 1), none⟩ = some (.int .u8 ((l.getD (4 * t + 1) 0).toNat : Int)) := fun w' hK => hK.cell (w := w.drew) (h (4 * t + 1) (by omega)) trivial
  have c2 : ∀ w', KeptOn (fun _ => True) w.drew w' → w'.cell? ⟨b, o + (4 * t + 2), none⟩ = some (.int .u8 ((l.getD (4 * t + 2) 0).toNat : Int)) := fun w' hK => hK.cell (w := w.drew) (h (4 * t + 2) (by omega)) trivial
  have c3 : ∀ w', KeptOn (fun _ => True) w.drew w' → w'.cell? ⟨b, o + (4 * t + 3), none⟩ = some (.int .u8 ((l.getD (4 * t + 3) 0).toNat : Int)) := fun w' hK => hK.cell (w := w.drew) (h (4 * t + 3) (by omega)) trivial
  have HW := Lib.hid (word_nat l t)
  have hb0 := UInt8.toNat_lt (l.getD (4 * t) 0)
  have hb1 := UInt8.toNat_lt (l.getD (4 * t + 1) 0)
  have hb2 := UInt8.toNat_lt (l.getD (4 * t + 2) 0)
  have hb3 := UInt8.toNat_lt (l.getD (4 * t + 3) 0)
  generalize hx0 : (l.getD (4 * t) 0).toNat = x0 at *
  generalize hx1 : (l.getD (4 * t + 1) 0).toNat = x1 at *
  generalize hx2 : (l.getD (4 * t + 2) 0).toNat = x2 at *
  generalize hx3 : (l.getD (4 * t + 3) 0).toNat = x3 at *
  generalize hn : l.length = n at *
  clear hx0 hx1 hx2 hx3
  have i0 : 4 * (t : Int) < (n : Int) := by omega
  have i1 : 4 * (t : Int) + 1 < (n : Int) := by omega
  have i2 : 4 * (t : Int) + 2 < (n : Int) := by omega
  have i3 : 4 * (t : Int) + 3 < (n : Int) := by omega
  have p0 : (0 : Int) ≤ 4 * (t : Int) := by omega
  have p1 : (0 : Int) ≤ 4 * (t : Int) + 1 := by omega
  have p2 : (0 : Int) ≤ 4 * (t : Int) + 2 := by omega
  have p3 : (0 : Int) ≤ 4 * (t : Int) + 3 := by omega
  have n0 : (4 * (t : Int)).toNat = 4 * t := by omega
  have n1 : (4 * (t : Int) + 1).toNat = 4 * t + 1 := by omega
  have n2 : (4 * (t : Int) + 2).toNat = 4 * t + 2 := by omega
  have n3 : (4 * (t : Int) + 3).toNat = 4 * t + 3 := by omega
  have w1 : IntKind.i64.wrap (4 * (t : Int) + 1) = 4 * (t : Int) + 1 := IntWalk.i64_in _ (by omega)
  have w2 : IntKind.i64.wrap (4 * (t : Int) + 2) = 4 * (t : Int) + 2 := IntWalk.i64_in _ (by omega)
  have w3 : IntKind.i64.wrap (4 * (t : Int) + 3) = 4 * (t : Int) + 3 := IntWalk.i64_in _ (by omega)
  have HH := Lib.hid h
  clear h
  go_enter Tryd.func77, Tryd.ntmps77
  go_wp2_with fail
  refine wp_region_keep (KeptOn fun _ => True) (KeptOn.refl _) (KeptOn.trans) [(0, 0), (1, 0), (2, 0), (3, 0), (4, 0), (5, 0), (6, 0), (7, 0), (8, 0), (9, 0), (10, 0), (11, 0), (12, 0), (13, 0), (14, 0), (15, 0), (16, 0), (17, 0), (18, 0), (19, 0), (20, 0), (21, 0), (22, 0), (23, 0), (24, 0), (25, 0), (26, 0), (27, 0), (28, 0), (29, 0)] (by kernel_rfl) (by kernel_rfl) ?_
  iterate 30 (refine keep_quiet (v := ?_) rfl (fun _ _ _ h => h) (by rfl) (fun w' hR => ?_) ?_; rotate_left; (go_simp; try with_reducible rfl); simp only [Act.put, List.setIfInBounds_toArray, List.set_cons_zero, List.set_cons_succ])
  refine keep_done ?_
  have q : ∀ z : Int, IntKind.u32.wrap z = z % 4294967296 := fun _ => rfl
  have e : IntKind.u32.wrap (IntKind.u32.wrap (IntKind.u32.wrap (IntKind.u32.wrap (IntKind.u32.wrap (x0 : Int) * 16777216) + IntKind.u32.wrap (IntKind.u32.wrap (x1 : Int) * 65536)) + IntKind.u32.wrap (IntKind.u32.wrap (x2 : Int) * 256)) + IntKind.u32.wrap (x3 : Int)) = V (word l t) := by
    simp only [q]; unfold V; rw [HW.out]; omega
  rw [e]
  clear e
  generalize hres : V (word l t) = res
  have HR := Lib.hid hres
  clear hres q hb0 hb1 hb2 hb3 c0 c1 c2 c3
  generalize IntKind.u32.wrap (IntKind.u32.wrap (IntKind.u32.wrap (IntKind.u32.wrap (x0 : Int) * 16777216) + IntKind.u32.wrap (IntKind.u32.wrap (x1 : Int) * 65536)) + IntKind.u32.wrap (IntKind.u32.wrap (x2 : Int) * 256)) = y1
  generalize IntKind.u32.wrap (IntKind.u32.wrap (IntKind.u32.wrap (x0 : Int) * 16777216) + IntKind.u32.wrap (IntKind.u32.wrap (x1 : Int) * 65536)) = y2
  go_wp2_with fail
  go_ret
  exact ⟨by rw [HR.out]; rfl, (Below.refl _ _).drew⟩
end Go.Proofs.YtkbcilfcfbfiaaaDoor
