/- The allocator: reserve, Some, Take. -/
import Derived.Test.YtnddkodenkmoiaaNon1
namespace Go.Proofs.Ytnddkodenkmoiaa
open Go.RowKit Go.Proofs
set_option linter.unusedSimpArgs false
set_option linter.unusedVariables false
/-- Only the blocks of S have turned. -/
structure OnlyS (S : Nat → Prop) (a b : World) : Prop where
  os : b.os = a.os
  tape : b.tape = a.tape
  output : b.output = a.output
  size : a.heap.size ≤ b.heap.size
  block : ∀ i, i < a.heap.size → ¬ S i → b.heap[i]? = a.heap[i]?
theorem OnlyS.refl (S : Nat → Prop) (a : World) : OnlyS S a a := ⟨rfl, rfl, rfl, Nat.le_refl _, fun _ _ _ => rfl⟩
theorem OnlyS.trans {S : Nat → Prop} {a b c : World} (h : OnlyS S a b) (k : OnlyS S b c) : OnlyS S a c :=
  ⟨k.os.trans h.os, k.tape.trans h.tape, k.output.trans h.output, Nat.le_trans h.size k.size, fun i hi h1 => (k.block i (Nat.lt_of_lt_of_le hi h.size) h1).trans (h.block i hi h1)⟩
theorem OnlyS.of_only2 {S : Nat → Prop} {d g : Nat} {a b : World} (h : Only2 d g a b) (hd : S d) (hg : S g) : OnlyS S a b :=
  ⟨h.os, h.tape, h.output, h.size, fun i hi hs => h.block i hi (fun e => hs (e ▸ hd)) (fun e => hs (e ▸ hg))⟩
theorem OnlyS.of_below {S : Nat → Prop} {a b : World} (h : Below a.heap.size a b) : OnlyS S a b := ⟨h.os, h.tape, h.output, h.size, fun i hi _ => h.block i hi⟩
theorem OnlyS.set_ {S : Nat → Prop} {a b : World} (h : OnlyS S a b) {p : Addr} (hp : S p.block) (u : Value) : OnlyS S a (b.setCell p u) :=
  ⟨h.os, h.tape, h.output, by have := h.size; simpa [World.setCell] using this, fun i hi hs => (Below.heap_setCell b p u i (fun e => hs (e ▸ hp))).trans (h.block i hi hs)⟩
theorem OnlyS.drew {S : Nat → Prop} {a b : World} (h : OnlyS S a b) : OnlyS S a b.drew := ⟨h.os, h.tape, h.output, h.size, h.block⟩
theorem OnlyS.below {S : Nat → Prop} {B : Nat} {a b : World} (h : OnlyS S a b) (hB : B ≤ a.heap.size) (hS : ∀ i, S i → B ≤ i) : Below B a b :=
  ⟨h.os, h.tape, h.output, h.size, fun i hi => h.block i (by omega) (fun hs => by have := hS i hs; omega)⟩
theorem OnlyS.blk {S : Nat → Prop} {a b : World} {r : Nat} {t : TypeId} {cs : Array Value} (h : OnlyS S a b) (hb : Blk a r t cs) (hs : ¬ S r) : Blk b r t cs := (h.block r hb.lt hs).trans hb
def S3 (d g a : Nat) : Nat → Prop := fun i => i = d ∨ i = g ∨ i = a
/-- The new limit. -/
def resL (upto limit : Int) : Int := limit + (upto - limit + 16 - 1) / 16 * 16
theorem resL_bd {upto limit : Int} (h : limit < upto) : upto ≤ resL upto limit ∧ resL upto limit ≤ upto + 15 ∧ limit < resL upto limit := by unfold resL; omega
def limA (e L limit : Int) : Int := if e = 0 then L else limit
def numT (n : Int) : ByteArray := strOf (numOf n)
theorem numT_size (n : Int) (h : n.natAbs ≤ 9223372036854775808) : (numT n).size ≤ 22 := by unfold numT; rw [strOf_size]; exact numOf_length n h
set_option maxRecDepth 100000 in
set_option maxHeartbeats 4000000 in
theorem reserve_any (a c d g f size : Nat) (x : Dk) (next limit upto : Int) (w : World) (hA : AllocAt w a c next limit) (hc : CellAt w c d (f : Int) (size : Int)) (hD : DiskAt w d g x) (ha : x.armed ≤ 9223372036854775807) (h1 : 1 ≤ size) (h2 : size ≤ 255) (hf : f + 2 + 2 * size ≤ x.L.length)
    (hl0 : 0 ≤ limit) (hl1 : limit < upto) (hu : upto ≤ 2199023255552) :
    Calls Try.prog 58 #[.pointer (some ⟨a, 0, none⟩), .int .i64 upto] w fun e w' => e = .returned (.int .i64 (x.saveF f size (numT (resL upto limit))).2) ∧
      AllocAt w' a c next (limA (x.saveF f size (numT (resL upto limit))).2 (resL upto limit) limit) ∧ CellAt w' c d (f : Int) (size : Int) ∧ DiskAt w' d g (x.saveF f size (numT (resL upto limit))).1 ∧ OnlyS (S3 d g a) w w' := by
  have cA0 : w.cell? ⟨a, 0, none⟩ = some (.pointer (some ⟨c, 0, none⟩)) := Blk.cell hA 0
  have cA2 : w.cell? ⟨a, 2, none⟩ = some (.int .i64 limit) := Blk.cell hA 2
  have HA := Lib.hid hA
  have HC := Lib.hid hc
  have HD := Lib.hid hD
  clear hA hc hD
  have hq : 0 ≤ upto - limit + 16 - 1 := by omega
  have hrb := resL_bd hl1
  have hbb : limit + (upto - limit + 16 - 1) / 16 * 16 ≤ 2199023255600 := by omega
  go_enter Try.func58, Try.ntmps58
  go_wp2_with fail
  obtain ⟨L, hL⟩ : ∃ L, limit + (upto - limit + 16 - 1) / 16 * 16 = L := ⟨_, rfl⟩
  have HL := Lib.hid (show resL upto limit = L from hL)
  rw [hL]
  clear hL
  have hLb : 0 ≤ L ∧ L ≤ 2199023255600 := by rw [HL.out] at hrb; omega
  refine (numberL_any L (by omega) (by omega) w).mono ?_
  rintro e w1 ⟨rfl, hB⟩
  have HB := Lib.hid hB
  have HSZ := Lib.hid (numT_size L (by omega))
  have HD := Lib.hid (HD.out.below hB)
  have HC := Lib.hid (show CellAt w1 c d (f : Int) (size : Int) from HC.out.below hB HC.out.lt)
  have HA := Lib.hid (show AllocAt w1 a c next limit from HA.out.below hB HA.out.lt)
  clear hB cA0 cA2
  rw [show strOf (numOf L) = numT L from rfl]
  go_wp2_with fail
  refine (save_any c d g f size x (numT L) w1 HC.out HD.out ha h1 h2 hf).mono ?_
  rintro e w2 ⟨rfl, hD2, hO2⟩
  have HA2 := Lib.hid (show AllocAt w2 a c next limit from HD.out.only2_blk HA.out hO2 (by decide) (by decide))
  have HC2 := Lib.hid (show CellAt w2 c d (f : Int) (size : Int) from HD.out.only2_blk HC.out hO2 (by decide) (by decide))
  have HD2 := Lib.hid hD2
  have HO2 := Lib.hid ((OnlyS.of_below HB.out).trans (OnlyS.of_only2 (S := S3 d g a) hO2 (.inl rfl) (.inr (.inl rfl))))
  have HNE := Lib.hid (show a ≠ c ∧ a ≠ d ∧ a ≠ g from ⟨HA2.out.ne_ HC2.out (by decide), HA2.out.ne_ hD2.1 (by decide), HA2.out.ne_ hD2.2.1 (by decide)⟩)
  clear hD2 hO2
  obtain ⟨r, hr⟩ : ∃ r, (x.saveF f size (numT L)).2 = r := ⟨_, rfl⟩
  rw [hr]
  have HR := Lib.hid hr
  clear hr
  have cA2 : w2.cell? ⟨a, 2, none⟩ = some (.int .i64 limit) := Blk.cell HA2.out 2
  have fA2 := Blk.frozen HA2.out 2
  by_cases hr0 : r = 0
  · subst hr0
    have hA3 : AllocAt (w2.setCell ⟨a, 2, none⟩ (.int .i64 L)) a c next L := HA2.out.set_ 2 (.int .i64 L)
    have hC3 : CellAt (w2.setCell ⟨a, 2, none⟩ (.int .i64 L)) c d (f : Int) (size : Int) := HC2.out.far (p := ⟨a, 2, none⟩) (fun e => HNE.out.1 e.symm) _
    have hD3 := HD2.out.far2 (p := ⟨a, 2, none⟩) HNE.out.2.1 HNE.out.2.2 (.int .i64 L)
    have hO3 := HO2.out.set_ (p := ⟨a, 2, none⟩) (.inr (.inr rfl)) (.int .i64 L)
    have HA3 := Lib.hid hA3
    have HC3 := Lib.hid hC3
    have HD3 := Lib.hid hD3
    have HO3 := Lib.hid hO3
    clear hA3 hC3 hD3 hO3
    go_wp2_with fail
    go_ret
    exact ⟨by rw [HL.out, HR.out]; rfl, by rw [HL.out, HR.out]; exact HA3.out, HC3.out, by rw [HL.out]; exact HD3.out, HO3.out⟩
  · have hr0b : (r == 0) = false := beq_eq_false_iff_ne.2 hr0
    go_wp2_with fail
    go_ret
    exact ⟨by rw [HL.out, HR.out]; rfl, by rw [HL.out, HR.out]; unfold limA; rw [if_neg hr0]; exact HA2.out, HC2.out, by rw [HL.out]; exact HD2.out, HO2.out⟩
set_option maxRecDepth 100000 in
set_option maxHeartbeats 4000000 in
theorem one_any (a c b : Nat) (next limit : Int) (w : World) (hA : AllocAt w a c next limit) (hb : Blk w b 59 #[.pointer (some ⟨a, 0, none⟩)]) (h0 : 0 ≤ next) (h1 : next ≤ 4398046511104) :
    Calls Try.prog 59 #[.pointer (some ⟨b, 0, none⟩)] w fun e w' => e = .returned (.int .i64 next) ∧ w' = w.setCell ⟨a, 1, none⟩ (.int .i64 (next + 1)) := by
  have cA1 : w.cell? ⟨a, 1, none⟩ = some (.int .i64 next) := Blk.cell hA 1
  have fA1 := Blk.frozen hA 1
  have cB : w.cell? ⟨b, 0, none⟩ = some (.pointer (some ⟨a, 0, none⟩)) := hb.cell 0
  have hne : a ≠ b := hA.ne_ hb (by decide)
  clear hA hb
  go_enter Try.func59, Try.ntmps59
  go_wp2_with fail
  go_ret
  exact ⟨rfl, rfl⟩
end Go.Proofs.Ytnddkodenkmoiaa
