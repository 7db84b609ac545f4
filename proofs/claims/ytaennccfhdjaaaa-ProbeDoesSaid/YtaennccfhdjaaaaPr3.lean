/- A prober's memory; up. -/
import Derived.Test.YtaennccfhdjaaaaPr2
namespace Go.Proofs.Ytaennccfhdjaaaa
open Go.RowKit Go.Proofs
set_option linter.unusedSimpArgs false
set_option linter.unusedVariables false
/-- A prober at p, its row v. -/
structure PAt (w : World) (base p : Nat) (v : Value) (N me now next : Int) (f : Nat → En) (m : Nat) : Prop where
  blk : Blk w p 49 #[.int .i64 N, .int .i64 me, .int .i64 now, .int .i64 next, v]
  own : w.ownsRow base 53 2 v m (flatE f m)
section
variable {w w' : World} {base p g m cap : Nat} {v : Value} {N me now next : Int} {f f' : Nat → En}
theorem PAt.ne (h : PAt w base p v N me now next f m) {g : Nat} (hg : v.ownBlock = some g) : p ≠ g := by
  rintro rfl
  rcases h.own.2 with ⟨rfl, _⟩ | ⟨g', cap, cur, rfl, _, hgg, _⟩
  · simp [Value.ownBlock] at hg
  · simp [Value.ownBlock] at hg
    subst hg
    have h1 := h.blk
    unfold Blk at h1
    rw [hgg] at h1
    injection h1 with h1
    injection h1 with _ h1
    exact absurd h1 (by decide)
theorem PAt.sl (h : PAt w base p v N me now next f m) : w.cell? ⟨p, 4, none⟩ = some v := h.blk.cell 4
theorem PAt.swapped (h : PAt w base p (.slice (some ⟨g, 0, none⟩) m cap) N me now next f m) (ho : w'.ownsRow base 53 2 (.slice (some ⟨g, 0, none⟩) m cap) m (flatE f' m)) (hg : w.grownBy w' (some g)) : PAt w' base p (.slice (some ⟨g, 0, none⟩) m cap) N me now next f' m :=
  ⟨h.blk.grown hg (fun e => h.ne rfl (Option.some.inj e)), ho⟩
theorem PAt.cells (h : PAt w base p (.slice (some ⟨g, 0, none⟩) m cap) N me now next f m) : CellsE w g f m := fun k hk => owns_cells h.own hk
theorem PAt.drew (h : PAt w base p v N me now next f m) : PAt w.drew base p v N me now next f m := ⟨h.blk, h.own⟩
theorem PAt.below (h : PAt w base p v N me now next f m) (hb : Below w.heap.size w w') : PAt w' base p v N me now next f m :=
  ⟨h.blk.below hb h.blk.lt, h.own.kept (grownBy_of_below hb none) (by cases v.ownBlock <;> simp)⟩
end
theorem meth51 (name : String) (f : FuncId) (h : (Try.prog.info? 51).bind (fun i => (i.methods.find? (·.name == name)).map fun m => (m.path.toList, m.func)) = some ([], some (f, false))) : ∃ i m, Try.prog.info? 51 = some i ∧ i.methods.find? (·.name == name) = some m ∧ m.path.toList = [] ∧ m.func = some (f, false) := by
  cases hi : Try.prog.info? 51 with
  | none => rw [hi] at h; cases h
  | some i =>
    rw [hi] at h
    simp only [Option.bind_some] at h
    cases hm : i.methods.find? (·.name == name) with
    | none => rw [hm] at h; cases h
    | some m =>
      rw [hm] at h
      simp only [Option.map_some, Option.some.injEq, Prod.mk.injEq] at h
      exact ⟨i, m, rfl, hm, h.1, h.2⟩
theorem u51 : Try.prog.underlying 51 = some (.pointer 47) := by kernel_rfl
theorem u47 : Try.prog.underlying 47 = some (.slice 53) := by kernel_rfl
theorem wrapNil (tys : Array TypeId) (ty : TypeId) (a : Addr) (s m : ByteArray) (w : World) : (Builtin.ssaWrapNilChk_ tys ty #[.pointer (some a), .string s, .string m]).run Try.prog w = .ok (.pointer (some a)) w := rfl
set_option maxRecDepth 100000 in
theorem method_at (a : Addr) (v : Value) (w : World) (h : w.cell? a = some v) (name : String) (f : FuncId) (hh : (Try.prog.info? 51).bind (fun i => (i.methods.find? (·.name == name)).map fun m => (m.path.toList, m.func)) = some ([], some (f, false))) (n : Nat) : (method (n + 1) 51 (.pointer (some a)) name).run Try.prog w = .ok (f, v) w := by
  obtain ⟨i, m, hi, hm, hp, hf⟩ := meth51 name f hh
  have hp' : m.path.isEmpty = true := by
    have : m.path = #[] := by rw [← Array.toList_inj]; exact hp
    rw [this]; rfl
  unfold method
  simp only [Sem.run_bind, typeInfo, run_program, asAddr, loadVar, isAgg, run_underlying u47, hi, Sem.run_pure, Result.andThen_ok, hm, hp, hf, follow, receiverAt, run_underlying u51, Place.get, hp', if_true, strVal, wrapNil]
  simp only [Bool.false_eq_true, if_false, run_load, h, Result.andThen_ok]
theorem less_at {a : Addr} {v : Value} {w : World} (h : w.cell? a = some v) : (method 184 51 (.pointer (some a)) "Less").run Try.prog w = .ok (49, v) w := method_at a v w h "Less" 49 (by kernel_rfl) 183
theorem swap_at {a : Addr} {v : Value} {w : World} (h : w.cell? a = some v) : (method 184 51 (.pointer (some a)) "Swap").run Try.prog w = .ok (50, v) w := method_at a v w h "Swap" 50 (by kernel_rfl) 183
theorem len_at {a : Addr} {v : Value} {w : World} (h : w.cell? a = some v) : (method 184 51 (.pointer (some a)) "Len").run Try.prog w = .ok (48, v) w := method_at a v w h "Len" 48 (by kernel_rfl) 183
theorem push_at (a : Addr) (w : World) : (method 184 51 (.pointer (some a)) "Push").run Try.prog w = .ok (53, .pointer (some a)) w := by kernel_rfl
theorem pop_at (a : Addr) (w : World) : (method 184 51 (.pointer (some a)) "Pop").run Try.prog w = .ok (52, .pointer (some a)) w := by kernel_rfl
/-- What up leaves. -/
def UpP (base p g cap : Nat) (N me now next : Int) (f : Nat → En) (m : Nat) (w w' : World) : Prop :=
  ∃ f', HeapF f' m ∧ SameC m f f' ∧ PAt w' base p (.slice (some ⟨g, 0, none⟩) m cap) N me now next f' m ∧ w.grownBy w' (some g)
set_option maxRecDepth 100000 in
set_option maxHeartbeats 1000000 in
theorem up_any (base p g cap : Nat) (N me now next : Int) (f : Nat → En) (m j : Nat) (w : World) (hP : PAt w base p (.slice (some ⟨g, 0, none⟩) m cap) N me now next f m) (hj : j < m) (hm : m ≤ 100) (hu : UpI f m j) :
    Calls Try.prog 27 #[.iface 51 (.pointer (some ⟨p, 4, none⟩)), .int .i64 j] w fun e w' => e = .returned (.tuple #[]) ∧ UpP base p g cap N me now next f m w w' := by
  go_enter Try.func27, Try.ntmps27
  go_wp2_with fail
  go_loopw [1, 4] (fun v1 _ wr => ∃ (j : Nat) (f' : Nat → En), v1 = .int .i64 (j : Int) ∧ j < m ∧ UpI f' m j ∧ SameC m f f' ∧ PAt wr base p (.slice (some ⟨g, 0, none⟩) m cap) N me now next f' m ∧ w.grownBy wr (some g)) (fun v1 _ _ => (intOf v1).toNat)
  case atStart => exact ⟨j, f, rfl, hj, hu, .refl _ _, hP, grownBy_of_below (Below.refl _ _) _⟩
  case round =>
    obtain ⟨k, f', rfl, hk, hU, hS, hA, hG⟩ := hrel
    by_cases k0 : k = 0
    · subst k0
      have HU := Lib.hid hU
      have HS := Lib.hid hS
      have HA := Lib.hid hA
      have HG := Lib.hid hG
      clear hU hS hA hG hP hu
      go_wp2_with fail
      go_end0
      exact ⟨rfl, f', HU.out.zero, HS.out, HA.out, HG.out⟩
    · have hpl : par k < k := by unfold par; omega
      have hq : ((k : Int) - 1) / 2 = ((par k : Nat) : Int) := by unfold par; omega
      have hne : ¬ ((par k : Nat) : Int) = (k : Int) := by omega
      have hmL := less_at hA.sl
      have HU := Lib.hid hU
      have HS := Lib.hid hS
      have HA := Lib.hid hA
      have HG := Lib.hid hG
      clear hU hS hA hG hP hu
      generalize hpk : par k = q at hq hpl hne
      have HPK := Lib.hid hpk
      clear hpk
      go_wp2_with fail
      refine (less_any g m cap k q f' wr HA.out.cells hk (by omega)).mono ?_
      rintro e w2 ⟨rfl, hb⟩
      have HA := Lib.hid (HA.out.below hb)
      have HG := Lib.hid (grownBy_trans HG.out (grownBy_of_below hb (some g)))
      clear hb hmL
      by_cases hl : lessE (f' k) (f' q)
      · have hd : decide (lessE (f' k) (f' q)) = true := decide_eq_true hl
        have HL := Lib.hid hl
        have hmS := swap_at HA.out.sl
        clear hl
        go_wp2_with fail
        refine (swap_any g m cap q k f' w2 base HA.out.own (by omega) hk).mono ?_
        rintro e w3 ⟨rfl, ho, hg⟩
        have HA := Lib.hid (HA.out.swapped ho hg)
        have HG := Lib.hid (grownBy_trans HG.out hg)
        clear ho hg hmS hd
        go_wp2_with fail
        go_roundw
        case rel => exact ⟨q, swp f' q k, rfl, by omega, HPK.out ▸ HU.out.step (by omega) hk (HPK.out ▸ HL.out), HS.out.trans (.of_swp m f' (by omega) hk), HA.out, HG.out⟩
        case measure => simp [intOf]; omega
      · have hd : decide (lessE (f' k) (f' q)) = false := decide_eq_false hl
        have HL := Lib.hid hl
        clear hl
        go_wp2_with fail
        go_end0
        exact ⟨rfl, f', HU.out.done (HPK.out ▸ HL.out), HS.out, HA.out, HG.out⟩
end Go.Proofs.Ytaennccfhdjaaaa
