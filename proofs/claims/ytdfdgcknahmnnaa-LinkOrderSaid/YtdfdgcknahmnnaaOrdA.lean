/- What a client's rows of links hold, beside what went there: plain laws. -/
import Derived.Test.YtdfdgcknahmnnaaAwakeA
import Derived.Maps.AppendAt
namespace Go.Proofs.Ytdfdgcknahmnnaa
open Go.RowKit Go.Proofs
set_option linter.unusedSimpArgs false
set_option linter.unusedVariables false
def shortB (s : ByteArray) : Bool := decide (s.size < 300) || decide (16384 < s.size)
set_option maxHeartbeats 400000 in
theorem short_any (k c : Int) (s : ByteArray) (w : World) :
    Calls Try.prog 15 #[.agg #[.int .i64 k, .int .i64 c, .string s]] w fun e w' => e = .returned (.bool (shortB s)) ∧ w.grownBy w' none := by
  by_cases h1 : s.size < 300
  · go_enter Try.func15, Try.ntmps15
    go_wp2_with fail
    go_ret
    exact ⟨by simp [shortB, h1], World.grownBy_alloc _ _ _⟩
  · by_cases h2 : 16384 < s.size
    · go_enter Try.func15, Try.ntmps15
      go_wp2_with fail
      go_ret
      refine ⟨?_, World.grownBy_alloc _ _ _⟩
      have : shortB s = true := by simp [shortB]; omega
      rw [this]
      simp
      omega
    · go_enter Try.func15, Try.ntmps15
      go_wp2_with fail
      go_ret
      refine ⟨?_, World.grownBy_alloc _ _ _⟩
      have : shortB s = false := by simp [shortB]; omega
      rw [this]
      simp
      omega
structure ActR where
  k : Int
  c : Int
  s : ByteArray
/-- The slice value v reads as these acts. -/
def ActsAt (w : World) (v : Value) (acts : List ActR) : Prop :=
  ∃ ao c, v = .slice ao acts.length c ∧ ∀ i (hi : i < acts.length), ∃ b o, ao = some ⟨b, o, none⟩ ∧ w.cell? ⟨b, o + i * 3, none⟩ = some (.int .i64 acts[i].k) ∧ w.cell? ⟨b, o + i * 3 + 1, none⟩ = some (.int .i64 acts[i].c) ∧ w.cell? ⟨b, o + i * 3 + 2, none⟩ = some (.string acts[i].s)
theorem ActsAt.below {w w' : World} {v : Value} {acts : List ActR} (h : ActsAt w v acts) (hB : Below w.heap.size w w') : ActsAt w' v acts := by
  obtain ⟨ao, c, rfl, hi⟩ := h
  refine ⟨ao, c, rfl, fun i h => ?_⟩
  obtain ⟨b, o, he, h1, h2, h3⟩ := hi i h
  have l1 := World.block_lt_of_cell? w _ h1
  have hc : ∀ j, w'.cell? ⟨b, j, none⟩ = w.cell? ⟨b, j, none⟩ := fun j => hB.cell (p := ⟨b, j, none⟩) (show b < _ from l1)
  exact ⟨b, o, he, (hc _).trans h1, (hc _).trans h2, (hc _).trans h3⟩
/-- Blocks that are neither slice's own. -/
def AvOf (v8 v9 : Value) : Nat → Prop := fun b => v8.ownBlock ≠ some b ∧ v9.ownBlock ≠ some b
theorem RowV.re {Av Av' : Nat → Prop} {w w' : World} {row : Option Nat} {e : TypeId} {v : Value} {xs : List Value} (h : RowV Av w e v xs) (hg : w.grownBy w' row) (hr : ∀ b, row = some b → ¬ Av b) (hA : ∀ b, b < w.heap.size → Av b → Av' b) : RowV Av' w' e v xs := by
  rcases h with h | ⟨b, o, n, c, cs', hv, hn, hc, hb, hx, ha⟩
  · exact .inl h
  · exact .inr ⟨b, o, n, c, cs', hv, hn, hc, hb.grown hg (fun he => hr b he.symm ha), hx, hA b hb.lt ha⟩
theorem LinkA.re {Av Av' : Nat → Prop} {w w' : World} {row : Option Nat} {g : Nat} {N : Int} {L : Nat → List ByteArray} (h : LinkA Av w g N L) (hg : w.grownBy w' row) (hgr : row ≠ some g) (hr : ∀ b, row = some b → ¬ Av b) (hA : ∀ b, b < w.heap.size → Av b → Av' b) : LinkA Av' w' g N L := by
  obtain ⟨⟨⟨vs, h1, h2, h3⟩, h4⟩, h5⟩ := h
  exact ⟨⟨⟨vs, h1, h2.grown hg (fun e => hgr e.symm), fun j v hv => (h3 j v hv).re hg hr hA⟩, h4⟩, h5⟩
theorem own_blk {w : World} {B n : Nat} {v : Value} {xs : List Value} (h : w.ownsRow B 9 1 v n xs) : ∀ b, v.ownBlock = some b → ∃ cs, Blk w b 9 cs := by
  rcases h.2 with ⟨rfl, _⟩ | ⟨g, cap, cur, rfl, h1, h2, _⟩
  · intro b e; cases e
  · intro b e
    obtain rfl : g = b := by simpa [Value.ownBlock] using e
    exact ⟨cur, h2⟩
theorem own_grown {w w' : World} {B n : Nat} {row : Option Nat} {v : Value} {xs : List Value} (h : w.ownsRow B 9 1 v n xs) (hg : w.grownBy w' row) (hr : ∀ b, v.ownBlock = some b → row ≠ some b) : w'.ownsRow B 9 1 v n xs := by
  obtain ⟨hx, h⟩ := h
  refine ⟨hx, ?_⟩
  rcases h with h | ⟨g, cap, cur, rfl, h1, h2, h3⟩
  · exact .inl h
  · exact .inr ⟨g, cap, cur, rfl, h1, (show Blk w' g 9 cur from (show Blk w g 9 cur from h2).grown hg (fun e => hr g rfl e.symm)), h3⟩
structure Ord (B c g : Nat) (v8 v9 : Value) (up dn : List ByteArray) (n m : Nat) (eu ed : List ByteArray) (L : Nat → List ByteArray) (w : World) : Prop where
  link : LinkA (AvOf v8 v9) w g 4 L
  hu : w.ownsRow B 9 1 v8 up.length (up.map .string)
  hd : w.ownsRow B 9 1 v9 dn.length (dn.map .string)
  apart : ∀ b, v8.ownBlock = some b → v9.ownBlock ≠ some b
  nu : n ≤ up.length
  md : m ≤ dn.length
  lu : L (c * 2 + 0) = up.drop n ++ eu
  ld : L (c * 2 + 1) = dn.drop m ++ ed
section
variable {B c g n m : Nat} {v8 v9 : Value} {up dn eu ed : List ByteArray} {L : Nat → List ByteArray} {w w' : World}
theorem Ord.blkg (h : Ord B c g v8 v9 up dn n m eu ed L w) : ∃ cs, Blk w g 54 cs := h.link.1.1.blk
theorem Ord.glt (h : Ord B c g v8 v9 up dn n m eu ed L w) : g < w.heap.size := h.link.1.1.lt
theorem Ord.ne8 (h : Ord B c g v8 v9 up dn n m eu ed L w) : v8.ownBlock ≠ some g := by
  intro e
  obtain ⟨cs, h1⟩ := own_blk h.hu g e
  obtain ⟨cs', h2⟩ := h.blkg
  exact h1.ne_ h2 (by decide) rfl
theorem Ord.ne9 (h : Ord B c g v8 v9 up dn n m eu ed L w) : v9.ownBlock ≠ some g := by
  intro e
  obtain ⟨cs, h1⟩ := own_blk h.hd g e
  obtain ⟨cs', h2⟩ := h.blkg
  exact h1.ne_ h2 (by decide) rfl
theorem Ord.av (h : Ord B c g v8 v9 up dn n m eu ed L w) : ∀ b, w.heap.size ≤ b → AvOf v8 v9 b := by
  intro b hb
  refine ⟨fun e => ?_, fun e => ?_⟩
  · obtain ⟨cs, h1⟩ := own_blk h.hu b e
    have := h1.lt; omega
  · obtain ⟨cs, h1⟩ := own_blk h.hd b e
    have := h1.lt; omega
theorem Ord.grown (h : Ord B c g v8 v9 up dn n m eu ed L w) (hg : w.grownBy w' none) : Ord B c g v8 v9 up dn n m eu ed L w' :=
  ⟨h.link.re hg (by simp) (fun b e => by cases e) (fun _ _ a => a), own_grown h.hu hg (fun _ _ e => by cases e), own_grown h.hd hg (fun _ _ e => by cases e), h.apart, h.nu, h.md, h.lu, h.ld⟩
/-- Behind a call of the links that leaves L'. -/
theorem Ord.moved (h : Ord B c g v8 v9 up dn n m eu ed L w) {L' : Nat → List ByteArray} (hm : Moved (AvOf v8 v9) g 4 L' w w') {n' m' : Nat} {eu' ed' : List ByteArray} (hn : n' ≤ up.length) (hm' : m' ≤ dn.length) (h1 : L' (c * 2 + 0) = up.drop n' ++ eu') (h2 : L' (c * 2 + 1) = dn.drop m' ++ ed') :
    Ord B c g v8 v9 up dn n' m' eu' ed' L' w' :=
  ⟨hm.link, own_grown h.hu hm.only (fun b hb e => h.ne8 (by rw [hb, ← e])), own_grown h.hd hm.only (fun b hb e => h.ne9 (by rw [hb, ← e])), h.apart, hn, hm', h1, h2⟩
theorem Ord.app8 {s : ByteArray} {v' : Value} (h : Ord B c g v8 v9 up dn n m [s] ed L w) (ho : w'.ownsRow B 9 1 v' (up.length + 1) (up.map .string ++ [.string s])) (hg : w.grownBy w' v8.ownBlock) (hat : v'.ownBlock = v8.ownBlock ∨ v'.ownBlock = some w.heap.size) :
    Ord B c g v' v9 (up ++ [s]) dn n m [] ed L w' := by
  refine ⟨h.link.re hg h.ne8 (fun b e ha => ha.1 e) (fun b hb ha => ⟨?_, ha.2⟩), by simpa using ho, own_grown h.hd hg (fun b hb e => h.apart b e hb), fun b hb e => ?_, by have := h.nu; simp; omega, h.md, ?_, h.ld⟩
  · rcases hat with e | e
    · rw [e]; exact ha.1
    · rw [e]; intro e2; injection e2 with e2; omega
  · rcases hat with e2 | e2
    · exact h.apart b (by rw [← e2, hb]) e
    · rw [hb] at e2
      obtain ⟨cs, h1⟩ := own_blk h.hd b e
      have := h1.lt
      injection e2 with e2; omega
  · rw [h.lu, List.drop_append_of_le_length h.nu, List.append_nil]
theorem Ord.app9 {s : ByteArray} {v' : Value} (h : Ord B c g v8 v9 up dn n m eu [s] L w) (ho : w'.ownsRow B 9 1 v' (dn.length + 1) (dn.map .string ++ [.string s])) (hg : w.grownBy w' v9.ownBlock) (hat : v'.ownBlock = v9.ownBlock ∨ v'.ownBlock = some w.heap.size) :
    Ord B c g v8 v' up (dn ++ [s]) n m eu [] L w' := by
  refine ⟨h.link.re hg h.ne9 (fun b e ha => ha.2 e) (fun b hb ha => ⟨ha.1, ?_⟩), own_grown h.hu hg (fun b hb e => h.apart b hb e), by simpa using ho, fun b hb e => ?_, h.nu, by have := h.md; simp; omega, h.lu, ?_⟩
  · rcases hat with e | e
    · rw [e]; exact ha.2
    · rw [e]; intro e2; injection e2 with e2; omega
  · rcases hat with e2 | e2
    · exact h.apart b hb (by rw [← e2, e])
    · rw [e] at e2
      obtain ⟨cs, h1⟩ := own_blk h.hu b hb
      have := h1.lt
      injection e2 with e2; omega
  · rw [h.ld, List.drop_append_of_le_length h.md, List.append_nil]
theorem put_ne {xc : Int} {s : ByteArray} (d : Nat) (hd : d < 2) (hno : putE 4 xc s L d ≠ 0 ∨ xc ≠ (c : Int)) (d' : Nat) (hd' : d' < 2) : putM 4 xc s L d (c * 2 + d') = L (c * 2 + d') := by
  unfold putM
  split
  · rename_i hc
    obtain ⟨h1, h2, h3⟩ := hc
    obtain ⟨h0, h4⟩ := isB_true h1
    rcases hno with hno | hno
    · exact absurd (by unfold putE; rw [if_pos ⟨h1, h2⟩, if_pos h3]) hno
    · rw [upd_other _ _ (by omega)]
  · rfl
theorem put_far {xc : Int} {s : ByteArray} (d d' : Nat) (hd : d < 2) (hd' : d' < 2) (hne : d ≠ d') : putM 4 xc s L d (c * 2 + d') = L (c * 2 + d') := by
  unfold putM
  split
  · rw [upd_other _ _ (by omega)]
  · rfl
theorem put_yes {s : ByteArray} (d : Nat) (he : putE 4 (c : Int) s L d = 0) : putM 4 (c : Int) s L d (c * 2 + d) = L (c * 2 + d) ++ [s] := by
  unfold putE at he
  split at he
  · rename_i hc
    split at he
    · rename_i hl
      unfold putM
      rw [if_pos ⟨hc.1, hc.2, hl⟩, Int.toNat_natCast, upd_same]
    · cases he
  · cases he
theorem take_far (d d' : Nat) (hd : d < 2) (hd' : d' < 2) (hne : d ≠ d') : takeM 4 (c : Int) L d (c * 2 + d') = L (c * 2 + d') := by
  unfold takeM
  split
  · rw [upd_other _ _ (by simp only [Int.toNat_natCast]; omega)]
  · rfl
theorem take_at (d : Nat) (hc : c < 4) : takeM 4 (c : Int) L d (c * 2 + d) = (L (c * 2 + d)).tail ∧ takeS 4 (c : Int) L d = (L (c * 2 + d)).headD ByteArray.empty ∧ takeB 4 (c : Int) L d = !(L (c * 2 + d)).isEmpty := by
  have hb : isB (c : Int) 4 = true := isB_of (by omega) (by omega)
  unfold takeM takeS takeB
  rw [if_pos hb, if_pos hb, hb, Int.toNat_natCast, upd_same]
  exact ⟨rfl, rfl, rfl⟩
theorem reset_ne {xc : Int} (hne : xc ≠ (c : Int)) (d' : Nat) (hd' : d' < 2) : resetM 4 xc L (c * 2 + d') = L (c * 2 + d') := by
  unfold resetM
  split
  · rename_i h1
    obtain ⟨h0, h4⟩ := isB_true h1
    rw [upd_other _ _ (by omega), upd_other _ _ (by omega)]
  · rfl
theorem reset_at (hc : c < 4) (d' : Nat) (hd' : d' < 2) : resetM 4 (c : Int) L (c * 2 + d') = [] := by
  have hb : isB (c : Int) 4 = true := isB_of (by omega) (by omega)
  unfold resetM
  rw [if_pos hb, Int.toNat_natCast]
  rcases (show d' = 0 ∨ d' = 1 by omega) with rfl | rfl
  · rw [upd_other _ _ (by omega), Nat.add_zero, upd_same]
  · rw [upd_same]
theorem len_at (hc : c < 4) (d : Nat) : lenM 4 (c : Int) L d = (L (c * 2 + d)).length := by
  have hb : isB (c : Int) 4 = true := isB_of (by omega) (by omega)
  unfold lenM
  rw [if_pos hb, Int.toNat_natCast]
end
end Go.Proofs.Ytdfdgcknahmnnaa
