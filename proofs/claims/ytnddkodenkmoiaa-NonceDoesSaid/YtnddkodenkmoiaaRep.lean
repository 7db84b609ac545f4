/- What stays as it was: blocks that meet D; a block known whole; rows that read as lists. Plain laws on memory, no program. -/
import Derived.WalkKit
import Derived.Deep.Draws
namespace Go.Proofs.Ytnddkodenkmoiaa
open Go Go.RowKit

/-- The blocks of w that meet D are in w' as they were. -/
def KeptOn (D : Nat → Prop) (w w' : World) : Prop := w.heap.size ≤ w'.heap.size ∧ ∀ b, b < w.heap.size → D b → w'.heap[b]? = w.heap[b]?
theorem KeptOn.refl (D : Nat → Prop) (w : World) : KeptOn D w w := ⟨Nat.le_refl _, fun _ _ _ => rfl⟩
theorem KeptOn.trans {D : Nat → Prop} (a b c : World) (h : KeptOn D a b) (k : KeptOn D b c) : KeptOn D a c :=
  ⟨Nat.le_trans h.1 k.1, fun i hi hd => (k.2 i (Nat.lt_of_lt_of_le hi h.1) hd).trans (h.2 i hi hd)⟩
theorem KeptOn.cell {D : Nat → Prop} {w w' : World} (h : KeptOn D w w') {a : Addr} {v : Value} (hc : w.cell? a = some v) (hd : D a.block) : w'.cell? a = some v :=
  (World.cell?_of_block (h.2 a.block (World.block_lt_of_cell? w a hc) hd)).trans hc
theorem KeptOn.alloc {D : Nat → Prop} (w : World) (o : Obj) : KeptOn D w (w.alloc o) := ⟨by simp, fun b hb _ => Below.heap_alloc w o b hb⟩
theorem KeptOn.drew {D : Nat → Prop} (w : World) : KeptOn D w w.drew := ⟨Nat.le_refl _, fun _ _ _ => rfl⟩
theorem KeptOn.grown {D : Nat → Prop} {w w' : World} {row : Option Nat} (h : w.grownBy w' row) (hd : ∀ g, row = some g → ¬ D g) : KeptOn D w w' :=
  ⟨h.size, fun b hb hD => h.block b hb (fun e => hd b e.symm hD)⟩
theorem KeptOn.below {D : Nat → Prop} {B : Nat} {w w' : World} (h : Below B w w') (hd : ∀ b, b < w.heap.size → D b → b < B) : KeptOn D w w' :=
  ⟨h.size, fun b hb hD => h.block b (hd b hb hD)⟩

theorem _root_.Go.RowKit.Below.drewN {B : Nat} {a w : World} (h : Below B a w) (n : Nat) : Below B a (w.drewN n) := ⟨h.os, h.tape, h.output, h.size, h.block⟩
/-- w' is w but for block g and new blocks. -/
abbrev OnlyAt (g : Nat) (w w' : World) : Prop := w.grownBy w' (some g)

/-- Block g is just these cells, none frozen. -/
def Blk (w : World) (g : Nat) (t : TypeId) (cs : Array Value) : Prop := w.heap[g]? = some (.cells cs t (0, 0))

section
variable {w w' : World} {g : Nat} {t : TypeId} {cs : Array Value}
theorem Blk.lt (h : Blk w g t cs) : g < w.heap.size := by
  rcases Nat.lt_or_ge g w.heap.size with hlt | hge
  · exact hlt
  · unfold Blk at h; rw [Array.getElem?_eq_none hge] at h; cases h
theorem Blk.cell (h : Blk w g t cs) (i : Nat) : w.cell? ⟨g, i, none⟩ = cs[i]? := cell_of_row w g i cs t (0, 0) h
theorem Blk.frozen (h : Blk w g t cs) (i : Nat) : w.frozen? ⟨g, i, none⟩ = false := by
  unfold Blk at h
  simp [World.frozen?, h]
theorem Blk.new (w : World) (t : TypeId) (cs : Array Value) : Blk (w.alloc (.cells cs t)) w.heap.size t cs := heap_alloc_new w _
theorem Blk.drew (h : Blk w g t cs) : Blk w.drew g t cs := h
theorem Blk.drewN (h : Blk w g t cs) (n : Nat) : Blk (w.drewN n) g t cs := h
theorem Blk.alloc (h : Blk w g t cs) (o : Obj) : Blk (w.alloc o) g t cs := (Below.heap_alloc w o g h.lt).trans h
theorem Blk.set_ (h : Blk w g t cs) (i : Nat) (u : Value) : Blk (w.setCell ⟨g, i, none⟩ u) g t (cs.setIfInBounds i u) := by
  unfold Blk at h ⊢
  simp [World.setCell, Array.getElem?_modify, h]
theorem Blk.far (h : Blk w g t cs) {p : Addr} (hp : g ≠ p.block) (u : Value) : Blk (w.setCell p u) g t cs := (Below.heap_setCell w p u g hp).trans h
theorem Blk.below {B : Nat} (h : Blk w g t cs) (hb : Below B w w') (hg : g < B) : Blk w' g t cs := (hb.block g hg).trans h
theorem Blk.grown {row : Option Nat} (h : Blk w g t cs) (hb : w.grownBy w' row) (hg : some g ≠ row) : Blk w' g t cs := (hb.block g h.lt hg).trans h
theorem Blk.ne_ {g' : Nat} {t' : TypeId} {cs' : Array Value} (h : Blk w g t cs) (h' : Blk w g' t' cs') (hne : t ≠ t') : g ≠ g' := by
  rintro rfl
  unfold Blk at h h'
  rw [h] at h'
  injection h' with h'
  injection h' with _ ht
  exact hne ht
theorem Blk.kept {D : Nat → Prop} (h : Blk w g t cs) (hb : KeptOn D w w') (hg : D g) : Blk w' g t cs := (hb.2 g h.lt hg).trans h
end

/-- The slice value v reads, in blocks of element type e (cells of one each), as the list xs; the array holds at least these. -/
def RowV (w : World) (e : TypeId) (v : Value) (xs : List Value) : Prop :=
  (∃ c, v = .slice none 0 c ∧ c = 0 ∧ xs = []) ∨
  ∃ b o n c cs, v = .slice (some ⟨b, o, none⟩) n c ∧ n = xs.length ∧ n ≤ c ∧ Blk w b e cs ∧ ∀ j u, xs[j]? = some u → cs[o + j]? = some u

section
variable {w w' : World} {e : TypeId} {v : Value} {xs : List Value}
theorem RowV.nil (w : World) (e : TypeId) : RowV w e (.slice none 0 0) [] := .inl ⟨0, rfl, rfl, rfl⟩
theorem RowV.drew (h : RowV w e v xs) : RowV w.drew e v xs := h
theorem RowV.only {g : Nat} {t : TypeId} {cs : Array Value} (h : RowV w e v xs) (ho : OnlyAt g w w') (hg : Blk w g t cs) (hne : e ≠ t) : RowV w' e v xs := by
  rcases h with h | ⟨b, o, n, c, cs', hv, hn, hc, hb, hx⟩
  · exact .inl h
  · exact .inr ⟨b, o, n, c, cs', hv, hn, hc, hb.grown ho (fun he => by injection he with he; exact hb.ne_ hg hne he), hx⟩
theorem RowV.grown {row : Option Nat} (h : RowV w e v xs) (ho : w.grownBy w' row) (hne : ∀ g, row = some g → ∃ t cs, Blk w g t cs ∧ e ≠ t) : RowV w' e v xs := by
  rcases h with h | ⟨b, o, n, c, cs', hv, hn, hc, hb, hx⟩
  · exact .inl h
  · refine .inr ⟨b, o, n, c, cs', hv, hn, hc, hb.grown ho (fun he => ?_), hx⟩
    obtain ⟨t, cs, hg, h2⟩ := hne b he.symm
    exact hb.ne_ hg h2 rfl
theorem RowV.setCell {p : Addr} {t : TypeId} {cs : Array Value} (h : RowV w e v xs) (hg : Blk w p.block t cs) (hne : e ≠ t) (u : Value) : RowV (w.setCell p u) e v xs := by
  rcases h with h | ⟨b, o, n, c, cs', hv, hn, hc, hb, hx⟩
  · exact .inl h
  · exact .inr ⟨b, o, n, c, cs', hv, hn, hc, hb.far (hb.ne_ hg hne) u, hx⟩
theorem RowV.of_own {base n : Nat} (h : w.ownsRow base e 1 v n xs) : RowV w e v xs := by
  obtain ⟨h1, h2⟩ := h
  rcases h2 with ⟨rfl, rfl⟩ | ⟨g, cap, cur, rfl, _, hg, hn, _, hs, ht⟩
  · exact .inl ⟨0, rfl, rfl, List.eq_nil_of_length_eq_zero (by simpa using h1)⟩
  · refine .inr ⟨g, 0, n, cap, cur, rfl, by omega, hn, hg, fun j u hu => ?_⟩
    rw [← ht, List.getElem?_take] at hu
    split at hu
    · simpa using hu
    · cases hu
end

theorem own_form {w : World} {base size n : Nat} {e : TypeId} {v : Value} {xs : List Value} (h : w.ownsRow base e size v n xs) (hn : 0 < n) : ∃ g cap, v = .slice (some ⟨g, 0, none⟩) n cap := by
  rcases h.2 with ⟨_, h0⟩ | ⟨g, cap, _, hv, _⟩
  · omega
  · exact ⟨g, cap, hv⟩

/-- grownBy, one behind the other. -/
theorem grownBy_trans {a b c : World} {row : Option Nat} (h : a.grownBy b row) (k : b.grownBy c row) : a.grownBy c row :=
  ⟨k.os.trans h.os, k.tape.trans h.tape, k.output.trans h.output, Nat.le_trans h.size k.size, fun i hi hne => (k.block i (Nat.lt_of_lt_of_le hi h.size) hne).trans (h.block i hi hne)⟩
theorem grownBy_some {a b : World} (h : a.grownBy b none) (row : Option Nat) : a.grownBy b row := ⟨h.os, h.tape, h.output, h.size, fun i hi _ => h.block i hi (by simp)⟩
theorem grownBy_drew (a : World) (row : Option Nat) : a.grownBy a.drew row := ⟨rfl, rfl, rfl, Nat.le_refl _, fun _ _ _ => rfl⟩
theorem grownBy_of_below {a b : World} (h : Below a.heap.size a b) (row : Option Nat) : a.grownBy b row := ⟨h.os, h.tape, h.output, h.size, fun i hi _ => h.block i hi⟩
theorem grownBy_setCell {a b : World} {g : Nat} (h : a.grownBy b (some g)) {p : Addr} (hp : p.block = g) (u : Value) : a.grownBy (b.setCell p u) (some g) :=
  grownBy_trans h ⟨rfl, rfl, rfl, by simp [World.setCell], fun i _ hne => Below.heap_setCell b p u i (fun e => hne (by rw [e, hp]))⟩
theorem below_of_only {B g : Nat} {a b : World} (h : a.grownBy b (some g)) (hg : B ≤ g) (hB : B ≤ a.heap.size) : Below B a b :=
  ⟨h.os, h.tape, h.output, h.size, fun k hk => h.block k (by omega) (fun e => by injection e with e; omega)⟩
theorem below_of_grown {B : Nat} {a b : World} (h : a.grownBy b none) (hB : B ≤ a.heap.size) : Below B a b :=
  ⟨h.os, h.tape, h.output, h.size, fun k hk => h.block k (by omega) (by simp)⟩


/-- A function turned at one place. -/
def upd {α : Type} (L : Nat → α) (j : Nat) (x : α) : Nat → α := fun i => if i = j then x else L i
theorem upd_same {α : Type} (L : Nat → α) (j : Nat) (x : α) : upd L j x j = x := by simp [upd]
theorem upd_other {α : Type} (L : Nat → α) {i j : Nat} (x : α) (h : i ≠ j) : upd L j x i = L i := by simp [upd, h]

/-- Block b is the cells hdr and behind them N slice values, the j-th of which reads as L j (elements of type e). -/
def Tab (w : World) (b : Nat) (t e : TypeId) (hdr : List Value) (N : Nat) (L : Nat → List Value) : Prop :=
  ∃ vs : List Value, vs.length = N ∧ Blk w b t (hdr ++ vs).toArray ∧ ∀ j v, vs[j]? = some v → RowV w e v (L j)

section
variable {w w' : World} {b : Nat} {t e : TypeId} {hdr : List Value} {N : Nat} {L : Nat → List Value}
theorem Tab.blk (h : Tab w b t e hdr N L) : ∃ cs, Blk w b t cs := by
  obtain ⟨vs, _, hb, _⟩ := h
  exact ⟨_, hb⟩
theorem Tab.lt (h : Tab w b t e hdr N L) : b < w.heap.size := by
  obtain ⟨vs, _, hb, _⟩ := h
  exact hb.lt
theorem Tab.frozen (h : Tab w b t e hdr N L) (i : Nat) : w.frozen? ⟨b, i, none⟩ = false := by
  obtain ⟨vs, _, hb, _⟩ := h
  exact hb.frozen i
theorem Tab.head (h : Tab w b t e hdr N L) {i : Nat} {v : Value} (hi : hdr[i]? = some v) : w.cell? ⟨b, i, none⟩ = some v := by
  obtain ⟨vs, _, hb, _⟩ := h
  rw [hb.cell]
  simp only [List.getElem?_toArray]
  rw [List.getElem?_append_left (List.getElem?_eq_some_iff.1 hi).1]
  exact hi
theorem Tab.get (h : Tab w b t e hdr N L) {j : Nat} (hj : j < N) : ∃ v, w.cell? ⟨b, hdr.length + j, none⟩ = some v ∧ RowV w e v (L j) := by
  obtain ⟨vs, hl, hb, hr⟩ := h
  have hx : vs[j]? = some vs[j] := List.getElem?_eq_getElem (by omega)
  refine ⟨vs[j], ?_, hr j _ hx⟩
  rw [hb.cell, List.getElem?_toArray, List.getElem?_append_right (by omega), Nat.add_sub_cancel_left]
  exact hx
theorem Tab.mono (h : Tab w b t e hdr N L) (hb : ∀ cs, Blk w b t cs → Blk w' b t cs) (hr : ∀ v xs, RowV w e v xs → RowV w' e v xs) : Tab w' b t e hdr N L := by
  obtain ⟨vs, hl, hb', hr'⟩ := h
  exact ⟨vs, hl, hb _ hb', fun j v hv => hr _ _ (hr' j v hv)⟩
theorem Tab.only {g : Nat} {t' : TypeId} {cs : Array Value} (h : Tab w b t e hdr N L) (ho : OnlyAt g w w') (hg : Blk w g t' cs) (hne : e ≠ t') (hb : b ≠ g) : Tab w' b t e hdr N L :=
  h.mono (fun _ hk => hk.grown ho (fun he => by injection he with he; exact hb he)) (fun _ _ hr => hr.only ho hg hne)
theorem RowV.grownNone {v : Value} {xs : List Value} (h : RowV w e v xs) (ho : w.grownBy w' none) : RowV w' e v xs := h.grown ho (fun g hg => by cases hg)
theorem Tab.grown (h : Tab w b t e hdr N L) (ho : w.grownBy w' none) : Tab w' b t e hdr N L :=
  h.mono (fun _ hk => hk.grown ho (by simp)) (fun _ _ hr => hr.grownNone ho)
theorem RowV.below {v : Value} {xs : List Value} (h : RowV w e v xs) (hB : Below w.heap.size w w') : RowV w' e v xs := by
  rcases h with h | ⟨b, o, n, c, cs', hv, hn, hc, hb, hx⟩
  · exact .inl h
  · exact .inr ⟨b, o, n, c, cs', hv, hn, hc, hb.below hB hb.lt, hx⟩
theorem Tab.below (h : Tab w b t e hdr N L) (hB : Below w.heap.size w w') : Tab w' b t e hdr N L :=
  h.mono (fun _ hk => hk.below hB hk.lt) (fun _ _ hr => hr.below hB)
theorem Tab.drew (h : Tab w b t e hdr N L) : Tab w.drew b t e hdr N L := h
/-- One of the slices is stored anew. -/
theorem Tab.set (h : Tab w b t e hdr N L) (hne : e ≠ t) {j k : Nat} (hj : j < N) (hk : k = hdr.length + j) {v : Value} {xs : List Value} (hv : RowV w e v xs) : Tab (w.setCell ⟨b, k, none⟩ v) b t e hdr N (upd L j xs) := by
  obtain ⟨vs, hl, hb, hr⟩ := h
  subst hk
  refine ⟨vs.set j v, by simpa using hl, ?_, fun i u hu => ?_⟩
  · have := hb.set_ (hdr.length + j) v
    simpa [List.set_append_right] using this
  · by_cases hij : i = j
    · subst hij
      have : u = v := by
        rw [List.getElem?_set_self (by omega)] at hu
        injection hu with hu
        exact hu.symm
      subst this
      rw [upd_same]
      exact hv.setCell (p := ⟨b, hdr.length + i, none⟩) hb hne u
    · rw [upd_other _ _ hij]
      rw [List.getElem?_set_ne (Ne.symm hij)] at hu
      exact (hr i u hu).setCell (p := ⟨b, hdr.length + j, none⟩) hb hne v
theorem Tab.congr {L' : Nat → List Value} (h : Tab w b t e hdr N L) (hL : ∀ j, j < N → L j = L' j) : Tab w b t e hdr N L' := by
  obtain ⟨vs, hl, hb, hr⟩ := h
  exact ⟨vs, hl, hb, fun j v hv => by rw [← hL j (by have := (List.getElem?_eq_some_iff.1 hv).1; omega)]; exact hr j v hv⟩
/-- A new block of empty slices. -/
theorem Tab.new (w : World) (t e : TypeId) (hdr : List Value) (N : Nat) : Tab (w.alloc (.cells (hdr ++ List.replicate N (Value.slice none 0 0)).toArray t)) w.heap.size t e hdr N (fun _ => []) :=
  ⟨List.replicate N (Value.slice none 0 0), by simp, Blk.new _ _ _, fun j v hv => by
    rw [List.getElem?_replicate] at hv
    split at hv
    · injection hv with hv; subst hv; exact RowV.nil _ _
    · cases hv⟩
end

end Go.Proofs.Ytnddkodenkmoiaa
