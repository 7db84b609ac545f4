/- A prober's tick: what lies where while it goes on. -/
import Derived.Test.YtaennccfhdjaaaaPr10
namespace Go.Proofs.Ytaennccfhdjaaaa
open Go.RowKit Go.Proofs
set_option linter.unusedSimpArgs false
set_option linter.unusedVariables false
theorem info3 : (Try.prog.info? 3).map (fun i => (i.zero, i.size, i.bytes)) = some (some (.int .i64 0), 1, 8) := by kernel_rfl
theorem own_blk {w : World} {base e size n g : Nat} {v : Value} {xs : List Value} (h : w.ownsRow base e size v n xs) (hg : v.ownBlock = some g) : ∃ cs, Blk w g e cs ∧ base ≤ g := by
  rcases h.2 with ⟨rfl, _⟩ | ⟨g', cap, cur, rfl, hb, hgg, _⟩
  · simp [Value.ownBlock] at hg
  · simp [Value.ownBlock] at hg
    subst hg
    exact ⟨cur, hgg, hb⟩
theorem own_ne {w : World} {base e size n base' e' size' n' g : Nat} {v v' : Value} {xs xs' : List Value} (h : w.ownsRow base e size v n xs) (h' : w.ownsRow base' e' size' v' n' xs') (hne : e ≠ e') (hg : v.ownBlock = some g) : v'.ownBlock ≠ some g := by
  intro hg'
  obtain ⟨c, hc, _⟩ := own_blk h hg
  obtain ⟨c', hc', _⟩ := own_blk h' hg'
  exact Blk.ne_ hc hc' hne rfl
theorem own_kept' {w w' : World} {base e size n : Nat} {v : Value} {xs : List Value} (h : w.ownsRow base e size v n xs) (hk : ∀ g, v.ownBlock = some g → w'.heap[g]? = w.heap[g]?) : w'.ownsRow base e size v n xs := by
  refine ⟨h.1, ?_⟩
  rcases h.2 with hn | ⟨g, cap, cur, rfl, hb, hgg, rest⟩
  · exact .inl hn
  · exact .inr ⟨g, cap, cur, rfl, hb, (hk g rfl).trans hgg, rest⟩
theorem own_hop {w w' : World} {base e size n p : Nat} {o o' : Option Nat} {v : Value} {xs : List Value} (h : w.ownsRow base e size v n xs) (hh : Hop p o o' w w') (hp : v.ownBlock ≠ some p) (ho : ∀ g, v.ownBlock = some g → some g ≠ o) : w'.ownsRow base e size v n xs :=
  own_kept' h fun g hg => by
    obtain ⟨c, hc, _⟩ := own_blk h hg
    exact hh.block g hc.lt (fun e => hp (by rw [hg, e])) (ho g hg)
theorem Hop.grow {p : Nat} {o o' r : Option Nat} {w wr w' : World} (h : Hop p o o' w wr) (hg : wr.grownBy w' r) (hr : ∀ k, k < w.heap.size → some k ≠ r) : Hop p o o' w w' :=
  ⟨hg.os.trans h.os, hg.tape.trans h.tape, hg.output.trans h.output, Nat.le_trans h.size hg.size, fun k hk hp ho => (hg.block k (Nat.lt_of_lt_of_le hk h.size) (hr k hk)).trans (h.block k hk hp ho), h.own⟩
/-- The memory in a tick's midst. -/
structure TickM (w wr : World) (base p g cap N me : Nat) (now : Int) (nx : Nat) (f : Nat → En) (m : Nat) (v6 v9 : Value) (out : List Int) (fw : Nat → En) (n : Nat) : Prop where
  pr : PAt wr base p (.slice (some ⟨g, 0, none⟩) m cap) N me now nx f m
  out : wr.ownsRow w.heap.size 3 1 v6 out.length (out.map (Value.int .i64))
  wait : wr.ownsRow w.heap.size 53 2 v9 n (flatE fw n)
  hop : Hop p (some g) (some g) w wr
  pl : p < w.heap.size
  gl : g < w.heap.size
section
variable {w wr w' : World} {base p g cap N me : Nat} {now : Int} {nx : Nat} {f f' : Nat → En} {m m' : Nat} {v6 v9 : Value} {out : List Int} {fw : Nat → En} {n : Nat}
theorem TickM.no6 (h : TickM w wr base p g cap N me now nx f m v6 v9 out fw n) {k : Nat} (hk : k < w.heap.size) : v6.ownBlock ≠ some k := fun e => by
  obtain ⟨_, _, hb⟩ := own_blk h.out e
  omega
theorem TickM.no9 (h : TickM w wr base p g cap N me now nx f m v6 v9 out fw n) {k : Nat} (hk : k < w.heap.size) : v9.ownBlock ≠ some k := fun e => by
  obtain ⟨_, _, hb⟩ := own_blk h.wait e
  omega
theorem TickM.popped (h : TickM w wr base p g cap N me now nx f m v6 v9 out fw n) {nx' : Nat} {cap' : Nat} (hA : PAt w' base p (.slice (some ⟨g, 0, none⟩) m' cap') N me now nx' f' m') (hH : Hop p (some g) (some g) wr w') :
    TickM w w' base p g cap' N me now nx' f' m' v6 v9 out fw n :=
  ⟨hA, own_hop h.out hH (h.no6 h.pl) (fun k hk e => h.no6 h.gl (hk.trans e)), own_hop h.wait hH (h.no9 h.pl) (fun k hk e => h.no9 h.gl (hk.trans e)), h.hop.trans hH, h.pl, h.gl⟩
theorem TickM.below (h : TickM w wr base p g cap N me now nx f m v6 v9 out fw n) (hb : Below wr.heap.size wr w') : TickM w w' base p g cap N me now nx f m v6 v9 out fw n :=
  h.popped (h.pr.below hb) (.of_below hb)
theorem TickM.grow6 (h : TickM w wr base p g cap N me now nx f m v6 v9 out fw n) {v6' : Value} {out' : List Int} (ho : w'.ownsRow w.heap.size 3 1 v6' out'.length (out'.map (Value.int .i64))) (hg : wr.grownBy w' v6.ownBlock) :
    TickM w w' base p g cap N me now nx f m v6' v9 out' fw n :=
  ⟨⟨h.pr.blk.grown hg (fun e => h.no6 h.pl e.symm), own_kept' h.pr.own fun k hk => by
      simp [Value.ownBlock] at hk
      subst hk
      exact hg.block g (Nat.lt_of_lt_of_le h.gl h.hop.size) (fun e => h.no6 h.gl e.symm)⟩, ho,
   own_kept' h.wait fun k hk => by
      obtain ⟨c, hc, _⟩ := own_blk h.wait hk
      exact hg.block k hc.lt (fun e => own_ne h.wait h.out (by decide) hk e.symm),
   h.hop.grow hg fun k hk e => h.no6 hk e.symm, h.pl, h.gl⟩
theorem TickM.grow9 (h : TickM w wr base p g cap N me now nx f m v6 v9 out fw n) {v9' : Value} {fw' : Nat → En} {n' : Nat} (ho : w'.ownsRow w.heap.size 53 2 v9' n' (flatE fw' n')) (hg : wr.grownBy w' v9.ownBlock) :
    TickM w w' base p g cap N me now nx f m v6 v9' out fw' n' :=
  ⟨⟨h.pr.blk.grown hg (fun e => h.no9 h.pl e.symm), own_kept' h.pr.own fun k hk => by
      simp [Value.ownBlock] at hk
      subst hk
      exact hg.block g (Nat.lt_of_lt_of_le h.gl h.hop.size) (fun e => h.no9 h.gl e.symm)⟩,
   own_kept' h.out fun k hk => by
      obtain ⟨c, hc, _⟩ := own_blk h.out hk
      exact hg.block k hc.lt (fun e => own_ne h.out h.wait (by decide) hk e.symm),
   ho, h.hop.grow hg fun k hk e => h.no9 hk e.symm, h.pl, h.gl⟩
theorem TickM.box (h : TickM w wr base p g cap N me now nx f m v6 v9 out fw n) {b : Nat} {cs : Array Value} (hb : Blk wr b 53 cs) (hw : w.heap.size ≤ b) (h9 : v9.ownBlock ≠ some b) (i : Nat) (u : Value) :
    TickM w (wr.setCell ⟨b, i, none⟩ u) base p g cap N me now nx f m v6 v9 out fw n := by
  have hg := grown_cell wr b i u
  have hpb : p ≠ b := by have := h.pl; omega
  have hgb : g ≠ b := by have := h.gl; omega
  exact ⟨⟨h.pr.blk.grown hg (fun e => hpb (Option.some.inj e)), own_kept' h.pr.own fun k hk => by
      simp [Value.ownBlock] at hk
      subst hk
      exact hg.block g (Nat.lt_of_lt_of_le h.gl h.hop.size) (fun e => hgb (Option.some.inj e))⟩,
   own_kept' h.out fun k hk => by
      obtain ⟨c, hc, _⟩ := own_blk h.out hk
      exact hg.block k hc.lt (fun e => Blk.ne_ hc hb (by decide) (Option.some.inj e)),
   own_kept' h.wait fun k hk => by
      obtain ⟨c, hc, _⟩ := own_blk h.wait hk
      exact hg.block k hc.lt (fun e => h9 (by rw [hk]; exact e)),
   h.hop.grow hg fun k hk e => by have := Option.some.inj e; omega, h.pl, h.gl⟩
end
end Go.Proofs.Ytaennccfhdjaaaa
