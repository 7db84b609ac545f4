/- A prober's tick. -/
import Derived.Test.YtaennccfhdjaaaaPr11
namespace Go.Proofs.Ytaennccfhdjaaaa
open Go.RowKit Go.Proofs
set_option linter.unusedSimpArgs false
set_option linter.unusedVariables false
theorem tick_nil (b : Bool) (w : World) : Calls Try.prog 11 #[.pointer none, .bool b] w fun e w' => e = .returned (.tuple #[.slice none 0 0, .int .i64 (-1)]) ∧ w = w' := by
  go_enter Try.func11, Try.ntmps11
  go_wp2_with fail
  go_ret2
  exact ⟨rfl, rfl⟩
/-- Does a read go with that tick? -/
def readsT (D : Int → Int) (now : Int) (busy : Bool) : Bool := decide (D (-1) ≤ now) && !busy
/-- What a tick leaves; now is its number. -/
def TickP (base p g N me : Nat) (now : Int) (nx : Nat) (D : Int → Int) (busy : Bool) (w : World) (e : Ending) (w' : World) : Prop :=
  ∃ (v6 : Value) (out : List Int) (g' : Nat), e = .returned (.tuple #[v6, .int .i64 (if readsT D now busy = true then (nx : Int) else -1)]) ∧
    w'.ownsRow w.heap.size 3 1 v6 out.length (out.map (Value.int .i64)) ∧ (∀ s, s ∈ out ↔ ((0 ≤ s ∧ s < (N : Int) ∧ s ≠ (me : Int)) ∧ D s ≤ now)) ∧
    (∀ k s, out[k]? = some s → FirstIs N me D now (out.take k) s) ∧ (∀ s, ¬ FirstIs N me D now out s) ∧
    ProbAt w' base p g' N me now ((if readsT D now busy = true then stepN N me nx else nx : Nat) : Int) (dueT D now busy) ∧ Hop p (some g) (some g') w w' ∧ out.length ≤ N
def lenV : Value → Nat
  | .slice _ n _ => n
  | _ => 0
theorem own_lenV {w : World} {base e size n : Nat} {v : Value} {xs : List Value} (h : w.ownsRow base e size v n xs) : lenV v = n := by
  rcases h.2 with ⟨rfl, rfl⟩ | ⟨g, cap, _, rfl, _⟩ <;> rfl
theorem own_slice {w : World} {base e size n : Nat} {v : Value} {xs : List Value} (h : w.ownsRow base e size v n xs) : ∃ a c, v = .slice a n c := by
  rcases h.2 with ⟨rfl, rfl⟩ | ⟨g, cap, _, rfl, _⟩
  · exact ⟨none, 0, rfl⟩
  · exact ⟨_, cap, rfl⟩
theorem own_slice_some {w : World} {base e size n c : Nat} {a : Option Addr} {xs : List Value} (h : w.ownsRow base e size (.slice a n c) n xs) (hn : 0 < n) : ∃ q, a = some ⟨q, 0, none⟩ := by
  obtain ⟨g, cap, e⟩ := own_some h hn
  injection e with e
  exact ⟨g, e⟩
/-- The tick's first loop: m are left in the heap. -/
def TickI (w wr : World) (base p g N me : Nat) (now : Int) (nx0 : Nat) (D : Int → Int) (busy : Bool) (v6 v7 v9 : Value) (m : Nat) : Prop :=
  ∃ (cap : Nat) (f : Nat → En) (out P : List Int) (fw : Nat → En) (nx n : Nat) (r : Int), P.length = n ∧ out.length ≤ n ∧ TickM w wr base p g cap N me now nx f m v6 v9 out fw n ∧ PopI N me D now f m P out ∧
    (∀ k, k < n → (backT D now busy P)[k]? = some (fw k)) ∧ v7 = .int .i64 r ∧ r = (if (-1) ∈ P ∧ busy = false then (nx0 : Int) else -1) ∧ nx = (if (-1) ∈ P ∧ busy = false then stepN N me nx0 else nx0)
theorem back_push {D : Int → Int} {now : Int} {busy : Bool} {P : List Int} {n : Nat} {fw : Nat → En} (hn : P.length = n) (h : ∀ k, k < n → (backT D now busy P)[k]? = some (fw k)) (s d : Int) (hd : d = if 0 ≤ s then now + 4 else if busy then D s else now + 7) :
    ∀ k, k < n + 1 → (backT D now busy (P ++ [s]))[k]? = some (putE fw n (d, s) k) := by
  intro k hk
  unfold backT at h ⊢
  rw [List.map_append]
  by_cases e : k = n
  · subst e
    rw [putE_same, List.getElem?_append_right (by simp [hn])]
    simp [hn, hd]
  · rw [putE_else fw _ e, List.getElem?_append_left (by simp; omega)]
    exact h k (by omega)
/-- The second loop. -/
structure BackM (w wr : World) (base p g g' cap N me : Nat) (now : Int) (nx : Nat) (f : Nat → En) (m : Nat) (v6 v9 : Value) (out : List Int) (fw : Nat → En) (n : Nat) : Prop where
  pr : PAt wr base p (.slice (some ⟨g', 0, none⟩) m cap) N me now nx f m
  out : wr.ownsRow w.heap.size 3 1 v6 out.length (out.map (Value.int .i64))
  wait : wr.ownsRow w.heap.size 53 2 v9 n (flatE fw n)
  hop : Hop p (some g) (some g') w wr
  pl : p < w.heap.size
  ne9 : v9.ownBlock ≠ some g'
section
variable {w wr w' : World} {base p g g' g'' cap N me : Nat} {now : Int} {nx : Nat} {f f' : Nat → En} {m m' : Nat} {v6 v9 : Value} {out : List Int} {fw : Nat → En} {n : Nat}
theorem TickM.back (h : TickM w wr base p g cap N me now nx f m v6 v9 out fw n) : BackM w wr base p g g cap N me now nx f m v6 v9 out fw n := ⟨h.pr, h.out, h.wait, h.hop, h.pl, h.no9 h.gl⟩
theorem BackM.pushed (h : BackM w wr base p g g' cap N me now nx f m v6 v9 out fw n) {cap' : Nat} (hA : PAt w' base p (.slice (some ⟨g'', 0, none⟩) m' cap') N me now nx f' m') (hH : Hop p (some g') (some g'') wr w') :
    BackM w w' base p g g'' cap' N me now nx f' m' v6 v9 out fw n := by
  have n6 : v6.ownBlock ≠ some p := fun e => by
    obtain ⟨_, _, hb⟩ := own_blk h.out e
    have := h.pl
    omega
  have n9 : v9.ownBlock ≠ some p := fun e => by
    obtain ⟨_, _, hb⟩ := own_blk h.wait e
    have := h.pl
    omega
  refine ⟨hA, own_hop h.out hH n6 (fun k hk e => ?_), own_hop h.wait hH n9 (fun k hk e => h.ne9 (hk.trans e)), h.hop.trans hH, h.pl, fun e => ?_⟩
  · have := own_ne h.out h.pr.own (by decide) hk
    exact this e.symm
  · rcases hH.own with e' | ⟨q, e', hq⟩
    · exact h.ne9 (e.trans e')
    · obtain ⟨c, hc, _⟩ := own_blk h.wait e
      have := hc.lt
      have := Option.some.inj e'
      omega
theorem BackM.below (h : BackM w wr base p g g' cap N me now nx f m v6 v9 out fw n) (hb : Below wr.heap.size wr w') : BackM w w' base p g g' cap N me now nx f m v6 v9 out fw n :=
  h.pushed (h.pr.below hb) (.of_below hb)
end
theorem new_two (w : World) (a b : Int) : ∀ j u, [Value.int .i64 a, Value.int .i64 b][j]? = some u → (w.alloc (.cells #[.int .i64 a, .int .i64 b] 53)).cell? ((⟨w.heap.size, 0, none⟩ : Addr).add j) = some u := by
  intro j u hu
  have hj := (Blk.new w 53 #[.int .i64 a, .int .i64 b]).cell j
  have e : (⟨w.heap.size, 0, none⟩ : Addr).add j = ⟨w.heap.size, j, none⟩ := by unfold Addr.add; split <;> simp_all
  rw [e, hj]
  simpa using hu
theorem tickP_of {w wr : World} {base p g g' cap N me : Nat} {now : Int} {nx nx0 : Nat} {f f0 : Nat → En} {m k : Nat} {v6 v9 : Value} {out P : List Int} {fw : Nat → En} {D : Int → Int} {busy : Bool} {r : Int}
    (hM : BackM w wr base p g g' cap N me now nx f (m + k) v6 v9 out fw k) (hB : BackI N me D now busy f (m + k) P k) (hI : PopI N me D now f0 m P out) (hd : 0 < m → now < (f0 0).1) (hn : P.length = k) (hol : out.length ≤ k) (hN : m + k = N)
    (hr : r = (if (-1) ∈ P ∧ busy = false then (nx0 : Int) else -1)) (hx : nx = (if (-1) ∈ P ∧ busy = false then stepN N me nx0 else nx0)) (h3 : 2 ≤ N ∧ N ≤ 8 ∧ me < N) :
    TickP base p g N me now nx0 D busy w (.returned (.tuple #[v6, .int .i64 r])) wr := by
  have hm1 : (-1) ∈ P ↔ D (-1) ≤ now := hI.done hd (-1) (.inl rfl)
  have hrd : ((-1) ∈ P ∧ busy = false) ↔ readsT D now busy = true := by
    unfold readsT
    rw [hm1]
    simp
  simp only [hrd] at hr hx
  subst hr hx hN hn
  refine ⟨v6, out, g', rfl, hM.out, fun s => ?_, hI.sorted, hI.none_ hd, ⟨⟨cap, f, hM.pr, BackI.done (P := P) (f := f) (m := m + P.length) hB (fun s hw => hI.done hd s hw) (fun s hs => (hI.popped s hs).1)⟩, h3.1, h3.2.1, h3.2.2⟩, hM.hop, ?_⟩
  · rw [hI.outs]
    constructor
    · rintro ⟨hs, h0⟩
      have := hI.popped s hs
      refine ⟨?_, this.2⟩
      rcases this.1 with e | e
      · omega
      · exact e
    · rintro ⟨hs, hd'⟩
      exact ⟨(hI.done hd s (.inr hs)).2 hd', hs.1⟩
  · omega
set_option maxRecDepth 100000 in
set_option maxHeartbeats 8000000 in
theorem tick_any (base p g N me : Nat) (now now1 : Int) (hn1 : now1 = now + 1) (nx0 : Nat) (D : Int → Int) (busy : Bool) (w : World) (hA : ProbAt w base p g N me now nx0 D) (h0 : 0 ≤ now) (h1 : now ≤ 1000000) (hnx0 : nx0 < N) (hbase : base ≤ w.heap.size) :
    Calls Try.prog 11 #[.pointer (some ⟨p, 0, none⟩), .bool busy] w fun e w' => TickP base p g N me now1 nx0 D busy w e w' := by
  obtain ⟨cap, f, hP, hC⟩ := hA.here
  obtain ⟨i0, hi, hz0, hz1, hz2⟩ := info_parts info53
  have HI := Lib.hid hi
  obtain ⟨i3, hi3, hy0, hy1, hy2⟩ := info_parts info3
  have HI3 := Lib.hid hi3
  have HE := Lib.hid (⟨hA.two, hA.eight, hA.lt⟩ : 2 ≤ N ∧ N ≤ 8 ∧ me < N)
  have HTW := HE
  have HNX0 := Lib.hid hnx0
  have HBASE := Lib.hid hbase
  have c2 : w.cell? ⟨p, 2, none⟩ = some (.int .i64 now) := hP.blk.cell 2
  have hfz := hP.blk.frozen 2
  have hpl := hP.blk.lt
  have hq1 : now + 1 = now1 := hn1.symm
  have hb0 : 0 ≤ now1 := by omega
  have hb1 : now1 ≤ 1000001 := by omega
  have hst : TickM w (w.setCell ⟨p, 2, none⟩ (.int .i64 now1)) base p g cap N me now1 nx0 f N (.slice none 0 0) (.slice none 0 0) [] f 0 :=
    ⟨hP.put2 now1, World.ownsRow_nil _ _ _ _, World.ownsRow_nil _ _ _ _, .cell w 2 _, hpl, (by obtain ⟨_, hc, _⟩ := own_blk hP.own (g := g) rfl; exact hc.lt)⟩
  have HST := Lib.hid hst
  have HC := Lib.hid hC
  clear hi hi3 hA hP hC hst hnx0 hbase hn1
  go_enter Try.func11, Try.ntmps11
  go_wp2_with fail
  clear hq1 c2 hfz hpl h0 h1
  go_loopw [6, 7, 9, 10, 11] (fun v6 v7 v9 _ _ wr => ∃ m : Nat, m ≤ N ∧ TickI w wr base p g N me now1 nx0 D busy v6 v7 v9 m) (fun _ _ v9 _ _ _ => N - lenV v9)
  case atStart => exact ⟨N, Nat.le_refl _, cap, f, [], [], f, nx0, 0, -1, rfl, Nat.le_refl _, HST.out, .start HC.out rfl, fun k hk => by omega, rfl, by simp, by simp⟩
  case round =>
    obtain ⟨m, hmN, cap, f, out, P, fw, nx, n, r, hpl, hol, hM, hPI, hBK, rfl, hr, hnx⟩ := hrel
    have c0 := hM.pr.sl
    have HPL := Lib.hid hpl
    have HM := Lib.hid hM
    have HPI := Lib.hid hPI
    have HBK := Lib.hid hBK
    have HR := Lib.hid hr
    have HNX := Lib.hid hnx
    have HMN := Lib.hid (show m + n = N by have := hPI.count; omega)
    have HON := Lib.hid hol
    have HOL := Lib.hid (show out.length ≤ 100 by have := hPI.count; have := HE.out.2.1; omega)
    have c2 : wr.cell? ⟨p, 2, none⟩ = some (.int .i64 now1) := hM.pr.blk.cell 2
    clear hpl hol hM hPI hBK hr hnx hmN HST HC
    have c4 := c0
    by_cases hm0 : m = 0
    · have g1 : decide (0 < m) = false := by rw [hm0]; rfl
      go_upto_region 8 with (fail)
      go_quiet (fail)
      rename_i nq
      have HMB := Lib.hid ((HM.out.below ((Below.refl _ _).drewN nq)).back)
      have HDN := Lib.hid (show 0 < m → now1 < (f 0).1 from fun h => absurd hm0 (by omega))
      clear c0 c2 c4 g1
      generalize wr.drewN nq = w2 at HMB ⊢
      have hN8 := HE.out.2.1
      have hmN := HMN.out
      obtain ⟨a9, c9, rfl⟩ := own_slice HMB.out.wait
      go_wp2_with fail
      go_loopw [13, 88] (fun _ v88 wq => ∃ (k g' cap' : Nat) (f' : Nat → En), v88 = .int .i64 (k : Int) ∧ k ≤ n ∧ BackM w wq base p g g' cap' N me now1 nx f' (m + k) u6 (.slice a9 n c9) out fw n ∧ BackI N me D now1 busy f' (m + k) P k) (fun _ v88 _ => n - (intOf v88).toNat)
      case atStart => exact ⟨0, g, cap, f, rfl, by omega, HMB.out, HPI.out.back busy⟩
      case round =>
        obtain ⟨k, g2, cap2, f2, rfl, hk, hM2, hB2⟩ := hrel
        have HM2 := Lib.hid hM2
        have HB2 := Lib.hid hB2
        clear hM2 hB2
        by_cases hlt : (k : Int) < (n : Int)
        · obtain ⟨q, rfl⟩ := own_slice_some HM2.out.wait (by omega)
          obtain ⟨w1, w2'⟩ := owns_cells HM2.out.wait (k := k) (by omega)
          have HX := Lib.hid (HBK.out k (by omega))
          generalize hxk : fw k = x at w1 w2' HX
          obtain ⟨x1, x2⟩ := x
          simp only at w1 w2'
          go_upto_region 21 with (fail)
          clear w1 w2'
          have HM3 := Lib.hid (HM2.out.below ((Below.refl _ _).alloc (Nat.le_refl _) (Obj.cells #[Value.int IntKind.i64 x1, Value.int IntKind.i64 x2] 53)))
          have hbx := Blk.new wr 53 #[Value.int IntKind.i64 x1, Value.int IntKind.i64 x2]
          generalize wr.alloc (Obj.cells #[Value.int IntKind.i64 x1, Value.int IntKind.i64 x2] 53) = w4 at HM3 hbx ⊢
          generalize wr.heap.size = b at hbx ⊢
          have q0 : ∀ w', w4.drew = w' → w'.cell? ⟨b, 0, none⟩ = some (.int .i64 x1) := fun w' h => h ▸ hbx.cell 0
          have q1 : ∀ w', w4.drew = w' → w'.cell? ⟨b, 1, none⟩ = some (.int .i64 x2) := fun w' h => h ▸ hbx.cell 1
          clear hbx
          refine wp_region_pure (fun a b => a = b) (fun _ => rfl) (fun _ _ _ h h' => h.trans h') [(0,3),(1,3),(2,3),(3,3),(4,0),(5,3),(6,2)] (by kernel_rfl) (by kernel_rfl) ?_
          iterate 4 (refine pure_pure (v := ?_) rfl (fun _ _ _ h => h) (by rfl) (fun w' => ?_) ?_; rotate_left; (go_simp; try with_reducible rfl); simp only [Act.put, List.setIfInBounds_toArray, List.set_cons_zero, List.set_cons_succ])
          iterate 1 (refine pure_quiet (v := ?_) rfl (fun _ _ _ h => h) (by rfl) (fun w' hR => ?_) ?_; rotate_left; (go_simp; try with_reducible rfl); simp only [Act.put, List.setIfInBounds_toArray, List.set_cons_zero, List.set_cons_succ])
          iterate 1 (refine pure_pure (v := ?_) rfl (fun _ _ _ h => h) (by rfl) (fun w' => ?_) ?_; rotate_left; (go_simp; try with_reducible rfl); simp only [Act.put, List.setIfInBounds_toArray, List.set_cons_zero, List.set_cons_succ])
          clear q0 q1
          refine pure_eff2 rfl ?_
          go_wp2_with fail
          refine (heapPush_any base p (.slice (some ⟨g2, 0, none⟩) (m + k) cap2) N me now1 nx f2 (m + k) (x1, x2) w4.drew HM3.out.pr.drew (by have := HMN.out; omega) (Nat.le_trans HBASE.out (Nat.le_trans HM3.out.hop.size (Nat.le_refl _))) HB2.out.heap).mono ?_
          rintro e w5 ⟨rfl, g3, cap3, f3, hf, hs, hA, hO⟩
          have HM5 := Lib.hid ((HM3.out.below ((Below.refl _ _).drewN 1)).pushed hA hO)
          have HB5 := Lib.hid (HB2.out.step HPI.out.nodup HX.out hs hf)
          clear hf hs hA hO
          go_wp2_with fail
          refine purePost_free ?_
          refine pure_done ?_
          go_wp2_with fail
          go_roundw
          case rel => exact ⟨k + 1, g3, cap3, f3, by go_num, by omega, HM5.out, HB5.out⟩
          case measure => simp [intOf]; omega
        · obtain rfl : k = n := by omega
          go_wp2_with fail
          go_ret2
          have hN : m + k = N := by have := HMN.out; omega
          refine tickP_of HM2.out HB2.out HPI.out HDN.out HPL.out HON.out hN HR.out HNX.out HTW.out
    · have hmp : 0 < (m : Int) := by omega
      have g1 : decide (0 < m) = true := decide_eq_true (by omega)
      obtain ⟨e1, e2⟩ := owns_cells HM.out.pr.own (k := 0) (by omega)
      generalize hx0 : f 0 = x0 at e1 e2
      have HX0 := Lib.hid hx0
      clear hx0 e2
      obtain ⟨x1, x2⟩ := x0
      have c0 : wr.cell? ⟨g, 0, none⟩ = some (.int .i64 x1) := e1
      clear e1
      by_cases hdue : x1 ≤ now1
      · have g2 : decide (x1 ≤ now1) = true := decide_eq_true hdue
        have HD0 := Lib.hid hdue
        go_upto_region 8 with (fail)
        go_quiet (fail)
        obtain ⟨m', hm'⟩ : ∃ m', m = m' + 1 := ⟨m - 1, by omega⟩
        have HM' := Lib.hid hm'
        have hmN := HMN.out
        have hN8 := HE.out.2.1
        have HPI' := Lib.hid (hm' ▸ HPI.out)
        rename_i nq
        have HMD := Lib.hid (HM.out.below ((Below.refl _ _).drewN nq))
        clear c0 c2 c4 g1 g2 hm'
        generalize wr.drewN nq = w1 at HMD ⊢
        go_wp2_with fail
        refine (heapPop_any base p g cap N me now1 nx f m' m HM'.out (by have := HM'.out; omega) w1 HMD.out.pr HPI.out.heap.heap).mono ?_
        rintro e w2 ⟨rfl, f2, hf, hs, hA, hO⟩
        have HM2 := Lib.hid (HMD.out.popped hA hO)
        have HF := Lib.hid hf
        have HS := Lib.hid hs
        have hw := HPI'.out.who
        rw [HX0.out] at hw ⊢
        have HW := Lib.hid hw
        have hta := assert53 (.agg #[.int .i64 x1, .int .i64 x2]) w2
        clear hf hs hA hO hw
        have HMB := Lib.hid (HM2.out.below ((Below.refl _ _).alloc (Nat.le_refl _) (Obj.cells #[Value.int IntKind.i64 x1, Value.int IntKind.i64 x2] 53)))
        have HBX := Lib.hid (Blk.new w2 53 #[Value.int IntKind.i64 x1, Value.int IntKind.i64 x2])
        have HBW := Lib.hid (show w.heap.size ≤ w2.heap.size from HM2.out.hop.size)
        have HB9 := Lib.hid (show u9.ownBlock ≠ some w2.heap.size from fun e => by
          obtain ⟨c, hc, _⟩ := own_blk HM2.out.wait e
          have := hc.lt
          omega)
        by_cases hs0 : 0 ≤ x2
        · as_aux_lemma =>
            have hs1 : ¬ x2 < 0 := by omega
            go_upto_region 12 with (fail)
            clear hta
            generalize w2.alloc (Obj.cells #[Value.int IntKind.i64 x1, Value.int IntKind.i64 x2] 53) = w3 at HMB HBX ⊢
            generalize w2.heap.size = b at HBX HBW HB9 ⊢
            have b1 := HBX.out.cell 1
            go_wp2_with (at_builtin; refine wpList_append_own _ rfl (.tmp 60) (.tmp 63) 31 rfl w.heap.size 3 i3 (.int .i64 0) 1 8 Try.underlying31 HI3.out hy0 hy1 hy2 rfl (by decide) u6 out.length (out.map (Value.int .i64)) rfl (HMB.out.out.alloc _) ⟨w3.heap.size, 0, none⟩ 1 1 [.int .i64 x2] rfl rfl (cell_one_new _ _ _) (by simp [Value.oneCell']) (by unfold maxLen; have := HOL.out; omega) (by have := HOL.out; omega) (by have := HMB.out.hop.size; simp; omega) ?_)
            intro v6' w5 ho hg _
            have ho' : w5.ownsRow w.heap.size 3 1 v6' (out ++ [x2]).length ((out ++ [x2]).map (Value.int .i64)) := by simpa using ho
            have HM5 := Lib.hid ((HMB.out.below ((Below.refl _ _).alloc (Nat.le_refl _) (Obj.cells #[Value.int IntKind.i64 x2] 3))).grow6 ho' hg)
            have HBX := Lib.hid ((HBX.out.alloc (Obj.cells #[Value.int IntKind.i64 x2] 3)).grown hg (fun e => by
              obtain ⟨c, hc, _⟩ := own_blk HMB.out.out e.symm
              exact Blk.ne_ hc HBX.out (by decide) rfl))
            clear ho ho' hg b1
            have c2 : w5.cell? ⟨p, 2, none⟩ = some (.int .i64 now1) := HM5.out.pr.blk.cell 2
            have b0 := HBX.out.cell 0
            have bf := HBX.out.frozen 0
            have bl := HBX.out.lt
            go_upto_region 17 with (fail)
            have HM6 := Lib.hid (HM5.out.box HBX.out HBW.out HB9.out 0 (.int .i64 (now1 + 4)))
            have HBX := Lib.hid (HBX.out.set_ 0 (.int .i64 (now1 + 4)))
            clear c2 b0 bf bl
            generalize w5.setCell ⟨b, 0, none⟩ (.int .i64 (now1 + 4)) = w6 at HM6 HBX ⊢
            have d0 := HBX.out.cell 0
            have d1 := HBX.out.cell 1
            have HLW := Lib.hid (show base ≤ base from Nat.le_refl _)
            go_wp2_with (at_builtin; refine wpList_append_own _ rfl (.tmp 82) (.tmp 84) 46 rfl w.heap.size 53 i0 (.agg #[.int .i64 0, .int .i64 0]) 2 16 Try.underlying46 HI.out hz0 hz1 hz2 rfl (by decide) u9 n (flatE fw n) rfl (HM6.out.wait.alloc _) ⟨w6.heap.size, 0, none⟩ 1 1 [.int .i64 (now1 + 4), .int .i64 x2] rfl rfl (new_two _ _ _) (by simp [Value.oneCell']) (by unfold maxLen; have := HMN.out; omega) (by have := HMN.out; omega) (by have := HM6.out.hop.size; simp; omega) ?_)
            intro v9' w7 ho hg _
            rw [flatE_push fw n (now1 + 4, x2)] at ho
            have HM7 := Lib.hid ((HM6.out.below ((Below.refl _ _).alloc (Nat.le_refl _) (Obj.cells #[Value.int IntKind.i64 (now1 + 4), Value.int IntKind.i64 x2] 53))).grow9 ho hg)
            have HBK7 := Lib.hid (back_push HPL.out HBK.out x2 (now1 + 4) (by rw [if_pos (by omega)]))
            have HLV := Lib.hid (own_lenV ho)
            clear ho hg d0 d1
            go_wp2_with fail
            go_roundw
            case rel =>
              refine ⟨m', by have := HM'.out; omega, cap, f2, out ++ [x2], P ++ [x2], _, nx, n + 1, r, by simp [HPL.out], (by have := HON.out; first | omega | (simp; omega)), HM7.out, ?_, HBK7.out, rfl, ?_, ?_⟩
              · have := HPI'.out.client (by rw [HX0.out]; exact HD0.out) (by rw [HX0.out]; omega) HS.out HF.out
                rw [HX0.out] at this
                exact this
              · rw [HR.out]; simp only [List.mem_append, List.mem_singleton, show ¬ ((-1 : Int) = x2) by omega, or_false]
              · rw [HNX.out]; simp only [List.mem_append, List.mem_singleton, show ¬ ((-1 : Int) = x2) by omega, or_false]
            case measure =>
              have h9 := own_lenV HM.out.wait
              have h7 := HLV.out
              have hm7 := HM'.out
              show N - lenV v9' < N - lenV u9
              rw [h7, h9]
              omega
        · cases busy with
          | false =>
            as_aux_lemma =>
              have HX2 := Lib.hid (show x2 = -1 by rcases HW.out.1 with e | e <;> omega)
              have HNP := Lib.hid HW.out.2.2
              go_upto_region 15 with (fail)
              clear hta
              generalize w2.alloc (Obj.cells #[Value.int IntKind.i64 x1, Value.int IntKind.i64 x2] 53) = w3 at HMB HBX ⊢
              generalize w2.heap.size = b at HBX HBW HB9 ⊢
              have hnx : nx = nx0 := by rw [HNX.out, if_neg (fun h => HNP.out (HX2.out.symm ▸ h.1))]
              have HNE := Lib.hid hnx
              go_wp2_with fail
              refine (turn_any base p _ N me nx now1 f2 m' w3 HMB.out.pr HE.out.1 HE.out.2.1 HE.out.2.2 (by have := HNX0.out; omega)).mono ?_
              rintro e w5 ⟨rfl, hA, hO⟩
              have HM5 := Lib.hid (HMB.out.popped hA hO)
              have HBX := Lib.hid (show Blk w5 b 53 _ from (hO.block b HBX.out.lt (by have := HMB.out.pl; have := HBW.out; omega) (fun e => by
                have h : b = g := Option.some.inj e
                have := HMB.out.gl
                have := HBW.out
                omega)).trans HBX.out)
              clear hA hO hnx
              have c2 : w5.cell? ⟨p, 2, none⟩ = some (.int .i64 now1) := HM5.out.pr.blk.cell 2
              have b0 := HBX.out.cell 0
              have bf := HBX.out.frozen 0
              have bl := HBX.out.lt
              go_upto_region 17 with (fail)
              have HM6 := Lib.hid (HM5.out.box HBX.out HBW.out HB9.out 0 (.int .i64 (now1 + 7)))
              have HBX := Lib.hid (HBX.out.set_ 0 (.int .i64 (now1 + 7)))
              clear c2 b0 bf bl
              generalize w5.setCell ⟨b, 0, none⟩ (.int .i64 (now1 + 7)) = w6 at HM6 HBX ⊢
              have d0 := HBX.out.cell 0
              have d1 := HBX.out.cell 1
              have HLW := Lib.hid (show base ≤ base from Nat.le_refl _)
              go_wp2_with (at_builtin; refine wpList_append_own _ rfl (.tmp 82) (.tmp 84) 46 rfl w.heap.size 53 i0 (.agg #[.int .i64 0, .int .i64 0]) 2 16 Try.underlying46 HI.out hz0 hz1 hz2 rfl (by decide) u9 n (flatE fw n) rfl (HM6.out.wait.alloc _) ⟨w6.heap.size, 0, none⟩ 1 1 [.int .i64 (now1 + 7), .int .i64 x2] rfl rfl (new_two _ _ _) (by simp [Value.oneCell']) (by unfold maxLen; have := HMN.out; omega) (by have := HMN.out; omega) (by have := HM6.out.hop.size; simp; omega) ?_)
              intro v9' w7 ho hg _
              rw [flatE_push fw n (now1 + 7, x2)] at ho
              have HM7 := Lib.hid ((HM6.out.below ((Below.refl _ _).alloc (Nat.le_refl _) (Obj.cells #[Value.int IntKind.i64 (now1 + 7), Value.int IntKind.i64 x2] 53))).grow9 ho hg)
              have HBK7 := Lib.hid (back_push HPL.out HBK.out x2 (now1 + 7) (by rw [if_neg (by omega)]; simp))
              have HLV := Lib.hid (own_lenV ho)
              clear ho hg d0 d1
              go_wp2_with fail
              go_roundw
              case rel =>
                refine ⟨m', by have := HM'.out; omega, cap, f2, out, P ++ [x2], _, stepN N me nx, n + 1, nx, by simp [HPL.out], (by have := HON.out; first | omega | (simp; omega)), HM7.out, ?_, HBK7.out, rfl, ?_, ?_⟩
                · have := (HPI'.out.read (by rw [HX0.out]; exact HD0.out) (by rw [HX0.out]; omega) HS.out HF.out).2
                  rw [HX0.out] at this
                  exact this
                · rw [HNE.out, if_pos ⟨by simp [HX2.out], rfl⟩]
                · rw [HNE.out, if_pos ⟨by simp [HX2.out], rfl⟩]
              case measure =>
                have h9 := own_lenV HM.out.wait
                have h7 := HLV.out
                have hm7 := HM'.out
                show N - lenV v9' < N - lenV u9
                rw [h7, h9]
                omega
          | true =>
            as_aux_lemma =>
              have HX2 := Lib.hid (show x2 = -1 by rcases HW.out.1 with e | e <;> omega)
              go_upto_region 17 with (fail)
              clear hta
              generalize w2.alloc (Obj.cells #[Value.int IntKind.i64 x1, Value.int IntKind.i64 x2] 53) = w3 at HMB HBX ⊢
              generalize w2.heap.size = b at HBX HBW HB9 ⊢
              have HM6 := HMB
              clear HMB
              generalize w3 = w6 at HM6 HBX ⊢
              have d0 := HBX.out.cell 0
              have d1 := HBX.out.cell 1
              have HLW := Lib.hid (show base ≤ base from Nat.le_refl _)
              go_wp2_with (at_builtin; refine wpList_append_own _ rfl (.tmp 82) (.tmp 84) 46 rfl w.heap.size 53 i0 (.agg #[.int .i64 0, .int .i64 0]) 2 16 Try.underlying46 HI.out hz0 hz1 hz2 rfl (by decide) u9 n (flatE fw n) rfl (HM6.out.wait.alloc _) ⟨w6.heap.size, 0, none⟩ 1 1 [.int .i64 (x1), .int .i64 x2] rfl rfl (new_two _ _ _) (by simp [Value.oneCell']) (by unfold maxLen; have := HMN.out; omega) (by have := HMN.out; omega) (by have := HM6.out.hop.size; simp; omega) ?_)
              intro v9' w7 ho hg _
              rw [flatE_push fw n (x1, x2)] at ho
              have HM7 := Lib.hid ((HM6.out.below ((Below.refl _ _).alloc (Nat.le_refl _) (Obj.cells #[Value.int IntKind.i64 (x1), Value.int IntKind.i64 x2] 53))).grow9 ho hg)
              have HBK7 := Lib.hid (back_push HPL.out HBK.out x2 (x1) (by rw [if_neg (by omega)]; simp [HW.out.2.1]))
              have HLV := Lib.hid (own_lenV ho)
              clear ho hg d0 d1
              go_wp2_with fail
              go_roundw
              case rel =>
                refine ⟨m', by have := HM'.out; omega, cap, f2, out, P ++ [x2], _, nx, n + 1, r, by simp [HPL.out], (by have := HON.out; first | omega | (simp; omega)), HM7.out, ?_, HBK7.out, rfl, ?_, ?_⟩
                · have := (HPI'.out.read (by rw [HX0.out]; exact HD0.out) (by rw [HX0.out]; omega) HS.out HF.out).2
                  rw [HX0.out] at this
                  exact this
                · rw [HR.out]; simp
                · rw [HNX.out]; simp
              case measure =>
                have h9 := own_lenV HM.out.wait
                have h7 := HLV.out
                have hm7 := HM'.out
                show N - lenV v9' < N - lenV u9
                rw [h7, h9]
                omega
      · have g2 : decide (x1 ≤ now1) = false := decide_eq_false hdue
        have HD0 := Lib.hid (show now1 < (f 0).1 by rw [HX0.out]; simp only; omega)
        go_upto_region 8 with (fail)
        go_quiet (fail)
        clear g2
        rename_i nq
        have HMB := Lib.hid ((HM.out.below ((Below.refl _ _).drewN nq)).back)
        have HDN := Lib.hid (show 0 < m → now1 < (f 0).1 from fun _ => HD0.out)
        clear c0 c2 c4 g1
        generalize wr.drewN nq = w2 at HMB ⊢
        have hN8 := HE.out.2.1
        have hmN := HMN.out
        obtain ⟨a9, c9, rfl⟩ := own_slice HMB.out.wait
        go_wp2_with fail
        go_loopw [13, 88] (fun _ v88 wq => ∃ (k g' cap' : Nat) (f' : Nat → En), v88 = .int .i64 (k : Int) ∧ k ≤ n ∧ BackM w wq base p g g' cap' N me now1 nx f' (m + k) u6 (.slice a9 n c9) out fw n ∧ BackI N me D now1 busy f' (m + k) P k) (fun _ v88 _ => n - (intOf v88).toNat)
        case atStart => exact ⟨0, g, cap, f, rfl, by omega, HMB.out, HPI.out.back busy⟩
        case round =>
          obtain ⟨k, g2, cap2, f2, rfl, hk, hM2, hB2⟩ := hrel
          have HM2 := Lib.hid hM2
          have HB2 := Lib.hid hB2
          clear hM2 hB2
          by_cases hlt : (k : Int) < (n : Int)
          · obtain ⟨q, rfl⟩ := own_slice_some HM2.out.wait (by omega)
            obtain ⟨w1, w2'⟩ := owns_cells HM2.out.wait (k := k) (by omega)
            have HX := Lib.hid (HBK.out k (by omega))
            generalize hxk : fw k = x at w1 w2' HX
            obtain ⟨x1, x2⟩ := x
            simp only at w1 w2'
            go_upto_region 21 with (fail)
            clear w1 w2'
            have HM3 := Lib.hid (HM2.out.below ((Below.refl _ _).alloc (Nat.le_refl _) (Obj.cells #[Value.int IntKind.i64 x1, Value.int IntKind.i64 x2] 53)))
            have hbx := Blk.new wr 53 #[Value.int IntKind.i64 x1, Value.int IntKind.i64 x2]
            generalize wr.alloc (Obj.cells #[Value.int IntKind.i64 x1, Value.int IntKind.i64 x2] 53) = w4 at HM3 hbx ⊢
            generalize wr.heap.size = b at hbx ⊢
            have q0 : ∀ w', w4.drew = w' → w'.cell? ⟨b, 0, none⟩ = some (.int .i64 x1) := fun w' h => h ▸ hbx.cell 0
            have q1 : ∀ w', w4.drew = w' → w'.cell? ⟨b, 1, none⟩ = some (.int .i64 x2) := fun w' h => h ▸ hbx.cell 1
            clear hbx
            refine wp_region_pure (fun a b => a = b) (fun _ => rfl) (fun _ _ _ h h' => h.trans h') [(0,3),(1,3),(2,3),(3,3),(4,0),(5,3),(6,2)] (by kernel_rfl) (by kernel_rfl) ?_
            iterate 4 (refine pure_pure (v := ?_) rfl (fun _ _ _ h => h) (by rfl) (fun w' => ?_) ?_; rotate_left; (go_simp; try with_reducible rfl); simp only [Act.put, List.setIfInBounds_toArray, List.set_cons_zero, List.set_cons_succ])
            iterate 1 (refine pure_quiet (v := ?_) rfl (fun _ _ _ h => h) (by rfl) (fun w' hR => ?_) ?_; rotate_left; (go_simp; try with_reducible rfl); simp only [Act.put, List.setIfInBounds_toArray, List.set_cons_zero, List.set_cons_succ])
            iterate 1 (refine pure_pure (v := ?_) rfl (fun _ _ _ h => h) (by rfl) (fun w' => ?_) ?_; rotate_left; (go_simp; try with_reducible rfl); simp only [Act.put, List.setIfInBounds_toArray, List.set_cons_zero, List.set_cons_succ])
            clear q0 q1
            refine pure_eff2 rfl ?_
            go_wp2_with fail
            refine (heapPush_any base p (.slice (some ⟨g2, 0, none⟩) (m + k) cap2) N me now1 nx f2 (m + k) (x1, x2) w4.drew HM3.out.pr.drew (by have := HMN.out; omega) (Nat.le_trans HBASE.out (Nat.le_trans HM3.out.hop.size (Nat.le_refl _))) HB2.out.heap).mono ?_
            rintro e w5 ⟨rfl, g3, cap3, f3, hf, hs, hA, hO⟩
            have HM5 := Lib.hid ((HM3.out.below ((Below.refl _ _).drewN 1)).pushed hA hO)
            have HB5 := Lib.hid (HB2.out.step HPI.out.nodup HX.out hs hf)
            clear hf hs hA hO
            go_wp2_with fail
            refine purePost_free ?_
            refine pure_done ?_
            go_wp2_with fail
            go_roundw
            case rel => exact ⟨k + 1, g3, cap3, f3, by go_num, by omega, HM5.out, HB5.out⟩
            case measure => simp [intOf]; omega
          · obtain rfl : k = n := by omega
            go_wp2_with fail
            go_ret2
            have hN : m + k = N := by have := HMN.out; omega
            refine tickP_of HM2.out HB2.out HPI.out HDN.out HPL.out HON.out hN HR.out HNX.out HTW.out
end Go.Proofs.Ytaennccfhdjaaaa
