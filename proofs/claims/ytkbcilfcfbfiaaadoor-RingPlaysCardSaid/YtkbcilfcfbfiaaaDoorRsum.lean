/- The reference: the sum of a string. -/
import Derived.Test.YtkbcilfcfbfiaaaDoorTail
import Derived.Test.YtkbcilfcfbfiaaaDoorRounds
import Derived.Lib.ConvBytes
import Derived.Laws.AppendOwnNone
namespace Go.Proofs.YtkbcilfcfbfiaaaDoor
open Go.RowKit Go.Proofs
set_option linter.unusedSimpArgs false
set_option linter.unusedVariables false

theorem conv_own (w : World) (s : ByteArray) (hs : s.size ≤ maxLen) : ∃ v w', (convert 9 29 (.string s)).run Tryd.prog w = .ok v w' ∧ Own1 w' w.heap.size 5 v s.size ((by_ s).map bb) ∧ w.grownBy w' none := by
  have hr := Lib.run_convert_string_bytes (P := Tryd.prog) w 9 29 5 s Tryd.underlying9 Tryd.underlying29 Tryd.underlying5
  have hcap := grownCap_ge w s.size 0 5
  have hmax := grownCap_le_maxLen w s.size 0 5 hs
  have hsz : s.size = s.data.size := rfl
  have hcs : (Lib.bytesCells w 5 s).size = grownCap w s.size 0 5 := by
    unfold Lib.bytesCells
    simp only [Array.size_append, Array.size_map, Array.size_replicate]
    omega
  refine ⟨_, _, hr, ⟨by rw [List.length_map, ← by_size], w.heap.size, _, _, _, rfl, Nat.le_refl _, Lib.bytesWorld_at_new w 5 s, .inr (Nat.le_refl _), hcap, hmax, hcs, ?_⟩, ?_⟩
  · unfold Lib.bytesCells
    rw [Array.toList_append, List.take_append_of_le_length (by rw [Array.length_toList, Array.size_map]; exact Nat.le_refl _), List.take_of_length_le (by rw [Array.length_toList, Array.size_map]; exact Nat.le_refl _), Array.toList_map]
    rfl
  · refine ⟨rfl, rfl, rfl, ?_, fun i hi _ => Lib.bytesWorld_at_old w 5 s i hi⟩
    rw [Lib.bytesWorld_size]; omega

theorem wpList_append1 {ops : Array Oper} {rest : List Oper} {o : Oper} {a : Act} {w : World} {Q : Exit → Act → World → Prop} (hgd : o.guard = none) (s x : Operand)
    (ho : o.op = .call { callee := .builtin .append, args := #[s, x], argTypes := #[29, 29] })
    (base : Nat) (v : Value) (n : Nat) (xs : List Value) (hs : a.eval s = v) (hown : Own1 w base 5 v n xs)
    (ad : Addr) (m c : Nat) (news : List Value) (hx : a.eval x = .slice (some ad) m c) (hl : news.length = m) (hnews : ∀ j u, news[j]? = some u → w.cell? (ad.add j) = some u) (h1 : ∀ u ∈ news, u.oneCell' = true)
    (hn : n + m ≤ 200000000000000) (hbase : base ≤ w.heap.size)
    (h : ∀ v' w', Own1 w' base 5 v' (n + m) (xs ++ news) → w.grownBy w' v.ownBlock → wpList Tryd.prog ops Q rest (a.put o.dst v') w') : wpList Tryd.prog ops Q (o :: rest) a w := by
  have hs5 : (Tryd.prog.info? 5).map (fun i => (i.size, i.bytes, i.zero)) = some (1, 1, some (.int .u8 0)) := by kernel_rfl
  obtain ⟨i, hi, hi2⟩ := Option.map_eq_some_iff.1 hs5
  simp only [Prod.mk.injEq] at hi2
  obtain ⟨e1, e2, e3⟩ := hi2
  refine wpList_plain hgd fun K hK => ?_
  obtain ⟨v', w', hr, h2, h3⟩ := run_append_own1 (P := Tryd.prog) w base 29 o.type 5 i (.int .u8 0) 1 Tryd.underlying29 hi e3 e1 e2 rfl v n xs hown ad m c news hl hnews h1 (by simp only [maxLen]; omega) (by omega) hbase
  unfold Oper.wp execOp
  simp only [ho, resolve, invoke, builtin, Sem.run_bind, Sem.run_pure, Result.andThen_ok, List.map_toArray, List.map_cons, List.map_nil, hs, hx, hr]
  exact hK _ _ (h v' w' h2 h3)
theorem Own1.kept {w w' : World} {base : Nat} {e : TypeId} {v : Value} {n : Nat} {xs : List Value} {row : Option Nat} (h : Own1 w base e v n xs) (hg : w.grownBy w' row) (hne : v.ownBlock ≠ row ∨ row = none) : Own1 w' base e v n xs := by
  obtain ⟨h1, g, cap, cur, fz, rfl, hb, hh, r⟩ := h
  refine ⟨h1, g, cap, cur, fz, rfl, hb, ?_, r⟩
  rw [hg.block g ((Array.getElem?_eq_some_iff.1 hh).1) (by
    rcases hne with hne | rfl
    · exact hne
    · simp)]
  exact hh
theorem Own1.lt {w : World} {base : Nat} {e : TypeId} {v : Value} {n : Nat} {xs : List Value} (h : Own1 w base e v n xs) : ∀ k, v.ownBlock = some k → base ≤ k ∧ k < w.heap.size := by
  obtain ⟨h1, g, cap, cur, fz, rfl, hb, hh, r⟩ := h
  intro k hk
  obtain rfl : g = k := by simpa [Value.ownBlock] using hk
  exact ⟨hb, (Array.getElem?_eq_some_iff.1 hh).1⟩
theorem wpList_runIs {P : Program} {ops : Array Oper} {rest : List Oper} {o : Oper} {a : Act} {w : World} {Q : Exit → Act → World → Prop} (hg : o.guard = none) (v : Value) (w' : World) (hrun : (execOp a.eval o).run P w = .ok (.value v) w')
    (h : wpList P ops Q rest (a.put o.dst v) w') : wpList P ops Q (o :: rest) a w := wpList_plain hg fun _ hK => by
  unfold Oper.wp
  rw [hrun, Oper.upon_value]
  exact hK _ _ h
theorem execConvert {P : Program} {a : Act} {o : Oper} {w w' : World} (s d : TypeId) (x : Operand) (ho : o.op = .convert s d x) {p v : Value} (hx : a.eval x = p) (h : (convert s d p).run P w = .ok v w') : (execOp a.eval o).run P w = .ok (.value v) w' := by
  unfold execOp
  simp only [ho, hx, Sem.run_bind, h, Result.andThen_ok, Sem.run_pure]
theorem wpList_append_byte {ops : Array Oper} {rest : List Oper} {o : Oper} {a : Act} {w : World} {Q : Exit → Act → World → Prop} (hgd : o.guard = none) (s x : Operand)
    (ho : o.op = .call { callee := .builtin .append, args := #[s, x], argTypes := #[29, 29] })
    (base : Nat) (v : Value) (n : Nat) (xs : List Value) (hs : a.eval s = v) (hown : Own1 w base 5 v n xs)
    (u : Value) (hx : a.eval x = .slice (some ⟨w.heap.size, 0, none⟩) 1 1) (h1 : u.oneCell' = true)
    (hn : n + 1 ≤ 200000000000000) (hbase : base ≤ w.heap.size)
    (h : ∀ v' w', Own1 w' base 5 v' (n + 1) (xs ++ [u]) → w.grownBy w' v.ownBlock → wpList Tryd.prog ops Q rest (a.put o.dst v') w') : wpList Tryd.prog ops Q (o :: rest) a (w.alloc (.cells #[u] 5)) := by
  have hb := Blk.new w 5 #[u]
  refine wpList_append1 hgd s x ho base v n xs hs (hown.kept (World.grownBy_alloc w _ none) (.inr rfl)) ⟨w.heap.size, 0, none⟩ 1 1 [u] hx rfl ?_ (by simpa using h1) hn (by simp; omega) ?_
  · intro j y hj
    match j, hj with
    | 0, hj =>
      obtain rfl := Option.some.inj hj
      rw [Addr.add_mid]
      exact hb.cell 0
  · intro v' w' hO hG
    exact h v' w' hO (grownBy_trans (World.grownBy_alloc w _ _) hG)
/-- The last i bytes of a number. -/
def tl (n : Nat) : Nat → List UInt8
  | 0 => []
  | i + 1 => UInt8.ofNat (n / 256 ^ i) :: tl n i
theorem tl_length (n i : Nat) : (tl n i).length = i := by
  induction i with
  | zero => rfl
  | succ i ih => simp [tl, ih]
theorem tl_be (n : Nat) : tl n 8 = be n 8 := by
  simp [tl, be, bt]
theorem Own1.fresh (w : World) (base : Nat) (u : Value) (hb : base ≤ w.heap.size) : Own1 (w.alloc (.cells #[u] 5)) base 5 (.slice (some ⟨w.heap.size, 0, none⟩) 1 1) 1 [u] :=
  ⟨rfl, w.heap.size, 1, #[u], (0, 0), rfl, hb, Blk.new w 5 #[u], .inl rfl, by omega, by simp [maxLen], rfl, rfl⟩
theorem Own1.cells {w : World} {base : Nat} {e : TypeId} {n n' cap g : Nat} {xs : List Value} (h : Own1 w base e (.slice (some ⟨g, 0, none⟩) n' cap) n xs) : ∀ j u, xs[j]? = some u → w.cell? ((⟨g, 0, none⟩ : Addr).add j) = some u := by
  obtain ⟨h1, g', cap', cur, fz, hv, hb, hh, _, _, _, _, ht⟩ := h
  simp only [Value.slice.injEq, Option.some.injEq, Addr.mk.injEq] at hv
  obtain ⟨⟨rfl, _⟩, _, _⟩ := hv
  intro j u hu
  rw [Addr.add_mid, Nat.zero_add, cell_of_row w g j cur e fz hh]
  rw [← ht, List.getElem?_take] at hu
  split at hu
  · simpa using hu
  · cases hu
/-- append(own, nil...) -/
theorem wpList_append_nil {ops : Array Oper} {rest : List Oper} {o : Oper} {a : Act} {w : World} {Q : Exit → Act → World → Prop} (hgd : o.guard = none) (s x : Operand)
    (ho : o.op = .call { callee := .builtin .append, args := #[s, x], argTypes := #[29, 29] })
    (u : Value) (hs : a.eval s = .slice (some ⟨w.heap.size, 0, none⟩) 1 1) (hx : a.eval x = .slice none 0 0)
    (h : wpList Tryd.prog ops Q rest (a.put o.dst (.slice (some ⟨w.heap.size, 0, none⟩) 1 1)) (w.alloc (.cells #[u] 5))) : wpList Tryd.prog ops Q (o :: rest) a (w.alloc (.cells #[u] 5)) := by
  have hs5 : (Tryd.prog.info? 5).map (·.size) = some 1 := by kernel_rfl
  obtain ⟨i, hi, e1⟩ := Option.map_eq_some_iff.1 hs5
  have hown : (w.alloc (.cells #[u] 5)).ownsRow w.heap.size 5 1 (.slice (some ⟨w.heap.size, 0, none⟩) 1 1) 1 [u] :=
    ⟨rfl, .inr ⟨w.heap.size, 1, #[u], rfl, Nat.le_refl _, Blk.new w 5 #[u], by omega, by simp [maxLen], rfl, rfl⟩⟩
  exact wpList_append_own_none hgd s x 29 ho w.heap.size 5 i 1 Tryd.underlying29 hi _ 1 [u] hs hown hx h
theorem wpList_prepend {ops : Array Oper} {rest : List Oper} {o : Oper} {a : Act} {w : World} {Q : Exit → Act → World → Prop} (hgd : o.guard = none) (s x : Operand)
    (ho : o.op = .call { callee := .builtin .append, args := #[s, x], argTypes := #[29, 29] })
    (base : Nat) (u : Value) (hs : a.eval s = .slice (some ⟨w.heap.size, 0, none⟩) 1 1) (v : Value) (i : Nat) (xs : List Value) (hx : a.eval x = v)
    (hE : (i = 0 ∧ v = .slice none 0 0) ∨ (0 < i ∧ Own1 w base 5 v i xs)) (hxl : xs.length = i) (h1 : u.oneCell' = true) (hxs : ∀ y ∈ xs, y.oneCell' = true) (hn : i + 1 ≤ 200000000000000) (hbase : base ≤ w.heap.size)
    (h : ∀ v' w', Own1 w' base 5 v' (i + 1) (u :: xs) → w.grownBy w' none → wpList Tryd.prog ops Q rest (a.put o.dst v') w') : wpList Tryd.prog ops Q (o :: rest) a (w.alloc (.cells #[u] 5)) := by
  have hF := Own1.fresh w base u hbase
  rcases hE with ⟨rfl, rfl⟩ | ⟨hi, hO⟩
  · obtain rfl : xs = [] := List.eq_nil_of_length_eq_zero hxl
    exact wpList_append_nil hgd s x ho u hs hx (h _ _ hF (World.grownBy_alloc w _ none))
  · have hO' := hO.kept (World.grownBy_alloc w (.cells #[u] 5) none) (.inr rfl)
    obtain ⟨_, g, cap, cur, fz, rfl, _⟩ := hO
    refine wpList_append1 hgd s x ho base _ 1 [u] hs hF ⟨g, 0, none⟩ i cap xs hx hxl hO'.cells hxs (by omega) (by simp; omega) ?_
    intro v' w' h2 hG
    have hG2 : w.grownBy w' (some w.heap.size) := grownBy_trans (World.grownBy_alloc w _ _) hG
    refine h v' w' ?_ ⟨hG2.os, hG2.tape, hG2.output, hG2.size, fun k hk _ => hG2.block k hk (fun e => by have := Option.some.inj e; omega)⟩
    rw [Nat.add_comm i 1]; exact h2
theorem blk_length (bs : List UInt8) (k : Nat) (h : 64 * (k + 1) ≤ bs.length) : (blk bs k).length = 64 := by
  unfold blk; rw [List.length_take, List.length_drop]; omega
theorem Own1.at {w : World} {base : Nat} {n' cap g n : Nat} {bs : List UInt8} (h : Own1 w base 5 (.slice (some ⟨g, 0, none⟩) n' cap) n (bs.map bb)) (k : Nat) (hk : 64 * (k + 1) ≤ bs.length) : At w g (64 * k) (blk bs k) := by
  intro i hi
  rw [blk_length bs k hk] at hi
  have hc := h.cells (64 * k + i) (bb ((blk bs k).getD i 0)) (by
    have e : (blk bs k).getD i 0 = bs.getD (64 * k + i) 0 := by
      unfold blk
      rw [List.getD_eq_getElem?_getD, List.getD_eq_getElem?_getD, List.getElem?_take_of_lt hi, List.getElem?_drop]
    rw [e, List.getElem?_map, List.getD_eq_getElem?_getD, List.getElem?_eq_getElem (by omega)]; rfl)
  rw [Addr.add_mid, Nat.zero_add] at hc
  exact hc
def slLen (v : Value) : Nat := match v with | .slice _ n _ => n | _ => 0
set_option maxRecDepth 100000 in
set_option maxHeartbeats 4000000 in
theorem rsum_any (t : ByteArray) (w : World) (hn : t.size < 150000000000000) :
    Calls Tryd.prog 26 #[.string t] w fun e w' => e = .returned (.agg (bytesC (sumOf (by_ t)))) ∧ Below w.heap.size w w' := by
  have HN := Lib.hid hn
  clear hn
  go_enter Tryd.func26, Tryd.ntmps26
  go_upto_region 1 with (fail)
  change Code.wp _ _ _ _ (w.alloc (.cells z32 25))
  have R2 : Blk (w.alloc (.cells z32 25)) w.heap.size 25 z32 := Blk.new w 25 z32
  have B : Below w.heap.size w (w.alloc (.cells z32 25)) := (Below.refl _ _).alloc (Nat.le_refl _) _
  have hs2 : (w.alloc (.cells z32 25)).heap.size = w.heap.size + 1 := by simp
  generalize w.alloc (.cells z32 25) = w2 at R2 B hs2 ⊢
  obtain ⟨v1, w3, hr, hO, hG⟩ := conv_own w2 t (by have := HN.out; simp only [maxLen]; omega)
  rw [hs2] at hO
  have HO := Lib.hid hO
  have H2 := Lib.hid (R2.grown hG (by simp))
  have HB := Lib.hid (B.grown hG (by omega) (by intro k e; cases e))
  have HS := Lib.hid (show w.heap.size + 1 ≤ w3.heap.size by have := hG.size; omega)
  clear R2 B hO hG hs2
  refine wp_region_lit ?_
  iterate 3 go_step
  refine wpList_runIs rfl v1 w3 (execConvert 9 29 _ rfl (p := .string t) rfl hr) ?_
  clear hr
  simp only [Act.put]
  iterate 3 go_step
  refine wpList_append_byte rfl _ _ rfl (w.heap.size + 1) v1 t.size ((by_ t).map bb) rfl HO.out (bb 128) rfl rfl (by have := HN.out; omega) HS.out ?_
  intro v2 w4 hO hG
  have hne : some w.heap.size ≠ v1.ownBlock := fun e => by have := (HO.out.lt _ e.symm).1; omega
  have H2 := Lib.hid (H2.out.grown hG hne)
  have HB := Lib.hid (HB.out.grown hG HB.out.size (by intro k e; have := (HO.out.lt _ e).1; omega))
  have HS := Lib.hid (show w.heap.size + 1 ≤ w4.heap.size by have := hG.size; have := HS.out; omega)
  have HO := Lib.hid (show Own1 w4 (w.heap.size + 1) 5 v2 (t.size + 1 + 0) ((by_ t ++ [128] ++ List.replicate 0 0).map bb) by simpa using hO)
  clear hO hG hne
  simp only [Act.put]
  go_wp2_with fail
  go_loopw [3] (fun v wr => ∃ j : Nat, j ≤ zs t.size ∧ Own1 wr (w.heap.size + 1) 5 v (t.size + 1 + j) ((by_ t ++ [128] ++ List.replicate j 0).map bb) ∧ Blk wr w.heap.size 25 z32 ∧ w.heap.size + 1 ≤ wr.heap.size ∧ Below w.heap.size w wr) (fun v _ => 150000000001000 - slLen v)
  case atStart => exact ⟨0, by omega, HO.out, H2.out, HS.out, HB.out⟩
  case round =>
    obtain ⟨j, hj, hO, h2, hs, hB⟩ := hrel
    clear HO H2 HS HB
    have HO := Lib.hid hO
    have H2 := Lib.hid h2
    have HS := Lib.hid hs
    have HB := Lib.hid hB
    have HJ := Lib.hid hj
    obtain ⟨_, g, cap, cur, fz, rfl, _⟩ := hO
    clear h2 hs hB hj
    have hzl := zs_lt t.size
    generalize hN : t.size + 1 + j = N at HO
    have HNN := Lib.hid hN
    have hjz : N < 150000000000000 + 200 := by have := HJ.out; have := HN.out; omega
    clear hN hzl
    by_cases hd : j = zs t.size
    · have i1 : (N : Int) % 64 = 56 := by have := (zs_end t.size j HJ.out).2 hd; have := HNN.out; omega
      have hn1 := HN.out
      go_wp2_with fail
      clear hn1
      generalize hS0 : wr.heap.size = s0
      have hg0 : g < s0 := by rw [← hS0]; exact (HO.out.lt g rfl).2
      have hs0 : w.heap.size + 1 ≤ s0 := by rw [← hS0]; exact HS.out
      have HSS := Lib.hid (show s0 ≤ wr.heap.size by omega)
      have HPAD := Lib.hid (show Own1 wr (w.heap.size + 1) 5 (.slice (some ⟨g, 0, none⟩) N cap) N ((padded (by_ t)).map bb) from by
        have := HO.out
        rw [hd, by_size] at this
        exact this)
      clear hS0 HO HJ
      go_loopw [4, 5, 6] (fun v4 v5 v6 wr => ∃ i : Nat, i ≤ 8 ∧ v6 = .int .i64 (i : Int) ∧ v4 = .int .i64 ((t.size * 8 / 256 ^ i : Nat) : Int) ∧ ((i = 0 ∧ v5 = .slice none 0 0) ∨ (0 < i ∧ Own1 wr s0 5 v5 i ((tl (t.size * 8) i).map bb))) ∧ Own1 wr (w.heap.size + 1) 5 (.slice (some ⟨g, 0, none⟩) N cap) N ((padded (by_ t)).map bb) ∧ Blk wr w.heap.size 25 z32 ∧ s0 ≤ wr.heap.size ∧ Below w.heap.size w wr) (fun _ _ v6 _ => 8 - (intOf v6).toNat)
      case atStart => exact ⟨0, by omega, rfl, by simp, .inl ⟨rfl, rfl⟩, HPAD.out, H2.out, HSS.out, HB.out⟩
      case round =>
        obtain ⟨i, hi, rfl, rfl, hE, hP, h2, hs, hB⟩ := hrel
        clear HPAD H2 HSS HB HS i1
        have HE := Lib.hid hE
        have HP := Lib.hid hP
        have H2 := Lib.hid h2
        have HS := Lib.hid hs
        have HB := Lib.hid hB
        clear hE hP h2 hs hB
        generalize hni : t.size * 8 / 256 ^ i = ni
        have HNI := Lib.hid hni
        clear hni
        by_cases hlt : i < 8
        · go_upto_region 9 with (fail)
          refine wp_region_lit ?_
          iterate 15 go_step
          have hx : (Value.int .u8 ((ni : Int) % 256)) = bb (UInt8.ofNat ni) := by
            unfold bb
            rw [UInt8.toNat_ofNat', Int.natCast_emod]; rfl
          rw [hx]
          have hn1 : ni < 1600000000000000 := by
            have h1 := Nat.div_le_self (t.size * 8) (256 ^ i)
            rw [HNI.out] at h1
            have := HN.out; omega
          have hq : t.size * 8 / 256 ^ (i + 1) = ni / 256 := by rw [← HNI.out, Nat.pow_succ, Nat.div_div_eq_div_mul]
          have HQ := Lib.hid hq
          have htl : (tl (t.size * 8) (i + 1)).map bb = bb (UInt8.ofNat ni) :: (tl (t.size * 8) i).map bb := by
            show bb (UInt8.ofNat (t.size * 8 / 256 ^ i)) :: _ = _
            rw [HNI.out]
          have HTL := Lib.hid htl
          clear hx hq htl
          refine wpList_prepend rfl _ _ rfl s0 (bb (UInt8.ofNat ni)) rfl u5 i ((tl (t.size * 8) i).map bb) rfl HE.out (by rw [List.length_map, tl_length]) rfl (by intro y hy; obtain ⟨z, _, rfl⟩ := List.mem_map.1 hy; rfl) (by omega) HS.out ?_
          intro v' w5 hO hG
          have HO5 := Lib.hid (show Own1 w5 s0 5 v' (i + 1) ((tl (t.size * 8) (i + 1)).map bb) by rw [HTL.out]; exact hO)
          have H2 := Lib.hid (H2.out.grown hG (by simp))
          have HP := Lib.hid (HP.out.kept hG (.inr rfl))
          have HB := Lib.hid (HB.out.grown hG HB.out.size (by intro k e; cases e))
          have HS := Lib.hid (show s0 ≤ w5.heap.size by have := hG.size; have := HS.out; omega)
          clear hO hG
          simp only [Act.put]
          go_wp2_with fail
          go_roundw
          case rel =>
            refine ⟨i + 1, by omega, by go_num, ?_, .inr ⟨by omega, HO5.out⟩, HP.out, H2.out, HS.out, HB.out⟩
            rw [HQ.out]
            go_num
          case measure => simp [intOf]; omega
        · have hi8 : i = 8 := by omega
          subst hi8
          have hE8 : Own1 wr s0 5 u5 8 ((tl (t.size * 8) 8).map bb) := by
            rcases HE.out with ⟨h, _⟩ | ⟨_, h⟩
            · omega
            · exact h
          clear HE HNI
          have hcl := hE8.1
          obtain ⟨_, g5, cap5, cur5, fz5, rfl, _⟩ := id hE8
          have H5 := Lib.hid hE8
          clear hE8
          go_upto_region 11 with (fail)
          refine wp_region_lit ?_
          iterate 6 go_step
          have hNs : N = (padded (by_ t)).length := by have := HP.out.1; rw [List.length_map] at this; exact this.symm
          refine wpList_append1 rfl _ _ rfl (w.heap.size + 1) (.slice (some ⟨g, 0, none⟩) N cap) N ((padded (by_ t)).map bb) rfl HP.out ⟨g5, 0, none⟩ 8 cap5 ((tl (t.size * 8) 8).map bb) rfl hcl H5.out.cells (by intro y hy; obtain ⟨z, _, rfl⟩ := List.mem_map.1 hy; rfl) (by omega) (by have := HS.out; omega) ?_
          intro v7 w7 hO hG
          have hne : some w.heap.size ≠ (Value.slice (some ⟨g, 0, none⟩) N cap).ownBlock := fun e => by have := (HP.out.lt _ e.symm).1; omega
          have H2 := Lib.hid (H2.out.grown hG hne)
          have HB := Lib.hid (HB.out.grown hG HB.out.size (by intro k e; have := (HP.out.lt _ e).1; omega))
          have HM := Lib.hid (show Own1 w7 (w.heap.size + 1) 5 v7 (msg (by_ t)).length ((msg (by_ t)).map bb) by
            have e : (msg (by_ t)).map bb = (padded (by_ t)).map bb ++ (tl (t.size * 8) 8).map bb := by
              rw [tl_be, by_size, ← List.map_append]; rfl
            have e2 : (msg (by_ t)).length = N + 8 := by rw [hNs]; unfold msg; rw [List.length_append, be_length]
            rw [e, e2]; exact hO)
          clear hO hG hne hcl HP H5
          simp only [Act.put]
          obtain ⟨_, gb, capb, curb, fzb, rfl, _⟩ := id HM.out
          go_wp2_with fail
          change Calls _ _ _ (w7.alloc (.cells iv.cells 87)) _
          have hI := Blk.new w7 87 iv.cells
          have HM := Lib.hid (HM.out.kept (World.grownBy_alloc w7 (.cells iv.cells 87) none) (.inr rfl))
          have H2 := Lib.hid (H2.out.alloc (.cells iv.cells 87))
          have HB := Lib.hid (HB.out.alloc HB.out.size (.cells iv.cells 87))
          generalize w7.alloc (.cells iv.cells 87) = w8 at hI HM H2 HB ⊢
          refine (rounds_any w8).mono ?_
          rintro e w9 ⟨rfl, hKC, hb⟩
          have HI := Lib.hid (hI.below hb hI.lt)
          have HM := Lib.hid (HM.out.kept (grownBy_of_below hb none) (.inr rfl))
          have H2 := Lib.hid (H2.out.below hb H2.out.lt)
          have HB := Lib.hid (HB.out.trans (hb.mono HB.out.size))
          have HKC := Lib.hid hKC
          clear hKC hb hI
          generalize w8.heap.size = kb at HKC ⊢
          generalize w7.heap.size = sb at HI ⊢
          have hM64 := msg_mod (by_ t)
          generalize hmm : msg (by_ t) = M at HM hM64 ⊢
          have HMM := Lib.hid hmm
          clear hmm
          have hML : M.length < 150000000001000 := by
            have h1 := msg_length (by_ t)
            rw [HMM.out, ← by_size] at h1
            have := zs_lt t.size; have := HN.out; omega
          go_wp2_with fail
          go_loopw [7, 9] (fun v7 v9 wr => ∃ k sg : Nat, 64 * k ≤ M.length ∧ v9 = .int .i64 ((64 * k : Nat) : Int) ∧ v7 = .slice (some ⟨sg, 0, none⟩) 8 8 ∧ Blk wr sg 87 (chainN M k).cells ∧ Blk wr kb 87 kC ∧ Own1 wr (w.heap.size + 1) 5 (.slice (some ⟨gb, 0, none⟩) M.length capb) M.length (M.map bb) ∧ Blk wr w.heap.size 25 z32 ∧ Below w.heap.size w wr) (fun _ v9 _ => M.length - (intOf v9).toNat)
          case atStart => exact ⟨0, sb, by omega, rfl, rfl, HI.out, HKC.out, HM.out, H2.out, HB.out⟩
          case round =>
            obtain ⟨k, sg, hk, rfl, rfl, hC, hK, hM, h2, hB⟩ := hrel
            clear HI HKC HM H2 HB
            have HC := Lib.hid hC
            have HK := Lib.hid hK
            have HM := Lib.hid hM
            have H2 := Lib.hid h2
            have HB := Lib.hid hB
            clear hC hK hM h2 hB
            by_cases hlt : 64 * k < M.length
            · have hfull : 64 * (k + 1) ≤ M.length := by omega
              have i1 : ((64 * k : Nat) : Int) < (M.length : Int) := by omega
              have i2 : ((64 * k : Nat) : Int) + 64 ≤ (M.length : Int) := by omega
              have hcapM : M.length ≤ capb := by
                obtain ⟨_, _, _, _, _, hv, _, _, _, h, _⟩ := HM.out
                simp only [Value.slice.injEq] at hv
                omega
              have i3 : ((64 * k : Nat) : Int) + 64 ≤ (capb : Int) := by omega
              generalize hkk : 64 * k = kk at *
              go_wp2_with fail
              refine (block_any (chainN M k) sg 8 (blk M k) (blk_length M k hfull) gb kk (capb - kk) kb 64 wr HC.out (by rw [← hkk]; exact HM.out.at k hfull) ((HM.out.lt gb rfl).2) HK.out).mono ?_
              rintro e w10 ⟨g6, rfl, hC6, hb⟩
              have HC := Lib.hid (show Blk w10 g6 87 (chainN M (k + 1)).cells from hC6)
              have HK := Lib.hid (HK.out.below hb HK.out.lt)
              have HM := Lib.hid (HM.out.kept (grownBy_of_below hb none) (.inr rfl))
              have H2 := Lib.hid (H2.out.below hb H2.out.lt)
              have HB := Lib.hid (HB.out.trans (hb.mono HB.out.size))
              clear hC6 hb
              go_wp2_with fail
              go_roundw
              case rel => exact ⟨k + 1, g6, by omega, by rw [← hkk]; go_num, rfl, HC.out, HK.out, HM.out, H2.out, HB.out⟩
              case measure => simp [intOf]; omega
            · have hkk : k = M.length / 64 := by omega
              have hC := HC.out
              have hch : chainN M k = chain M := by rw [hkk]; rfl
              rw [hch] at hC
              generalize hst : chain M = st at hC
              have HST := Lib.hid hst
              have HC := Lib.hid hC
              clear hst hC hch
              go_upto_region 18 with (fail)
              refine wp_region_lit ?_
              iterate 6 go_step
              change wpList _ _ _ _ _ (wr.alloc (.cells z32 25))
              have hz := Blk.new wr 25 z32
              have hi25 : (Tryd.prog.info? 25).map (·.size) = some z32.size := by rw [z32_size]; kernel_rfl
              refine wpList_store_mid rfl 25 _ _ rfl wr.heap.size 0 z32 rfl rfl (hz.there 0 _ (by omega)) hi25 (bytesC_one _) ?_
              refine wpList_nil ?_
              simp only [Act.put]
              have hz2 := hz.setCells z32.toList 0
              rw [putAll_all _ _ rfl] at hz2
              have HC := Lib.hid ((HC.out.alloc (.cells z32 25)).setCells_far (b := wr.heap.size) z32.toList (by have := HC.out.lt; omega) 0)
              have hoo : w.heap.size < wr.heap.size := H2.out.lt
              have H2 := Lib.hid ((H2.out.alloc (.cells z32 25)).setCells_far (b := wr.heap.size) z32.toList (by have := H2.out.lt; omega) 0)
              have HB := Lib.hid (Below.setCells' (b := wr.heap.size) z32.toList HB.out.size 0 (HB.out.alloc HB.out.size (.cells z32 25)))
              clear hz hi25
              generalize (wr.alloc (.cells z32 25)).setCells wr.heap.size 0 z32.toList = w10 at hz2 HC H2 HB ⊢
              have H3 := Lib.hid (show Blk w10 wr.heap.size 25 (bytesC (dp st (4 * 0))) from by rw [Nat.mul_zero, dp_zero]; exact hz2)
              clear hz2
              generalize wr.heap.size = oo at H3 hoo ⊢
              go_wp2_with fail
              go_loopw [11] (fun v wr => ∃ k : Nat, k ≤ 8 ∧ v = .int .i64 (k : Int) ∧ Blk wr w.heap.size 25 z32 ∧ Blk wr oo 25 (bytesC (dp st (4 * k))) ∧ Blk wr sg 87 st.cells ∧ Below w.heap.size w wr) (fun v _ => 8 - (intOf v).toNat)
              case atStart => exact ⟨0, by omega, rfl, H2.out, H3.out, HC.out, HB.out⟩
              case round =>
                obtain ⟨k, hk, rfl, h2, h3, hC, hB⟩ := hrel
                clear HC H2 H3 HB
                have H2 := Lib.hid h2
                have H3 := Lib.hid h3
                have HC := Lib.hid hC
                have HB := Lib.hid hB
                have hsgo : sg ≠ oo := hC.ne_ h3 (by decide)
                clear h2 hB
                by_cases hlt : k < 8
                · have c := (hC.cell k).trans (cells_get st k hlt)
                  have k1 : (k : Int) < 8 := by omega
                  clear h3 hC
                  have ka0 : 4 * (k : Int) < 32 := by omega
                  have kb0 : (4 * (k : Int)).toNat = 4 * k := by omega
                  have kc0 : (0 : Int) ≤ 4 * (k : Int) := by omega
                  have cs := H3.out.cell (4 * k)
                  have cf := H3.out.frozen (4 * k)
                  obtain ⟨cv, hcv⟩ : ∃ cv, (bytesC (dp st (4 * k)))[4 * k]? = some cv := ⟨_, Array.getElem?_eq_getElem (by rw [bytesC_size, dp_length]; omega)⟩
                  rw [hcv] at cs
                  clear hcv
                  go_upto_region 24 with (fail)
                  have e0 : (Value.int .u8 ((V (sel st k)).tdiv 16777216 % 256)) = bb (dB st (4 * k)) := by
                    have h := V_byte_of (sel st k) 24
                    rw [show (2 : Int) ^ 24 = 16777216 from rfl] at h
                    rw [Int.tdiv_eq_ediv_of_nonneg (V_nonneg _), h]; unfold bb dB
                    rw [show (4 * k) / 4 = k by omega, show 24 - 8 * ((4 * k) % 4) = 24 by omega]
                  rw [e0]
                  have h3 := H3.out.set_ (4 * k) (bb (dB st (4 * k)))
                  rw [dp_set _ _ (by omega)] at h3
                  have H2 := Lib.hid (H2.out.far (p := ⟨oo, 4 * k, none⟩) (by simp; omega) (bb (dB st (4 * k))))
                  have HC := Lib.hid (HC.out.far (p := ⟨oo, 4 * k, none⟩) hsgo (bb (dB st (4 * k))))
                  have HB := Lib.hid (HB.out.setCell (p := ⟨oo, 4 * k, none⟩) (by simp; omega) (bb (dB st (4 * k))))
                  generalize wr.setCell ⟨oo, 4 * k, none⟩ (bb (dB st (4 * k))) = wa1 at h3 H2 HC HB ⊢
                  clear c cs cf e0
                  have H3 := Lib.hid h3
                  clear h3
                  have ka1 : 4 * (k : Int) + 1 < 32 := by omega
                  have kb1 : (4 * (k : Int) + 1).toNat = 4 * k + 1 := by omega
                  have kc1 : (0 : Int) ≤ 4 * (k : Int) + 1 := by omega
                  have cs := H3.out.cell (4 * k + 1)
                  have cf := H3.out.frozen (4 * k + 1)
                  obtain ⟨cv, hcv⟩ : ∃ cv, (bytesC (dp st (4 * k + 1)))[4 * k + 1]? = some cv := ⟨_, Array.getElem?_eq_getElem (by rw [bytesC_size, dp_length]; omega)⟩
                  rw [hcv] at cs
                  clear hcv
                  go_upto_region 25 with (fail)
                  have e0 : (Value.int .u8 ((V (sel st k)).tdiv 65536 % 256)) = bb (dB st (4 * k + 1)) := by
                    have h := V_byte_of (sel st k) 16
                    rw [show (2 : Int) ^ 16 = 65536 from rfl] at h
                    rw [Int.tdiv_eq_ediv_of_nonneg (V_nonneg _), h]; unfold bb dB
                    rw [show (4 * k + 1) / 4 = k by omega, show 24 - 8 * ((4 * k + 1) % 4) = 16 by omega]
                  rw [e0]
                  have h3 := H3.out.set_ (4 * k + 1) (bb (dB st (4 * k + 1)))
                  rw [dp_set _ _ (by omega)] at h3
                  have H2 := Lib.hid (H2.out.far (p := ⟨oo, 4 * k + 1, none⟩) (by simp; omega) (bb (dB st (4 * k + 1))))
                  have HC := Lib.hid (HC.out.far (p := ⟨oo, 4 * k + 1, none⟩) hsgo (bb (dB st (4 * k + 1))))
                  have HB := Lib.hid (HB.out.setCell (p := ⟨oo, 4 * k + 1, none⟩) (by simp; omega) (bb (dB st (4 * k + 1))))
                  generalize wa1.setCell ⟨oo, 4 * k + 1, none⟩ (bb (dB st (4 * k + 1))) = wa2 at h3 H2 HC HB ⊢
                  clear cs cf e0
                  have H3 := Lib.hid h3
                  clear h3
                  have ka2 : 4 * (k : Int) + 2 < 32 := by omega
                  have kb2 : (4 * (k : Int) + 2).toNat = 4 * k + 2 := by omega
                  have kc2 : (0 : Int) ≤ 4 * (k : Int) + 2 := by omega
                  have cs := H3.out.cell (4 * k + 2)
                  have cf := H3.out.frozen (4 * k + 2)
                  obtain ⟨cv, hcv⟩ : ∃ cv, (bytesC (dp st (4 * k + 2)))[4 * k + 2]? = some cv := ⟨_, Array.getElem?_eq_getElem (by rw [bytesC_size, dp_length]; omega)⟩
                  rw [hcv] at cs
                  clear hcv
                  go_upto_region 26 with (fail)
                  have e0 : (Value.int .u8 ((V (sel st k)).tdiv 256 % 256)) = bb (dB st (4 * k + 2)) := by
                    have h := V_byte_of (sel st k) 8
                    rw [show (2 : Int) ^ 8 = 256 from rfl] at h
                    rw [Int.tdiv_eq_ediv_of_nonneg (V_nonneg _), h]; unfold bb dB
                    rw [show (4 * k + 2) / 4 = k by omega, show 24 - 8 * ((4 * k + 2) % 4) = 8 by omega]
                  rw [e0]
                  have h3 := H3.out.set_ (4 * k + 2) (bb (dB st (4 * k + 2)))
                  rw [dp_set _ _ (by omega)] at h3
                  have H2 := Lib.hid (H2.out.far (p := ⟨oo, 4 * k + 2, none⟩) (by simp; omega) (bb (dB st (4 * k + 2))))
                  have HC := Lib.hid (HC.out.far (p := ⟨oo, 4 * k + 2, none⟩) hsgo (bb (dB st (4 * k + 2))))
                  have HB := Lib.hid (HB.out.setCell (p := ⟨oo, 4 * k + 2, none⟩) (by simp; omega) (bb (dB st (4 * k + 2))))
                  generalize wa2.setCell ⟨oo, 4 * k + 2, none⟩ (bb (dB st (4 * k + 2))) = wa3 at h3 H2 HC HB ⊢
                  clear cs cf e0
                  have H3 := Lib.hid h3
                  clear h3
                  have ka3 : 4 * (k : Int) + 3 < 32 := by omega
                  have kb3 : (4 * (k : Int) + 3).toNat = 4 * k + 3 := by omega
                  have kc3 : (0 : Int) ≤ 4 * (k : Int) + 3 := by omega
                  have cs := H3.out.cell (4 * k + 3)
                  have cf := H3.out.frozen (4 * k + 3)
                  obtain ⟨cv, hcv⟩ : ∃ cv, (bytesC (dp st (4 * k + 3)))[4 * k + 3]? = some cv := ⟨_, Array.getElem?_eq_getElem (by rw [bytesC_size, dp_length]; omega)⟩
                  rw [hcv] at cs
                  clear hcv
                  go_upto_region 21 with (fail)
                  have e0 : (Value.int .u8 ((V (sel st k)).tmod 256 % 256)) = bb (dB st (4 * k + 3)) := by
                    have h := V_byte_of (sel st k) 0
                    rw [Int.pow_zero, Int.ediv_one] at h
                    rw [Int.tmod_eq_emod_of_nonneg (V_nonneg _), Int.emod_emod, h]; unfold bb dB
                    rw [show (4 * k + 3) / 4 = k by omega, show 24 - 8 * ((4 * k + 3) % 4) = 0 by omega]
                  rw [e0]
                  have h3 := H3.out.set_ (4 * k + 3) (bb (dB st (4 * k + 3)))
                  rw [dp_set _ _ (by omega)] at h3
                  have H2 := Lib.hid (H2.out.far (p := ⟨oo, 4 * k + 3, none⟩) (by simp; omega) (bb (dB st (4 * k + 3))))
                  have HC := Lib.hid (HC.out.far (p := ⟨oo, 4 * k + 3, none⟩) hsgo (bb (dB st (4 * k + 3))))
                  have HB := Lib.hid (HB.out.setCell (p := ⟨oo, 4 * k + 3, none⟩) (by simp; omega) (bb (dB st (4 * k + 3))))
                  generalize wa3.setCell ⟨oo, 4 * k + 3, none⟩ (bb (dB st (4 * k + 3))) = wa4 at h3 H2 HC HB ⊢
                  clear cs cf e0
                  have H3 := Lib.hid h3
                  clear h3
                  go_wp2_with fail
                  go_roundw
                  case rel => exact ⟨k + 1, by omega, by go_num, H2.out, H3.out, HC.out, HB.out⟩
                  case measure => simp [intOf]; omega
                · have hk8 : k = 8 := by omega
                  subst hk8
                  have H3 := Lib.hid (show Blk wr oo 25 (bytesC (dg st)) from by rw [← dp_all]; exact H3.out)
                  clear h3 hC
                  go_upto_region 27 with (fail)
                  have hD : (bytesC (dg st)).size = 32 := by rw [bytesC_size, dg_length]
                  have hDone := bytesC_one (dg st)
                  have hout : bytesC (sumOf (by_ t)) = bytesC (dg st) := by rw [← HST.out, ← HMM.out]; rfl
                  have HO := Lib.hid hout
                  clear hout
                  generalize bytesC (dg st) = D at H3 hD hDone HO
                  have hi25 : (Tryd.prog.info? 25).map (·.size) = some D.size := by rw [hD]; kernel_rfl
                  refine wp_region_lit ?_
                  refine wpList_load_row rfl 25 _ rfl oo rfl 25 D _ _ H3.out Tryd.underlying25 rfl hi25 ?_
                  refine wpList_store_mid rfl 25 _ _ rfl w.heap.size 0 D rfl rfl (H2.out.there 0 _ (by rw [hD, z32_size]; exact Nat.le_refl _)) hi25 hDone ?_
                  refine wpList_nil ?_
                  simp only [Act.put]
                  have hz := H2.out.setCells D.toList 0
                  rw [putAll_all _ _ (by rw [hD, z32_size])] at hz
                  have B3 := Below.setCells' D.toList (Nat.le_refl _) 0 HB.out
                  have HI := Lib.hid hi25
                  clear hi25 hDone hD
                  generalize wr.setCells w.heap.size 0 D.toList = w9 at hz B3 ⊢
                  have HZ := Lib.hid hz
                  have HB9 := Lib.hid B3
                  clear hz B3
                  go_wp2_with fail
                  refine bodyPost_ret (v := .agg D) (results_cell_row rfl _ _ w.heap.size 25 D _ _ rfl HZ.out Tryd.underlying25 rfl HI.out) rfl ⟨by rw [HO.out], HB9.out⟩
    · have i1 : ¬ (N : Int) % 64 = 56 := by
        intro e
        exact hd ((zs_end t.size j HJ.out).1 (by have := HNN.out; omega))
      go_upto_region 3 with (fail)
      refine wp_region_lit ?_
      iterate 6 go_step
      refine wpList_append_byte rfl _ _ rfl (w.heap.size + 1) (.slice (some ⟨g, 0, none⟩) N cap) N _ rfl HO.out (bb 0) rfl rfl (by omega) HS.out ?_
      intro v5 w5 hO hG
      have hne : some w.heap.size ≠ (Value.slice (some ⟨g, 0, none⟩) N cap).ownBlock := fun e => by have := (HO.out.lt _ e.symm).1; omega
      have H2 := Lib.hid (H2.out.grown hG hne)
      have HB := Lib.hid (HB.out.grown hG HB.out.size (by intro k e; have := (HO.out.lt _ e).1; omega))
      have HS := Lib.hid (show w.heap.size + 1 ≤ w5.heap.size by have := hG.size; have := HS.out; omega)
      have hlen5 : slLen v5 = N + 1 := by obtain ⟨_, g5, c5, _, _, rfl, _⟩ := hO; rfl
      have HL5 := Lib.hid hlen5
      have HO := Lib.hid (show Own1 w5 (w.heap.size + 1) 5 v5 (t.size + 1 + (j + 1)) ((by_ t ++ [128] ++ List.replicate (j + 1) 0).map bb) by
        rw [List.replicate_succ', ← List.append_assoc, List.map_append, show t.size + 1 + (j + 1) = N + 1 by have := HNN.out; omega]; exact hO)
      clear hO hG hne hlen5
      simp only [Act.put]
      go_wp2_with fail
      go_roundw
      case rel => exact ⟨j + 1, by have := HJ.out; omega, HO.out, H2.out, HS.out, HB.out⟩
      case measure =>
        show 150000000001000 - slLen v5 < 150000000001000 - N
        rw [HL5.out]; omega
end Go.Proofs.YtkbcilfcfbfiaaaDoor
