/- The reference: Fill. -/
import Derived.Test.YtnddkodenkmoiaaDisk7
import Derived.Test.YtnddkodenkmoiaaTail
import Derived.Lib.ConvBytes
import Derived.Laws.AppendOwnNone
namespace Go.Proofs.Ytnddkodenkmoiaa
open Go.RowKit Go.Proofs
set_option linter.unusedSimpArgs false
set_option linter.unusedVariables false
theorem conv_own (w : World) (s : ByteArray) (hs : s.size ≤ maxLen) : ∃ v w', (convert 9 94 (.string s)).run Try.prog w = .ok v w' ∧ Own1 w' w.heap.size 5 v s.size ((by_ s).map bb) ∧ w.grownBy w' none := by
  have hr := Lib.run_convert_string_bytes (P := Try.prog) w 9 94 5 s Try.underlying9 Try.underlying94 Try.underlying5
  have hcap := grownCap_ge w s.size 0 5
  have hmax := grownCap_le_maxLen w s.size 0 5 hs
  have hsz : s.size = s.data.size := rfl
  have hcs : (Lib.bytesCells w 5 s).size = grownCap w s.size 0 5 := by
    unfold Lib.bytesCells
    simp only [Array.size_append, Array.size_map, Array.size_replicate]
    omega
  refine ⟨_, _, hr, ⟨by rw [List.length_map, ← by_size], w.heap.size, _, _, _, rfl, Nat.le_refl _, Lib.bytesWorld_at_new w 5 s, .inr (Nat.le_refl _), hcap, hmax, hcs, ?_⟩, ?_⟩
  · unfold Lib.bytesCells
    rw [Array.toList_append, List.take_append_of_le_length (by rw [Array.length_toList, Array.size_map]; exact Nat.le_refl _), List.take_of_length_le (by rw [Array.length_toList, Array.size_map]; exact Nat.le_refl _), Array.toList_map]
    rfl
  · refine ⟨rfl, rfl, rfl, ?_, fun i hi _ => Lib.bytesWorld_at_old w 5 s i hi⟩
    rw [Lib.bytesWorld_size]; omega

theorem wpList_append1 {ops : Array Oper} {rest : List Oper} {o : Oper} {a : Act} {w : World} {Q : Exit → Act → World → Prop} (hgd : o.guard = none) (s x : Operand)
    (ho : o.op = .call { callee := .builtin .append, args := #[s, x], argTypes := #[94, 94] })
    (base : Nat) (v : Value) (n : Nat) (xs : List Value) (hs : a.eval s = v) (hown : Own1 w base 5 v n xs)
    (ad : Addr) (m c : Nat) (news : List Value) (hx : a.eval x = .slice (some ad) m c) (hl : news.length = m) (hnews : ∀ j u, news[j]? = some u → w.cell? (ad.add j) = some u) (h1 : ∀ u ∈ news, u.oneCell' = true)
    (hn : n + m ≤ 200000000000000) (hbase : base ≤ w.heap.size)
    (h : ∀ v' w', Own1 w' base 5 v' (n + m) (xs ++ news) → w.grownBy w' v.ownBlock → wpList Try.prog ops Q rest (a.put o.dst v') w') : wpList Try.prog ops Q (o :: rest) a w := by
  have hs5 : (Try.prog.info? 5).map (fun i => (i.size, i.bytes, i.zero)) = some (1, 1, some (.int .u8 0)) := by kernel_rfl
  obtain ⟨i, hi, hi2⟩ := Option.map_eq_some_iff.1 hs5
  simp only [Prod.mk.injEq] at hi2
  obtain ⟨e1, e2, e3⟩ := hi2
  refine wpList_plain hgd fun K hK => ?_
  obtain ⟨v', w', hr, h2, h3⟩ := run_append_own1 (P := Try.prog) w base 94 o.type 5 i (.int .u8 0) 1 Try.underlying94 hi e3 e1 e2 rfl v n xs hown ad m c news hl hnews h1 (by simp only [maxLen]; omega) (by omega) hbase
  unfold Oper.wp execOp
  simp only [ho, resolve, invoke, builtin, Sem.run_bind, Sem.run_pure, Result.andThen_ok, List.map_toArray, List.map_cons, List.map_nil, hs, hx, hr]
  exact hK _ _ (h v' w' h2 h3)
theorem Own1.kept {w w' : World} {base : Nat} {e : TypeId} {v : Value} {n : Nat} {xs : List Value} {row : Option Nat} (h : Own1 w base e v n xs) (hg : w.grownBy w' row) (hne : v.ownBlock ≠ row ∨ row = none) : Own1 w' base e v n xs := by
  obtain ⟨h1, g, cap, cur, fz, rfl, hb, hh, r⟩ := h
  refine ⟨h1, g, cap, cur, fz, rfl, hb, ?_, r⟩
  rw [hg.block g ((Array.getElem?_eq_some_iff.1 hh).1) (by
    rcases hne with hne | rfl
    · exact hne
    · simp)]
  exact hh
theorem Own1.lt {w : World} {base : Nat} {e : TypeId} {v : Value} {n : Nat} {xs : List Value} (h : Own1 w base e v n xs) : ∀ k, v.ownBlock = some k → base ≤ k ∧ k < w.heap.size := by
  obtain ⟨h1, g, cap, cur, fz, rfl, hb, hh, r⟩ := h
  intro k hk
  obtain rfl : g = k := by simpa [Value.ownBlock] using hk
  exact ⟨hb, (Array.getElem?_eq_some_iff.1 hh).1⟩
theorem wpList_runIs {P : Program} {ops : Array Oper} {rest : List Oper} {o : Oper} {a : Act} {w : World} {Q : Exit → Act → World → Prop} (hg : o.guard = none) (v : Value) (w' : World) (hrun : (execOp a.eval o).run P w = .ok (.value v) w')
    (h : wpList P ops Q rest (a.put o.dst v) w') : wpList P ops Q (o :: rest) a w := wpList_plain hg fun _ hK => by
  unfold Oper.wp
  rw [hrun, Oper.upon_value]
  exact hK _ _ h
theorem wpList_append_byte {ops : Array Oper} {rest : List Oper} {o : Oper} {a : Act} {w : World} {Q : Exit → Act → World → Prop} (hgd : o.guard = none) (s x : Operand)
    (ho : o.op = .call { callee := .builtin .append, args := #[s, x], argTypes := #[94, 94] })
    (base : Nat) (v : Value) (n : Nat) (xs : List Value) (hs : a.eval s = v) (hown : Own1 w base 5 v n xs)
    (u : Value) (hx : a.eval x = .slice (some ⟨w.heap.size, 0, none⟩) 1 1) (h1 : u.oneCell' = true)
    (hn : n + 1 ≤ 200000000000000) (hbase : base ≤ w.heap.size)
    (h : ∀ v' w', Own1 w' base 5 v' (n + 1) (xs ++ [u]) → w.grownBy w' v.ownBlock → wpList Try.prog ops Q rest (a.put o.dst v') w') : wpList Try.prog ops Q (o :: rest) a (w.alloc (.cells #[u] 5)) := by
  have hb := Blk.new w 5 #[u]
  refine wpList_append1 hgd s x ho base v n xs hs (hown.kept (World.grownBy_alloc w _ none) (.inr rfl)) ⟨w.heap.size, 0, none⟩ 1 1 [u] hx rfl ?_ (by simpa using h1) hn (by simp; omega) ?_
  · intro j y hj
    match j, hj with
    | 0, hj =>
      obtain rfl := Option.some.inj hj
      rw [Addr.add_mid]
      exact hb.cell 0
  · intro v' w' hO hG
    exact h v' w' hO (grownBy_trans (World.grownBy_alloc w _ _) hG)
theorem Own1.cells {w : World} {base : Nat} {e : TypeId} {n n' cap g : Nat} {xs : List Value} (h : Own1 w base e (.slice (some ⟨g, 0, none⟩) n' cap) n xs) : ∀ j u, xs[j]? = some u → w.cell? ((⟨g, 0, none⟩ : Addr).add j) = some u := by
  obtain ⟨h1, g', cap', cur, fz, hv, hb, hh, _, _, _, _, ht⟩ := h
  simp only [Value.slice.injEq, Option.some.injEq, Addr.mk.injEq] at hv
  obtain ⟨⟨rfl, _⟩, _, _⟩ := hv
  intro j u hu
  rw [Addr.add_mid, Nat.zero_add, cell_of_row w g j cur e fz hh]
  rw [← ht, List.getElem?_take] at hu
  split at hu
  · simpa using hu
  · cases hu

theorem slice_own {w : World} {base : Nat} {e : TypeId} {v : Value} {n : Nat} {xs : List Value} (h : Own1 w base e v n xs) : ∃ g cap, v = .slice (some ⟨g, 0, none⟩) n cap ∧ g < w.heap.size := by
  obtain ⟨h1, g, cap, cur, fz, rfl, hb, hh, r⟩ := h
  exact ⟨g, cap, rfl, (Array.getElem?_eq_some_iff.1 hh).1⟩
def slLen (v : Value) : Nat := match v with | .slice _ n _ => n | _ => 0
set_option maxRecDepth 100000 in
set_option maxHeartbeats 4000000 in
theorem fill_any (t : ByteArray) (w : World) (hn : t.size ≤ 64) :
    Calls Try.prog 48 #[.string t] w fun e w' => e = .returned (.string (strOf (fillOf (by_ t)))) ∧ Below w.heap.size w w' := by
  have HN := Lib.hid hn
  clear hn
  go_enter Try.func48, Try.ntmps48
  go_upto_region 1 with (fail)
  obtain ⟨v1, w3, hr, hO, hG⟩ := conv_own w t (by have := HN.out; simp only [maxLen]; omega)
  refine wp_region_lit ?_
  iterate 3 go_step
  refine wpList_runIs rfl v1 w3 (execConvert 9 94 _ rfl (p := .string t) rfl hr) ?_
  have HB := Lib.hid ((Below.refl w.heap.size w).grown hG (Nat.le_refl _) (by intro k e; cases e))
  have HO := Lib.hid (show Own1 w3 w.heap.size 5 v1 (t.size + 0) ((by_ t ++ List.replicate 0 0).map bb) by simpa using hO)
  clear hr hO hG
  simp only [Act.put]
  go_wp2_with fail
  go_loopw [3] (fun v wr => ∃ j : Nat, t.size + j ≤ 64 ∧ Own1 wr w.heap.size 5 v (t.size + j) ((by_ t ++ List.replicate j 0).map bb) ∧ Below w.heap.size w wr) (fun v _ => 64 - slLen v)
  case atStart => exact ⟨0, by have := HN.out; omega, HO.out, HB.out⟩
  case round =>
    obtain ⟨j, hj, hO, hB⟩ := hrel
    obtain ⟨g, cap, rfl, hgl⟩ := slice_own hO
    clear HO HB
    have HO := Lib.hid hO
    have HB := Lib.hid hB
    clear hO hB
    by_cases hlt : t.size + j < 64
    · have i1 : ((t.size + j : Nat) : Int) < 64 := by omega
      go_upto_region 3 with (fail)
      refine wp_region_lit ?_
      iterate 6 go_step
      refine wpList_append_byte rfl _ _ rfl w.heap.size _ (t.size + j) ((by_ t ++ List.replicate j 0).map bb) rfl HO.out (bb 0) rfl rfl (by omega) HB.out.size ?_
      intro v' w' hO hG
      have HB := Lib.hid (HB.out.grown hG HB.out.size (fun k hk => (HO.out.lt k hk).1))
      have HO := Lib.hid (show Own1 w' w.heap.size 5 v' (t.size + (j + 1)) ((by_ t ++ List.replicate (j + 1) 0).map bb) by
        have e : (by_ t ++ List.replicate (j + 1) 0).map bb = (by_ t ++ List.replicate j 0).map bb ++ [bb 0] := by
          rw [List.replicate_succ', ← List.append_assoc, List.map_append]; rfl
        rw [e]; exact hO)
      obtain ⟨g', cap', rfl, hgl'⟩ := slice_own HO.out
      clear hO hG
      simp only [Act.put]
      go_wp2_with fail
      go_roundw
      case rel => exact ⟨j + 1, by omega, HO.out, HB.out⟩
      case measure => simp [slLen]; omega
    · have i1 : ¬ (((t.size + j : Nat) : Int) < 64) := by omega
      have hj64 : t.size + j = 64 := by omega
      have hfl : by_ t ++ List.replicate j 0 = fillOf (by_ t) := by
        unfold fillOf
        rw [← by_size, show 64 - t.size = j by omega]
      have hlen : (fillOf (by_ t)).length = 64 := fillOf_length (by rw [← by_size]; omega)
      have hO := HO.out
      rw [hfl, hj64] at hO
      rw [hj64] at i1 ⊢
      have hcv := run_convert_bytes_back (P := Try.prog) wr 94 9 5 ⟨g, 0, none⟩ cap (fillOf (by_ t)) Try.underlying94 Try.underlying5 Try.underlying9 (fun k hk => by
        refine hO.cells k _ ?_
        rw [List.getElem?_map, List.getElem?_eq_getElem hk]; rfl)
      rw [hlen] at hcv
      clear hO HO hfl hj64 hj hlt
      go_upto_region 4 with (fail)
      refine wp_region_lit ?_
      iterate 3 go_step
      refine wpList_readIs rfl (.string (strOf (fillOf (by_ t)))) (execConvert 94 9 _ rfl (p := .slice (some ⟨g, 0, none⟩) 64 cap) rfl hcv) ?_
      clear hcv
      simp only [Act.put]
      go_wp2_with fail
      go_ret
      exact ⟨rfl, HB.out⟩
end Go.Proofs.Ytnddkodenkmoiaa
