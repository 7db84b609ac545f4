/- Numbers, laid as digits: the program's. -/
import Derived.Test.YtnddkodenkmoiaaCell10
import Derived.Laws.BytesArg
import Derived.Laws.Bits64
namespace Go.Proofs.Ytnddkodenkmoiaa
open Go.RowKit Go.Proofs
set_option linter.unusedSimpArgs false
set_option linter.unusedVariables false
/-- Digits. -/
def digs (n : Nat) : List UInt8 := if h : n < 10 then [UInt8.ofNat (48 + n)] else digs (n / 10) ++ [UInt8.ofNat (48 + n % 10)]
termination_by n
decreasing_by omega
theorem digs_low {n : Nat} (h : n < 10) : digs n = [UInt8.ofNat (48 + n)] := by rw [digs, dif_pos h]
theorem digs_high {n : Nat} (h : 10 ≤ n) : digs n = digs (n / 10) ++ [UInt8.ofNat (48 + n % 10)] := by rw [digs, dif_neg (by omega)]
theorem digs_cut {n : Nat} (h : 10 ≤ n) : digs n = digs (n / 10) ++ digs (n % 10) := by rw [digs_high h, digs_low (by omega : n % 10 < 10)]
theorem digs_length (k : Nat) : ∀ n, n < 10 ^ (k + 1) → (digs n).length ≤ k + 1 := by
  induction k with
  | zero => intro n h; rw [digs_low (by simpa using h)]; simp
  | succ k ih =>
    intro n h
    by_cases h10 : n < 10
    · rw [digs_low h10]; simp
    · rw [digs_high (by omega), List.length_append]
      have := ih (n / 10) (by rw [Nat.pow_succ] at h; omega)
      simp only [List.length_singleton]; omega
def numOf (n : Int) : List UInt8 := if n < 0 then 45 :: (digs n.natAbs ++ [59]) else digs n.natAbs ++ [59]
theorem digs_size (n : Nat) (h : n ≤ 18446744073709551616) : (digs n).length ≤ 20 := digs_length 19 n (by omega)
theorem numOf_length (n : Int) (h : n.natAbs ≤ 9223372036854775808) : (numOf n).length ≤ 22 := by
  have := digs_size n.natAbs (by omega)
  unfold numOf; split <;> simp <;> omega
/-- v is nil, or a row of the bytes bs in a block from base on of which only v's holder knows. -/
def OwnB (w : World) (base : Nat) (v : Value) (bs : List UInt8) : Prop := (v = .slice none 0 0 ∧ bs = []) ∨ Own1 w base 5 v bs.length (bs.map bb)
theorem OwnB.nil (w : World) (base : Nat) : OwnB w base (.slice none 0 0) [] := .inl ⟨rfl, rfl⟩
theorem OwnB.kept {w w' : World} {base : Nat} {v : Value} {bs : List UInt8} {row : Option Nat} (h : OwnB w base v bs) (hg : w.grownBy w' row) (hne : v.ownBlock ≠ row ∨ row = none) : OwnB w' base v bs := by
  rcases h with h | h
  · exact .inl h
  · exact .inr (h.kept hg hne)
theorem OwnB.below {w w' : World} {B base : Nat} {v : Value} {bs : List UInt8} (h : OwnB w base v bs) (hg : Below B w w') (hB : w.heap.size ≤ B) : OwnB w' base v bs :=
  h.kept (grownBy_of_below ⟨hg.os, hg.tape, hg.output, hg.size, fun i hi => hg.block i (by omega)⟩ none) (.inr rfl)
theorem Own1.keptOn {w w' : World} {base : Nat} {e : TypeId} {v : Value} {n : Nat} {xs : List Value} (h : Own1 w base e v n xs) (hK : KeptOn (fun _ => True) w w') : Own1 w' base e v n xs := by
  obtain ⟨h1, g, cap, cur, fz, rfl, hb, hh, r⟩ := h
  exact ⟨h1, g, cap, cur, fz, rfl, hb, (hK.2 g ((Array.getElem?_eq_some_iff.1 hh).1) trivial).trans hh, r⟩
theorem OwnB.keptOn {w w' : World} {base : Nat} {v : Value} {bs : List UInt8} (h : OwnB w base v bs) (hK : KeptOn (fun _ => True) w w') : OwnB w' base v bs := by
  rcases h with h | h
  · exact .inl h
  · exact .inr (h.keptOn hK)
theorem OwnB.lt {w : World} {base : Nat} {v : Value} {bs : List UInt8} (h : OwnB w base v bs) : ∀ k, v.ownBlock = some k → base ≤ k ∧ k < w.heap.size := by
  rcases h with ⟨rfl, rfl⟩ | h
  · intro k hk; cases hk
  · exact h.lt
theorem Own1.fresh (w : World) (base : Nat) (u : Value) (hb : base ≤ w.heap.size) : Own1 (w.alloc (.cells #[u] 5)) base 5 (.slice (some ⟨w.heap.size, 0, none⟩) 1 1) 1 [u] :=
  ⟨rfl, w.heap.size, 1, #[u], (0, 0), rfl, hb, Blk.new w 5 #[u], .inl rfl, by omega, by simp [maxLen], rfl, rfl⟩
theorem Own1.of_owns {w : World} {base n : Nat} {v : Value} {xs : List Value} (h : w.ownsRow base 5 1 v n xs) (hn : 0 < n) : Own1 w base 5 v n xs := by
  obtain ⟨h1, ⟨_, rfl⟩ | ⟨g, cap, cur, rfl, h2, h3, h4, h5, h6, h7⟩⟩ := h
  · omega
  · exact ⟨by omega, g, cap, cur, (0, 0), rfl, h2, h3, .inl rfl, h4, h5, by omega, by simpa using h7⟩
theorem wpList_ownB_byte {ops : Array Oper} {rest : List Oper} {o : Oper} {a : Act} {w : World} {Q : Exit → Act → World → Prop} (hgd : o.guard = none) (s x : Operand)
    (ho : o.op = .call { callee := .builtin .append, args := #[s, x], argTypes := #[94, 94] })
    (base : Nat) (v : Value) (bs : List UInt8) (hs : a.eval s = v) (hown : OwnB w base v bs)
    (u : Value) (c : UInt8) (hu : u = bb c) (hx : a.eval x = .slice (some ⟨w.heap.size, 0, none⟩) 1 1)
    (hn : bs.length + 1 ≤ 200000000000000) (hbase : base ≤ w.heap.size)
    (h : ∀ v' w', OwnB w' base v' (bs ++ [c]) → w.grownBy w' v.ownBlock → wpList Try.prog ops Q rest (a.put o.dst v') w') : wpList Try.prog ops Q (o :: rest) a (w.alloc (.cells #[u] 5)) := by
  subst hu
  rcases hown with ⟨rfl, rfl⟩ | hown
  · have hs5 : (Try.prog.info? 5).map (fun i => (i.size, i.bytes, i.zero)) = some (1, 1, some (.int .u8 0)) := by kernel_rfl
    obtain ⟨i, hi, hi2⟩ := Option.map_eq_some_iff.1 hs5
    simp only [Prod.mk.injEq] at hi2
    obtain ⟨e1, e2, e3⟩ := hi2
    have hb := Blk.new w 5 #[bb c]
    refine wpList_append_own (w.alloc (.cells #[bb c] 5)) hgd s x 94 ho base 5 i (.int .u8 0) 1 1 Try.underlying94 hi e3 e1 e2 rfl (by omega) _ 0 [] hs ⟨rfl, .inl ⟨rfl, rfl⟩⟩ ⟨w.heap.size, 0, none⟩ 1 1 [bb c] hx rfl ?_ (by intro y hy; obtain rfl := List.mem_singleton.1 hy; rfl) (by simp [maxLen]) (by omega) (by simp; omega) ?_
    · intro j y hj
      match j, hj with
      | 0, hj =>
        obtain rfl := Option.some.inj hj
        rw [Addr.add_mid]
        exact hb.cell 0
    · intro v' w' h2 h3 _
      have h4 : w'.ownsRow base 5 1 v' 1 [bb c] := h2
      exact h v' w' (.inr (show Own1 w' base 5 v' 1 [bb c] from Own1.of_owns h4 (by omega))) (grownBy_trans (World.grownBy_alloc w _ _) h3)
  · refine wpList_append_byte hgd s x ho base v bs.length (bs.map bb) hs hown (bb c) hx rfl hn hbase ?_
    intro v' w' h2 h3
    refine h v' w' (.inr ?_) h3
    rw [List.length_append, List.map_append]
    exact h2
theorem ownB_string {w : World} {base : Nat} {v : Value} {bs : List UInt8} (h : OwnB w base v bs) : (convert 94 9 v).run Try.prog w = .ok (.string ⟨bs.toArray⟩) w := by
  rcases h with ⟨rfl, rfl⟩ | h
  · exact run_convert_bytes_nil (P := Try.prog) (w := w) 94 5 Try.underlying94 Try.underlying5 0 0 9 Try.underlying9
  · have h0 := h
    obtain ⟨h1, g, cap, cur, fz, rfl, _⟩ := h
    refine run_convert_bytes_back w 94 9 5 ⟨g, 0, none⟩ cap bs Try.underlying94 Try.underlying5 Try.underlying9 ?_
    intro j hj
    refine h0.cells j _ ?_
    rw [List.getElem?_map, List.getElem?_eq_getElem hj]; rfl
/-- string(b) -/
theorem wpList_ownB_string {ops : Array Oper} {rest : List Oper} {o : Oper} {a : Act} {w : World} {Q : Exit → Act → World → Prop} (hgd : o.guard = none) (x : Operand) (ho : o.op = .convert 94 9 x)
    (base : Nat) (v : Value) (bs : List UInt8) (hx : a.eval x = v) (hown : OwnB w base v bs) (h : wpList Try.prog ops Q rest (a.put o.dst (.string ⟨bs.toArray⟩)) w) : wpList Try.prog ops Q (o :: rest) a w :=
  wpList_runIs hgd _ w (execConvert 94 9 x ho hx (ownB_string hown)) h
theorem strOf_append (a b : List UInt8) : strOf a ++ strOf b = strOf (a ++ b) := by
  unfold strOf; ext1; simp
theorem dig_byte (n : Nat) : (Value.int .u8 (48 + (n : Int) % 10)) = bb (UInt8.ofNat (48 + n % 10)) := by
  unfold bb
  rw [UInt8.toNat_ofNat']
  congr 1; omega
theorem strOf_app (X : List UInt8) (t : ByteArray) : strOf X ++ t = strOf (X ++ by_ t) := by rw [← strOf_append, strOf_by]
set_option maxRecDepth 100000 in
set_option maxHeartbeats 2000000 in
theorem digits_any (base : Nat) (v : Value) (bs : List UInt8) (hbs : bs.length < 1000) : ∀ (n : Nat), n < 18446744073709551616 → ∀ (w : World), OwnB w base v bs → base ≤ w.heap.size →
    Calls Try.prog 76 #[v, .int .u64 (n : Int)] w fun e w' => ∃ v', e = .returned v' ∧ OwnB w' base v' (bs ++ digs n) ∧ Below base w w' := by
  intro n
  induction n using Nat.strongRecOn with
  | _ n ih =>
  intro hn w hO hb
  have HO := Lib.hid hO
  have HS := Lib.hid hb
  have IH := Lib.hid ih
  clear hO hb ih
  go_enter Try.func76, Try.ntmps76
  by_cases h10 : 10 ≤ n
  · have i1 : (10 : Int) ≤ (n : Int) := by omega
    go_wp2_with fail
    have hdiv : (n : Int) / 10 = ((n / 10 : Nat) : Int) := by omega
    rw [hdiv]
    have hn10 : n / 10 < n := by omega
    refine (IH.out (n / 10) hn10 (by omega) w HO.out HS.out).mono ?_
    rintro e w2 ⟨v2, rfl, hO, hb⟩
    have hdl := digs_size (n / 10) (by omega)
    have HE := Lib.hid (show bs ++ digs (n / 10) ++ [UInt8.ofNat (48 + n % 10)] = bs ++ digs n by rw [digs_high h10, List.append_assoc])
    generalize digs (n / 10) = P at *
    have HO := Lib.hid hO
    have HS := Lib.hid (show base ≤ w2.heap.size by have := hb.size; have := HS.out; omega)
    have HB := Lib.hid hb
    clear hO hb hdiv
    go_upto_region 3 with (fail)
    refine wp_region_lit ?_
    iterate 18 go_step
    refine wpList_ownB_byte rfl _ _ rfl base v2 (bs ++ P) rfl HO.out _ (UInt8.ofNat (48 + n % 10)) (dig_byte n) rfl (by rw [List.length_append]; omega) HS.out ?_
    intro v' w' hO hG
    have HB := Lib.hid (HB.out.grown hG HS.out (fun k hk => (HO.out.lt k hk).1))
    rw [HE.out] at hO
    have HO := Lib.hid hO
    clear hO hG
    simp only [Act.put]
    go_wp2_with fail
    go_ret
    exact ⟨v', rfl, HO.out, HB.out⟩
  · have i1 : ¬ ((10 : Int) ≤ (n : Int)) := by omega
    have HE := Lib.hid (show bs ++ [UInt8.ofNat (48 + n % 10)] = bs ++ digs n by rw [digs_low (by omega), Nat.mod_eq_of_lt (by omega)])
    have HB := Lib.hid (Below.refl base w)
    go_upto_region 3 with (fail)
    refine wp_region_lit ?_
    iterate 18 go_step
    refine wpList_ownB_byte rfl _ _ rfl base v (bs) rfl HO.out _ (UInt8.ofNat (48 + n % 10)) (dig_byte n) rfl (by omega) HS.out ?_
    intro v' w' hO hG
    have HB := Lib.hid (HB.out.grown hG HS.out (fun k hk => (HO.out.lt k hk).1))
    rw [HE.out] at hO
    have HO := Lib.hid hO
    clear hO hG
    simp only [Act.put]
    go_wp2_with fail
    go_ret
    exact ⟨v', rfl, HO.out, HB.out⟩
set_option maxRecDepth 100000 in
set_option maxHeartbeats 2000000 in
theorem numberL_any (n : Int) (h1 : -9223372036854775808 ≤ n) (h2 : n ≤ 9223372036854775807) (w : World) :
    Calls Try.prog 73 #[.int .i64 n] w fun e w' => e = .returned (.string (strOf (numOf n))) ∧ Below w.heap.size w w' := by
  go_enter Try.func73, Try.ntmps73
  by_cases hneg : n < 0
  · go_upto_region 2 with (fail)
    refine wp_region_lit ?_
    iterate 14 go_step
    have hw : IntKind.u64.wrap (-IntKind.u64.wrap n) = ((n.natAbs : Nat) : Int) := by
      rw [IntKind.wrap_u64, IntKind.wrap_u64]; omega
    rw [hw]
    have HE := Lib.hid (show [45] ++ digs n.natAbs ++ [59] = numOf n by unfold numOf; rw [if_pos hneg]; rfl)
    have HL := Lib.hid (digs_size n.natAbs (by omega))
    have hO : OwnB (w.alloc (.cells #[.int .u8 45] 5)) w.heap.size (.slice (some ⟨w.heap.size, 0, none⟩) 1 1) [45] := .inr (Own1.fresh w w.heap.size (bb 45) (Nat.le_refl _))
    have B := (Below.refl w.heap.size w).alloc (Nat.le_refl _) (.cells #[.int .u8 45] 5)
    generalize w.alloc (.cells #[.int .u8 45] 5) = w1 at hO B ⊢
    refine (digits_any w.heap.size _ [45] (by decide) n.natAbs (by omega) w1 hO B.size).mono ?_
    generalize digs n.natAbs = P at HE HL
    have HB1 := Lib.hid B
    clear hw hO B
    rintro e w2 ⟨v2, rfl, hO, hb⟩
    have HO := Lib.hid hO
    have HB := Lib.hid (HB1.out.trans hb)
    clear hO hb
    dsimp only
    iterate 4 go_step
    refine wpList_ownB_byte rfl _ _ rfl w.heap.size v2 ([45] ++ P) rfl HO.out _ 59 rfl rfl (by rw [List.length_append]; have := HL.out; simp; omega) HB.out.size ?_
    intro v' w' hO hG
    have HB := Lib.hid (HB.out.grown hG HB.out.size (fun k hk => (HO.out.lt k hk).1))
    rw [HE.out] at hO
    have HO := Lib.hid hO
    clear hO hG
    simp only [Act.put]
    refine wpList_ownB_string rfl _ rfl _ v' _ rfl HO.out ?_
    simp only [Act.put]
    go_wp2_with fail
    go_ret
    exact ⟨rfl, HB.out⟩
  · go_upto_region 3 with (fail)
    refine wp_region_lit ?_
    iterate 8 go_step
    have HE := Lib.hid (show [] ++ digs n.natAbs ++ [59] = numOf n by unfold numOf; rw [if_neg hneg]; rfl)
    have HL := Lib.hid (digs_size n.natAbs (by omega))
    have hd := digits_any w.heap.size _ [] (by decide) n.natAbs (by omega) w (OwnB.nil _ _) (Nat.le_refl _)
    rw [show ((n.natAbs : Nat) : Int) = n by omega] at hd
    refine hd.mono ?_
    clear hd
    generalize digs n.natAbs = P at HE HL
    rintro e w2 ⟨v2, rfl, hO, hb⟩
    have HO := Lib.hid hO
    have HB := Lib.hid hb
    clear hO hb
    dsimp only
    iterate 4 go_step
    refine wpList_ownB_byte rfl _ _ rfl w.heap.size v2 ([] ++ P) rfl HO.out _ 59 rfl rfl (by have := HL.out; simp; omega) HB.out.size ?_
    intro v' w' hO hG
    have HB := Lib.hid (HB.out.grown hG HB.out.size (fun k hk => (HO.out.lt k hk).1))
    rw [HE.out] at hO
    have HO := Lib.hid hO
    clear hO hG
    simp only [Act.put]
    refine wpList_ownB_string rfl _ rfl _ v' _ rfl HO.out ?_
    simp only [Act.put]
    go_wp2_with fail
    go_ret
    exact ⟨rfl, HB.out⟩
end Go.Proofs.Ytnddkodenkmoiaa
