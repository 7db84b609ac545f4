/- The disk: Loose. -/
import Derived.Test.YtnddkodenkmoiaaDisk5
namespace Go.Proofs.Ytnddkodenkmoiaa
open Go.RowKit Go.Proofs
set_option linter.unusedSimpArgs false
set_option linter.unusedVariables false
def ii (x : Int) : Value := .int .i64 x
def RowI (w : World) (v : Value) (xs : List Int) : Prop :=
  (v = .slice none 0 0 ∧ xs = []) ∨ ∃ a c, v = .slice (some a) xs.length c ∧ ∀ j x, xs[j]? = some x → w.cell? (a.add j) = some (.int .i64 x)
/-- v is a row of the ints xs that only its holder knows. -/
def OwnI (w : World) (base : Nat) (v : Value) (xs : List Int) : Prop := w.ownsRow base 3 1 v xs.length (xs.map ii)
theorem OwnI.nil (w : World) (base : Nat) : OwnI w base (.slice none 0 0) [] := ⟨rfl, .inl ⟨rfl, rfl⟩⟩
theorem OwnI.row {w : World} {base : Nat} {v : Value} {xs : List Int} (h : OwnI w base v xs) : RowI w v xs := by
  obtain ⟨h1, ⟨rfl, h⟩ | ⟨g, cap, cur, rfl, h2, h3, h4, h5, h6, h7⟩⟩ := h
  · exact .inl ⟨rfl, List.eq_nil_of_length_eq_zero h⟩
  · refine .inr ⟨⟨g, 0, none⟩, cap, rfl, fun j t hj => ?_⟩
    rw [Addr.add_mid, Nat.zero_add, cell_of_row w g j cur 3 (0, 0) h3]
    have hj2 := (List.getElem?_eq_some_iff.1 hj).1
    have e : (xs.map ii)[j]? = some (.int .i64 t) := by rw [List.getElem?_map, hj]; rfl
    rw [← h7, List.getElem?_take_of_lt (by omega)] at e
    simpa using e
theorem OwnI.lt {w : World} {base : Nat} {v : Value} {xs : List Int} (h : OwnI w base v xs) : ∀ k, v.ownBlock = some k → base ≤ k ∧ k < w.heap.size := by
  obtain ⟨h1, ⟨rfl, h⟩ | ⟨g, cap, cur, rfl, h2, h3, h4, h5, h6, h7⟩⟩ := h
  · intro k hk; cases hk
  · intro k hk
    obtain rfl : g = k := by simpa [Value.ownBlock] using hk
    exact ⟨h2, (Array.getElem?_eq_some_iff.1 h3).1⟩
theorem wpList_ownI {ops : Array Oper} {rest : List Oper} {o : Oper} {a : Act} {w : World} {Q : Exit → Act → World → Prop} (hgd : o.guard = none) (s x : Operand)
    (ho : o.op = .call { callee := .builtin .append, args := #[s, x], argTypes := #[36, 36] })
    (base : Nat) (v : Value) (xs : List Int) (hs : a.eval s = v) (hown : OwnI w base v xs)
    (t : Int) (hx : a.eval x = .slice (some ⟨w.heap.size, 0, none⟩) 1 1)
    (hn : xs.length + 1 ≤ 1000000000) (hbase : base ≤ w.heap.size)
    (h : ∀ v' w', OwnI w' base v' (xs ++ [t]) → w.grownBy w' v.ownBlock → wpList Try.prog ops Q rest (a.put o.dst v') w') : wpList Try.prog ops Q (o :: rest) a (w.alloc (.cells #[.int .i64 t] 3)) := by
  have hs9 : (Try.prog.info? 3).map (fun i => (i.size, i.bytes, i.zero)) = some (1, 8, some (.int .i64 0)) := by kernel_rfl
  obtain ⟨i, hi, hi2⟩ := Option.map_eq_some_iff.1 hs9
  simp only [Prod.mk.injEq] at hi2
  obtain ⟨e1, e2, e3⟩ := hi2
  have hb := Blk.new w 3 #[.int .i64 t]
  have hown2 : (w.alloc (.cells #[.int .i64 t] 3)).ownsRow base 3 1 v xs.length (xs.map ii) := by
    obtain ⟨h1, h | ⟨g, cap, cur, rfl, h2, h3, r⟩⟩ := hown
    · exact ⟨h1, .inl h⟩
    · exact ⟨h1, .inr ⟨g, cap, cur, rfl, h2, (Below.heap_alloc w _ g ((Array.getElem?_eq_some_iff.1 h3).1)).trans h3, r⟩⟩
  refine wpList_append_own (w.alloc (.cells #[.int .i64 t] 3)) hgd s x 36 ho base 3 i (.int .i64 0) 1 8 Try.underlying36 hi e3 e1 e2 rfl (by omega) v xs.length (xs.map ii) hs hown2 ⟨w.heap.size, 0, none⟩ 1 1 [.int .i64 t] hx rfl ?_ (by intro y hy; obtain rfl := List.mem_singleton.1 hy; rfl) (by simp [maxLen]; omega) (by omega) (by simp; omega) ?_
  · intro j y hj
    match j, hj with
    | 0, hj =>
      obtain rfl := Option.some.inj hj
      rw [Addr.add_mid]
      exact hb.cell 0
  · intro v' w' h2 h3 _
    refine h v' w' ?_ (grownBy_trans (World.grownBy_alloc w _ _) h3)
    unfold OwnI
    rw [List.length_append, List.map_append]
    exact h2
/-- The numbers of the loose ones among the first n. -/
def looseTo (L : List Sec) (n : Nat) : List Nat := (List.range n).filter fun k => ((L[k]?).map Sec.loose).getD false
def looseI (L : List Sec) (n : Nat) : List Int := (looseTo L n).map fun (k : Nat) => (k : Int)
theorem looseTo_next (L : List Sec) (n : Nat) (s : Sec) (h : L[n]? = some s) : looseTo L (n + 1) = if s.loose then looseTo L n ++ [n] else looseTo L n := by
  unfold looseTo
  rw [List.range_succ, List.filter_append]
  cases hl : s.loose <;> simp [h, hl]
theorem looseI_next (L : List Sec) (n : Nat) (s : Sec) (h : L[n]? = some s) : looseI L (n + 1) = if s.loose then looseI L n ++ [(n : Int)] else looseI L n := by
  unfold looseI
  rw [looseTo_next L n s h]
  split <;> simp
theorem looseI_length (L : List Sec) (n : Nat) : (looseI L n).length ≤ n := by
  unfold looseI looseTo
  rw [List.length_map]
  exact Nat.le_trans (List.length_filter_le _ _) (by rw [List.length_range]; exact Nat.le_refl _)
set_option maxRecDepth 100000 in
set_option maxHeartbeats 2000000 in
theorem loose_nil (w : World) :
    Calls Try.prog 24 #[.pointer none] w fun e w' => e = .returned (.slice none 0 0) ∧ Below w.heap.size w w' := by
  go_enter Try.func24, Try.ntmps24
  go_wp2_with fail
  refine (sectors_nil w).mono ?_
  rintro e w1 ⟨rfl, rfl⟩
  go_wp2_with fail
  go_loopw [3, 7] (fun v3 v wr => v3 = .slice none 0 0 ∧ v = .int .i64 0 ∧ Below w.heap.size w wr) (fun _ _ _ => 0)
  case atStart => exact ⟨rfl, rfl, Below.refl _ _⟩
  case round =>
    obtain ⟨rfl, rfl, hB⟩ := hrel
    have HB := Lib.hid hB
    clear hB
    go_wp2_with fail
    go_ret
    exact ⟨rfl, HB.out⟩
set_option maxRecDepth 100000 in
set_option maxHeartbeats 2000000 in
theorem loose_any (d g : Nat) (x : Dk) (w : World) (h : DiskAt w d g x) :
    Calls Try.prog 24 #[.pointer (some ⟨d, 0, none⟩)] w fun e w' => ∃ v, e = .returned v ∧ OwnI w' w.heap.size v (looseI x.L x.L.length) ∧ Below w.heap.size w w' := by
  have H := Lib.hid h
  clear h
  go_enter Try.func24, Try.ntmps24
  go_wp2_with fail
  refine (sectors_any d g x w H.out).mono ?_
  rintro e w1 ⟨rfl, rfl⟩
  have hlen := H.out.2.2.2.2
  go_wp2_with fail
  go_loopw [3, 4, 7] (fun v3 _ v7 wr => ∃ i : Nat, i ≤ x.L.length ∧ v7 = .int .i64 (i : Int) ∧ OwnI wr w.heap.size v3 (looseI x.L i) ∧ Below w.heap.size w wr) (fun _ _ v7 _ => x.L.length - (intOf v7).toNat)
  case atStart => exact ⟨0, by omega, rfl, OwnI.nil _ _, Below.refl _ _⟩
  case round =>
    obtain ⟨i, hi, rfl, hO, hB⟩ := hrel
    have HO := Lib.hid hO
    have HB := Lib.hid hB
    clear hO hB
    by_cases hlt : i < x.L.length
    · have i1 : (i : Int) < (x.L.length : Int) := by omega
      obtain ⟨s, hs⟩ : ∃ s, x.L[i]? = some s := ⟨_, List.getElem?_eq_getElem hlt⟩
      have hso : s.ok := H.out.2.2.1 s (List.mem_of_getElem? hs)
      have hD := H.out.below HB.out
      have c0 := hD.row
      have hD2 : DiskAt wr d g (DkS x i s) := by rw [DkS_self hs]; exact hD
      have cl := (hD2.sec hlt 128 (by omega)).trans (secC_loose hso)
      have HL := Lib.hid (looseI_next x.L i s hs)
      clear hs hso hD hD2
      have hll := looseI_length x.L i
      cases hlo : s.loose
      · rw [hlo] at cl
        have hn : looseI x.L (i + 1) = looseI x.L i := by rw [HL.out, hlo]; rfl
        have HN := Lib.hid hn
        clear hn hlo HL
        go_wp2_with fail
        go_roundw
        case rel => exact ⟨i + 1, by omega, by go_num, by rw [HN.out]; exact HO.out, HB.out⟩
        case measure => simp [intOf]; omega
      · rw [hlo] at cl
        have hn : looseI x.L (i + 1) = looseI x.L i ++ [(i : Int)] := by rw [HL.out, hlo]; rfl
        have HN := Lib.hid hn
        clear hn hlo HL
        go_upto_region 6 with (fail)
        refine wp_region_lit ?_
        iterate 9 go_step
        refine wpList_ownI rfl _ _ rfl w.heap.size u3 (looseI x.L i) rfl HO.out (i : Int) rfl (by omega) HB.out.size ?_
        intro v' w' hO hG
        have HB := Lib.hid (HB.out.grown hG HB.out.size (fun k hk => (HO.out.lt k hk).1))
        rw [← HN.out] at hO
        have HO := Lib.hid hO
        clear hO hG cl c0
        simp only [Act.put]
        go_wp2_with fail
        go_roundw
        case rel => exact ⟨i + 1, by omega, by go_num, HO.out, HB.out⟩
        case measure => simp [intOf]; omega
    · have i1 : ¬ ((i : Int) < (x.L.length : Int)) := by omega
      have hiN : i = x.L.length := by omega
      subst hiN
      go_wp2_with fail
      go_ret
      exact ⟨_, rfl, HO.out, HB.out⟩
end Go.Proofs.Ytnddkodenkmoiaa
