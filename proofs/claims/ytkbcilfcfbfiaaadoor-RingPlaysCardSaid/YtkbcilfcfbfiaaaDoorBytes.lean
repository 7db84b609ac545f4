/- Rows of bytes of the call's own, nil or not: a byte behind the others, and the string of all of them. -/
import Derived.Test.YtkbcilfcfbfiaaaDoorRsum
import Derived.Laws.BytesArg
namespace Go.Proofs.YtkbcilfcfbfiaaaDoor
open Go.RowKit Go.Proofs
set_option linter.unusedSimpArgs false
set_option linter.unusedVariables false

/-- v is nil, or a row of the bytes bs in a block from base on of which only v's holder knows. -/
def OwnB (w : World) (base : Nat) (v : Value) (bs : List UInt8) : Prop := (v = .slice none 0 0 ∧ bs = []) ∨ Own1 w base 5 v bs.length (bs.map bb)
theorem OwnB.nil (w : World) (base : Nat) : OwnB w base (.slice none 0 0) [] := .inl ⟨rfl, rfl⟩
theorem OwnB.kept {w w' : World} {base : Nat} {v : Value} {bs : List UInt8} {row : Option Nat} (h : OwnB w base v bs) (hg : w.grownBy w' row) (hne : v.ownBlock ≠ row ∨ row = none) : OwnB w' base v bs := by
  rcases h with h | h
  · exact .inl h
  · exact .inr (h.kept hg hne)
theorem OwnB.below {w w' : World} {B base : Nat} {v : Value} {bs : List UInt8} (h : OwnB w base v bs) (hg : Below B w w') (hB : w.heap.size ≤ B) : OwnB w' base v bs :=
  h.kept (grownBy_of_below ⟨hg.os, hg.tape, hg.output, hg.size, fun i hi => hg.block i (by omega)⟩ none) (.inr rfl)
theorem Own1.keptOn {w w' : World} {base : Nat} {e : TypeId} {v : Value} {n : Nat} {xs : List Value} (h : Own1 w base e v n xs) (hK : KeptOn (fun _ => True) w w') : Own1 w' base e v n xs := by
  obtain ⟨h1, g, cap, cur, fz, rfl, hb, hh, r⟩ := h
  exact ⟨h1, g, cap, cur, fz, rfl, hb, (hK.2 g ((Array.getElem?_eq_some_iff.1 hh).1) trivial).trans hh, r⟩
theorem OwnB.keptOn {w w' : World} {base : Nat} {v : Value} {bs : List UInt8} (h : OwnB w base v bs) (hK : KeptOn (fun _ => True) w w') : OwnB w' base v bs := by
  rcases h with h | h
  · exact .inl h
  · exact .inr (h.keptOn hK)
theorem OwnB.lt {w : World} {base : Nat} {v : Value} {bs : List UInt8} (h : OwnB w base v bs) : ∀ k, v.ownBlock = some k → base ≤ k ∧ k < w.heap.size := by
  rcases h with ⟨rfl, rfl⟩ | h
  · intro k hk; cases hk
  · exact h.lt
theorem Own1.of_owns {w : World} {base n : Nat} {v : Value} {xs : List Value} (h : w.ownsRow base 5 1 v n xs) (hn : 0 < n) : Own1 w base 5 v n xs := by
  obtain ⟨h1, ⟨_, rfl⟩ | ⟨g, cap, cur, rfl, h2, h3, h4, h5, h6, h7⟩⟩ := h
  · omega
  · exact ⟨by omega, g, cap, cur, (0, 0), rfl, h2, h3, .inl rfl, h4, h5, by omega, by simpa using h7⟩
theorem wpList_ownB_byte {ops : Array Oper} {rest : List Oper} {o : Oper} {a : Act} {w : World} {Q : Exit → Act → World → Prop} (hgd : o.guard = none) (s x : Operand)
    (ho : o.op = .call { callee := .builtin .append, args := #[s, x], argTypes := #[29, 29] })
    (base : Nat) (v : Value) (bs : List UInt8) (hs : a.eval s = v) (hown : OwnB w base v bs)
    (u : Value) (c : UInt8) (hu : u = bb c) (hx : a.eval x = .slice (some ⟨w.heap.size, 0, none⟩) 1 1)
    (hn : bs.length + 1 ≤ 200000000000000) (hbase : base ≤ w.heap.size)
    (h : ∀ v' w', OwnB w' base v' (bs ++ [c]) → w.grownBy w' v.ownBlock → wpList Tryd.prog ops Q rest (a.put o.dst v') w') : wpList Tryd.prog ops Q (o :: rest) a (w.alloc (.cells #[u] 5)) := by
  subst hu
  rcases hown with ⟨rfl, rfl⟩ | hown
  · have hs5 : (Tryd.prog.info? 5).map (fun i => (i.size, i.bytes, i.zero)) = some (1, 1, some (.int .u8 0)) := by kernel_rfl
    obtain ⟨i, hi, hi2⟩ := Option.map_eq_some_iff.1 hs5
    simp only [Prod.mk.injEq] at hi2
    obtain ⟨e1, e2, e3⟩ := hi2
    have hb := Blk.new w 5 #[bb c]
    refine wpList_append_own (w.alloc (.cells #[bb c] 5)) hgd s x 29 ho base 5 i (.int .u8 0) 1 1 Tryd.underlying29 hi e3 e1 e2 rfl (by omega) _ 0 [] hs ⟨rfl, .inl ⟨rfl, rfl⟩⟩ ⟨w.heap.size, 0, none⟩ 1 1 [bb c] hx rfl ?_ (by intro y hy; obtain rfl := List.mem_singleton.1 hy; rfl) (by simp [maxLen]) (by omega) (by simp; omega) ?_
    · intro j y hj
      match j, hj with
      | 0, hj =>
        obtain rfl := Option.some.inj hj
        rw [Addr.add_mid]
        exact hb.cell 0
    · intro v' w' h2 h3 _
      have h4 : w'.ownsRow base 5 1 v' 1 [bb c] := h2
      exact h v' w' (.inr (show Own1 w' base 5 v' 1 [bb c] from Own1.of_owns h4 (by omega))) (grownBy_trans (World.grownBy_alloc w _ _) h3)
  · refine wpList_append_byte hgd s x ho base v bs.length (bs.map bb) hs hown (bb c) hx rfl hn hbase ?_
    intro v' w' h2 h3
    refine h v' w' (.inr ?_) h3
    rw [List.length_append, List.map_append]
    exact h2
theorem ownB_string {w : World} {base : Nat} {v : Value} {bs : List UInt8} (h : OwnB w base v bs) : (convert 29 9 v).run Tryd.prog w = .ok (.string ⟨bs.toArray⟩) w := by
  rcases h with ⟨rfl, rfl⟩ | h
  · exact run_convert_bytes_nil (P := Tryd.prog) (w := w) 29 5 Tryd.underlying29 Tryd.underlying5 0 0 9 Tryd.underlying9
  · have h0 := h
    obtain ⟨h1, g, cap, cur, fz, rfl, _⟩ := h
    refine run_convert_bytes_back w 29 9 5 ⟨g, 0, none⟩ cap bs Tryd.underlying29 Tryd.underlying5 Tryd.underlying9 ?_
    intro j hj
    refine h0.cells j _ ?_
    rw [List.getElem?_map, List.getElem?_eq_getElem hj]; rfl
/-- string(b) -/
theorem wpList_ownB_string {ops : Array Oper} {rest : List Oper} {o : Oper} {a : Act} {w : World} {Q : Exit → Act → World → Prop} (hgd : o.guard = none) (x : Operand) (ho : o.op = .convert 29 9 x)
    (base : Nat) (v : Value) (bs : List UInt8) (hx : a.eval x = v) (hown : OwnB w base v bs) (h : wpList Tryd.prog ops Q rest (a.put o.dst (.string ⟨bs.toArray⟩)) w) : wpList Tryd.prog ops Q (o :: rest) a w :=
  wpList_runIs hgd _ w (execConvert 29 9 x ho hx (ownB_string hown)) h
end Go.Proofs.YtkbcilfcfbfiaaaDoor
