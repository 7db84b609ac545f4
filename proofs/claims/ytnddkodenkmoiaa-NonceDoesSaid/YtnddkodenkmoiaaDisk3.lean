/- The disk: Write. -/
import Derived.Test.YtnddkodenkmoiaaDisk2
import Derived.Laws.IdiomStrings
import Derived.Lib.LazyBuf
import Derived.Deep.MidRow
namespace Go.Proofs.Ytnddkodenkmoiaa
open Go.RowKit Go.Proofs
set_option linter.unusedSimpArgs false
set_option linter.unusedVariables false
/-- copy of a string into a slice: as much as there is room. -/
theorem run_copy_cut {P : Program} (w : World) (dT sT ty elem : TypeId) (b o dLen dCap m : Nat) (t : ByteArray)
    (hu : P.underlying dT = some (.slice elem)) (hz : ∀ w, (Go.sizeOf elem).run P w = .ok 1 w) (hm : m = Nat.min t.size dLen)
    (ht : w.there b o m) :
    (Builtin.copy_ #[dT, sT] ty #[.slice (some ⟨b, o, none⟩) dLen dCap, .string t]).run P w = .ok (goInt m) (w.setCells b o ((t.data.toList.take m).map bb)) := by
  have hs : t.size = t.data.toList.length := Lib.size_eq t
  have hmin : Nat.min t.data.toList.length dLen = m := by rw [hm, hs]
  have hle : m ≤ t.data.toList.length := by rw [← hmin]; exact Nat.min_le_left _ _
  have hl : ((t.data.toList.take m).map bb).length = m := by rw [List.length_map, List.length_take]; omega
  have hst := run_storeCells_cells (P := P) b o ((t.data.toList.take m).map bb) 0 w (fun j hj => by rw [hl] at hj; simpa using (ht j (by simpa using hj)).1) (fun j hj => by rw [hl] at hj; simpa using (ht j (by simpa using hj)).2) (by
    intro v hv
    obtain ⟨x, _, rfl⟩ := List.mem_map.1 hv
    rfl)
  have hmin2 : Nat.min t.size dLen = m := hm.symm
  simp [Builtin.copy_, run_underlying hu, Builtin.lenOf, Builtin.firstCells, hz, hmin2]
  rw [← List.map_take]
  rw [show (fun x : UInt8 => Value.int .u8 (x.toNat : Int)) = bb from rfl, hst, Nat.add_zero, List.map_take]
  rfl
theorem wpList_copyIs {P : Program} {ops : Array Oper} {rest : List Oper} {o : Oper} {a : Act} {w : World} {Q : Exit → Act → World → Prop} (hgd : o.guard = none) (d s : Operand) (t t' : TypeId)
    (ho : o.op = .call { callee := .builtin .copy, args := #[d, s], argTypes := #[t, t'] }) (v u : Value) (hd : a.eval d = v) (hs : a.eval s = u) {v' : Value} {w' : World}
    (hr : (Builtin.copy_ #[t, t'] o.type #[v, u]).run P w = .ok v' w') (h : wpList P ops Q rest (a.put o.dst v') w') : wpList P ops Q (o :: rest) a w :=
  wpList_plain hgd fun _ hK => by
    unfold Oper.wp execOp
    simp only [ho, resolve, invoke, builtin, Sem.run_bind, Sem.run_pure, Result.andThen_ok, List.map_toArray, List.map_cons, List.map_nil, hd, hs, hr]
    exact hK _ _ h

theorem wpList_readIs {P : Program} {ops : Array Oper} {rest : List Oper} {o : Oper} {a : Act} {w : World} {Q : Exit → Act → World → Prop} (hg : o.guard = none) (v : Value) (hrun : (execOp a.eval o).run P w = .ok (.value v) w)
    (h : wpList P ops Q rest (a.put o.dst v) w) : wpList P ops Q (o :: rest) a w := wpList_plain hg fun _ hK => by
  unfold Oper.wp
  rw [hrun, Oper.upon_value]
  exact hK _ _ h
theorem wpList_buildIs {P : Program} {ops : Array Oper} {rest : List Oper} {o : Oper} {a : Act} {w : World} {Q : Exit → Act → World → Prop} (hg : o.guard = none) (t : TypeId) (parts : Array (Nat × Operand)) (ho : o.op = .build t parts)
    (cs : Array Value) (hf : P.built t (parts.map fun (i, x) => (i, a.eval x)).toList = some cs) (h : wpList P ops Q rest (a.put o.dst (.agg cs)) w) : wpList P ops Q (o :: rest) a w :=
  wpList_build hg t parts ho (by rw [hf]; rfl) (by rw [hf]; exact h)
theorem size5 (w : World) : (Go.sizeOf 5).run Try.prog w = .ok 1 w := by
  have hs : (Try.prog.info? 5).map (·.size) = some 1 := by kernel_rfl
  obtain ⟨i, hi, hi2⟩ := Option.map_eq_some_iff.1 hs
  simp [Go.sizeOf, typeInfo, hi, hi2]
theorem bbs_one (l : List UInt8) : ((l.map bb).toArray).all (·.oneCell') = true := by
  refine all_oneCell_toArray fun v hv => ?_
  obtain ⟨x, _, rfl⟩ := List.mem_map.1 hv
  rfl
theorem splice (p a b c : List Value) (h : a.length = b.length) (k : Nat) : (p ++ (b ++ c))[k]? = if p.length ≤ k ∧ k < p.length + b.length then b[k - p.length]? else (p ++ (a ++ c))[k]? := by
  by_cases h1 : p.length ≤ k
  · rw [List.getElem?_append_right h1, List.getElem?_append_right h1]
    by_cases h2 : k < p.length + b.length
    · rw [if_pos ⟨h1, h2⟩, List.getElem?_append_left (by omega)]
    · rw [if_neg (by omega), List.getElem?_append_right (by omega), List.getElem?_append_right (by omega), h]
  · rw [if_neg (by omega), List.getElem?_append_left (by omega), List.getElem?_append_left (by omega)]
theorem secC_b' {s : Sec} (h : s.ok) (v : List UInt8) (hv : v.length ≤ 64) : ∀ k, k < 129 → (secC { s with b := v ++ s.b.drop v.length })[k]? = if 0 ≤ k ∧ k < 0 + (v.map bb).length then (v.map bb)[k - 0]? else (secC s)[k]? := by
  intro k _
  have hb := h.1
  have e1 : secC { s with b := v ++ s.b.drop v.length } = [] ++ (v.map bb ++ ((s.b.drop v.length).map bb ++ (s.old.map bb ++ [.bool s.loose]))) := by
    unfold secC; simp
  have e2 : secC s = [] ++ ((s.b.take v.length).map bb ++ ((s.b.drop v.length).map bb ++ (s.old.map bb ++ [.bool s.loose]))) := by
    have e : s.b.map bb = (s.b.take v.length).map bb ++ (s.b.drop v.length).map bb := by rw [← List.map_append, List.take_append_drop]
    unfold secC
    rw [e, List.nil_append, List.append_assoc]
  rw [e1, e2]
  exact splice [] _ _ _ (by rw [List.length_map, List.length_map, List.length_take]; omega) k
theorem secC_old' {s : Sec} (h : s.ok) (v : List UInt8) (hv : v.length = 64) : ∀ k, k < 129 → (secC { s with old := v })[k]? = if 64 ≤ k ∧ k < 64 + (v.map bb).length then (v.map bb)[k - 64]? else (secC s)[k]? := by
  intro k _
  have hb : (s.b.map bb).length = 64 := by rw [List.length_map]; exact h.1
  have := splice (s.b.map bb) (s.old.map bb) (v.map bb) [.bool s.loose] (by rw [List.length_map, List.length_map, h.2, hv]) k
  rw [hb] at this
  exact this
theorem secC_loose' {s : Sec} (h : s.ok) (l : Bool) : ∀ k, k < 129 → (secC { s with loose := l })[k]? = if 128 ≤ k ∧ k < 128 + [Value.bool l].length then [Value.bool l][k - 128]? else (secC s)[k]? := by
  intro k _
  have hb : (s.b.map bb ++ s.old.map bb).length = 128 := by rw [List.length_append, List.length_map, List.length_map, h.1, h.2]
  have := splice (s.b.map bb ++ s.old.map bb) [.bool s.loose] [.bool l] [] rfl k
  rw [hb] at this
  simp only [List.append_nil, List.append_assoc] at this
  exact this
/-- The disk with another sector at a place. -/
def DkS (x : Dk) (j : Nat) (s : Sec) : Dk := { x with L := x.L.set j s }
theorem DkS_self {x : Dk} {j : Nat} {s : Sec} (h : x.L[j]? = some s) : DkS x j s = x := by
  unfold DkS
  have : x.L.set j s = x.L := by
    obtain ⟨hj, rfl⟩ := List.getElem?_eq_some_iff.1 h
    exact List.set_getElem_self hj
  rw [this]
theorem DiskAt.cells {w : World} {d g : Nat} {x : Dk} {j : Nat} {s s' : Sec} (h : DiskAt w d g (DkS x j s)) (hj : j < x.L.length) (hs' : s'.ok) (o : Nat) (vs : List Value) (ho : o + vs.length ≤ 129)
    (hv : ∀ k, k < 129 → (secC s')[k]? = if o ≤ k ∧ k < o + vs.length then vs[k - o]? else (secC s)[k]?) : DiskAt (w.setCells g (j * 129 + o) vs) d g (DkS x j s') := by
  have hne := h.ne
  obtain ⟨h1, h2, h3, h4, h5⟩ := h
  have hl : (DkS x j s).L.length = x.L.length := List.length_set
  have hl' : (DkS x j s').L.length = x.L.length := List.length_set
  have hg : (DkS x j s).L[j]? = some s := List.getElem?_set_self hj
  have hu := rowC_upd h3 j hg hs' o vs ho hv
  have hss : (DkS x j s).L.set j s' = (DkS x j s').L := List.set_set _
  rw [hss] at hu
  refine ⟨?_, ?_, ?_, by rw [hl']; rw [hl] at h4; exact h4, by rw [hl']; rw [hl] at h5; exact h5⟩
  · have := h1.setCells_far (b := g) vs hne (j * 129 + o)
    rw [hl'] ; rw [hl] at this; exact this
  · have := h2.setCells vs (j * 129 + o)
    rw [Nat.mul_comm j 129, hu] at this
    rw [Nat.mul_comm j 129]; exact this
  · rw [← hss]; exact h3.set j hs'
theorem DiskAt.sec {w : World} {d g : Nat} {x : Dk} {j : Nat} {s : Sec} (h : DiskAt w d g (DkS x j s)) (hj : j < x.L.length) (k : Nat) (hk : k < 129) : w.cell? ⟨g, j * 129 + k, none⟩ = (secC s)[k]? := by
  obtain ⟨h1, h2, h3, h4, h5⟩ := h
  have hg : (DkS x j s).L[j]? = some s := List.getElem?_set_self hj
  refine (h2.cell (j * 129 + k)).trans ?_
  rw [List.getElem?_toArray, Nat.mul_comm j 129, rowC_get h3 j k hk, hg]; rfl
theorem DiskAt.thereS {w : World} {d g : Nat} {x : Dk} {j : Nat} {s : Sec} (h : DiskAt w d g (DkS x j s)) (hj : j < x.L.length) (o n : Nat) (hn : o + n ≤ 129) : w.there g (j * 129 + o) n := by
  have hl : (DkS x j s).L.length = x.L.length := List.length_set
  refine h.2.1.there (j * 129 + o) n ?_
  rw [List.size_toArray, rowC_length h.2.2.1, hl]; omega
theorem Only2.cells {d g : Nat} {a b : World} (h : Only2 d g a b) (o : Nat) (vs : List Value) : Only2 d g a (b.setCells g o vs) := by
  have k := only_setCells b g o vs
  exact h.trans ⟨k.os, k.tape, k.output, k.size, fun i hi _ h2 => k.block i hi (fun e => h2 (Option.some.inj e))⟩
def by_ (t : ByteArray) : List UInt8 := t.data.toList
theorem by_size (t : ByteArray) : t.size = (by_ t).length := Lib.size_eq t
/-- A text, and bytes 0 behind it. -/
def fillOf (t : List UInt8) : List UInt8 := t ++ List.replicate (64 - t.length) 0
theorem fillOf_length {t : List UInt8} (h : t.length ≤ 64) : (fillOf t).length = 64 := by unfold fillOf; rw [List.length_append, List.length_replicate]; omega
/-- Write: what is answered, and the disk behind it. -/
def Sec.loosen (s : Sec) : Sec := if s.loose then s else { s with old := s.b, loose := true }
def Sec.put (s : Sec) (t : List UInt8) : Sec := { s.loosen with b := fillOf t }
def Dk.writeR (x : Dk) (i : Int) (t : ByteArray) : Int :=
  if x.down then 12 else if i < 0 ∨ (x.L.length : Int) ≤ i then 3 else if 64 < t.size then 4 else if x.goes.down then 12 else 0
def Dk.putAt (x : Dk) (i : Nat) (t : ByteArray) : Dk := match x.L[i]? with
  | some s => { x with L := x.L.set i (s.put (by_ t)) }
  | none => x
def Dk.write (x : Dk) (i : Int) (t : ByteArray) : Dk :=
  if x.down then x else if i < 0 ∨ (x.L.length : Int) ≤ i then x else if 64 < t.size then x else (x.putAt i.toNat t).goes
theorem goes_down_L (x : Dk) (l : List Sec) : ({ x with L := l } : Dk).goes.down = x.goes.down := by
  unfold Dk.goes
  by_cases h : 0 < x.armed
  · rw [if_pos h, if_pos (show 0 < ({ x with L := l } : Dk).armed from h)]
  · rw [if_neg h, if_neg (show ¬ 0 < ({ x with L := l } : Dk).armed from h)]
set_option maxRecDepth 100000 in
set_option maxHeartbeats 4000000 in
theorem write_any (d g : Nat) (x : Dk) (i : Int) (t : ByteArray) (w : World) (h : DiskAt w d g x) (ha : x.armed ≤ 9223372036854775807) :
    Calls Try.prog 17 #[.pointer (some ⟨d, 0, none⟩), .int .i64 i, .string t] w fun e w' => e = .returned (.int .i64 (x.writeR i t)) ∧ DiskAt w' d g (x.write i t) ∧ Only2 d g w w' := by
  have H := Lib.hid h
  have c0 := h.row
  have hlen := h.2.2.2.2
  clear h
  go_enter Try.func17, Try.ntmps17
  go_wp2_with fail
  refine (works_any d g x w H.out).mono ?_
  rintro e w1 ⟨rfl, rfl⟩
  by_cases hd : x.down = true
  · have HR := Lib.hid (show x.writeR i t = 12 by unfold Dk.writeR; rw [if_pos hd])
    have HW := Lib.hid (show x.write i t = x by unfold Dk.write; rw [if_pos hd])
    rw [if_pos hd]
    clear hd
    go_wp2_with fail
    go_ret
    exact ⟨by rw [HR.out]; rfl, by rw [HW.out]; exact H.out, Only2.refl _ _ _⟩
  · rw [if_neg hd]
    by_cases h1 : i < 0
    · have HR := Lib.hid (show x.writeR i t = 3 by unfold Dk.writeR; rw [if_neg hd, if_pos (.inl h1)])
      have HW := Lib.hid (show x.write i t = x by unfold Dk.write; rw [if_neg hd, if_pos (.inl h1)])
      clear hd
      go_wp2_with fail
      go_ret
      exact ⟨by rw [HR.out]; rfl, by rw [HW.out]; exact H.out, Only2.refl _ _ _⟩
    · by_cases h2 : (x.L.length : Int) ≤ i
      · have HR := Lib.hid (show x.writeR i t = 3 by unfold Dk.writeR; rw [if_neg hd, if_pos (.inr h2)])
        have HW := Lib.hid (show x.write i t = x by unfold Dk.write; rw [if_neg hd, if_pos (.inr h2)])
        clear hd
        go_wp2_with fail
        go_ret
        exact ⟨by rw [HR.out]; rfl, by rw [HW.out]; exact H.out, Only2.refl _ _ _⟩
      · by_cases h3 : 64 < t.size
        · have HR := Lib.hid (show x.writeR i t = 4 by unfold Dk.writeR; rw [if_neg hd, if_neg (by omega), if_pos h3])
          have HW := Lib.hid (show x.write i t = x by unfold Dk.write; rw [if_neg hd, if_neg (by omega), if_pos h3])
          clear hd
          go_wp2_with fail
          go_ret
          exact ⟨by rw [HR.out]; rfl, by rw [HW.out]; exact H.out, Only2.refl _ _ _⟩
        · have HR := Lib.hid (show x.writeR i t = if x.goes.down then 12 else 0 by unfold Dk.writeR; rw [if_neg hd, if_neg (by omega), if_neg h3])
          have HW := Lib.hid (show x.write i t = (x.putAt i.toNat t).goes by unfold Dk.write; rw [if_neg hd, if_neg (by omega), if_neg h3])
          obtain ⟨j, rfl⟩ : ∃ j : Nat, i = (j : Int) := ⟨i.toNat, by omega⟩
          have hj : j < x.L.length := by omega
          obtain ⟨s, hs⟩ : ∃ s, x.L[j]? = some s := ⟨_, List.getElem?_eq_getElem hj⟩
          have hso : s.ok := H.out.2.2.1 s (List.mem_of_getElem? hs)
          have hj2 : (j : Int) < (x.L.length : Int) := by omega
          clear hd h1 h2
          have HSS := Lib.hid hs
          have HSO := Lib.hid hso
          clear hs hso
          go_upto_region 9 with (fail)
          have hD0 : DiskAt w d g (DkS x j s) := by rw [DkS_self HSS.out]; exact H.out
          have cl := (hD0.sec hj 128 (by omega)).trans (secC_loose HSO.out)
          have HD := Lib.hid hD0
          have HO := Lib.hid (Only2.refl d g w)
          clear hD0
          cases hlo : s.loose
          · rw [hlo] at cl
            have HSE := Lib.hid (show DkS x j { ({ ({ s with old := s.b } : Sec) with loose := true } : Sec) with b := fillOf (by_ t) } = { x with L := x.L.set j (s.put (by_ t)) } by unfold DkS Sec.put Sec.loosen; rw [if_neg (by rw [hlo]; decide)])
            go_upto_region 10 with (fail)
            refine wp_region_lit ?_
            iterate 15 go_step
            refine wpList_load_mid rfl 91 _ rfl g (j * 129) rfl (s.b.map bb) _ (fun k v hk => ?_) Try.underlying91 rfl (by rw [List.length_map, HSO.out.1]; kernel_rfl) ?_
            · have hk64 : k < 64 := by
                have := (List.getElem?_eq_some_iff.1 hk).1
                rw [List.length_map, HSO.out.1] at this; exact this
              refine (HD.out.sec hj k (by omega)).trans ?_
              rw [secC_b HSO.out hk64, ← hk, List.getElem?_map, List.getD_eq_getElem?_getD, List.getElem?_eq_getElem (by rw [HSO.out.1]; exact hk64)]; rfl
            simp only [Act.put]
            iterate 6 go_step
            have hbl : ((s.b.map bb).toArray).size = 64 := by rw [List.size_toArray, List.length_map, HSO.out.1]
            refine wpList_store_mid rfl 91 _ _ rfl g (j * 129 + 64) (s.b.map bb).toArray rfl rfl (by rw [hbl]; exact HD.out.thereS hj 64 64 (by omega)) (by rw [hbl]; kernel_rfl) (bbs_one _) ?_
            change wpList _ _ _ _ _ (w.setCells g (j * 129 + 64) (s.b.map bb))
            have hc1 := HD.out.cells hj (s' := { s with old := s.b }) ⟨HSO.out.1, HSO.out.1⟩ 64 (s.b.map bb) (by rw [List.length_map, HSO.out.1]; omega) (secC_old' HSO.out s.b HSO.out.1)
            have hO := HO.out.cells (j * 129 + 64) (s.b.map bb)
            clear hbl cl
            generalize w.setCells g (j * 129 + 64) (s.b.map bb) = w2 at hc1 hO ⊢
            have cl2 := (hc1.sec hj 128 (by omega)).trans (secC_loose (s := { s with old := s.b }) ⟨HSO.out.1, HSO.out.1⟩)
            have cf2 := hc1.2.1.frozen (j * 129 + 128)
            have HD := Lib.hid hc1
            have HO := Lib.hid hO
            clear hc1 hO
            have HSO1 := Lib.hid (show ({ s with old := s.b } : Sec).ok from ⟨HSO.out.1, HSO.out.1⟩)
            simp only [Act.put]
            iterate 6 go_step
            iterate 3 go_step
            change wpList _ _ _ _ _ (w2.setCells g (j * 129 + 128) [.bool true])
            have hc1 := HD.out.cells hj (s' := ({ ({ s with old := s.b } : Sec) with loose := true } : Sec)) HSO1.out 128 [.bool true] (by simp) (secC_loose' HSO1.out true)
            have hO := HO.out.cells (j * 129 + 128) [.bool true]
            generalize w2.setCells g (j * 129 + 128) [.bool true] = w3 at hc1 hO ⊢
            have HD := Lib.hid hc1
            have HO := Lib.hid hO
            clear hc1 hO cl2 cf2
            refine wpList_nil ?_
            have HSO2 := Lib.hid (show ({ ({ s with old := s.b } : Sec) with loose := true } : Sec).ok from HSO1.out)
            generalize ({ ({ s with old := s.b } : Sec) with loose := true } : Sec) = s2 at HD HSE HSO2
            go_upto_region 11 with (fail)
            refine wp_region_lit ?_
            iterate 3 go_step
            refine wpList_buildIs rfl 91 _ rfl (z64.map bb).toArray (by kernel_rfl) ?_
            simp only [Act.put]
            iterate 6 go_step
            have hz64l : ((z64.map bb).toArray).size = 64 := by rw [List.size_toArray, List.length_map, z64_length]
            refine wpList_store_mid rfl 91 _ _ rfl g (j * 129) (z64.map bb).toArray rfl rfl (by rw [hz64l]; exact HD.out.thereS hj 0 64 (by omega)) (by rw [hz64l]; kernel_rfl) (bbs_one _) ?_
            change wpList _ _ _ _ _ (w3.setCells g (j * 129) (z64.map bb))
            have hcz := HD.out.cells hj (s' := { s2 with b := z64 }) ⟨z64_length, HSO2.out.2⟩ 0 (z64.map bb) (by rw [List.length_map, z64_length]; omega) (by have := secC_b' HSO2.out z64 (by rw [z64_length]; omega); rw [List.drop_eq_nil_of_le (by rw [z64_length]; exact Nat.le_of_eq HSO2.out.1), List.append_nil] at this; exact this)
            have hO := HO.out.cells (j * 129) (z64.map bb)
            clear hz64l
            change DiskAt (w3.setCells g (j * 129) (z64.map bb)) d g _ at hcz
            generalize w3.setCells g (j * 129) (z64.map bb) = w4 at hcz hO ⊢
            have HDz := Lib.hid hcz
            have HOz := Lib.hid hO
            clear hcz hO HD HO
            refine wpList_nil ?_
            simp only [Act.put]
            go_upto_region 12 with (fail)
            refine wp_region_lit ?_
            iterate 15 go_step
            have hts : t.size ≤ 64 := by omega
            have hrun := run_copy_cut (P := Try.prog) w4 94 9 3 5 g (j * 129) 64 64 t.size t Try.underlying94 size5 (Nat.min_eq_left hts).symm (HDz.out.thereS hj 0 t.size (by omega))
            refine wpList_copyIs rfl _ _ 94 9 rfl _ _ rfl rfl hrun ?_
            clear hrun
            change wpList _ _ _ _ _ (w4.setCells g (j * 129) (((by_ t).take t.size).map bb))
            rw [List.take_of_length_le (by rw [by_size]; exact Nat.le_refl _)]
            have hlt : (by_ t).length ≤ 64 := by rw [← by_size]; exact hts
            have hcf := HDz.out.cells hj (s' := { s2 with b := fillOf (by_ t) }) ⟨fillOf_length hlt, HSO2.out.2⟩ 0 ((by_ t).map bb) (by rw [List.length_map]; omega) (by have := secC_b' (s := { s2 with b := z64 }) ⟨z64_length, HSO2.out.2⟩ (by_ t) hlt; rw [show ({ s2 with b := z64 } : Sec).b = z64 from rfl, show z64.drop (by_ t).length = List.replicate (64 - (by_ t).length) 0 from by unfold z64; rw [List.drop_replicate]] at this; exact this)
            have hO := HOz.out.cells (j * 129) ((by_ t).map bb)
            change DiskAt (w4.setCells g (j * 129) ((by_ t).map bb)) d g _ at hcf
            generalize w4.setCells g (j * 129) ((by_ t).map bb) = w5 at hcf hO ⊢
            have HD := Lib.hid hcf
            have HO := Lib.hid hO
            clear hcf hO HDz HOz
            refine wpList_nil ?_
            simp only [Act.put]
            have hx : DkS x j { s2 with b := fillOf (by_ t) } = x.putAt j t := by
              unfold Dk.putAt; rw [HSS.out]; exact HSE.out
            rw [hx] at HD
            have hga : (x.putAt j t).armed = x.armed := by unfold Dk.putAt; rw [HSS.out]
            have hgd : (x.putAt j t).goes.down = x.goes.down := by unfold Dk.putAt; rw [HSS.out]; exact goes_down_L x _
            go_wp2_with fail
            refine (goes_any d g (x.putAt j t) w5 HD.out (by rw [hga]; exact ha)).mono ?_
            rintro e w6 ⟨rfl, hD, hO⟩
            have HO := Lib.hid (HO.out.trans hO)
            rw [hgd]
            have HDf := Lib.hid hD
            clear hD hO hga hgd hx
            generalize hGD : x.goes.down = gd at HR
            have hGD2 := hGD
            clear hGD
            cases gd
            · go_wp2_with fail
              go_ret
              exact ⟨by rw [HR.out]; rfl, by rw [HW.out]; exact HDf.out, HO.out⟩
            · go_wp2_with fail
              go_ret
              exact ⟨by rw [HR.out]; rfl, by rw [HW.out]; exact HDf.out, HO.out⟩
          · rw [hlo] at cl
            have HSE := Lib.hid (show DkS x j { s with b := fillOf (by_ t) } = { x with L := x.L.set j (s.put (by_ t)) } by unfold DkS Sec.put Sec.loosen; rw [if_pos hlo])
            have HSO2 := HSO
            go_upto_region 11 with (fail)
            refine wp_region_lit ?_
            iterate 3 go_step
            refine wpList_buildIs rfl 91 _ rfl (z64.map bb).toArray (by kernel_rfl) ?_
            simp only [Act.put]
            iterate 6 go_step
            have hz64l : ((z64.map bb).toArray).size = 64 := by rw [List.size_toArray, List.length_map, z64_length]
            refine wpList_store_mid rfl 91 _ _ rfl g (j * 129) (z64.map bb).toArray rfl rfl (by rw [hz64l]; exact HD.out.thereS hj 0 64 (by omega)) (by rw [hz64l]; kernel_rfl) (bbs_one _) ?_
            change wpList _ _ _ _ _ (w.setCells g (j * 129) (z64.map bb))
            have hcz := HD.out.cells hj (s' := { s with b := z64 }) ⟨z64_length, HSO2.out.2⟩ 0 (z64.map bb) (by rw [List.length_map, z64_length]; omega) (by have := secC_b' HSO2.out z64 (by rw [z64_length]; omega); rw [List.drop_eq_nil_of_le (by rw [z64_length]; exact Nat.le_of_eq HSO2.out.1), List.append_nil] at this; exact this)
            have hO := HO.out.cells (j * 129) (z64.map bb)
            clear hz64l
            change DiskAt (w.setCells g (j * 129) (z64.map bb)) d g _ at hcz
            generalize w.setCells g (j * 129) (z64.map bb) = w4 at hcz hO ⊢
            have HDz := Lib.hid hcz
            have HOz := Lib.hid hO
            clear hcz hO HD HO cl
            refine wpList_nil ?_
            simp only [Act.put]
            go_upto_region 12 with (fail)
            refine wp_region_lit ?_
            iterate 15 go_step
            have hts : t.size ≤ 64 := by omega
            have hrun := run_copy_cut (P := Try.prog) w4 94 9 3 5 g (j * 129) 64 64 t.size t Try.underlying94 size5 (Nat.min_eq_left hts).symm (HDz.out.thereS hj 0 t.size (by omega))
            refine wpList_copyIs rfl _ _ 94 9 rfl _ _ rfl rfl hrun ?_
            clear hrun
            change wpList _ _ _ _ _ (w4.setCells g (j * 129) (((by_ t).take t.size).map bb))
            rw [List.take_of_length_le (by rw [by_size]; exact Nat.le_refl _)]
            have hlt : (by_ t).length ≤ 64 := by rw [← by_size]; exact hts
            have hcf := HDz.out.cells hj (s' := { s with b := fillOf (by_ t) }) ⟨fillOf_length hlt, HSO2.out.2⟩ 0 ((by_ t).map bb) (by rw [List.length_map]; omega) (by have := secC_b' (s := { s with b := z64 }) ⟨z64_length, HSO2.out.2⟩ (by_ t) hlt; rw [show ({ s with b := z64 } : Sec).b = z64 from rfl, show z64.drop (by_ t).length = List.replicate (64 - (by_ t).length) 0 from by unfold z64; rw [List.drop_replicate]] at this; exact this)
            have hO := HOz.out.cells (j * 129) ((by_ t).map bb)
            change DiskAt (w4.setCells g (j * 129) ((by_ t).map bb)) d g _ at hcf
            generalize w4.setCells g (j * 129) ((by_ t).map bb) = w5 at hcf hO ⊢
            have HD := Lib.hid hcf
            have HO := Lib.hid hO
            clear hcf hO HDz HOz
            refine wpList_nil ?_
            simp only [Act.put]
            have hx : DkS x j { s with b := fillOf (by_ t) } = x.putAt j t := by
              unfold Dk.putAt; rw [HSS.out]; exact HSE.out
            rw [hx] at HD
            have hga : (x.putAt j t).armed = x.armed := by unfold Dk.putAt; rw [HSS.out]
            have hgd : (x.putAt j t).goes.down = x.goes.down := by unfold Dk.putAt; rw [HSS.out]; exact goes_down_L x _
            go_wp2_with fail
            refine (goes_any d g (x.putAt j t) w5 HD.out (by rw [hga]; exact ha)).mono ?_
            rintro e w6 ⟨rfl, hD, hO⟩
            have HO := Lib.hid (HO.out.trans hO)
            rw [hgd]
            have HDf := Lib.hid hD
            clear hD hO hga hgd hx
            generalize hGD : x.goes.down = gd at HR
            have hGD2 := hGD
            clear hGD
            cases gd
            · go_wp2_with fail
              go_ret
              exact ⟨by rw [HR.out]; rfl, by rw [HW.out]; exact HDf.out, HO.out⟩
            · go_wp2_with fail
              go_ret
              exact ⟨by rw [HR.out]; rfl, by rw [HW.out]; exact HDf.out, HO.out⟩
end Go.Proofs.Ytnddkodenkmoiaa
