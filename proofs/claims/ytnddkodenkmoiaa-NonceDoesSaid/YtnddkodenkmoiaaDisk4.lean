/- The disk: Sync, Read. -/
import Derived.Test.YtnddkodenkmoiaaDisk3
namespace Go.Proofs.Ytnddkodenkmoiaa
open Go.RowKit Go.Proofs
set_option linter.unusedSimpArgs false
set_option linter.unusedVariables false
def Sec.safe (s : Sec) : Sec := { s with loose := false }
def safeTo (L : List Sec) (i : Nat) : List Sec := (L.take i).map Sec.safe ++ L.drop i
theorem safeTo_zero (L : List Sec) : safeTo L 0 = L := by simp [safeTo]
theorem safeTo_all (L : List Sec) : safeTo L L.length = L.map Sec.safe := by simp [safeTo]
theorem safeTo_length (L : List Sec) (i : Nat) : (safeTo L i).length = L.length := by
  unfold safeTo; rw [List.length_append, List.length_map, List.length_take, List.length_drop]; omega
theorem safeTo_get (L : List Sec) (i : Nat) (s : Sec) (h : L[i]? = some s) : (safeTo L i)[i]? = some s := by
  have hi := (List.getElem?_eq_some_iff.1 h).1
  unfold safeTo
  rw [List.getElem?_append_right (by rw [List.length_map, List.length_take]; omega), List.length_map, List.length_take, List.getElem?_drop, ← h]
  congr 1; omega
theorem safeTo_next (L : List Sec) (i : Nat) (s : Sec) (h : L[i]? = some s) : (safeTo L i).set i s.safe = safeTo L (i + 1) := by
  have hi := (List.getElem?_eq_some_iff.1 h).1
  unfold safeTo
  have hl : ((L.take i).map Sec.safe).length = i := by rw [List.length_map, List.length_take]; omega
  rw [List.set_append_right _ _ (by omega), hl, Nat.sub_self, List.drop_eq_getElem_cons hi, List.set_cons_zero, List.take_add_one, h]
  simp
def Dk.syncR (x : Dk) : Int := if x.down then 12 else if x.goes.down then 12 else 0
def Dk.sync (x : Dk) : Dk := if x.down then x else if x.goes.down then x.goes else { x.goes with L := x.L.map Sec.safe }
theorem goes_L (x : Dk) : x.goes.L = x.L := by unfold Dk.goes; split <;> rfl
set_option maxRecDepth 100000 in
set_option maxHeartbeats 2000000 in
theorem sync_any (d g : Nat) (x : Dk) (w : World) (h : DiskAt w d g x) (ha : x.armed ≤ 9223372036854775807) :
    Calls Try.prog 23 #[.pointer (some ⟨d, 0, none⟩)] w fun e w' => e = .returned (.int .i64 x.syncR) ∧ DiskAt w' d g x.sync ∧ Only2 d g w w' := by
  have H := Lib.hid h
  clear h
  go_enter Try.func23, Try.ntmps23
  go_wp2_with fail
  refine (works_any d g x w H.out).mono ?_
  rintro e w1 ⟨rfl, rfl⟩
  by_cases hd : x.down = true
  · have HR := Lib.hid (show x.syncR = 12 by unfold Dk.syncR; rw [if_pos hd])
    have HW := Lib.hid (show x.sync = x by unfold Dk.sync; rw [if_pos hd])
    rw [if_pos hd]
    clear hd
    go_wp2_with fail
    go_ret
    exact ⟨by rw [HR.out]; rfl, by rw [HW.out]; exact H.out, Only2.refl _ _ _⟩
  · rw [if_neg hd]
    go_wp2_with fail
    refine (goes_any d g x w H.out ha).mono ?_
    rintro e w2 ⟨rfl, hD, hO⟩
    by_cases hg : x.goes.down = true
    · have HR := Lib.hid (show x.syncR = 12 by unfold Dk.syncR; rw [if_neg hd, if_pos hg])
      have HW := Lib.hid (show x.sync = x.goes by unfold Dk.sync; rw [if_neg hd, if_pos hg])
      rw [hg]
      have HD := Lib.hid hD
      have HO := Lib.hid hO
      clear hd hg hD hO
      go_wp2_with fail
      go_ret
      exact ⟨by rw [HR.out]; rfl, by rw [HW.out]; exact HD.out, HO.out⟩
    · have HR := Lib.hid (show x.syncR = 0 by unfold Dk.syncR; rw [if_neg hd, if_neg hg])
      have HW := Lib.hid (show x.sync = { x.goes with L := x.L.map Sec.safe } by unfold Dk.sync; rw [if_neg hd, if_neg hg])
      have hgf : x.goes.down = false := by simpa using hg
      have hgl := goes_L x
      rw [hgf]
      have c0 := hD.row
      rw [hgl] at c0
      have hlen := hD.2.2.2.2
      rw [hgl] at hlen
      have HD := Lib.hid (show DiskAt w2 d g { x.goes with L := safeTo x.L 0 } by rw [safeTo_zero, ← hgl]; exact hD)
      have HO := Lib.hid hO
      have HOK := Lib.hid (show okL x.L from H.out.2.2.1)
      clear hd hg hD hO hgf hgl
      go_wp2_with fail
      clear c0
      go_loopw [4, 17] (fun _ v wr => ∃ i : Nat, i ≤ x.L.length ∧ v = .int .i64 (i : Int) ∧ DiskAt wr d g { x.goes with L := safeTo x.L i } ∧ Only2 d g w wr) (fun _ v _ => x.L.length - (intOf v).toNat)
      case atStart => exact ⟨0, by omega, rfl, HD.out, HO.out⟩
      case round =>
        obtain ⟨i, hi, rfl, hD, hO⟩ := hrel
        clear HD HO
        have HD := Lib.hid hD
        have HO := Lib.hid hO
        by_cases hlt : i < x.L.length
        · have i1 : (i : Int) < (x.L.length : Int) := by omega
          obtain ⟨s, hs⟩ : ∃ s, x.L[i]? = some s := ⟨_, List.getElem?_eq_getElem hlt⟩
          have hso : s.ok := HOK.out s (List.mem_of_getElem? hs)
          have c0 := hD.row
          simp only [safeTo_length] at c0
          have hself : DkS { x.goes with L := safeTo x.L i } i s = { x.goes with L := safeTo x.L i } := DkS_self (safeTo_get _ _ _ hs)
          have hD2 : DiskAt wr d g (DkS { x.goes with L := safeTo x.L i } i s) := by rw [hself]; exact hD
          have hjl : i < ({ x.goes with L := safeTo x.L i } : Dk).L.length := by show i < (safeTo x.L i).length; rw [safeTo_length]; exact hlt
          have cl := (hD2.sec hjl 128 (by omega)).trans (secC_loose hso)
          have cf := hD2.2.1.frozen (i * 129 + 128)
          have hn := hD2.cells hjl (s' := s.safe) hso 128 [.bool false] (by simp) (secC_loose' hso false)
          have hne2 : DkS { x.goes with L := safeTo x.L i } i s.safe = { x.goes with L := safeTo x.L (i + 1) } := by
            unfold DkS
            show ({ x.goes with L := (safeTo x.L i).set i s.safe } : Dk) = _
            rw [safeTo_next _ _ _ hs]
          rw [hne2] at hn
          have HN := Lib.hid hn
          have HON := Lib.hid (hO.cells (i * 129 + 128) [.bool false])
          clear hD hO hs hso hself hD2 hjl hn hne2
          go_wp2_with fail
          go_roundw
          case rel => exact ⟨i + 1, by omega, by go_num, HN.out, HON.out⟩
          case measure => simp [intOf]; omega
        · have i1 : ¬ ((i : Int) < (x.L.length : Int)) := by omega
          have hiN : i = x.L.length := by omega
          subst hiN
          rw [safeTo_all] at hD
          have HD := Lib.hid hD
          clear hD hO
          go_wp2_with fail
          go_ret
          exact ⟨by rw [HR.out]; rfl, by rw [HW.out]; exact HD.out, HO.out⟩
theorem sync_nil (w : World) :
    Calls Try.prog 23 #[.pointer none] w fun e w' => e = .returned (.int .i64 1) ∧ w = w' := by
  go_enter Try.func23, Try.ntmps23
  go_wp2_with fail
  refine (works_nil w).mono ?_
  rintro e w1 ⟨rfl, rfl⟩
  go_wp2_with fail
  go_ret
  exact ⟨rfl, rfl⟩
theorem write_nil (i : Int) (t : ByteArray) (w : World) :
    Calls Try.prog 17 #[.pointer none, .int .i64 i, .string t] w fun e w' => e = .returned (.int .i64 1) ∧ w = w' := by
  go_enter Try.func17, Try.ntmps17
  go_wp2_with fail
  refine (works_nil w).mono ?_
  rintro e w1 ⟨rfl, rfl⟩
  go_wp2_with fail
  go_ret
  exact ⟨rfl, rfl⟩
theorem read_nil (i : Int) (w : World) :
    Calls Try.prog 20 #[.pointer none, .int .i64 i] w fun e w' => e = .returned (.tuple #[.string ⟨#[]⟩, .int .i64 1]) ∧ w = w' := by
  go_enter Try.func20, Try.ntmps20
  go_wp2_with fail
  refine (works_nil w).mono ?_
  rintro e w1 ⟨rfl, rfl⟩
  go_wp2_with fail
  go_ret2
  exact ⟨rfl, rfl⟩
theorem execConvert {P : Program} {a : Act} {o : Oper} {w w' : World} (s d : TypeId) (x : Operand) (ho : o.op = .convert s d x) {p v : Value} (hx : a.eval x = p) (h : (convert s d p).run P w = .ok v w') : (execOp a.eval o).run P w = .ok (.value v) w' := by
  unfold execOp
  simp only [ho, hx, Sem.run_bind, h, Result.andThen_ok, Sem.run_pure]
def strOf (bs : List UInt8) : ByteArray := ⟨bs.toArray⟩
/-- Read: what is told. -/
def Dk.readR (x : Dk) (i : Int) : ByteArray × Int :=
  if x.down then (⟨#[]⟩, 12) else if i < 0 ∨ (x.L.length : Int) ≤ i then (⟨#[]⟩, 3) else match x.L[i.toNat]? with
    | some s => (strOf s.b, 0)
    | none => (⟨#[]⟩, 3)
set_option maxRecDepth 100000 in
set_option maxHeartbeats 2000000 in
theorem read_any (d g : Nat) (x : Dk) (i : Int) (w : World) (h : DiskAt w d g x) :
    Calls Try.prog 20 #[.pointer (some ⟨d, 0, none⟩), .int .i64 i] w fun e w' => e = .returned (.tuple #[.string (x.readR i).1, .int .i64 (x.readR i).2]) ∧ w = w' := by
  have H := Lib.hid h
  have c0 := h.row
  have hlen := h.2.2.2.2
  clear h
  go_enter Try.func20, Try.ntmps20
  go_wp2_with fail
  refine (works_any d g x w H.out).mono ?_
  rintro e w1 ⟨rfl, rfl⟩
  by_cases hd : x.down = true
  · have HR := Lib.hid (show x.readR i = (⟨#[]⟩, 12) by unfold Dk.readR; rw [if_pos hd])
    rw [if_pos hd]
    clear hd
    go_wp2_with fail
    go_ret2
    exact ⟨by rw [HR.out]; rfl, rfl⟩
  · rw [if_neg hd]
    by_cases h1 : i < 0
    · have HR := Lib.hid (show x.readR i = (⟨#[]⟩, 3) by unfold Dk.readR; rw [if_neg hd, if_pos (.inl h1)])
      clear hd
      go_wp2_with fail
      go_ret2
      exact ⟨by rw [HR.out]; rfl, rfl⟩
    · by_cases h2 : (x.L.length : Int) ≤ i
      · have HR := Lib.hid (show x.readR i = (⟨#[]⟩, 3) by unfold Dk.readR; rw [if_neg hd, if_pos (.inr h2)])
        clear hd
        go_wp2_with fail
        go_ret2
        exact ⟨by rw [HR.out]; rfl, rfl⟩
      · obtain ⟨j, rfl⟩ : ∃ j : Nat, i = (j : Int) := ⟨i.toNat, by omega⟩
        have hj : j < x.L.length := by omega
        obtain ⟨s, hs⟩ : ∃ s, x.L[j]? = some s := ⟨_, List.getElem?_eq_getElem hj⟩
        have hso : s.ok := H.out.2.2.1 s (List.mem_of_getElem? hs)
        have HR := Lib.hid (show x.readR (j : Int) = (strOf s.b, 0) by unfold Dk.readR; rw [if_neg hd, if_neg (by omega)]; show (match x.L[j]? with | some s => (strOf s.b, (0 : Int)) | none => (⟨#[]⟩, 3)) = _; rw [hs])
        have hj2 : (j : Int) < (x.L.length : Int) := by omega
        have hD0 : DiskAt w d g (DkS x j s) := by rw [DkS_self hs]; exact H.out
        have hcv := run_convert_bytes_back (P := Try.prog) w 94 9 5 ⟨g, j * 129, none⟩ 64 s.b Try.underlying94 Try.underlying5 Try.underlying9 (fun k hk => by
          have hk64 : k < 64 := by rw [← hso.1]; exact hk
          rw [Addr.add_mid]
          refine (hD0.sec hj k (by omega)).trans ?_
          rw [secC_b hso hk64, List.getD_eq_getElem?_getD, List.getElem?_eq_getElem hk]; rfl)
        rw [hso.1] at hcv
        clear hd h1 h2 hs hso hD0
        go_upto_region 6 with (fail)
        refine wp_region_lit ?_
        iterate 24 go_step
        refine wpList_readIs rfl (.string (strOf s.b)) (execConvert 94 9 _ rfl (p := .slice (some ⟨g, j * 129, none⟩) 64 64) rfl hcv) ?_
        clear hcv
        simp only [Act.put]
        go_wp2_with fail
        go_ret2
        exact ⟨by rw [HR.out]; rfl, rfl⟩
end Go.Proofs.Ytnddkodenkmoiaa
