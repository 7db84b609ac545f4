/- LinkOrder answers true. -/
import Derived.Test.YtdfdgcknahmnnaaOrdA
import Derived.Deep.MidRow
import Derived.Deep.Cut
namespace Go.Proofs.Ytdfdgcknahmnnaa
open Go.RowKit Go.Proofs
set_option linter.unusedSimpArgs false
set_option linter.unusedVariables false
theorem below_of_app {w0 w w' : World} {B n : Nat} {v : Value} {xs : List Value} (h : w.ownsRow B 9 1 v n xs) (hg : w.grownBy w' v.ownBlock) (hB : Below B w0 w) (hs : B ≤ w.heap.size) : Below B w0 w' := by
  refine hB.trans ⟨hg.os, hg.tape, hg.output, hg.size, fun k hk => hg.block k (by omega) (fun e => ?_)⟩
  rcases h.2 with ⟨rfl, _⟩ | ⟨g, cap, cur, rfl, h1, _⟩
  · cases e
  · simp [Value.ownBlock] at e; omega
theorem own_at {w : World} {B n : Nat} {v : Value} {xs : List Value} (h : w.ownsRow B 9 1 v n xs) (j : Nat) (y : ByteArray) (hj : xs[j]? = some (.string y)) : ∃ q cap, v = .slice (some ⟨q, 0, none⟩) n cap ∧ w.cell? ⟨q, j, none⟩ = some (.string y) := by
  have hjl := (List.getElem?_eq_some_iff.1 hj).1
  have hx := h.1
  rcases h.2 with ⟨rfl, h0⟩ | ⟨g, cap, cur, rfl, h1, h2, h3, h4, h5, h6⟩
  · omega
  · refine ⟨g, cap, rfl, ?_⟩
    rw [← h6, List.getElem?_take] at hj
    split at hj
    · rw [show w.cell? ⟨g, j, none⟩ = cur[j]? from cell_of_row w g j cur 9 (0, 0) h2]
      simpa using hj
    · cases hj
theorem own_slice {w : World} {B n : Nat} {v : Value} {xs : List Value} (h : w.ownsRow B 9 1 v n xs) : ∃ ao cap, v = .slice ao n cap := by
  rcases h.2 with ⟨rfl, rfl⟩ | ⟨g, cap, cur, rfl, _⟩
  · exact ⟨_, _, rfl⟩
  · exact ⟨_, _, rfl⟩
theorem Moved.below' {Av : Nat → Prop} {g B : Nat} {N : Int} {L : Nat → List ByteArray} {w0 w w' : World} (h : Moved Av g N L w w') (hB : Below B w0 w) (hg : B ≤ g) (hs : B ≤ w.heap.size) : Below B w0 w' := hB.trans (below_of_only h.only hg hs)
set_option maxRecDepth 100000 in
set_option maxHeartbeats 16000000 in
theorem LinkOrder_any (v : Value) (acts : List ActR) (hle : acts.length ≤ 9223372036854775807) (w : World) (ha : ActsAt w v acts) (cl : Nat) (hcl : cl < 256) :
    Calls Try.prog 5 #[v, .int .u8 cl] w fun e w' => e = .returned (.bool true) ∧ Below w.heap.size w w' := by
  obtain ⟨ao, cp, rfl, _⟩ := id ha
  have hlen : ∃ len, Hid (len = acts.length) := ⟨_, rfl⟩
  obtain ⟨len, hl⟩ := hlen
  have hle' : len ≤ 9223372036854775807 := by rw [hl.out]; exact hle
  have HA : Hid (ActsAt w (.slice ao acts.length cp) acts) := ha
  rw [← hl.out]
  clear ha hle
  obtain ⟨c, hcd⟩ : ∃ c, cl % 4 = c := ⟨_, rfl⟩
  have hc4 : c < 4 := by omega
  have hc41 : (cl : Int) % 4 = (c : Int) := by omega
  have hw : ¬ (cl : Int) < 0 := by omega
  have HCD := Lib.hid hcd
  clear hcd
  go_enter Try.func5, Try.ntmps5
  go_wp2_with fail
  refine (New_a (Av := AnyB) 4 w (by omega) (by omega)).mono ?_
  rintro e w1 ⟨rfl, hL0, hg, hsz⟩
  have HB := Lib.hid (below_of_grown (B := w.heap.size) hg (Nat.le_refl _))
  have HL := Lib.hid (show LinkA AnyB w1 w.heap.size 4 (fun _ => []) from hL0)
  clear hL0 hg hsz
  go_wp2_with fail
  refine (awake_any w1).mono ?_
  rintro e w2 ⟨rfl, hb⟩
  have HO := Lib.hid (show Ord w.heap.size c w.heap.size (.slice none 0 0) (.slice none 0 0) [] [] 0 0 [] [] (fun _ => []) w2 from
    ⟨(HL.out.re (Av' := AvOf (.slice none 0 0) (.slice none 0 0)) (grownBy_of_below hb none) (by simp) (fun b e => by cases e) (fun b _ _ => ⟨by simp [Value.ownBlock], by simp [Value.ownBlock]⟩)), ⟨rfl, .inl ⟨rfl, rfl⟩⟩, ⟨rfl, .inl ⟨rfl, rfl⟩⟩, (fun b e => by cases e), Nat.le_refl _, Nat.le_refl _, rfl, rfl⟩)
  have HB := Lib.hid (HB.out.trans (hb.mono HB.out.size))
  obtain ⟨g, hgd⟩ : ∃ g, w.heap.size = g := ⟨_, rfl⟩
  have hgB : w.heap.size ≤ g := by omega
  clear hb HL
  rw [show Ord w.heap.size c w.heap.size _ _ _ _ _ _ _ _ _ _ = Ord w.heap.size c g _ _ _ _ _ _ _ _ _ _ by rw [hgd]] at HO
  go_wp2_with fail
  skip
  clear hgd
  go_loopw [8, 9, 10, 11, 12, 13, 14, 15, 16, 17] (fun v8 v9 v10 v11 v12 _ _ _ _ _ wr => ∃ (k n m : Nat) (up dn : List ByteArray) (L : Nat → List ByteArray), v12 = .int .i64 (k : Int) ∧ v10 = .int .i64 (n : Int) ∧ v11 = .int .i64 (m : Int) ∧ up.length ≤ k ∧ dn.length ≤ k ∧ k ≤ 60 ∧ k ≤ len ∧ Below w.heap.size w wr ∧ Ord w.heap.size c g v8 v9 up dn n m [] [] L wr) (fun _ _ _ _ v12 _ _ _ _ _ _ => 60 - (intOf v12).toNat)
  case atStart => exact ⟨0, 0, 0, [], [], _, rfl, rfl, rfl, by simp, by simp, by omega, by omega, HB.out, HO.out⟩
  case round =>
    obtain ⟨k, n, m, up, dn, L, rfl, rfl, rfl, hul, hdl, hk60, hkl, hBr, hOr⟩ := hrel
    clear HB HO
    have HB := Lib.hid hBr
    have HO := Lib.hid hOr
    have hnu := hOr.nu
    have hmd := hOr.md
    clear hBr hOr
    by_cases hin : k < len ∧ k < 60
    · obtain ⟨hin1, hin2⟩ := hin
      obtain ⟨_, _, hv, hcells⟩ := HA.out.below HB.out
      injection hv with hv1 hv2 hv3
      subst hv1 hv3
      obtain ⟨b, o, rfl, c0, c1, c2⟩ := hcells k (by have := hl.out; omega)
      clear hcells hv2
      generalize acts[k]'(by have := hl.out; omega) = x at c0 c1 c2
      obtain ⟨xk, xc, xs⟩ := x
      dsimp only at c0 c1 c2
      go_wp2_with fail
      have hbx := Blk.new wr 36 #[.int .i64 xk, .int .i64 xc, .string xs]
      have hbg : wr.heap.size ≠ g := by have := HO.out.glt; omega
      have HO := Lib.hid (HO.out.grown (World.grownBy_alloc wr (.cells #[.int .i64 xk, .int .i64 xc, .string xs] 36) none))
      have HB := Lib.hid (HB.out.alloc HB.out.size (.cells #[.int .i64 xk, .int .i64 xc, .string xs] 36))
      clear c0 c1 c2
      generalize wr.alloc (.cells #[.int .i64 xk, .int .i64 xc, .string xs] 36) = w3 at hbx HO HB ⊢
      generalize wr.heap.size = bx at hbx hbg ⊢
      have HBX := Lib.hid hbx
      clear hbx
      refine (short_any xk xc xs w3).mono ?_
      rintro e w4 ⟨rfl, hg⟩
      have HO := Lib.hid (HO.out.grown hg)
      have HB := Lib.hid (HB.out.trans (below_of_grown hg HB.out.size))
      have HBX := Lib.hid (HBX.out.grown hg (by simp))
      clear hg
      cases hsh : shortB xs with
      | false =>
        go_wp2_with fail
        go_roundw
        case rel => exact ⟨k + 1, n, m, up, dn, _, by go_num, by first | rfl | go_num, by first | rfl | go_num, (by first | omega | (simp; omega)), (by first | omega | (simp; omega)), by omega, by omega, HB.out, HO.out⟩
        case measure => simp [intOf]; omega
      | true =>
        clear hsh
        have x0 := HBX.out.cell 0
        have x1 := HBX.out.cell 1
        have x2 := HBX.out.cell 2
        by_cases hk0 : xk = 0
        · subst hk0
          as_aux_lemma =>
            go_wp2_with fail
            refine (Up_any g xc 4 xs w4 L HO.out.link HO.out.av).mono ?_
            rintro e w5 ⟨rfl, hm⟩
            clear x0 x1 x2
            have HM := Lib.hid hm
            have HBX := Lib.hid (HBX.out.grown hm.only (by intro e; injection e with e; exact hbg e))
            have HB := Lib.hid (HM.out.below' HB.out hgB HB.out.size)
            clear hm
            have x0 := HBX.out.cell 0
            have x1 := HBX.out.cell 1
            have x2 := HBX.out.cell 2
            obtain ⟨E, hE⟩ : ∃ E, putE 4 xc xs L 0 = E := ⟨_, rfl⟩
            rw [hE]
            by_cases hE0 : E = 0
            · subst hE0
              by_cases hac : xc = (c : Int)
              · subst hac
                have HO := Lib.hid (show Ord w.heap.size c g u8 u9 up dn n m ([xs] : List ByteArray) [] (putM 4 (c : Int) xs L 0) w5 from HO.out.moved HM.out HO.out.nu HO.out.md
                  (by rw [put_yes 0 hE, HO.out.lu, List.append_nil])
                  (by rw [put_far 0 1 (by omega) (by omega) (by omega), HO.out.ld]))
                clear hE
                go_upto_region 18 with fail
                refine wp_region_lit ?_
                iterate 12 go_step
                have hs9 : (Try.prog.info? 9).map (fun i => (i.size, i.bytes, i.zero)) = some (1, 16, some (.string ⟨#[]⟩)) := by kernel_rfl
                obtain ⟨i9, hi9, hi92⟩ := Option.map_eq_some_iff.1 hs9
                simp only [Prod.mk.injEq] at hi92
                obtain ⟨e1, e2, e3⟩ := hi92
                have HOA := Lib.hid (HO.out.grown (World.grownBy_alloc w5 (.cells #[.string xs] 9) none))
                have hbb := Blk.new w5 9 #[.string xs]
                have hz5 := HB.out.size
                refine wpList_append_own_at _ rfl _ _ 40 rfl w.heap.size 9 i9 (.string ⟨#[]⟩) 1 16 Try.underlying40 hi9 e3 e1 e2 rfl (by omega) u8 up.length (up.map .string) rfl HOA.out.hu ⟨w5.heap.size, 0, none⟩ 1 1 [.string xs] rfl rfl ?_ (by simp [Value.oneCell']) (by simp only [maxLen]; omega) (by omega) (by simp; omega) ?_
                · intro j y hj
                  match j, hj with
                  | 0, hj =>
                    obtain rfl := Option.some.inj hj
                    rw [Addr.add_mid]
                    exact hbb.cell 0
                intro v' w6 ho6 hg6 _ hat6
                have HO6 := Lib.hid (HOA.out.app8 ho6 hg6 hat6)
                have HB := Lib.hid (below_of_app HOA.out.hu hg6 (HB.out.alloc HB.out.size (.cells #[.string xs] 9)) (by simp; omega))
                clear ho6 hg6 hat6 hs9 hi9 e1 e2 e3 hbb hz5 x0 x1 x2
                simp only [Act.put]
                go_wp2_with fail
                go_roundw
                case rel => exact ⟨k + 1, n, m, (up ++ [xs]), dn, _, by go_num, by first | rfl | go_num, by first | rfl | go_num, (by first | omega | (simp; omega)), (by first | omega | (simp; omega)), by omega, by omega, HB.out, HO6.out⟩
                case measure => simp [intOf]; omega
              · have HO := Lib.hid (HO.out.moved HM.out HO.out.nu HO.out.md (by rw [put_ne 0 (by omega) (.inr hac) 0 (by omega)]; exact HO.out.lu) (by rw [put_ne 0 (by omega) (.inr hac) 1 (by omega)]; exact HO.out.ld))
                have hac' : (xc == (c : Int)) = false := beq_eq_false_iff_ne.2 hac
                clear hE
                go_wp2_with fail
                clear x0 x1 x2
                go_roundw
                case rel => exact ⟨k + 1, n, m, up, dn, _, by go_num, by first | rfl | go_num, by first | rfl | go_num, (by first | omega | (simp; omega)), (by first | omega | (simp; omega)), by omega, by omega, HB.out, HO.out⟩
                case measure => simp [intOf]; omega
            · have HO := Lib.hid (HO.out.moved HM.out HO.out.nu HO.out.md (by rw [put_ne 0 (by omega) (.inl (by rw [hE]; exact hE0)) 0 (by omega)]; exact HO.out.lu) (by rw [put_ne 0 (by omega) (.inl (by rw [hE]; exact hE0)) 1 (by omega)]; exact HO.out.ld))
              have hE0' : (E == 0) = false := beq_eq_false_iff_ne.2 hE0
              clear hE
              go_wp2_with fail
              clear x0 x1 x2
              go_roundw
              case rel => exact ⟨k + 1, n, m, up, dn, _, by go_num, by first | rfl | go_num, by first | rfl | go_num, (by first | omega | (simp; omega)), (by first | omega | (simp; omega)), by omega, by omega, HB.out, HO.out⟩
              case measure => simp [intOf]; omega
        · by_cases hk1 : xk = 1
          · subst hk1
            as_aux_lemma =>
              go_wp2_with fail
              refine (Up_any g xc 4 xs w4 L HO.out.link HO.out.av).mono ?_
              rintro e w5 ⟨rfl, hm⟩
              clear x0 x1 x2
              have HM := Lib.hid hm
              have HBX := Lib.hid (HBX.out.grown hm.only (by intro e; injection e with e; exact hbg e))
              have HB := Lib.hid (HM.out.below' HB.out hgB HB.out.size)
              clear hm
              have x0 := HBX.out.cell 0
              have x1 := HBX.out.cell 1
              have x2 := HBX.out.cell 2
              obtain ⟨E, hE⟩ : ∃ E, putE 4 xc xs L 0 = E := ⟨_, rfl⟩
              rw [hE]
              by_cases hE0 : E = 0
              · subst hE0
                by_cases hac : xc = (c : Int)
                · subst hac
                  have HO := Lib.hid (show Ord w.heap.size c g u8 u9 up dn n m ([xs] : List ByteArray) [] (putM 4 (c : Int) xs L 0) w5 from HO.out.moved HM.out HO.out.nu HO.out.md
                    (by rw [put_yes 0 hE, HO.out.lu, List.append_nil])
                    (by rw [put_far 0 1 (by omega) (by omega) (by omega), HO.out.ld]))
                  clear hE
                  go_upto_region 18 with fail
                  refine wp_region_lit ?_
                  iterate 12 go_step
                  have hs9 : (Try.prog.info? 9).map (fun i => (i.size, i.bytes, i.zero)) = some (1, 16, some (.string ⟨#[]⟩)) := by kernel_rfl
                  obtain ⟨i9, hi9, hi92⟩ := Option.map_eq_some_iff.1 hs9
                  simp only [Prod.mk.injEq] at hi92
                  obtain ⟨e1, e2, e3⟩ := hi92
                  have HOA := Lib.hid (HO.out.grown (World.grownBy_alloc w5 (.cells #[.string xs] 9) none))
                  have hbb := Blk.new w5 9 #[.string xs]
                  have hz5 := HB.out.size
                  refine wpList_append_own_at _ rfl _ _ 40 rfl w.heap.size 9 i9 (.string ⟨#[]⟩) 1 16 Try.underlying40 hi9 e3 e1 e2 rfl (by omega) u8 up.length (up.map .string) rfl HOA.out.hu ⟨w5.heap.size, 0, none⟩ 1 1 [.string xs] rfl rfl ?_ (by simp [Value.oneCell']) (by simp only [maxLen]; omega) (by omega) (by simp; omega) ?_
                  · intro j y hj
                    match j, hj with
                    | 0, hj =>
                      obtain rfl := Option.some.inj hj
                      rw [Addr.add_mid]
                      exact hbb.cell 0
                  intro v' w6 ho6 hg6 _ hat6
                  have HO6 := Lib.hid (HOA.out.app8 ho6 hg6 hat6)
                  have HB := Lib.hid (below_of_app HOA.out.hu hg6 (HB.out.alloc HB.out.size (.cells #[.string xs] 9)) (by simp; omega))
                  clear ho6 hg6 hat6 hs9 hi9 e1 e2 e3 hbb hz5 x0 x1 x2
                  simp only [Act.put]
                  go_wp2_with fail
                  go_roundw
                  case rel => exact ⟨k + 1, n, m, (up ++ [xs]), dn, _, by go_num, by first | rfl | go_num, by first | rfl | go_num, (by first | omega | (simp; omega)), (by first | omega | (simp; omega)), by omega, by omega, HB.out, HO6.out⟩
                  case measure => simp [intOf]; omega
                · have HO := Lib.hid (HO.out.moved HM.out HO.out.nu HO.out.md (by rw [put_ne 0 (by omega) (.inr hac) 0 (by omega)]; exact HO.out.lu) (by rw [put_ne 0 (by omega) (.inr hac) 1 (by omega)]; exact HO.out.ld))
                  have hac' : (xc == (c : Int)) = false := beq_eq_false_iff_ne.2 hac
                  clear hE
                  go_wp2_with fail
                  clear x0 x1 x2
                  go_roundw
                  case rel => exact ⟨k + 1, n, m, up, dn, _, by go_num, by first | rfl | go_num, by first | rfl | go_num, (by first | omega | (simp; omega)), (by first | omega | (simp; omega)), by omega, by omega, HB.out, HO.out⟩
                  case measure => simp [intOf]; omega
              · have HO := Lib.hid (HO.out.moved HM.out HO.out.nu HO.out.md (by rw [put_ne 0 (by omega) (.inl (by rw [hE]; exact hE0)) 0 (by omega)]; exact HO.out.lu) (by rw [put_ne 0 (by omega) (.inl (by rw [hE]; exact hE0)) 1 (by omega)]; exact HO.out.ld))
                have hE0' : (E == 0) = false := beq_eq_false_iff_ne.2 hE0
                clear hE
                go_wp2_with fail
                clear x0 x1 x2
                go_roundw
                case rel => exact ⟨k + 1, n, m, up, dn, _, by go_num, by first | rfl | go_num, by first | rfl | go_num, (by first | omega | (simp; omega)), (by first | omega | (simp; omega)), by omega, by omega, HB.out, HO.out⟩
                case measure => simp [intOf]; omega
          · by_cases hk2 : xk = 2
            · subst hk2
              as_aux_lemma =>
                go_wp2_with fail
                refine (Down_any g xc 4 xs w4 L HO.out.link HO.out.av).mono ?_
                rintro e w5 ⟨rfl, hm⟩
                clear x0 x1 x2
                have HM := Lib.hid hm
                have HBX := Lib.hid (HBX.out.grown hm.only (by intro e; injection e with e; exact hbg e))
                have HB := Lib.hid (HM.out.below' HB.out hgB HB.out.size)
                clear hm
                have x0 := HBX.out.cell 0
                have x1 := HBX.out.cell 1
                have x2 := HBX.out.cell 2
                obtain ⟨E, hE⟩ : ∃ E, putE 4 xc xs L 1 = E := ⟨_, rfl⟩
                rw [hE]
                by_cases hE0 : E = 0
                · subst hE0
                  by_cases hac : xc = (c : Int)
                  · subst hac
                    have HO := Lib.hid (show Ord w.heap.size c g u8 u9 up dn n m ([] : List ByteArray) [xs] (putM 4 (c : Int) xs L 1) w5 from HO.out.moved HM.out HO.out.nu HO.out.md
                      (by rw [put_far 1 0 (by omega) (by omega) (by omega), HO.out.lu])
                      (by rw [put_yes 1 hE, HO.out.ld, List.append_nil]))
                    clear hE
                    go_upto_region 21 with fail
                    refine wp_region_lit ?_
                    iterate 12 go_step
                    have hs9 : (Try.prog.info? 9).map (fun i => (i.size, i.bytes, i.zero)) = some (1, 16, some (.string ⟨#[]⟩)) := by kernel_rfl
                    obtain ⟨i9, hi9, hi92⟩ := Option.map_eq_some_iff.1 hs9
                    simp only [Prod.mk.injEq] at hi92
                    obtain ⟨e1, e2, e3⟩ := hi92
                    have HOA := Lib.hid (HO.out.grown (World.grownBy_alloc w5 (.cells #[.string xs] 9) none))
                    have hbb := Blk.new w5 9 #[.string xs]
                    have hz5 := HB.out.size
                    refine wpList_append_own_at _ rfl _ _ 40 rfl w.heap.size 9 i9 (.string ⟨#[]⟩) 1 16 Try.underlying40 hi9 e3 e1 e2 rfl (by omega) u9 dn.length (dn.map .string) rfl HOA.out.hd ⟨w5.heap.size, 0, none⟩ 1 1 [.string xs] rfl rfl ?_ (by simp [Value.oneCell']) (by simp only [maxLen]; omega) (by omega) (by simp; omega) ?_
                    · intro j y hj
                      match j, hj with
                      | 0, hj =>
                        obtain rfl := Option.some.inj hj
                        rw [Addr.add_mid]
                        exact hbb.cell 0
                    intro v' w6 ho6 hg6 _ hat6
                    have HO6 := Lib.hid (HOA.out.app9 ho6 hg6 hat6)
                    have HB := Lib.hid (below_of_app HOA.out.hd hg6 (HB.out.alloc HB.out.size (.cells #[.string xs] 9)) (by simp; omega))
                    clear ho6 hg6 hat6 hs9 hi9 e1 e2 e3 hbb hz5 x0 x1 x2
                    simp only [Act.put]
                    go_wp2_with fail
                    go_roundw
                    case rel => exact ⟨k + 1, n, m, up, (dn ++ [xs]), _, by go_num, by first | rfl | go_num, by first | rfl | go_num, (by first | omega | (simp; omega)), (by first | omega | (simp; omega)), by omega, by omega, HB.out, HO6.out⟩
                    case measure => simp [intOf]; omega
                  · have HO := Lib.hid (HO.out.moved HM.out HO.out.nu HO.out.md (by rw [put_ne 1 (by omega) (.inr hac) 0 (by omega)]; exact HO.out.lu) (by rw [put_ne 1 (by omega) (.inr hac) 1 (by omega)]; exact HO.out.ld))
                    have hac' : (xc == (c : Int)) = false := beq_eq_false_iff_ne.2 hac
                    clear hE
                    go_wp2_with fail
                    clear x0 x1 x2
                    go_roundw
                    case rel => exact ⟨k + 1, n, m, up, dn, _, by go_num, by first | rfl | go_num, by first | rfl | go_num, (by first | omega | (simp; omega)), (by first | omega | (simp; omega)), by omega, by omega, HB.out, HO.out⟩
                    case measure => simp [intOf]; omega
                · have HO := Lib.hid (HO.out.moved HM.out HO.out.nu HO.out.md (by rw [put_ne 1 (by omega) (.inl (by rw [hE]; exact hE0)) 0 (by omega)]; exact HO.out.lu) (by rw [put_ne 1 (by omega) (.inl (by rw [hE]; exact hE0)) 1 (by omega)]; exact HO.out.ld))
                  have hE0' : (E == 0) = false := beq_eq_false_iff_ne.2 hE0
                  clear hE
                  go_wp2_with fail
                  clear x0 x1 x2
                  go_roundw
                  case rel => exact ⟨k + 1, n, m, up, dn, _, by go_num, by first | rfl | go_num, by first | rfl | go_num, (by first | omega | (simp; omega)), (by first | omega | (simp; omega)), by omega, by omega, HB.out, HO.out⟩
                  case measure => simp [intOf]; omega
            · by_cases hk3 : xk = 3
              · subst hk3
                as_aux_lemma =>
                  go_wp2_with fail
                  refine (Down_any g xc 4 xs w4 L HO.out.link HO.out.av).mono ?_
                  rintro e w5 ⟨rfl, hm⟩
                  clear x0 x1 x2
                  have HM := Lib.hid hm
                  have HBX := Lib.hid (HBX.out.grown hm.only (by intro e; injection e with e; exact hbg e))
                  have HB := Lib.hid (HM.out.below' HB.out hgB HB.out.size)
                  clear hm
                  have x0 := HBX.out.cell 0
                  have x1 := HBX.out.cell 1
                  have x2 := HBX.out.cell 2
                  obtain ⟨E, hE⟩ : ∃ E, putE 4 xc xs L 1 = E := ⟨_, rfl⟩
                  rw [hE]
                  by_cases hE0 : E = 0
                  · subst hE0
                    by_cases hac : xc = (c : Int)
                    · subst hac
                      have HO := Lib.hid (show Ord w.heap.size c g u8 u9 up dn n m ([] : List ByteArray) [xs] (putM 4 (c : Int) xs L 1) w5 from HO.out.moved HM.out HO.out.nu HO.out.md
                        (by rw [put_far 1 0 (by omega) (by omega) (by omega), HO.out.lu])
                        (by rw [put_yes 1 hE, HO.out.ld, List.append_nil]))
                      clear hE
                      go_upto_region 21 with fail
                      refine wp_region_lit ?_
                      iterate 12 go_step
                      have hs9 : (Try.prog.info? 9).map (fun i => (i.size, i.bytes, i.zero)) = some (1, 16, some (.string ⟨#[]⟩)) := by kernel_rfl
                      obtain ⟨i9, hi9, hi92⟩ := Option.map_eq_some_iff.1 hs9
                      simp only [Prod.mk.injEq] at hi92
                      obtain ⟨e1, e2, e3⟩ := hi92
                      have HOA := Lib.hid (HO.out.grown (World.grownBy_alloc w5 (.cells #[.string xs] 9) none))
                      have hbb := Blk.new w5 9 #[.string xs]
                      have hz5 := HB.out.size
                      refine wpList_append_own_at _ rfl _ _ 40 rfl w.heap.size 9 i9 (.string ⟨#[]⟩) 1 16 Try.underlying40 hi9 e3 e1 e2 rfl (by omega) u9 dn.length (dn.map .string) rfl HOA.out.hd ⟨w5.heap.size, 0, none⟩ 1 1 [.string xs] rfl rfl ?_ (by simp [Value.oneCell']) (by simp only [maxLen]; omega) (by omega) (by simp; omega) ?_
                      · intro j y hj
                        match j, hj with
                        | 0, hj =>
                          obtain rfl := Option.some.inj hj
                          rw [Addr.add_mid]
                          exact hbb.cell 0
                      intro v' w6 ho6 hg6 _ hat6
                      have HO6 := Lib.hid (HOA.out.app9 ho6 hg6 hat6)
                      have HB := Lib.hid (below_of_app HOA.out.hd hg6 (HB.out.alloc HB.out.size (.cells #[.string xs] 9)) (by simp; omega))
                      clear ho6 hg6 hat6 hs9 hi9 e1 e2 e3 hbb hz5 x0 x1 x2
                      simp only [Act.put]
                      go_wp2_with fail
                      go_roundw
                      case rel => exact ⟨k + 1, n, m, up, (dn ++ [xs]), _, by go_num, by first | rfl | go_num, by first | rfl | go_num, (by first | omega | (simp; omega)), (by first | omega | (simp; omega)), by omega, by omega, HB.out, HO6.out⟩
                      case measure => simp [intOf]; omega
                    · have HO := Lib.hid (HO.out.moved HM.out HO.out.nu HO.out.md (by rw [put_ne 1 (by omega) (.inr hac) 0 (by omega)]; exact HO.out.lu) (by rw [put_ne 1 (by omega) (.inr hac) 1 (by omega)]; exact HO.out.ld))
                      have hac' : (xc == (c : Int)) = false := beq_eq_false_iff_ne.2 hac
                      clear hE
                      go_wp2_with fail
                      clear x0 x1 x2
                      go_roundw
                      case rel => exact ⟨k + 1, n, m, up, dn, _, by go_num, by first | rfl | go_num, by first | rfl | go_num, (by first | omega | (simp; omega)), (by first | omega | (simp; omega)), by omega, by omega, HB.out, HO.out⟩
                      case measure => simp [intOf]; omega
                  · have HO := Lib.hid (HO.out.moved HM.out HO.out.nu HO.out.md (by rw [put_ne 1 (by omega) (.inl (by rw [hE]; exact hE0)) 0 (by omega)]; exact HO.out.lu) (by rw [put_ne 1 (by omega) (.inl (by rw [hE]; exact hE0)) 1 (by omega)]; exact HO.out.ld))
                    have hE0' : (E == 0) = false := beq_eq_false_iff_ne.2 hE0
                    clear hE
                    go_wp2_with fail
                    clear x0 x1 x2
                    go_roundw
                    case rel => exact ⟨k + 1, n, m, up, dn, _, by go_num, by first | rfl | go_num, by first | rfl | go_num, (by first | omega | (simp; omega)), (by first | omega | (simp; omega)), by omega, by omega, HB.out, HO.out⟩
                    case measure => simp [intOf]; omega
              · by_cases hk4 : xk = 4
                · subst hk4
                  as_aux_lemma =>
                    go_wp2_with fail
                    refine (TakeUp_any g (c : Int) 4 w4 L HO.out.link).mono ?_
                    rintro e w5 ⟨rfl, hm⟩
                    clear x0 x1 x2
                    have HM := Lib.hid hm
                    have HB := Lib.hid (HM.out.below' HB.out hgB HB.out.size)
                    clear hm
                    obtain ⟨t1, t2, t3⟩ := take_at (c := c) (L := L) 0 hc4
                    have hl0 := HO.out.lu
                    rw [List.append_nil] at hl0
                    rw [hl0] at t1 t2 t3
                    by_cases hlt : n < up.length
                    · have hdr : up.drop n = up[n] :: up.drop (n + 1) := List.drop_eq_getElem_cons hlt
                      rw [hdr] at t1 t2 t3
                      have HO := Lib.hid (HO.out.moved (n' := n + 1) (m' := m) HM.out (by have := HO.out.nu; omega) (by have := HO.out.md; omega) (by rw [t1, List.append_nil]; rfl) (by rw [take_far 0 1 (by omega) (by omega) (by omega)]; exact HO.out.ld))
                      rw [show takeS 4 (c : Int) L 0 = up[n] from t2, show takeB 4 (c : Int) L 0 = true from t3]
                      obtain ⟨q, cap, hv, hcell⟩ := own_at HO.out.hu n up[n] (by rw [List.getElem?_map, List.getElem?_eq_getElem hlt]; rfl)
                      subst hv
                      have hlt' : (n : Int) < (up.length : Int) := by omega
                      have hlc : up.length ≤ 60 := by omega
                      clear t1 t2 t3 hdr hl0
                      generalize up[n] = y at hcell ⊢
                      go_wp2_with fail
                      go_roundw
                      case rel => exact ⟨k + 1, (n + 1), m, up, dn, _, by go_num, by first | rfl | go_num, by first | rfl | go_num, (by first | omega | (simp; omega)), (by first | omega | (simp; omega)), by omega, by omega, HB.out, HO.out⟩
                      case measure => simp [intOf]; omega
                    · have hdr : up.drop n = [] := List.drop_eq_nil_of_le (by omega)
                      rw [hdr] at t1 t2 t3
                      have HO := Lib.hid (HO.out.moved (n' := n) (m' := m) HM.out HO.out.nu HO.out.md (by rw [t1, hdr]; rfl) (by rw [take_far 0 1 (by omega) (by omega) (by omega)]; exact HO.out.ld))
                      rw [show takeS 4 (c : Int) L 0 = ByteArray.empty from t2, show takeB 4 (c : Int) L 0 = false from t3]
                      obtain ⟨ao, cap, hv⟩ := own_slice HO.out.hu
                      subst hv
                      have hlt' : ¬ (n : Int) < (up.length : Int) := by omega
                      clear t1 t2 t3 hdr hl0
                      go_wp2_with fail
                      go_roundw
                      case rel => exact ⟨k + 1, n, m, up, dn, _, by go_num, by first | rfl | go_num, by first | rfl | go_num, (by first | omega | (simp; omega)), (by first | omega | (simp; omega)), by omega, by omega, HB.out, HO.out⟩
                      case measure => simp [intOf]; omega
                · by_cases hk5 : xk = 5
                  · subst hk5
                    as_aux_lemma =>
                      go_wp2_with fail
                      refine (TakeUp_any g (c : Int) 4 w4 L HO.out.link).mono ?_
                      rintro e w5 ⟨rfl, hm⟩
                      clear x0 x1 x2
                      have HM := Lib.hid hm
                      have HB := Lib.hid (HM.out.below' HB.out hgB HB.out.size)
                      clear hm
                      obtain ⟨t1, t2, t3⟩ := take_at (c := c) (L := L) 0 hc4
                      have hl0 := HO.out.lu
                      rw [List.append_nil] at hl0
                      rw [hl0] at t1 t2 t3
                      by_cases hlt : n < up.length
                      · have hdr : up.drop n = up[n] :: up.drop (n + 1) := List.drop_eq_getElem_cons hlt
                        rw [hdr] at t1 t2 t3
                        have HO := Lib.hid (HO.out.moved (n' := n + 1) (m' := m) HM.out (by have := HO.out.nu; omega) (by have := HO.out.md; omega) (by rw [t1, List.append_nil]; rfl) (by rw [take_far 0 1 (by omega) (by omega) (by omega)]; exact HO.out.ld))
                        rw [show takeS 4 (c : Int) L 0 = up[n] from t2, show takeB 4 (c : Int) L 0 = true from t3]
                        obtain ⟨q, cap, hv, hcell⟩ := own_at HO.out.hu n up[n] (by rw [List.getElem?_map, List.getElem?_eq_getElem hlt]; rfl)
                        subst hv
                        have hlt' : (n : Int) < (up.length : Int) := by omega
                        have hlc : up.length ≤ 60 := by omega
                        clear t1 t2 t3 hdr hl0
                        generalize up[n] = y at hcell ⊢
                        go_wp2_with fail
                        go_roundw
                        case rel => exact ⟨k + 1, (n + 1), m, up, dn, _, by go_num, by first | rfl | go_num, by first | rfl | go_num, (by first | omega | (simp; omega)), (by first | omega | (simp; omega)), by omega, by omega, HB.out, HO.out⟩
                        case measure => simp [intOf]; omega
                      · have hdr : up.drop n = [] := List.drop_eq_nil_of_le (by omega)
                        rw [hdr] at t1 t2 t3
                        have HO := Lib.hid (HO.out.moved (n' := n) (m' := m) HM.out HO.out.nu HO.out.md (by rw [t1, hdr]; rfl) (by rw [take_far 0 1 (by omega) (by omega) (by omega)]; exact HO.out.ld))
                        rw [show takeS 4 (c : Int) L 0 = ByteArray.empty from t2, show takeB 4 (c : Int) L 0 = false from t3]
                        obtain ⟨ao, cap, hv⟩ := own_slice HO.out.hu
                        subst hv
                        have hlt' : ¬ (n : Int) < (up.length : Int) := by omega
                        clear t1 t2 t3 hdr hl0
                        go_wp2_with fail
                        go_roundw
                        case rel => exact ⟨k + 1, n, m, up, dn, _, by go_num, by first | rfl | go_num, by first | rfl | go_num, (by first | omega | (simp; omega)), (by first | omega | (simp; omega)), by omega, by omega, HB.out, HO.out⟩
                        case measure => simp [intOf]; omega
                  · by_cases hk6 : xk = 6
                    · subst hk6
                      as_aux_lemma =>
                        go_wp2_with fail
                        refine (TakeDown_any g (c : Int) 4 w4 L HO.out.link).mono ?_
                        rintro e w5 ⟨rfl, hm⟩
                        clear x0 x1 x2
                        have HM := Lib.hid hm
                        have HB := Lib.hid (HM.out.below' HB.out hgB HB.out.size)
                        clear hm
                        obtain ⟨t1, t2, t3⟩ := take_at (c := c) (L := L) 1 hc4
                        have hl1 := HO.out.ld
                        rw [List.append_nil] at hl1
                        rw [hl1] at t1 t2 t3
                        by_cases hlt : m < dn.length
                        · have hdr : dn.drop m = dn[m] :: dn.drop (m + 1) := List.drop_eq_getElem_cons hlt
                          rw [hdr] at t1 t2 t3
                          have HO := Lib.hid (HO.out.moved (n' := n) (m' := m + 1) HM.out (by have := HO.out.nu; omega) (by have := HO.out.md; omega) (by rw [take_far 1 0 (by omega) (by omega) (by omega)]; exact HO.out.lu) (by rw [t1, List.append_nil]; rfl))
                          rw [show takeS 4 (c : Int) L 1 = dn[m] from t2, show takeB 4 (c : Int) L 1 = true from t3]
                          obtain ⟨q, cap, hv, hcell⟩ := own_at HO.out.hd m dn[m] (by rw [List.getElem?_map, List.getElem?_eq_getElem hlt]; rfl)
                          subst hv
                          have hlt' : (m : Int) < (dn.length : Int) := by omega
                          have hlc : dn.length ≤ 60 := by omega
                          clear t1 t2 t3 hdr hl1
                          generalize dn[m] = y at hcell ⊢
                          go_wp2_with fail
                          go_roundw
                          case rel => exact ⟨k + 1, n, (m + 1), up, dn, _, by go_num, by first | rfl | go_num, by first | rfl | go_num, (by first | omega | (simp; omega)), (by first | omega | (simp; omega)), by omega, by omega, HB.out, HO.out⟩
                          case measure => simp [intOf]; omega
                        · have hdr : dn.drop m = [] := List.drop_eq_nil_of_le (by omega)
                          rw [hdr] at t1 t2 t3
                          have HO := Lib.hid (HO.out.moved (n' := n) (m' := m) HM.out HO.out.nu HO.out.md (by rw [take_far 1 0 (by omega) (by omega) (by omega)]; exact HO.out.lu) (by rw [t1, hdr]; rfl))
                          rw [show takeS 4 (c : Int) L 1 = ByteArray.empty from t2, show takeB 4 (c : Int) L 1 = false from t3]
                          obtain ⟨ao, cap, hv⟩ := own_slice HO.out.hd
                          subst hv
                          have hlt' : ¬ (m : Int) < (dn.length : Int) := by omega
                          clear t1 t2 t3 hdr hl1
                          go_wp2_with fail
                          go_roundw
                          case rel => exact ⟨k + 1, n, m, up, dn, _, by go_num, by first | rfl | go_num, by first | rfl | go_num, (by first | omega | (simp; omega)), (by first | omega | (simp; omega)), by omega, by omega, HB.out, HO.out⟩
                          case measure => simp [intOf]; omega
                    · by_cases hk7 : xk = 7
                      · subst hk7
                        as_aux_lemma =>
                          go_wp2_with fail
                          refine (TakeDown_any g (c : Int) 4 w4 L HO.out.link).mono ?_
                          rintro e w5 ⟨rfl, hm⟩
                          clear x0 x1 x2
                          have HM := Lib.hid hm
                          have HB := Lib.hid (HM.out.below' HB.out hgB HB.out.size)
                          clear hm
                          obtain ⟨t1, t2, t3⟩ := take_at (c := c) (L := L) 1 hc4
                          have hl1 := HO.out.ld
                          rw [List.append_nil] at hl1
                          rw [hl1] at t1 t2 t3
                          by_cases hlt : m < dn.length
                          · have hdr : dn.drop m = dn[m] :: dn.drop (m + 1) := List.drop_eq_getElem_cons hlt
                            rw [hdr] at t1 t2 t3
                            have HO := Lib.hid (HO.out.moved (n' := n) (m' := m + 1) HM.out (by have := HO.out.nu; omega) (by have := HO.out.md; omega) (by rw [take_far 1 0 (by omega) (by omega) (by omega)]; exact HO.out.lu) (by rw [t1, List.append_nil]; rfl))
                            rw [show takeS 4 (c : Int) L 1 = dn[m] from t2, show takeB 4 (c : Int) L 1 = true from t3]
                            obtain ⟨q, cap, hv, hcell⟩ := own_at HO.out.hd m dn[m] (by rw [List.getElem?_map, List.getElem?_eq_getElem hlt]; rfl)
                            subst hv
                            have hlt' : (m : Int) < (dn.length : Int) := by omega
                            have hlc : dn.length ≤ 60 := by omega
                            clear t1 t2 t3 hdr hl1
                            generalize dn[m] = y at hcell ⊢
                            go_wp2_with fail
                            go_roundw
                            case rel => exact ⟨k + 1, n, (m + 1), up, dn, _, by go_num, by first | rfl | go_num, by first | rfl | go_num, (by first | omega | (simp; omega)), (by first | omega | (simp; omega)), by omega, by omega, HB.out, HO.out⟩
                            case measure => simp [intOf]; omega
                          · have hdr : dn.drop m = [] := List.drop_eq_nil_of_le (by omega)
                            rw [hdr] at t1 t2 t3
                            have HO := Lib.hid (HO.out.moved (n' := n) (m' := m) HM.out HO.out.nu HO.out.md (by rw [take_far 1 0 (by omega) (by omega) (by omega)]; exact HO.out.lu) (by rw [t1, hdr]; rfl))
                            rw [show takeS 4 (c : Int) L 1 = ByteArray.empty from t2, show takeB 4 (c : Int) L 1 = false from t3]
                            obtain ⟨ao, cap, hv⟩ := own_slice HO.out.hd
                            subst hv
                            have hlt' : ¬ (m : Int) < (dn.length : Int) := by omega
                            clear t1 t2 t3 hdr hl1
                            go_wp2_with fail
                            go_roundw
                            case rel => exact ⟨k + 1, n, m, up, dn, _, by go_num, by first | rfl | go_num, by first | rfl | go_num, (by first | omega | (simp; omega)), (by first | omega | (simp; omega)), by omega, by omega, HB.out, HO.out⟩
                            case measure => simp [intOf]; omega
                      · as_aux_lemma =>
                          by_cases hk8 : xk = 8
                          · subst hk8
                            by_cases hac8 : xc = (c : Int)
                            · subst hac8
                              go_wp2_with fail
                              clear x0 x1 x2
                              go_roundw
                              case rel => exact ⟨k + 1, n, m, up, dn, _, by go_num, by first | rfl | go_num, by first | rfl | go_num, (by first | omega | (simp; omega)), (by first | omega | (simp; omega)), by omega, by omega, HB.out, HO.out⟩
                              case measure => simp [intOf]; omega
                            · have hac8' : (xc == (c : Int)) = false := beq_eq_false_iff_ne.2 hac8
                              go_wp2_with fail
                              refine (Reset_any g xc 4 w4 L HO.out.link).mono ?_
                              rintro e w5 ⟨rfl, hm⟩
                              clear x0 x1 x2
                              have HM := Lib.hid hm
                              have HBX := Lib.hid (HBX.out.grown hm.only (by intro e; injection e with e; exact hbg e))
                              have HB := Lib.hid (HM.out.below' HB.out hgB HB.out.size)
                              clear hm
                              have x0 := HBX.out.cell 0
                              have x1 := HBX.out.cell 1
                              have x2 := HBX.out.cell 2
                              have hac := hac8
                              have hac' : (xc == (c : Int)) = false := beq_eq_false_iff_ne.2 hac
                              have HO := Lib.hid (HO.out.moved (n' := n) (m' := m) HM.out HO.out.nu HO.out.md (by rw [reset_ne hac 0 (by omega)]; exact HO.out.lu) (by rw [reset_ne hac 1 (by omega)]; exact HO.out.ld))
                              go_wp2_with fail
                              clear x0 x1 x2
                              go_roundw
                              case rel => exact ⟨k + 1, n, m, up, dn, _, by go_num, by first | rfl | go_num, by first | rfl | go_num, (by first | omega | (simp; omega)), (by first | omega | (simp; omega)), by omega, by omega, HB.out, HO.out⟩
                              case measure => simp [intOf]; omega
                          · have k0 : (xk == 0) = false := beq_eq_false_iff_ne.2 (by omega)
                            have k1 : (xk == 1) = false := beq_eq_false_iff_ne.2 (by omega)
                            have k2 : (xk == 2) = false := beq_eq_false_iff_ne.2 (by omega)
                            have k3 : (xk == 3) = false := beq_eq_false_iff_ne.2 (by omega)
                            have k4 : (xk == 4) = false := beq_eq_false_iff_ne.2 (by omega)
                            have k5 : (xk == 5) = false := beq_eq_false_iff_ne.2 (by omega)
                            have k6 : (xk == 6) = false := beq_eq_false_iff_ne.2 (by omega)
                            have k7 : (xk == 7) = false := beq_eq_false_iff_ne.2 (by omega)
                            have k8 : (xk == 8) = false := beq_eq_false_iff_ne.2 (by omega)
                            go_wp2_with fail
                            refine (Reset_any g xc 4 w4 L HO.out.link).mono ?_
                            rintro e w5 ⟨rfl, hm⟩
                            clear x0 x1 x2
                            have HM := Lib.hid hm
                            have HBX := Lib.hid (HBX.out.grown hm.only (by intro e; injection e with e; exact hbg e))
                            have HB := Lib.hid (HM.out.below' HB.out hgB HB.out.size)
                            clear hm
                            have x0 := HBX.out.cell 0
                            have x1 := HBX.out.cell 1
                            have x2 := HBX.out.cell 2
                            by_cases hac : xc = (c : Int)
                            · subst hac
                              have HO := Lib.hid (HO.out.moved (n' := up.length) (m' := dn.length) HM.out (Nat.le_refl _) (Nat.le_refl _) (by rw [reset_at hc4 0 (by omega), List.drop_length]; rfl) (by rw [reset_at hc4 1 (by omega), List.drop_length]; rfl))
                              obtain ⟨ao8, cap8, hv8⟩ := own_slice HO.out.hu
                              obtain ⟨ao9, cap9, hv9⟩ := own_slice HO.out.hd
                              subst hv8 hv9
                              go_wp2_with fail
                              clear x0 x1 x2
                              go_roundw
                              case rel => exact ⟨k + 1, up.length, dn.length, up, dn, _, by go_num, by first | rfl | go_num, by first | rfl | go_num, (by first | omega | (simp; omega)), (by first | omega | (simp; omega)), by omega, by omega, HB.out, HO.out⟩
                              case measure => simp [intOf]; omega
                            · have hac' : (xc == (c : Int)) = false := beq_eq_false_iff_ne.2 hac
                              have HO := Lib.hid (HO.out.moved (n' := n) (m' := m) HM.out HO.out.nu HO.out.md (by rw [reset_ne hac 0 (by omega)]; exact HO.out.lu) (by rw [reset_ne hac 1 (by omega)]; exact HO.out.ld))
                              go_wp2_with fail
                              clear x0 x1 x2
                              go_roundw
                              case rel => exact ⟨k + 1, n, m, up, dn, _, by go_num, by first | rfl | go_num, by first | rfl | go_num, (by first | omega | (simp; omega)), (by first | omega | (simp; omega)), by omega, by omega, HB.out, HO.out⟩
                              case measure => simp [intOf]; omega
    · by_cases h60 : k < len
      · have h60' : ¬ k < 60 := by omega
        go_wp2_with fail
        refine (Len_a g (c : Int) 4 wr L HO.out.link).mono ?_
        rintro e w5 ⟨rfl, kd, rfl⟩
        have hx : ((lenM 4 (c : Int) L 0 : Nat) : Int) = (up.length : Int) - (n : Int) := by rw [len_at hc4 0, HO.out.lu, List.append_nil, List.length_drop]; omega
        have hy : ((lenM 4 (c : Int) L 1 : Nat) : Int) = (dn.length : Int) - (m : Int) := by rw [len_at hc4 1, HO.out.ld, List.append_nil, List.length_drop]; omega
        rw [hx, hy]
        obtain ⟨ao8, cap8, hv8⟩ := own_slice HO.out.hu
        obtain ⟨ao9, cap9, hv9⟩ := own_slice HO.out.hd
        subst hv8 hv9
        clear hx hy
        go_wp2_with fail
        go_ret
        exact ⟨rfl, HB.out.drewN _⟩
      · go_wp2_with fail
        refine (Len_a g (c : Int) 4 wr L HO.out.link).mono ?_
        rintro e w5 ⟨rfl, kd, rfl⟩
        have hx : ((lenM 4 (c : Int) L 0 : Nat) : Int) = (up.length : Int) - (n : Int) := by rw [len_at hc4 0, HO.out.lu, List.append_nil, List.length_drop]; omega
        have hy : ((lenM 4 (c : Int) L 1 : Nat) : Int) = (dn.length : Int) - (m : Int) := by rw [len_at hc4 1, HO.out.ld, List.append_nil, List.length_drop]; omega
        rw [hx, hy]
        obtain ⟨ao8, cap8, hv8⟩ := own_slice HO.out.hu
        obtain ⟨ao9, cap9, hv9⟩ := own_slice HO.out.hd
        subst hv8 hv9
        clear hx hy
        go_wp2_with fail
        go_ret
        exact ⟨rfl, HB.out.drewN _⟩
end Go.Proofs.Ytdfdgcknahmnnaa
