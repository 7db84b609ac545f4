/- SectNone answers true. -/
import Derived.Test.YtnddkodenkmoiaaDisk9
namespace Go.Proofs.Ytnddkodenkmoiaa
open Go.RowKit Go.Proofs
set_option linter.unusedSimpArgs false
set_option linter.unusedVariables false
set_option maxRecDepth 100000 in
set_option maxHeartbeats 4000000 in
theorem sectNone_any (k i n : Int) (s : ByteArray) (v : Value) (w : World) :
    Calls Try.prog 5 #[.agg #[.int .i64 k, .int .i64 i, .string s, v], .int .i64 n] w fun e w' => e = .returned (.bool true) ∧ Below w.heap.size w w' := by
  go_enter Try.func5, Try.ntmps5
  go_wp2_with fail
  have HR := Lib.hid (Blk.new w 38 #[.int .i64 k, .int .i64 i, .string s, v])
  have HB := Lib.hid ((Below.refl w.heap.size w).alloc (Nat.le_refl _) (.cells #[.int .i64 k, .int .i64 i, .string s, v] 38))
  generalize w.alloc (.cells #[.int .i64 k, .int .i64 i, .string s, v] 38) = w0 at HR HB ⊢
  refine (read_nil i w0).mono ?_
  rintro e w1 ⟨rfl, rfl⟩
  go_wp2_with fail
  refine (new_any n w0).mono ?_
  rintro e w1 (⟨h, rfl, rfl⟩ | ⟨h, d, g, hd, hg, rfl, hD, hB⟩)
  · have w1 := w0
    have HR := HR
    by_cases h1 : 1 ≤ n
    · have h2 : ¬ n ≤ 512 := by
        intro h2; apply h; unfold newR; rw [if_neg (by omega)]
      have h3 : decide (n ≤ 512) = false := by simpa using h2
      clear h2
      go_wp2_with fail
      refine (awake_any w0).mono ?_
      rintro e w2 ⟨rfl, hb⟩
      have HR := Lib.hid (HR.out.below hb HR.out.lt)
      have HB := Lib.hid (HB.out.trans (hb.mono HB.out.size))
      clear hb
      have c1 := HR.out.cell 1
      have c2 := HR.out.cell 2
      have c3 := HR.out.cell 3
      go_wp2_with fail
      refine (write_nil i s w2).mono ?_
      rintro e w3 ⟨rfl, rfl⟩
      go_wp2_with fail
      refine (sync_nil w2).mono ?_
      rintro e w3 ⟨rfl, rfl⟩
      go_wp2_with fail
      refine (arm_nil i w2).mono ?_
      rintro e w3 ⟨rfl, rfl⟩
      go_wp2_with fail
      refine (crash_nil v w2).mono ?_
      rintro e w3 ⟨rfl, rfl⟩
      go_wp2_with fail
      refine (sectors_nil w2).mono ?_
      rintro e w3 ⟨rfl, rfl⟩
      clear c1 c2 c3
      go_wp2_with fail
      refine (loose_nil w2).mono ?_
      rintro e w3 ⟨rfl, hb⟩
      have HB := Lib.hid (HB.out.trans (hb.mono HB.out.size))
      clear hb
      go_wp2_with fail
      refine (down_nil w3).mono ?_
      rintro e w4 ⟨rfl, rfl⟩
      go_wp2_with fail
      go_ret
      exact ⟨rfl, HB.out⟩
    · go_wp2_with fail
      refine (awake_any w0).mono ?_
      rintro e w2 ⟨rfl, hb⟩
      have HR := Lib.hid (HR.out.below hb HR.out.lt)
      have HB := Lib.hid (HB.out.trans (hb.mono HB.out.size))
      clear hb
      have c1 := HR.out.cell 1
      have c2 := HR.out.cell 2
      have c3 := HR.out.cell 3
      go_wp2_with fail
      refine (write_nil i s w2).mono ?_
      rintro e w3 ⟨rfl, rfl⟩
      go_wp2_with fail
      refine (sync_nil w2).mono ?_
      rintro e w3 ⟨rfl, rfl⟩
      go_wp2_with fail
      refine (arm_nil i w2).mono ?_
      rintro e w3 ⟨rfl, rfl⟩
      go_wp2_with fail
      refine (crash_nil v w2).mono ?_
      rintro e w3 ⟨rfl, rfl⟩
      go_wp2_with fail
      refine (sectors_nil w2).mono ?_
      rintro e w3 ⟨rfl, rfl⟩
      clear c1 c2 c3
      go_wp2_with fail
      refine (loose_nil w2).mono ?_
      rintro e w3 ⟨rfl, hb⟩
      have HB := Lib.hid (HB.out.trans (hb.mono HB.out.size))
      clear hb
      go_wp2_with fail
      refine (down_nil w3).mono ?_
      rintro e w4 ⟨rfl, rfl⟩
      go_wp2_with fail
      go_ret
      exact ⟨rfl, HB.out⟩
  · have h1 : 1 ≤ n := by
      refine Int.not_lt.1 fun h1 => ?_
      unfold newR at h; rw [if_pos (.inl h1)] at h; exact absurd h (by decide)
    have h2 : n ≤ 512 := by
      refine Int.not_lt.1 fun h1 => ?_
      unfold newR at h; rw [if_pos (.inr h1)] at h; exact absurd h (by decide)
    have HR := Lib.hid (HR.out.below hB HR.out.lt)
    have HB := Lib.hid (HB.out.trans (hB.mono HB.out.size))
    clear hB hD
    go_wp2_with fail
    refine (awake_any w1).mono ?_
    rintro e w2 ⟨rfl, hb⟩
    have HR := Lib.hid (HR.out.below hb HR.out.lt)
    have HB := Lib.hid (HB.out.trans (hb.mono HB.out.size))
    clear hb
    have c1 := HR.out.cell 1
    have c2 := HR.out.cell 2
    have c3 := HR.out.cell 3
    go_wp2_with fail
    refine (write_nil i s w2).mono ?_
    rintro e w3 ⟨rfl, rfl⟩
    go_wp2_with fail
    refine (sync_nil w2).mono ?_
    rintro e w3 ⟨rfl, rfl⟩
    go_wp2_with fail
    refine (arm_nil i w2).mono ?_
    rintro e w3 ⟨rfl, rfl⟩
    go_wp2_with fail
    refine (crash_nil v w2).mono ?_
    rintro e w3 ⟨rfl, rfl⟩
    go_wp2_with fail
    refine (sectors_nil w2).mono ?_
    rintro e w3 ⟨rfl, rfl⟩
    clear c1 c2 c3
    go_wp2_with fail
    refine (loose_nil w2).mono ?_
    rintro e w3 ⟨rfl, hb⟩
    have HB := Lib.hid (HB.out.trans (hb.mono HB.out.size))
    clear hb
    go_wp2_with fail
    refine (down_nil w3).mono ?_
    rintro e w4 ⟨rfl, rfl⟩
    go_wp2_with fail
    go_ret
    exact ⟨rfl, HB.out⟩
end Go.Proofs.Ytnddkodenkmoiaa
