/-
  THE LAW CivilRise, walked.
-/
import Derived.Test.YtokcbnmpdbbehaaDoorPrintNo
namespace Go.Proofs.YtokcbnmpdbbehaaDoor.civilRise
open Go Go.RowKit CivM NumM

set_option maxHeartbeats 4000000 in
theorem walk_no (y m d a b c : Int) (w : World) (hA : Ahead w) (hP : Pow w) (hn : ¬ (Valid y m d ∧ Valid a b c)) :
    Calls Tryd.prog 8 #[.agg #[.int .i64 y, .int .i64 m, .int .i64 d], .agg #[.int .i64 a, .int .i64 b, .int .i64 c]] w (One w) := by
  by_cases h : Valid y m d
  · by_cases h2 : Valid a b c
    · exact absurd ⟨h, h2⟩ hn
    · clear hn
      have HAw := Lib.hid hA
      have HPw := Lib.hid hP
      have HV := Lib.hid h
      have HV2 := Lib.hid h2
      clear hA hP h h2
      go_enter Tryd.func8, Tryd.ntmps8
      have HB0 := Lib.hid (((Below.refl w.heap.size w).alloc (Nat.le_refl _) (.cells #[.int .i64 y, .int .i64 m, .int .i64 d] 23)).alloc (by simp) (.cells #[.int .i64 a, .int .i64 b, .int .i64 c] 23))
      have HA0 := Lib.hid (HAw.out.below HB0.out)
      have HD0 := Lib.hid ((Dt.new w y m d).alloc (.cells #[.int .i64 a, .int .i64 b, .int .i64 c] 23))
      have HE0 := Lib.hid (show Dt ((w.alloc (.cells #[.int .i64 y, .int .i64 m, .int .i64 d] 23)).alloc (.cells #[.int .i64 a, .int .i64 b, .int .i64 c] 23)) (w.heap.size + 1) a b c by
        have := Dt.new (w.alloc (.cells #[.int .i64 y, .int .i64 m, .int .i64 d] 23)) a b c
        simpa using this)
      go_wp2_with fail
      refine (days_ok y m d _ HA0.out HV.out).mono ?_
      rintro e w1 ⟨rfl, hb⟩
      have HBw1 := Lib.hid (HB0.out.trans (hb.mono HB0.out.size))
      have HAw1 := Lib.hid (HA0.out.below hb)
      have HDw1 := Lib.hid (HD0.out.below hb HD0.out.lt)
      have HEw1 := Lib.hid (HE0.out.below hb HE0.out.lt)
      obtain ⟨c0, c1, c2⟩ := HDw1.out.cells
      obtain ⟨x0, x1, x2⟩ := HEw1.out.cells
      clear hb
      go_wp2_with fail
      refine (days_no a b c _ HAw1.out HV2.out).mono ?_
      rintro e w2 ⟨rfl, hb⟩
      have HBw2 := Lib.hid (HBw1.out.trans (hb.mono HBw1.out.size))
      have HAw2 := Lib.hid (HAw1.out.below hb)
      have HDw2 := Lib.hid (HDw1.out.below hb HDw1.out.lt)
      have HEw2 := Lib.hid (HEw1.out.below hb HEw1.out.lt)
      obtain ⟨c0, c1, c2⟩ := HDw2.out.cells
      obtain ⟨x0, x1, x2⟩ := HEw2.out.cells
      clear hb
      go_wp2_with fail
      refine (awake_any _ HAw2.out (HPw.out.below HBw2.out)).mono ?_
      rintro e w8 ⟨rfl, hb⟩
      have HBw8 := Lib.hid (HBw2.out.trans (hb.mono HBw2.out.size))
      have HAw8 := Lib.hid (HAw2.out.below hb)
      clear hb
      go_wp2_with fail
      go_ret
      exact ⟨rfl, HBw8.out⟩
  · clear hn
    by_cases h2 : Valid a b c
    ·
      have HAw := Lib.hid hA
      have HPw := Lib.hid hP
      have HV := Lib.hid h
      have HV2 := Lib.hid h2
      clear hA hP h h2
      go_enter Tryd.func8, Tryd.ntmps8
      have HB0 := Lib.hid (((Below.refl w.heap.size w).alloc (Nat.le_refl _) (.cells #[.int .i64 y, .int .i64 m, .int .i64 d] 23)).alloc (by simp) (.cells #[.int .i64 a, .int .i64 b, .int .i64 c] 23))
      have HA0 := Lib.hid (HAw.out.below HB0.out)
      have HD0 := Lib.hid ((Dt.new w y m d).alloc (.cells #[.int .i64 a, .int .i64 b, .int .i64 c] 23))
      have HE0 := Lib.hid (show Dt ((w.alloc (.cells #[.int .i64 y, .int .i64 m, .int .i64 d] 23)).alloc (.cells #[.int .i64 a, .int .i64 b, .int .i64 c] 23)) (w.heap.size + 1) a b c by
        have := Dt.new (w.alloc (.cells #[.int .i64 y, .int .i64 m, .int .i64 d] 23)) a b c
        simpa using this)
      go_wp2_with fail
      refine (days_no y m d _ HA0.out HV.out).mono ?_
      rintro e w1 ⟨rfl, hb⟩
      have HBw1 := Lib.hid (HB0.out.trans (hb.mono HB0.out.size))
      have HAw1 := Lib.hid (HA0.out.below hb)
      have HDw1 := Lib.hid (HD0.out.below hb HD0.out.lt)
      have HEw1 := Lib.hid (HE0.out.below hb HE0.out.lt)
      obtain ⟨c0, c1, c2⟩ := HDw1.out.cells
      obtain ⟨x0, x1, x2⟩ := HEw1.out.cells
      clear hb
      go_wp2_with fail
      refine (days_ok a b c _ HAw1.out HV2.out).mono ?_
      rintro e w2 ⟨rfl, hb⟩
      have HBw2 := Lib.hid (HBw1.out.trans (hb.mono HBw1.out.size))
      have HAw2 := Lib.hid (HAw1.out.below hb)
      have HDw2 := Lib.hid (HDw1.out.below hb HDw1.out.lt)
      have HEw2 := Lib.hid (HEw1.out.below hb HEw1.out.lt)
      obtain ⟨c0, c1, c2⟩ := HDw2.out.cells
      obtain ⟨x0, x1, x2⟩ := HEw2.out.cells
      clear hb
      go_wp2_with fail
      refine (awake_any _ HAw2.out (HPw.out.below HBw2.out)).mono ?_
      rintro e w8 ⟨rfl, hb⟩
      have HBw8 := Lib.hid (HBw2.out.trans (hb.mono HBw2.out.size))
      have HAw8 := Lib.hid (HAw2.out.below hb)
      clear hb
      go_wp2_with fail
      go_ret
      exact ⟨rfl, HBw8.out⟩
    ·
      have HAw := Lib.hid hA
      have HPw := Lib.hid hP
      have HV := Lib.hid h
      have HV2 := Lib.hid h2
      clear hA hP h h2
      go_enter Tryd.func8, Tryd.ntmps8
      have HB0 := Lib.hid (((Below.refl w.heap.size w).alloc (Nat.le_refl _) (.cells #[.int .i64 y, .int .i64 m, .int .i64 d] 23)).alloc (by simp) (.cells #[.int .i64 a, .int .i64 b, .int .i64 c] 23))
      have HA0 := Lib.hid (HAw.out.below HB0.out)
      have HD0 := Lib.hid ((Dt.new w y m d).alloc (.cells #[.int .i64 a, .int .i64 b, .int .i64 c] 23))
      have HE0 := Lib.hid (show Dt ((w.alloc (.cells #[.int .i64 y, .int .i64 m, .int .i64 d] 23)).alloc (.cells #[.int .i64 a, .int .i64 b, .int .i64 c] 23)) (w.heap.size + 1) a b c by
        have := Dt.new (w.alloc (.cells #[.int .i64 y, .int .i64 m, .int .i64 d] 23)) a b c
        simpa using this)
      go_wp2_with fail
      refine (days_no y m d _ HA0.out HV.out).mono ?_
      rintro e w1 ⟨rfl, hb⟩
      have HBw1 := Lib.hid (HB0.out.trans (hb.mono HB0.out.size))
      have HAw1 := Lib.hid (HA0.out.below hb)
      have HDw1 := Lib.hid (HD0.out.below hb HD0.out.lt)
      have HEw1 := Lib.hid (HE0.out.below hb HE0.out.lt)
      obtain ⟨c0, c1, c2⟩ := HDw1.out.cells
      obtain ⟨x0, x1, x2⟩ := HEw1.out.cells
      clear hb
      go_wp2_with fail
      refine (days_no a b c _ HAw1.out HV2.out).mono ?_
      rintro e w2 ⟨rfl, hb⟩
      have HBw2 := Lib.hid (HBw1.out.trans (hb.mono HBw1.out.size))
      have HAw2 := Lib.hid (HAw1.out.below hb)
      have HDw2 := Lib.hid (HDw1.out.below hb HDw1.out.lt)
      have HEw2 := Lib.hid (HEw1.out.below hb HEw1.out.lt)
      obtain ⟨c0, c1, c2⟩ := HDw2.out.cells
      obtain ⟨x0, x1, x2⟩ := HEw2.out.cells
      clear hb
      go_wp2_with fail
      refine (awake_any _ HAw2.out (HPw.out.below HBw2.out)).mono ?_
      rintro e w8 ⟨rfl, hb⟩
      have HBw8 := Lib.hid (HBw2.out.trans (hb.mono HBw2.out.size))
      have HAw8 := Lib.hid (HAw2.out.below hb)
      clear hb
      go_wp2_with fail
      go_ret
      exact ⟨rfl, HBw8.out⟩
set_option maxHeartbeats 4000000 in
theorem walk_a (y m d a b c : Int) (w : World) (hA : Ahead w) (hP : Pow w) (h : Valid y m d) (h2 : Valid a b c) (hl : a < y) :
    Calls Tryd.prog 8 #[.agg #[.int .i64 y, .int .i64 m, .int .i64 d], .agg #[.int .i64 a, .int .i64 b, .int .i64 c]] w (One w) := by
  have ho := num_lt h2 h (.inl hl)
  have hn : (num y m d == num a b c) = false := by simp; omega
  have fy : (y == a) = false := by simp; omega
  have HAw := Lib.hid hA
  have HPw := Lib.hid hP
  have HV := Lib.hid h
  have HV2 := Lib.hid h2
  clear hA hP h h2
  go_enter Tryd.func8, Tryd.ntmps8
  have HB0 := Lib.hid (((Below.refl w.heap.size w).alloc (Nat.le_refl _) (.cells #[.int .i64 y, .int .i64 m, .int .i64 d] 23)).alloc (by simp) (.cells #[.int .i64 a, .int .i64 b, .int .i64 c] 23))
  have HA0 := Lib.hid (HAw.out.below HB0.out)
  have HD0 := Lib.hid ((Dt.new w y m d).alloc (.cells #[.int .i64 a, .int .i64 b, .int .i64 c] 23))
  have HE0 := Lib.hid (show Dt ((w.alloc (.cells #[.int .i64 y, .int .i64 m, .int .i64 d] 23)).alloc (.cells #[.int .i64 a, .int .i64 b, .int .i64 c] 23)) (w.heap.size + 1) a b c by
    have := Dt.new (w.alloc (.cells #[.int .i64 y, .int .i64 m, .int .i64 d] 23)) a b c
    simpa using this)
  go_wp2_with fail
  refine (days_ok y m d _ HA0.out HV.out).mono ?_
  rintro e w1 ⟨rfl, hb⟩
  have HBw1 := Lib.hid (HB0.out.trans (hb.mono HB0.out.size))
  have HAw1 := Lib.hid (HA0.out.below hb)
  have HDw1 := Lib.hid (HD0.out.below hb HD0.out.lt)
  have HEw1 := Lib.hid (HE0.out.below hb HE0.out.lt)
  obtain ⟨c0, c1, c2⟩ := HDw1.out.cells
  obtain ⟨x0, x1, x2⟩ := HEw1.out.cells
  clear hb
  go_wp2_with fail
  refine (days_ok a b c _ HAw1.out HV2.out).mono ?_
  rintro e w2 ⟨rfl, hb⟩
  have HBw2 := Lib.hid (HBw1.out.trans (hb.mono HBw1.out.size))
  have HAw2 := Lib.hid (HAw1.out.below hb)
  have HDw2 := Lib.hid (HDw1.out.below hb HDw1.out.lt)
  have HEw2 := Lib.hid (HEw1.out.below hb HEw1.out.lt)
  obtain ⟨c0, c1, c2⟩ := HDw2.out.cells
  obtain ⟨x0, x1, x2⟩ := HEw2.out.cells
  clear hb
  go_wp2_with fail
  have V1 := Lib.hid (show Valid y 1 1 from ⟨HV.out.y1, HV.out.y2, by decide, by decide, by decide, by have := dim_bd y 1; omega⟩)
  have V12 := Lib.hid (show Valid y 12 31 from ⟨HV.out.y1, HV.out.y2, by decide, by decide, by decide, by simp [dim]⟩)
  have Y1 := HV.out.y1
  have Y2 := HV.out.y2
  have N1 := Lib.hid (show num y 1 1 = dy y by unfold num; rw [cum_1]; omega)
  have N12 := Lib.hid (show num y 12 31 = dy y + 364 + lp y by
    have := cum_succ y 12 (by decide) (by decide)
    rw [show (12 : Int) + 1 = 13 from rfl, cum_13, show dim y 12 = 31 by simp [dim]] at this
    unfold num; omega)
  go_loopw [10, 11] (fun nv kv wr => ∃ k : Int, nv = .int .i64 (cum y k) ∧ kv = .int .i64 k ∧ 1 ≤ k ∧ k ≤ 13 ∧ Dt wr w.heap.size y m d ∧ Below w.heap.size w wr) (fun _ kv _ => (13 - intOf kv).toNat)
  case atStart => exact ⟨1, by rw [cum_1], rfl, by omega, by omega, HDw2.out, HBw2.out⟩
  case round =>
    obtain ⟨k, rfl, rfl, k1, k2, hD, hB⟩ := hrel
    have HBr := Lib.hid hB
    have HDr := Lib.hid hD
    have HAr := Lib.hid (HAw.out.below hB)
    clear hD hB
    obtain ⟨c0, c1, c2⟩ := HDr.out.cells
    by_cases hk : k ≤ 12
    · have db := dim_bd y k
      obtain ⟨db1, db2⟩ := db
      have kb := cum_bd y k k1 hk
      obtain ⟨kb1, kb2, kb3⟩ := kb
      have lb := lp_01 y
      obtain ⟨lb1, lb2⟩ := lb
      have cs := Lib.hid (cum_succ y k k1 hk)
      go_wp2_with fail
      refine (long_ok y k _ HAr.out Y1 Y2 k1 hk).mono ?_
      rintro e w4 ⟨rfl, hb⟩
      have HBw4 := Lib.hid (HBr.out.trans (hb.mono HBr.out.size))
      have HAw4 := Lib.hid (HAr.out.below hb)
      have HDw4 := Lib.hid (HDr.out.below hb HDr.out.lt)
      obtain ⟨c0, c1, c2⟩ := HDw4.out.cells
      clear hb
      go_wp2_with fail
      go_roundw
      case rel => exact ⟨k + 1, by rw [cs.out], rfl, by omega, by omega, HDw4.out, HBw4.out⟩
      case measure => simp [intOf]; omega
    · obtain rfl : k = 13 := by omega
      go_wp2_with fail
      refine (days_ok y 1 1 _ HAr.out V1.out).mono ?_
      rintro e w4 ⟨rfl, hb⟩
      have HBw4 := Lib.hid (HBr.out.trans (hb.mono HBr.out.size))
      have HAw4 := Lib.hid (HAr.out.below hb)
      have HDw4 := Lib.hid (HDr.out.below hb HDr.out.lt)
      obtain ⟨c0, c1, c2⟩ := HDw4.out.cells
      clear hb
      rw [N1.out]
      go_wp2_with fail
      refine (days_ok y 12 31 _ HAw4.out V12.out).mono ?_
      rintro e w5 ⟨rfl, hb⟩
      have HBw5 := Lib.hid (HBw4.out.trans (hb.mono HBw4.out.size))
      have HAw5 := Lib.hid (HAw4.out.below hb)
      have HDw5 := Lib.hid (HDw4.out.below hb HDw4.out.lt)
      obtain ⟨c0, c1, c2⟩ := HDw5.out.cells
      clear hb
      rw [N12.out]
      have E13 := cum_13 y
      rw [E13]
      clear E13
      have dbd := dy_bd y (by omega) (by omega)
      obtain ⟨dbd1, dbd2⟩ := dbd
      cases hl : lpB y with
      | true =>
        rw [lp_t hl]
        have HL := Lib.hid hl
        clear hl
        go_wp2_with fail
        refine (leap_any y _).mono ?_
        rintro e w' ⟨rfl, rfl⟩
        rw [HL.out]
        go_wp2_with fail
        refine (awake_any _ HAw5.out (HPw.out.below HBw5.out)).mono ?_
        rintro e w8 ⟨rfl, hb⟩
        have HBw8 := Lib.hid (HBw5.out.trans (hb.mono HBw5.out.size))
        have HAw8 := Lib.hid (HAw5.out.below hb)
        clear hb
        go_wp2_with fail
        go_ret
        exact ⟨rfl, HBw8.out⟩
      | false =>
        rw [lp_f hl]
        have HL := Lib.hid hl
        clear hl
        go_wp2_with fail
        refine (leap_any y _).mono ?_
        rintro e w' ⟨rfl, rfl⟩
        rw [HL.out]
        go_wp2_with fail
        refine (awake_any _ HAw5.out (HPw.out.below HBw5.out)).mono ?_
        rintro e w8 ⟨rfl, hb⟩
        have HBw8 := Lib.hid (HBw5.out.trans (hb.mono HBw5.out.size))
        have HAw8 := Lib.hid (HAw5.out.below hb)
        clear hb
        go_wp2_with fail
        go_ret
        exact ⟨rfl, HBw8.out⟩
set_option maxHeartbeats 4000000 in
theorem walk_b (y m d a b c : Int) (w : World) (hA : Ahead w) (hP : Pow w) (h : Valid y m d) (h2 : Valid a b c) (hl : y < a) :
    Calls Tryd.prog 8 #[.agg #[.int .i64 y, .int .i64 m, .int .i64 d], .agg #[.int .i64 a, .int .i64 b, .int .i64 c]] w (One w) := by
  have ho := num_lt h h2 (.inl hl)
  have hn : (num y m d == num a b c) = false := by simp; omega
  have fy : (y == a) = false := by simp; omega
  have HAw := Lib.hid hA
  have HPw := Lib.hid hP
  have HV := Lib.hid h
  have HV2 := Lib.hid h2
  clear hA hP h h2
  go_enter Tryd.func8, Tryd.ntmps8
  have HB0 := Lib.hid (((Below.refl w.heap.size w).alloc (Nat.le_refl _) (.cells #[.int .i64 y, .int .i64 m, .int .i64 d] 23)).alloc (by simp) (.cells #[.int .i64 a, .int .i64 b, .int .i64 c] 23))
  have HA0 := Lib.hid (HAw.out.below HB0.out)
  have HD0 := Lib.hid ((Dt.new w y m d).alloc (.cells #[.int .i64 a, .int .i64 b, .int .i64 c] 23))
  have HE0 := Lib.hid (show Dt ((w.alloc (.cells #[.int .i64 y, .int .i64 m, .int .i64 d] 23)).alloc (.cells #[.int .i64 a, .int .i64 b, .int .i64 c] 23)) (w.heap.size + 1) a b c by
    have := Dt.new (w.alloc (.cells #[.int .i64 y, .int .i64 m, .int .i64 d] 23)) a b c
    simpa using this)
  go_wp2_with fail
  refine (days_ok y m d _ HA0.out HV.out).mono ?_
  rintro e w1 ⟨rfl, hb⟩
  have HBw1 := Lib.hid (HB0.out.trans (hb.mono HB0.out.size))
  have HAw1 := Lib.hid (HA0.out.below hb)
  have HDw1 := Lib.hid (HD0.out.below hb HD0.out.lt)
  have HEw1 := Lib.hid (HE0.out.below hb HE0.out.lt)
  obtain ⟨c0, c1, c2⟩ := HDw1.out.cells
  obtain ⟨x0, x1, x2⟩ := HEw1.out.cells
  clear hb
  go_wp2_with fail
  refine (days_ok a b c _ HAw1.out HV2.out).mono ?_
  rintro e w2 ⟨rfl, hb⟩
  have HBw2 := Lib.hid (HBw1.out.trans (hb.mono HBw1.out.size))
  have HAw2 := Lib.hid (HAw1.out.below hb)
  have HDw2 := Lib.hid (HDw1.out.below hb HDw1.out.lt)
  have HEw2 := Lib.hid (HEw1.out.below hb HEw1.out.lt)
  obtain ⟨c0, c1, c2⟩ := HDw2.out.cells
  obtain ⟨x0, x1, x2⟩ := HEw2.out.cells
  clear hb
  go_wp2_with fail
  have V1 := Lib.hid (show Valid y 1 1 from ⟨HV.out.y1, HV.out.y2, by decide, by decide, by decide, by have := dim_bd y 1; omega⟩)
  have V12 := Lib.hid (show Valid y 12 31 from ⟨HV.out.y1, HV.out.y2, by decide, by decide, by decide, by simp [dim]⟩)
  have Y1 := HV.out.y1
  have Y2 := HV.out.y2
  have N1 := Lib.hid (show num y 1 1 = dy y by unfold num; rw [cum_1]; omega)
  have N12 := Lib.hid (show num y 12 31 = dy y + 364 + lp y by
    have := cum_succ y 12 (by decide) (by decide)
    rw [show (12 : Int) + 1 = 13 from rfl, cum_13, show dim y 12 = 31 by simp [dim]] at this
    unfold num; omega)
  go_loopw [10, 11] (fun nv kv wr => ∃ k : Int, nv = .int .i64 (cum y k) ∧ kv = .int .i64 k ∧ 1 ≤ k ∧ k ≤ 13 ∧ Dt wr w.heap.size y m d ∧ Below w.heap.size w wr) (fun _ kv _ => (13 - intOf kv).toNat)
  case atStart => exact ⟨1, by rw [cum_1], rfl, by omega, by omega, HDw2.out, HBw2.out⟩
  case round =>
    obtain ⟨k, rfl, rfl, k1, k2, hD, hB⟩ := hrel
    have HBr := Lib.hid hB
    have HDr := Lib.hid hD
    have HAr := Lib.hid (HAw.out.below hB)
    clear hD hB
    obtain ⟨c0, c1, c2⟩ := HDr.out.cells
    by_cases hk : k ≤ 12
    · have db := dim_bd y k
      obtain ⟨db1, db2⟩ := db
      have kb := cum_bd y k k1 hk
      obtain ⟨kb1, kb2, kb3⟩ := kb
      have lb := lp_01 y
      obtain ⟨lb1, lb2⟩ := lb
      have cs := Lib.hid (cum_succ y k k1 hk)
      go_wp2_with fail
      refine (long_ok y k _ HAr.out Y1 Y2 k1 hk).mono ?_
      rintro e w4 ⟨rfl, hb⟩
      have HBw4 := Lib.hid (HBr.out.trans (hb.mono HBr.out.size))
      have HAw4 := Lib.hid (HAr.out.below hb)
      have HDw4 := Lib.hid (HDr.out.below hb HDr.out.lt)
      obtain ⟨c0, c1, c2⟩ := HDw4.out.cells
      clear hb
      go_wp2_with fail
      go_roundw
      case rel => exact ⟨k + 1, by rw [cs.out], rfl, by omega, by omega, HDw4.out, HBw4.out⟩
      case measure => simp [intOf]; omega
    · obtain rfl : k = 13 := by omega
      go_wp2_with fail
      refine (days_ok y 1 1 _ HAr.out V1.out).mono ?_
      rintro e w4 ⟨rfl, hb⟩
      have HBw4 := Lib.hid (HBr.out.trans (hb.mono HBr.out.size))
      have HAw4 := Lib.hid (HAr.out.below hb)
      have HDw4 := Lib.hid (HDr.out.below hb HDr.out.lt)
      obtain ⟨c0, c1, c2⟩ := HDw4.out.cells
      clear hb
      rw [N1.out]
      go_wp2_with fail
      refine (days_ok y 12 31 _ HAw4.out V12.out).mono ?_
      rintro e w5 ⟨rfl, hb⟩
      have HBw5 := Lib.hid (HBw4.out.trans (hb.mono HBw4.out.size))
      have HAw5 := Lib.hid (HAw4.out.below hb)
      have HDw5 := Lib.hid (HDw4.out.below hb HDw4.out.lt)
      obtain ⟨c0, c1, c2⟩ := HDw5.out.cells
      clear hb
      rw [N12.out]
      have E13 := cum_13 y
      rw [E13]
      clear E13
      have dbd := dy_bd y (by omega) (by omega)
      obtain ⟨dbd1, dbd2⟩ := dbd
      cases hl : lpB y with
      | true =>
        rw [lp_t hl]
        have HL := Lib.hid hl
        clear hl
        go_wp2_with fail
        refine (leap_any y _).mono ?_
        rintro e w' ⟨rfl, rfl⟩
        rw [HL.out]
        go_wp2_with fail
        refine (awake_any _ HAw5.out (HPw.out.below HBw5.out)).mono ?_
        rintro e w8 ⟨rfl, hb⟩
        have HBw8 := Lib.hid (HBw5.out.trans (hb.mono HBw5.out.size))
        have HAw8 := Lib.hid (HAw5.out.below hb)
        clear hb
        go_wp2_with fail
        go_ret
        exact ⟨rfl, HBw8.out⟩
      | false =>
        rw [lp_f hl]
        have HL := Lib.hid hl
        clear hl
        go_wp2_with fail
        refine (leap_any y _).mono ?_
        rintro e w' ⟨rfl, rfl⟩
        rw [HL.out]
        go_wp2_with fail
        refine (awake_any _ HAw5.out (HPw.out.below HBw5.out)).mono ?_
        rintro e w8 ⟨rfl, hb⟩
        have HBw8 := Lib.hid (HBw5.out.trans (hb.mono HBw5.out.size))
        have HAw8 := Lib.hid (HAw5.out.below hb)
        clear hb
        go_wp2_with fail
        go_ret
        exact ⟨rfl, HBw8.out⟩
set_option maxHeartbeats 4000000 in
theorem walk_c (y m d b c : Int) (w : World) (hA : Ahead w) (hP : Pow w) (h : Valid y m d) (h2 : Valid y b c) (hl : b < m) :
    Calls Tryd.prog 8 #[.agg #[.int .i64 y, .int .i64 m, .int .i64 d], .agg #[.int .i64 y, .int .i64 b, .int .i64 c]] w (One w) := by
  have ho := num_lt h2 h (.inr ⟨rfl, .inl hl⟩)
  have hn : (num y m d == num y b c) = false := by simp; omega
  have fy : (m == b) = false := by simp; omega
  have HAw := Lib.hid hA
  have HPw := Lib.hid hP
  have HV := Lib.hid h
  have HV2 := Lib.hid h2
  clear hA hP h h2
  go_enter Tryd.func8, Tryd.ntmps8
  have HB0 := Lib.hid (((Below.refl w.heap.size w).alloc (Nat.le_refl _) (.cells #[.int .i64 y, .int .i64 m, .int .i64 d] 23)).alloc (by simp) (.cells #[.int .i64 y, .int .i64 b, .int .i64 c] 23))
  have HA0 := Lib.hid (HAw.out.below HB0.out)
  have HD0 := Lib.hid ((Dt.new w y m d).alloc (.cells #[.int .i64 y, .int .i64 b, .int .i64 c] 23))
  have HE0 := Lib.hid (show Dt ((w.alloc (.cells #[.int .i64 y, .int .i64 m, .int .i64 d] 23)).alloc (.cells #[.int .i64 y, .int .i64 b, .int .i64 c] 23)) (w.heap.size + 1) y b c by
    have := Dt.new (w.alloc (.cells #[.int .i64 y, .int .i64 m, .int .i64 d] 23)) y b c
    simpa using this)
  go_wp2_with fail
  refine (days_ok y m d _ HA0.out HV.out).mono ?_
  rintro e w1 ⟨rfl, hb⟩
  have HBw1 := Lib.hid (HB0.out.trans (hb.mono HB0.out.size))
  have HAw1 := Lib.hid (HA0.out.below hb)
  have HDw1 := Lib.hid (HD0.out.below hb HD0.out.lt)
  have HEw1 := Lib.hid (HE0.out.below hb HE0.out.lt)
  obtain ⟨c0, c1, c2⟩ := HDw1.out.cells
  obtain ⟨x0, x1, x2⟩ := HEw1.out.cells
  clear hb
  go_wp2_with fail
  refine (days_ok y b c _ HAw1.out HV2.out).mono ?_
  rintro e w2 ⟨rfl, hb⟩
  have HBw2 := Lib.hid (HBw1.out.trans (hb.mono HBw1.out.size))
  have HAw2 := Lib.hid (HAw1.out.below hb)
  have HDw2 := Lib.hid (HDw1.out.below hb HDw1.out.lt)
  have HEw2 := Lib.hid (HEw1.out.below hb HEw1.out.lt)
  obtain ⟨c0, c1, c2⟩ := HDw2.out.cells
  obtain ⟨x0, x1, x2⟩ := HEw2.out.cells
  clear hb
  go_wp2_with fail
  have V1 := Lib.hid (show Valid y 1 1 from ⟨HV.out.y1, HV.out.y2, by decide, by decide, by decide, by have := dim_bd y 1; omega⟩)
  have V12 := Lib.hid (show Valid y 12 31 from ⟨HV.out.y1, HV.out.y2, by decide, by decide, by decide, by simp [dim]⟩)
  have Y1 := HV.out.y1
  have Y2 := HV.out.y2
  have N1 := Lib.hid (show num y 1 1 = dy y by unfold num; rw [cum_1]; omega)
  have N12 := Lib.hid (show num y 12 31 = dy y + 364 + lp y by
    have := cum_succ y 12 (by decide) (by decide)
    rw [show (12 : Int) + 1 = 13 from rfl, cum_13, show dim y 12 = 31 by simp [dim]] at this
    unfold num; omega)
  go_loopw [10, 11] (fun nv kv wr => ∃ k : Int, nv = .int .i64 (cum y k) ∧ kv = .int .i64 k ∧ 1 ≤ k ∧ k ≤ 13 ∧ Dt wr w.heap.size y m d ∧ Below w.heap.size w wr) (fun _ kv _ => (13 - intOf kv).toNat)
  case atStart => exact ⟨1, by rw [cum_1], rfl, by omega, by omega, HDw2.out, HBw2.out⟩
  case round =>
    obtain ⟨k, rfl, rfl, k1, k2, hD, hB⟩ := hrel
    have HBr := Lib.hid hB
    have HDr := Lib.hid hD
    have HAr := Lib.hid (HAw.out.below hB)
    clear hD hB
    obtain ⟨c0, c1, c2⟩ := HDr.out.cells
    by_cases hk : k ≤ 12
    · have db := dim_bd y k
      obtain ⟨db1, db2⟩ := db
      have kb := cum_bd y k k1 hk
      obtain ⟨kb1, kb2, kb3⟩ := kb
      have lb := lp_01 y
      obtain ⟨lb1, lb2⟩ := lb
      have cs := Lib.hid (cum_succ y k k1 hk)
      go_wp2_with fail
      refine (long_ok y k _ HAr.out Y1 Y2 k1 hk).mono ?_
      rintro e w4 ⟨rfl, hb⟩
      have HBw4 := Lib.hid (HBr.out.trans (hb.mono HBr.out.size))
      have HAw4 := Lib.hid (HAr.out.below hb)
      have HDw4 := Lib.hid (HDr.out.below hb HDr.out.lt)
      obtain ⟨c0, c1, c2⟩ := HDw4.out.cells
      clear hb
      go_wp2_with fail
      go_roundw
      case rel => exact ⟨k + 1, by rw [cs.out], rfl, by omega, by omega, HDw4.out, HBw4.out⟩
      case measure => simp [intOf]; omega
    · obtain rfl : k = 13 := by omega
      go_wp2_with fail
      refine (days_ok y 1 1 _ HAr.out V1.out).mono ?_
      rintro e w4 ⟨rfl, hb⟩
      have HBw4 := Lib.hid (HBr.out.trans (hb.mono HBr.out.size))
      have HAw4 := Lib.hid (HAr.out.below hb)
      have HDw4 := Lib.hid (HDr.out.below hb HDr.out.lt)
      obtain ⟨c0, c1, c2⟩ := HDw4.out.cells
      clear hb
      rw [N1.out]
      go_wp2_with fail
      refine (days_ok y 12 31 _ HAw4.out V12.out).mono ?_
      rintro e w5 ⟨rfl, hb⟩
      have HBw5 := Lib.hid (HBw4.out.trans (hb.mono HBw4.out.size))
      have HAw5 := Lib.hid (HAw4.out.below hb)
      have HDw5 := Lib.hid (HDw4.out.below hb HDw4.out.lt)
      obtain ⟨c0, c1, c2⟩ := HDw5.out.cells
      clear hb
      rw [N12.out]
      have E13 := cum_13 y
      rw [E13]
      clear E13
      have dbd := dy_bd y (by omega) (by omega)
      obtain ⟨dbd1, dbd2⟩ := dbd
      cases hl : lpB y with
      | true =>
        rw [lp_t hl]
        have HL := Lib.hid hl
        clear hl
        go_wp2_with fail
        refine (leap_any y _).mono ?_
        rintro e w' ⟨rfl, rfl⟩
        rw [HL.out]
        go_wp2_with fail
        refine (awake_any _ HAw5.out (HPw.out.below HBw5.out)).mono ?_
        rintro e w8 ⟨rfl, hb⟩
        have HBw8 := Lib.hid (HBw5.out.trans (hb.mono HBw5.out.size))
        have HAw8 := Lib.hid (HAw5.out.below hb)
        clear hb
        go_wp2_with fail
        go_ret
        exact ⟨rfl, HBw8.out⟩
      | false =>
        rw [lp_f hl]
        have HL := Lib.hid hl
        clear hl
        go_wp2_with fail
        refine (leap_any y _).mono ?_
        rintro e w' ⟨rfl, rfl⟩
        rw [HL.out]
        go_wp2_with fail
        refine (awake_any _ HAw5.out (HPw.out.below HBw5.out)).mono ?_
        rintro e w8 ⟨rfl, hb⟩
        have HBw8 := Lib.hid (HBw5.out.trans (hb.mono HBw5.out.size))
        have HAw8 := Lib.hid (HAw5.out.below hb)
        clear hb
        go_wp2_with fail
        go_ret
        exact ⟨rfl, HBw8.out⟩
set_option maxHeartbeats 4000000 in
theorem walk_d (y m d b c : Int) (w : World) (hA : Ahead w) (hP : Pow w) (h : Valid y m d) (h2 : Valid y b c) (hl : m < b) :
    Calls Tryd.prog 8 #[.agg #[.int .i64 y, .int .i64 m, .int .i64 d], .agg #[.int .i64 y, .int .i64 b, .int .i64 c]] w (One w) := by
  have ho := num_lt h h2 (.inr ⟨rfl, .inl hl⟩)
  have hn : (num y m d == num y b c) = false := by simp; omega
  have fy : (m == b) = false := by simp; omega
  have HAw := Lib.hid hA
  have HPw := Lib.hid hP
  have HV := Lib.hid h
  have HV2 := Lib.hid h2
  clear hA hP h h2
  go_enter Tryd.func8, Tryd.ntmps8
  have HB0 := Lib.hid (((Below.refl w.heap.size w).alloc (Nat.le_refl _) (.cells #[.int .i64 y, .int .i64 m, .int .i64 d] 23)).alloc (by simp) (.cells #[.int .i64 y, .int .i64 b, .int .i64 c] 23))
  have HA0 := Lib.hid (HAw.out.below HB0.out)
  have HD0 := Lib.hid ((Dt.new w y m d).alloc (.cells #[.int .i64 y, .int .i64 b, .int .i64 c] 23))
  have HE0 := Lib.hid (show Dt ((w.alloc (.cells #[.int .i64 y, .int .i64 m, .int .i64 d] 23)).alloc (.cells #[.int .i64 y, .int .i64 b, .int .i64 c] 23)) (w.heap.size + 1) y b c by
    have := Dt.new (w.alloc (.cells #[.int .i64 y, .int .i64 m, .int .i64 d] 23)) y b c
    simpa using this)
  go_wp2_with fail
  refine (days_ok y m d _ HA0.out HV.out).mono ?_
  rintro e w1 ⟨rfl, hb⟩
  have HBw1 := Lib.hid (HB0.out.trans (hb.mono HB0.out.size))
  have HAw1 := Lib.hid (HA0.out.below hb)
  have HDw1 := Lib.hid (HD0.out.below hb HD0.out.lt)
  have HEw1 := Lib.hid (HE0.out.below hb HE0.out.lt)
  obtain ⟨c0, c1, c2⟩ := HDw1.out.cells
  obtain ⟨x0, x1, x2⟩ := HEw1.out.cells
  clear hb
  go_wp2_with fail
  refine (days_ok y b c _ HAw1.out HV2.out).mono ?_
  rintro e w2 ⟨rfl, hb⟩
  have HBw2 := Lib.hid (HBw1.out.trans (hb.mono HBw1.out.size))
  have HAw2 := Lib.hid (HAw1.out.below hb)
  have HDw2 := Lib.hid (HDw1.out.below hb HDw1.out.lt)
  have HEw2 := Lib.hid (HEw1.out.below hb HEw1.out.lt)
  obtain ⟨c0, c1, c2⟩ := HDw2.out.cells
  obtain ⟨x0, x1, x2⟩ := HEw2.out.cells
  clear hb
  go_wp2_with fail
  have V1 := Lib.hid (show Valid y 1 1 from ⟨HV.out.y1, HV.out.y2, by decide, by decide, by decide, by have := dim_bd y 1; omega⟩)
  have V12 := Lib.hid (show Valid y 12 31 from ⟨HV.out.y1, HV.out.y2, by decide, by decide, by decide, by simp [dim]⟩)
  have Y1 := HV.out.y1
  have Y2 := HV.out.y2
  have N1 := Lib.hid (show num y 1 1 = dy y by unfold num; rw [cum_1]; omega)
  have N12 := Lib.hid (show num y 12 31 = dy y + 364 + lp y by
    have := cum_succ y 12 (by decide) (by decide)
    rw [show (12 : Int) + 1 = 13 from rfl, cum_13, show dim y 12 = 31 by simp [dim]] at this
    unfold num; omega)
  go_loopw [10, 11] (fun nv kv wr => ∃ k : Int, nv = .int .i64 (cum y k) ∧ kv = .int .i64 k ∧ 1 ≤ k ∧ k ≤ 13 ∧ Dt wr w.heap.size y m d ∧ Below w.heap.size w wr) (fun _ kv _ => (13 - intOf kv).toNat)
  case atStart => exact ⟨1, by rw [cum_1], rfl, by omega, by omega, HDw2.out, HBw2.out⟩
  case round =>
    obtain ⟨k, rfl, rfl, k1, k2, hD, hB⟩ := hrel
    have HBr := Lib.hid hB
    have HDr := Lib.hid hD
    have HAr := Lib.hid (HAw.out.below hB)
    clear hD hB
    obtain ⟨c0, c1, c2⟩ := HDr.out.cells
    by_cases hk : k ≤ 12
    · have db := dim_bd y k
      obtain ⟨db1, db2⟩ := db
      have kb := cum_bd y k k1 hk
      obtain ⟨kb1, kb2, kb3⟩ := kb
      have lb := lp_01 y
      obtain ⟨lb1, lb2⟩ := lb
      have cs := Lib.hid (cum_succ y k k1 hk)
      go_wp2_with fail
      refine (long_ok y k _ HAr.out Y1 Y2 k1 hk).mono ?_
      rintro e w4 ⟨rfl, hb⟩
      have HBw4 := Lib.hid (HBr.out.trans (hb.mono HBr.out.size))
      have HAw4 := Lib.hid (HAr.out.below hb)
      have HDw4 := Lib.hid (HDr.out.below hb HDr.out.lt)
      obtain ⟨c0, c1, c2⟩ := HDw4.out.cells
      clear hb
      go_wp2_with fail
      go_roundw
      case rel => exact ⟨k + 1, by rw [cs.out], rfl, by omega, by omega, HDw4.out, HBw4.out⟩
      case measure => simp [intOf]; omega
    · obtain rfl : k = 13 := by omega
      go_wp2_with fail
      refine (days_ok y 1 1 _ HAr.out V1.out).mono ?_
      rintro e w4 ⟨rfl, hb⟩
      have HBw4 := Lib.hid (HBr.out.trans (hb.mono HBr.out.size))
      have HAw4 := Lib.hid (HAr.out.below hb)
      have HDw4 := Lib.hid (HDr.out.below hb HDr.out.lt)
      obtain ⟨c0, c1, c2⟩ := HDw4.out.cells
      clear hb
      rw [N1.out]
      go_wp2_with fail
      refine (days_ok y 12 31 _ HAw4.out V12.out).mono ?_
      rintro e w5 ⟨rfl, hb⟩
      have HBw5 := Lib.hid (HBw4.out.trans (hb.mono HBw4.out.size))
      have HAw5 := Lib.hid (HAw4.out.below hb)
      have HDw5 := Lib.hid (HDw4.out.below hb HDw4.out.lt)
      obtain ⟨c0, c1, c2⟩ := HDw5.out.cells
      clear hb
      rw [N12.out]
      have E13 := cum_13 y
      rw [E13]
      clear E13
      have dbd := dy_bd y (by omega) (by omega)
      obtain ⟨dbd1, dbd2⟩ := dbd
      cases hl : lpB y with
      | true =>
        rw [lp_t hl]
        have HL := Lib.hid hl
        clear hl
        go_wp2_with fail
        refine (leap_any y _).mono ?_
        rintro e w' ⟨rfl, rfl⟩
        rw [HL.out]
        go_wp2_with fail
        refine (awake_any _ HAw5.out (HPw.out.below HBw5.out)).mono ?_
        rintro e w8 ⟨rfl, hb⟩
        have HBw8 := Lib.hid (HBw5.out.trans (hb.mono HBw5.out.size))
        have HAw8 := Lib.hid (HAw5.out.below hb)
        clear hb
        go_wp2_with fail
        go_ret
        exact ⟨rfl, HBw8.out⟩
      | false =>
        rw [lp_f hl]
        have HL := Lib.hid hl
        clear hl
        go_wp2_with fail
        refine (leap_any y _).mono ?_
        rintro e w' ⟨rfl, rfl⟩
        rw [HL.out]
        go_wp2_with fail
        refine (awake_any _ HAw5.out (HPw.out.below HBw5.out)).mono ?_
        rintro e w8 ⟨rfl, hb⟩
        have HBw8 := Lib.hid (HBw5.out.trans (hb.mono HBw5.out.size))
        have HAw8 := Lib.hid (HAw5.out.below hb)
        clear hb
        go_wp2_with fail
        go_ret
        exact ⟨rfl, HBw8.out⟩
set_option maxHeartbeats 4000000 in
theorem walk_e (y m d c : Int) (w : World) (hA : Ahead w) (hP : Pow w) (h : Valid y m d) (h2 : Valid y m c) (hl : c < d) :
    Calls Tryd.prog 8 #[.agg #[.int .i64 y, .int .i64 m, .int .i64 d], .agg #[.int .i64 y, .int .i64 m, .int .i64 c]] w (One w) := by
  have ho := num_lt h2 h (.inr ⟨rfl, .inr ⟨rfl, hl⟩⟩)
  have hn : (num y m d == num y m c) = false := by simp; omega
  have fy : (d == c) = false := by simp; omega
  have HAw := Lib.hid hA
  have HPw := Lib.hid hP
  have HV := Lib.hid h
  have HV2 := Lib.hid h2
  clear hA hP h h2
  go_enter Tryd.func8, Tryd.ntmps8
  have HB0 := Lib.hid (((Below.refl w.heap.size w).alloc (Nat.le_refl _) (.cells #[.int .i64 y, .int .i64 m, .int .i64 d] 23)).alloc (by simp) (.cells #[.int .i64 y, .int .i64 m, .int .i64 c] 23))
  have HA0 := Lib.hid (HAw.out.below HB0.out)
  have HD0 := Lib.hid ((Dt.new w y m d).alloc (.cells #[.int .i64 y, .int .i64 m, .int .i64 c] 23))
  have HE0 := Lib.hid (show Dt ((w.alloc (.cells #[.int .i64 y, .int .i64 m, .int .i64 d] 23)).alloc (.cells #[.int .i64 y, .int .i64 m, .int .i64 c] 23)) (w.heap.size + 1) y m c by
    have := Dt.new (w.alloc (.cells #[.int .i64 y, .int .i64 m, .int .i64 d] 23)) y m c
    simpa using this)
  go_wp2_with fail
  refine (days_ok y m d _ HA0.out HV.out).mono ?_
  rintro e w1 ⟨rfl, hb⟩
  have HBw1 := Lib.hid (HB0.out.trans (hb.mono HB0.out.size))
  have HAw1 := Lib.hid (HA0.out.below hb)
  have HDw1 := Lib.hid (HD0.out.below hb HD0.out.lt)
  have HEw1 := Lib.hid (HE0.out.below hb HE0.out.lt)
  obtain ⟨c0, c1, c2⟩ := HDw1.out.cells
  obtain ⟨x0, x1, x2⟩ := HEw1.out.cells
  clear hb
  go_wp2_with fail
  refine (days_ok y m c _ HAw1.out HV2.out).mono ?_
  rintro e w2 ⟨rfl, hb⟩
  have HBw2 := Lib.hid (HBw1.out.trans (hb.mono HBw1.out.size))
  have HAw2 := Lib.hid (HAw1.out.below hb)
  have HDw2 := Lib.hid (HDw1.out.below hb HDw1.out.lt)
  have HEw2 := Lib.hid (HEw1.out.below hb HEw1.out.lt)
  obtain ⟨c0, c1, c2⟩ := HDw2.out.cells
  obtain ⟨x0, x1, x2⟩ := HEw2.out.cells
  clear hb
  go_wp2_with fail
  have V1 := Lib.hid (show Valid y 1 1 from ⟨HV.out.y1, HV.out.y2, by decide, by decide, by decide, by have := dim_bd y 1; omega⟩)
  have V12 := Lib.hid (show Valid y 12 31 from ⟨HV.out.y1, HV.out.y2, by decide, by decide, by decide, by simp [dim]⟩)
  have Y1 := HV.out.y1
  have Y2 := HV.out.y2
  have N1 := Lib.hid (show num y 1 1 = dy y by unfold num; rw [cum_1]; omega)
  have N12 := Lib.hid (show num y 12 31 = dy y + 364 + lp y by
    have := cum_succ y 12 (by decide) (by decide)
    rw [show (12 : Int) + 1 = 13 from rfl, cum_13, show dim y 12 = 31 by simp [dim]] at this
    unfold num; omega)
  go_loopw [10, 11] (fun nv kv wr => ∃ k : Int, nv = .int .i64 (cum y k) ∧ kv = .int .i64 k ∧ 1 ≤ k ∧ k ≤ 13 ∧ Dt wr w.heap.size y m d ∧ Below w.heap.size w wr) (fun _ kv _ => (13 - intOf kv).toNat)
  case atStart => exact ⟨1, by rw [cum_1], rfl, by omega, by omega, HDw2.out, HBw2.out⟩
  case round =>
    obtain ⟨k, rfl, rfl, k1, k2, hD, hB⟩ := hrel
    have HBr := Lib.hid hB
    have HDr := Lib.hid hD
    have HAr := Lib.hid (HAw.out.below hB)
    clear hD hB
    obtain ⟨c0, c1, c2⟩ := HDr.out.cells
    by_cases hk : k ≤ 12
    · have db := dim_bd y k
      obtain ⟨db1, db2⟩ := db
      have kb := cum_bd y k k1 hk
      obtain ⟨kb1, kb2, kb3⟩ := kb
      have lb := lp_01 y
      obtain ⟨lb1, lb2⟩ := lb
      have cs := Lib.hid (cum_succ y k k1 hk)
      go_wp2_with fail
      refine (long_ok y k _ HAr.out Y1 Y2 k1 hk).mono ?_
      rintro e w4 ⟨rfl, hb⟩
      have HBw4 := Lib.hid (HBr.out.trans (hb.mono HBr.out.size))
      have HAw4 := Lib.hid (HAr.out.below hb)
      have HDw4 := Lib.hid (HDr.out.below hb HDr.out.lt)
      obtain ⟨c0, c1, c2⟩ := HDw4.out.cells
      clear hb
      go_wp2_with fail
      go_roundw
      case rel => exact ⟨k + 1, by rw [cs.out], rfl, by omega, by omega, HDw4.out, HBw4.out⟩
      case measure => simp [intOf]; omega
    · obtain rfl : k = 13 := by omega
      go_wp2_with fail
      refine (days_ok y 1 1 _ HAr.out V1.out).mono ?_
      rintro e w4 ⟨rfl, hb⟩
      have HBw4 := Lib.hid (HBr.out.trans (hb.mono HBr.out.size))
      have HAw4 := Lib.hid (HAr.out.below hb)
      have HDw4 := Lib.hid (HDr.out.below hb HDr.out.lt)
      obtain ⟨c0, c1, c2⟩ := HDw4.out.cells
      clear hb
      rw [N1.out]
      go_wp2_with fail
      refine (days_ok y 12 31 _ HAw4.out V12.out).mono ?_
      rintro e w5 ⟨rfl, hb⟩
      have HBw5 := Lib.hid (HBw4.out.trans (hb.mono HBw4.out.size))
      have HAw5 := Lib.hid (HAw4.out.below hb)
      have HDw5 := Lib.hid (HDw4.out.below hb HDw4.out.lt)
      obtain ⟨c0, c1, c2⟩ := HDw5.out.cells
      clear hb
      rw [N12.out]
      have E13 := cum_13 y
      rw [E13]
      clear E13
      have dbd := dy_bd y (by omega) (by omega)
      obtain ⟨dbd1, dbd2⟩ := dbd
      cases hl : lpB y with
      | true =>
        rw [lp_t hl]
        have HL := Lib.hid hl
        clear hl
        go_wp2_with fail
        refine (leap_any y _).mono ?_
        rintro e w' ⟨rfl, rfl⟩
        rw [HL.out]
        go_wp2_with fail
        refine (awake_any _ HAw5.out (HPw.out.below HBw5.out)).mono ?_
        rintro e w8 ⟨rfl, hb⟩
        have HBw8 := Lib.hid (HBw5.out.trans (hb.mono HBw5.out.size))
        have HAw8 := Lib.hid (HAw5.out.below hb)
        clear hb
        go_wp2_with fail
        go_ret
        exact ⟨rfl, HBw8.out⟩
      | false =>
        rw [lp_f hl]
        have HL := Lib.hid hl
        clear hl
        go_wp2_with fail
        refine (leap_any y _).mono ?_
        rintro e w' ⟨rfl, rfl⟩
        rw [HL.out]
        go_wp2_with fail
        refine (awake_any _ HAw5.out (HPw.out.below HBw5.out)).mono ?_
        rintro e w8 ⟨rfl, hb⟩
        have HBw8 := Lib.hid (HBw5.out.trans (hb.mono HBw5.out.size))
        have HAw8 := Lib.hid (HAw5.out.below hb)
        clear hb
        go_wp2_with fail
        go_ret
        exact ⟨rfl, HBw8.out⟩
set_option maxHeartbeats 4000000 in
theorem walk_f (y m d c : Int) (w : World) (hA : Ahead w) (hP : Pow w) (h : Valid y m d) (h2 : Valid y m c) (hl : d < c) :
    Calls Tryd.prog 8 #[.agg #[.int .i64 y, .int .i64 m, .int .i64 d], .agg #[.int .i64 y, .int .i64 m, .int .i64 c]] w (One w) := by
  have ho := num_lt h h2 (.inr ⟨rfl, .inr ⟨rfl, hl⟩⟩)
  have hn : (num y m d == num y m c) = false := by simp; omega
  have fy : (d == c) = false := by simp; omega
  have HAw := Lib.hid hA
  have HPw := Lib.hid hP
  have HV := Lib.hid h
  have HV2 := Lib.hid h2
  clear hA hP h h2
  go_enter Tryd.func8, Tryd.ntmps8
  have HB0 := Lib.hid (((Below.refl w.heap.size w).alloc (Nat.le_refl _) (.cells #[.int .i64 y, .int .i64 m, .int .i64 d] 23)).alloc (by simp) (.cells #[.int .i64 y, .int .i64 m, .int .i64 c] 23))
  have HA0 := Lib.hid (HAw.out.below HB0.out)
  have HD0 := Lib.hid ((Dt.new w y m d).alloc (.cells #[.int .i64 y, .int .i64 m, .int .i64 c] 23))
  have HE0 := Lib.hid (show Dt ((w.alloc (.cells #[.int .i64 y, .int .i64 m, .int .i64 d] 23)).alloc (.cells #[.int .i64 y, .int .i64 m, .int .i64 c] 23)) (w.heap.size + 1) y m c by
    have := Dt.new (w.alloc (.cells #[.int .i64 y, .int .i64 m, .int .i64 d] 23)) y m c
    simpa using this)
  go_wp2_with fail
  refine (days_ok y m d _ HA0.out HV.out).mono ?_
  rintro e w1 ⟨rfl, hb⟩
  have HBw1 := Lib.hid (HB0.out.trans (hb.mono HB0.out.size))
  have HAw1 := Lib.hid (HA0.out.below hb)
  have HDw1 := Lib.hid (HD0.out.below hb HD0.out.lt)
  have HEw1 := Lib.hid (HE0.out.below hb HE0.out.lt)
  obtain ⟨c0, c1, c2⟩ := HDw1.out.cells
  obtain ⟨x0, x1, x2⟩ := HEw1.out.cells
  clear hb
  go_wp2_with fail
  refine (days_ok y m c _ HAw1.out HV2.out).mono ?_
  rintro e w2 ⟨rfl, hb⟩
  have HBw2 := Lib.hid (HBw1.out.trans (hb.mono HBw1.out.size))
  have HAw2 := Lib.hid (HAw1.out.below hb)
  have HDw2 := Lib.hid (HDw1.out.below hb HDw1.out.lt)
  have HEw2 := Lib.hid (HEw1.out.below hb HEw1.out.lt)
  obtain ⟨c0, c1, c2⟩ := HDw2.out.cells
  obtain ⟨x0, x1, x2⟩ := HEw2.out.cells
  clear hb
  go_wp2_with fail
  have V1 := Lib.hid (show Valid y 1 1 from ⟨HV.out.y1, HV.out.y2, by decide, by decide, by decide, by have := dim_bd y 1; omega⟩)
  have V12 := Lib.hid (show Valid y 12 31 from ⟨HV.out.y1, HV.out.y2, by decide, by decide, by decide, by simp [dim]⟩)
  have Y1 := HV.out.y1
  have Y2 := HV.out.y2
  have N1 := Lib.hid (show num y 1 1 = dy y by unfold num; rw [cum_1]; omega)
  have N12 := Lib.hid (show num y 12 31 = dy y + 364 + lp y by
    have := cum_succ y 12 (by decide) (by decide)
    rw [show (12 : Int) + 1 = 13 from rfl, cum_13, show dim y 12 = 31 by simp [dim]] at this
    unfold num; omega)
  go_loopw [10, 11] (fun nv kv wr => ∃ k : Int, nv = .int .i64 (cum y k) ∧ kv = .int .i64 k ∧ 1 ≤ k ∧ k ≤ 13 ∧ Dt wr w.heap.size y m d ∧ Below w.heap.size w wr) (fun _ kv _ => (13 - intOf kv).toNat)
  case atStart => exact ⟨1, by rw [cum_1], rfl, by omega, by omega, HDw2.out, HBw2.out⟩
  case round =>
    obtain ⟨k, rfl, rfl, k1, k2, hD, hB⟩ := hrel
    have HBr := Lib.hid hB
    have HDr := Lib.hid hD
    have HAr := Lib.hid (HAw.out.below hB)
    clear hD hB
    obtain ⟨c0, c1, c2⟩ := HDr.out.cells
    by_cases hk : k ≤ 12
    · have db := dim_bd y k
      obtain ⟨db1, db2⟩ := db
      have kb := cum_bd y k k1 hk
      obtain ⟨kb1, kb2, kb3⟩ := kb
      have lb := lp_01 y
      obtain ⟨lb1, lb2⟩ := lb
      have cs := Lib.hid (cum_succ y k k1 hk)
      go_wp2_with fail
      refine (long_ok y k _ HAr.out Y1 Y2 k1 hk).mono ?_
      rintro e w4 ⟨rfl, hb⟩
      have HBw4 := Lib.hid (HBr.out.trans (hb.mono HBr.out.size))
      have HAw4 := Lib.hid (HAr.out.below hb)
      have HDw4 := Lib.hid (HDr.out.below hb HDr.out.lt)
      obtain ⟨c0, c1, c2⟩ := HDw4.out.cells
      clear hb
      go_wp2_with fail
      go_roundw
      case rel => exact ⟨k + 1, by rw [cs.out], rfl, by omega, by omega, HDw4.out, HBw4.out⟩
      case measure => simp [intOf]; omega
    · obtain rfl : k = 13 := by omega
      go_wp2_with fail
      refine (days_ok y 1 1 _ HAr.out V1.out).mono ?_
      rintro e w4 ⟨rfl, hb⟩
      have HBw4 := Lib.hid (HBr.out.trans (hb.mono HBr.out.size))
      have HAw4 := Lib.hid (HAr.out.below hb)
      have HDw4 := Lib.hid (HDr.out.below hb HDr.out.lt)
      obtain ⟨c0, c1, c2⟩ := HDw4.out.cells
      clear hb
      rw [N1.out]
      go_wp2_with fail
      refine (days_ok y 12 31 _ HAw4.out V12.out).mono ?_
      rintro e w5 ⟨rfl, hb⟩
      have HBw5 := Lib.hid (HBw4.out.trans (hb.mono HBw4.out.size))
      have HAw5 := Lib.hid (HAw4.out.below hb)
      have HDw5 := Lib.hid (HDw4.out.below hb HDw4.out.lt)
      obtain ⟨c0, c1, c2⟩ := HDw5.out.cells
      clear hb
      rw [N12.out]
      have E13 := cum_13 y
      rw [E13]
      clear E13
      have dbd := dy_bd y (by omega) (by omega)
      obtain ⟨dbd1, dbd2⟩ := dbd
      cases hl : lpB y with
      | true =>
        rw [lp_t hl]
        have HL := Lib.hid hl
        clear hl
        go_wp2_with fail
        refine (leap_any y _).mono ?_
        rintro e w' ⟨rfl, rfl⟩
        rw [HL.out]
        go_wp2_with fail
        refine (awake_any _ HAw5.out (HPw.out.below HBw5.out)).mono ?_
        rintro e w8 ⟨rfl, hb⟩
        have HBw8 := Lib.hid (HBw5.out.trans (hb.mono HBw5.out.size))
        have HAw8 := Lib.hid (HAw5.out.below hb)
        clear hb
        go_wp2_with fail
        go_ret
        exact ⟨rfl, HBw8.out⟩
      | false =>
        rw [lp_f hl]
        have HL := Lib.hid hl
        clear hl
        go_wp2_with fail
        refine (leap_any y _).mono ?_
        rintro e w' ⟨rfl, rfl⟩
        rw [HL.out]
        go_wp2_with fail
        refine (awake_any _ HAw5.out (HPw.out.below HBw5.out)).mono ?_
        rintro e w8 ⟨rfl, hb⟩
        have HBw8 := Lib.hid (HBw5.out.trans (hb.mono HBw5.out.size))
        have HAw8 := Lib.hid (HAw5.out.below hb)
        clear hb
        go_wp2_with fail
        go_ret
        exact ⟨rfl, HBw8.out⟩
set_option maxHeartbeats 4000000 in
theorem walk_g (y m d : Int) (w : World) (hA : Ahead w) (hP : Pow w) (h : Valid y m d) (h2 : Valid y m d) :
    Calls Tryd.prog 8 #[.agg #[.int .i64 y, .int .i64 m, .int .i64 d], .agg #[.int .i64 y, .int .i64 m, .int .i64 d]] w (One w) := by
  have HAw := Lib.hid hA
  have HPw := Lib.hid hP
  have HV := Lib.hid h
  have HV2 := Lib.hid h2
  clear hA hP h h2
  go_enter Tryd.func8, Tryd.ntmps8
  have HB0 := Lib.hid (((Below.refl w.heap.size w).alloc (Nat.le_refl _) (.cells #[.int .i64 y, .int .i64 m, .int .i64 d] 23)).alloc (by simp) (.cells #[.int .i64 y, .int .i64 m, .int .i64 d] 23))
  have HA0 := Lib.hid (HAw.out.below HB0.out)
  have HD0 := Lib.hid ((Dt.new w y m d).alloc (.cells #[.int .i64 y, .int .i64 m, .int .i64 d] 23))
  have HE0 := Lib.hid (show Dt ((w.alloc (.cells #[.int .i64 y, .int .i64 m, .int .i64 d] 23)).alloc (.cells #[.int .i64 y, .int .i64 m, .int .i64 d] 23)) (w.heap.size + 1) y m d by
    have := Dt.new (w.alloc (.cells #[.int .i64 y, .int .i64 m, .int .i64 d] 23)) y m d
    simpa using this)
  go_wp2_with fail
  refine (days_ok y m d _ HA0.out HV.out).mono ?_
  rintro e w1 ⟨rfl, hb⟩
  have HBw1 := Lib.hid (HB0.out.trans (hb.mono HB0.out.size))
  have HAw1 := Lib.hid (HA0.out.below hb)
  have HDw1 := Lib.hid (HD0.out.below hb HD0.out.lt)
  have HEw1 := Lib.hid (HE0.out.below hb HE0.out.lt)
  obtain ⟨c0, c1, c2⟩ := HDw1.out.cells
  obtain ⟨x0, x1, x2⟩ := HEw1.out.cells
  clear hb
  go_wp2_with fail
  refine (days_ok y m d _ HAw1.out HV2.out).mono ?_
  rintro e w2 ⟨rfl, hb⟩
  have HBw2 := Lib.hid (HBw1.out.trans (hb.mono HBw1.out.size))
  have HAw2 := Lib.hid (HAw1.out.below hb)
  have HDw2 := Lib.hid (HDw1.out.below hb HDw1.out.lt)
  have HEw2 := Lib.hid (HEw1.out.below hb HEw1.out.lt)
  obtain ⟨c0, c1, c2⟩ := HDw2.out.cells
  obtain ⟨x0, x1, x2⟩ := HEw2.out.cells
  clear hb
  go_wp2_with fail
  have V1 := Lib.hid (show Valid y 1 1 from ⟨HV.out.y1, HV.out.y2, by decide, by decide, by decide, by have := dim_bd y 1; omega⟩)
  have V12 := Lib.hid (show Valid y 12 31 from ⟨HV.out.y1, HV.out.y2, by decide, by decide, by decide, by simp [dim]⟩)
  have Y1 := HV.out.y1
  have Y2 := HV.out.y2
  have N1 := Lib.hid (show num y 1 1 = dy y by unfold num; rw [cum_1]; omega)
  have N12 := Lib.hid (show num y 12 31 = dy y + 364 + lp y by
    have := cum_succ y 12 (by decide) (by decide)
    rw [show (12 : Int) + 1 = 13 from rfl, cum_13, show dim y 12 = 31 by simp [dim]] at this
    unfold num; omega)
  go_loopw [10, 11] (fun nv kv wr => ∃ k : Int, nv = .int .i64 (cum y k) ∧ kv = .int .i64 k ∧ 1 ≤ k ∧ k ≤ 13 ∧ Dt wr w.heap.size y m d ∧ Below w.heap.size w wr) (fun _ kv _ => (13 - intOf kv).toNat)
  case atStart => exact ⟨1, by rw [cum_1], rfl, by omega, by omega, HDw2.out, HBw2.out⟩
  case round =>
    obtain ⟨k, rfl, rfl, k1, k2, hD, hB⟩ := hrel
    have HBr := Lib.hid hB
    have HDr := Lib.hid hD
    have HAr := Lib.hid (HAw.out.below hB)
    clear hD hB
    obtain ⟨c0, c1, c2⟩ := HDr.out.cells
    by_cases hk : k ≤ 12
    · have db := dim_bd y k
      obtain ⟨db1, db2⟩ := db
      have kb := cum_bd y k k1 hk
      obtain ⟨kb1, kb2, kb3⟩ := kb
      have lb := lp_01 y
      obtain ⟨lb1, lb2⟩ := lb
      have cs := Lib.hid (cum_succ y k k1 hk)
      go_wp2_with fail
      refine (long_ok y k _ HAr.out Y1 Y2 k1 hk).mono ?_
      rintro e w4 ⟨rfl, hb⟩
      have HBw4 := Lib.hid (HBr.out.trans (hb.mono HBr.out.size))
      have HAw4 := Lib.hid (HAr.out.below hb)
      have HDw4 := Lib.hid (HDr.out.below hb HDr.out.lt)
      obtain ⟨c0, c1, c2⟩ := HDw4.out.cells
      clear hb
      go_wp2_with fail
      go_roundw
      case rel => exact ⟨k + 1, by rw [cs.out], rfl, by omega, by omega, HDw4.out, HBw4.out⟩
      case measure => simp [intOf]; omega
    · obtain rfl : k = 13 := by omega
      go_wp2_with fail
      refine (days_ok y 1 1 _ HAr.out V1.out).mono ?_
      rintro e w4 ⟨rfl, hb⟩
      have HBw4 := Lib.hid (HBr.out.trans (hb.mono HBr.out.size))
      have HAw4 := Lib.hid (HAr.out.below hb)
      have HDw4 := Lib.hid (HDr.out.below hb HDr.out.lt)
      obtain ⟨c0, c1, c2⟩ := HDw4.out.cells
      clear hb
      rw [N1.out]
      go_wp2_with fail
      refine (days_ok y 12 31 _ HAw4.out V12.out).mono ?_
      rintro e w5 ⟨rfl, hb⟩
      have HBw5 := Lib.hid (HBw4.out.trans (hb.mono HBw4.out.size))
      have HAw5 := Lib.hid (HAw4.out.below hb)
      have HDw5 := Lib.hid (HDw4.out.below hb HDw4.out.lt)
      obtain ⟨c0, c1, c2⟩ := HDw5.out.cells
      clear hb
      rw [N12.out]
      have E13 := cum_13 y
      rw [E13]
      clear E13
      have dbd := dy_bd y (by omega) (by omega)
      obtain ⟨dbd1, dbd2⟩ := dbd
      cases hl : lpB y with
      | true =>
        rw [lp_t hl]
        have HL := Lib.hid hl
        clear hl
        go_wp2_with fail
        refine (leap_any y _).mono ?_
        rintro e w' ⟨rfl, rfl⟩
        rw [HL.out]
        go_wp2_with fail
        refine (awake_any _ HAw5.out (HPw.out.below HBw5.out)).mono ?_
        rintro e w8 ⟨rfl, hb⟩
        have HBw8 := Lib.hid (HBw5.out.trans (hb.mono HBw5.out.size))
        have HAw8 := Lib.hid (HAw5.out.below hb)
        clear hb
        go_wp2_with fail
        go_ret
        exact ⟨rfl, HBw8.out⟩
      | false =>
        rw [lp_f hl]
        have HL := Lib.hid hl
        clear hl
        go_wp2_with fail
        refine (leap_any y _).mono ?_
        rintro e w' ⟨rfl, rfl⟩
        rw [HL.out]
        go_wp2_with fail
        refine (awake_any _ HAw5.out (HPw.out.below HBw5.out)).mono ?_
        rintro e w8 ⟨rfl, hb⟩
        have HBw8 := Lib.hid (HBw5.out.trans (hb.mono HBw5.out.size))
        have HAw8 := Lib.hid (HAw5.out.below hb)
        clear hb
        go_wp2_with fail
        go_ret
        exact ⟨rfl, HBw8.out⟩
end Go.Proofs.YtokcbnmpdbbehaaDoor.civilRise
