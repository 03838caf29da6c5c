/-
  THE LAW CivilBack, walked.
-/
import Derived.Test.YtokcbnmpdbbehaaDoorPrintNo
import Derived.Test.YtokcbnmpdbbehaaDoorRefNext
namespace Go.Proofs.YtokcbnmpdbbehaaDoor.civilBack
open Go Go.RowKit CivM NumM

theorem next_a {y m d : Int} (h : Valid y m d) (hd : d < dim y m) : Valid y m (d + 1) ∧ num y m (d + 1) = num y m d + 1 :=
  ⟨⟨h.y1, h.y2, h.m1, h.m2, by have := h.d1; omega, by omega⟩, by unfold num; omega⟩
theorem next_b {y m d : Int} (h : Valid y m d) (hd : d = dim y m) (hm : m < 12) : Valid y (m + 1) 1 ∧ num y (m + 1) 1 = num y m d + 1 :=
  ⟨⟨h.y1, h.y2, by have := h.m1; omega, by omega, by decide, by have := dim_bd y (m + 1); omega⟩, by unfold num; rw [cum_succ y m h.m1 h.m2]; omega⟩
theorem next_c {y d : Int} (h : Valid y 12 d) (hd : d = dim y 12) (hy : y < 100000) : Valid (y + 1) 1 1 ∧ num (y + 1) 1 1 = num y 12 d + 1 :=
  ⟨⟨by have := h.y1; omega, by omega, by decide, by decide, by decide, by have := dim_bd (y + 1) 1; omega⟩, by
    have := cum_succ y 12 (by decide) (by decide)
    rw [show (12 : Int) + 1 = 13 from rfl, cum_13] at this
    unfold num; rw [cum_1, dy_succ]; omega⟩
theorem num_last : num 100000 12 31 = 35805087 := by
  have h := cum_succ 100000 12 (by decide) (by decide)
  rw [show (12 : Int) + 1 = 13 from rfl, cum_13, show dim 100000 12 = 31 by simp [dim]] at h
  have h2 := dy_succ 100000
  rw [show (100000 : Int) + 1 = 100001 from rfl, dy_hi] at h2
  unfold num; omega
set_option maxHeartbeats 4000000 in
theorem walk_last (y m d : Int) (w : World) (hA : Ahead w) (hP : Pow w) (h : Valid y m d) (hy : y = 100000) (hm : m = 12) (hd : d = 31) :
    Calls Tryd.prog 6 #[.int .i64 (num y m d)] w (One w) := by
  have HAw := Lib.hid hA
  have HPw := Lib.hid hP
  have hb := num_bd h
  obtain ⟨b1, b2⟩ := hb
  have K1 := Lib.hid (fun w (hA : Ahead w) => of_ok y m d w hA h)
  have K2 := Lib.hid (fun w (hA : Ahead w) => days_ok y m d w hA h)
  have K3 := Lib.hid (fun w (hA : Ahead w) => check_ok y m d w hA h)
  have HBw := Lib.hid (Below.refl w.heap.size w)
  have HO := Lib.hid (show ¬ (-37243778 ≤ num y m d + 1 ∧ num y m d + 1 ≤ 35805087) by subst hy hm hd; have := num_last; omega)
  generalize num y m d = D at *
  have F1 := Lib.hid (show Fits D from ⟨by omega, by omega⟩)
  have F2 := Lib.hid (show Fits (D + 1) from ⟨by omega, by omega⟩)
  clear hA hP h
  subst hy hm hd
  go_enter Tryd.func6, Tryd.ntmps6
  go_wp2_with fail
  refine (K1.out _ HAw.out).mono ?_
  rintro e w1 ⟨rfl, hb⟩
  have HBw1 := Lib.hid (HBw.out.trans (hb.mono HBw.out.size))
  have HAw1 := Lib.hid (HAw.out.below hb)
  clear hb
  go_wp2_with fail
  have HB2 := Lib.hid (HBw1.out.alloc HBw1.out.size (.cells #[.int .i64 100000, .int .i64 12, .int .i64 31] 23))
  have HA2 := Lib.hid (HAw.out.below HB2.out)
  have HD2 := Lib.hid (Dt.new w1 100000 12 31)
  refine (K2.out _ HA2.out).mono ?_
  rintro e w3 ⟨rfl, hb⟩
  have HBw3 := Lib.hid (HB2.out.trans (hb.mono HB2.out.size))
  have HAw3 := Lib.hid (HA2.out.below hb)
  have HDw3 := Lib.hid (HD2.out.below hb HD2.out.lt)
  obtain ⟨c0, c1, c2⟩ := HDw3.out.cells
  clear hb
  go_wp2_with fail
  refine (of_no (D + 1) _ F2.out HO.out).mono ?_
  rintro e w4 ⟨rfl, hb⟩
  have HBw4 := Lib.hid (HBw3.out.trans (hb.mono HBw3.out.size))
  have HAw4 := Lib.hid (HAw3.out.below hb)
  have HDw4 := Lib.hid (HDw3.out.below hb HDw3.out.lt)
  obtain ⟨c0, c1, c2⟩ := HDw4.out.cells
  clear hb
  have HB5 := Lib.hid (HBw4.out.alloc HBw4.out.size (.cells #[.int .i64 (0), .int .i64 (0), .int .i64 (0)] 23))
  have HA5 := Lib.hid (HAw.out.below HB5.out)
  have HD5 := Lib.hid (HDw4.out.alloc (.cells #[.int .i64 (0), .int .i64 (0), .int .i64 (0)] 23))
  have HE5 := Lib.hid (Dt.new w4 (0) (0) (0))
  have lt4 := HDw4.out.lt
  go_wp2_with fail
  clear lt4
  refine (K3.out _ HA5.out).mono ?_
  rintro e w6 ⟨rfl, hb⟩
  have HBw6 := Lib.hid (HB5.out.trans (hb.mono HB5.out.size))
  have HAw6 := Lib.hid (HA5.out.below hb)
  have HDw6 := Lib.hid (HD5.out.below hb HD5.out.lt)
  have HEw6 := Lib.hid (HE5.out.below hb HE5.out.lt)
  obtain ⟨c0, c1, c2⟩ := HDw6.out.cells
  obtain ⟨x0, x1, x2⟩ := HEw6.out.cells
  clear hb
  go_wp2_with fail
  refine (weekday_any (D + 1) _ F2.out).mono ?_
  rintro e w' ⟨rfl, rfl⟩
  have E7 := Lib.hid (show (D + 1 + 4) % 7 = (D + 4 + 1) % 7 by omega)
  rw [E7.out]
  go_wp2_with fail
  refine (weekday_any D _ F1.out).mono ?_
  rintro e w' ⟨rfl, rfl⟩
  go_wp2_with fail
  refine (awake_any _ HAw6.out (HPw.out.below HBw6.out)).mono ?_
  rintro e w8 ⟨rfl, hb⟩
  have HBw8 := Lib.hid (HBw6.out.trans (hb.mono HBw6.out.size))
  have HAw8 := Lib.hid (HAw6.out.below hb)
  clear hb
  go_wp2_with fail
  go_ret
  exact ⟨rfl, HBw8.out⟩
set_option maxHeartbeats 4000000 in
theorem walk_a1 (y m d : Int) (w : World) (hA : Ahead w) (hP : Pow w) (h : Valid y m d) (hd : d < dim y m) (hf : (y == 100000) = false) :
    Calls Tryd.prog 6 #[.int .i64 (num y m d)] w (One w) := by
  have hq := next_a h hd
  have K4 : Hid (∀ w, Ahead w → Calls Tryd.prog 18 #[.int .i64 (num y m d + 1)] w fun e w' => e = .returned (.tuple #[.agg #[.int .i64 (y), .int .i64 (m), .int .i64 (d + 1)], .int .i64 0]) ∧ Below w.heap.size w w') := Lib.hid (fun w hA => by rw [← hq.2]; exact of_ok _ _ _ w hA hq.1)
  have K5 : Hid (∀ w, Calls Tryd.prog 23 #[.agg #[.int .i64 y, .int .i64 m, .int .i64 d]] w fun e w' => e = .returned (.agg #[.int .i64 (y), .int .i64 (m), .int .i64 (d + 1)]) ∧ Below w.heap.size w w') := Lib.hid (fun w => rnext_a y m d w h hd)
  clear hq
  have HAw := Lib.hid hA
  have HPw := Lib.hid hP
  have hb := num_bd h
  obtain ⟨b1, b2⟩ := hb
  have K1 := Lib.hid (fun w (hA : Ahead w) => of_ok y m d w hA h)
  have K2 := Lib.hid (fun w (hA : Ahead w) => days_ok y m d w hA h)
  have K3 := Lib.hid (fun w (hA : Ahead w) => check_ok y m d w hA h)
  have HBw := Lib.hid (Below.refl w.heap.size w)
  skip
  generalize num y m d = D at *
  have F1 := Lib.hid (show Fits D from ⟨by omega, by omega⟩)
  have F2 := Lib.hid (show Fits (D + 1) from ⟨by omega, by omega⟩)
  clear hA hP h
  skip
  go_enter Tryd.func6, Tryd.ntmps6
  go_wp2_with fail
  refine (K1.out _ HAw.out).mono ?_
  rintro e w1 ⟨rfl, hb⟩
  have HBw1 := Lib.hid (HBw.out.trans (hb.mono HBw.out.size))
  have HAw1 := Lib.hid (HAw.out.below hb)
  clear hb
  go_wp2_with fail
  have HB2 := Lib.hid (HBw1.out.alloc HBw1.out.size (.cells #[.int .i64 y, .int .i64 m, .int .i64 d] 23))
  have HA2 := Lib.hid (HAw.out.below HB2.out)
  have HD2 := Lib.hid (Dt.new w1 y m d)
  refine (K2.out _ HA2.out).mono ?_
  rintro e w3 ⟨rfl, hb⟩
  have HBw3 := Lib.hid (HB2.out.trans (hb.mono HB2.out.size))
  have HAw3 := Lib.hid (HA2.out.below hb)
  have HDw3 := Lib.hid (HD2.out.below hb HD2.out.lt)
  obtain ⟨c0, c1, c2⟩ := HDw3.out.cells
  clear hb
  go_wp2_with fail
  refine (K4.out _ HAw3.out).mono ?_
  rintro e w4 ⟨rfl, hb⟩
  have HBw4 := Lib.hid (HBw3.out.trans (hb.mono HBw3.out.size))
  have HAw4 := Lib.hid (HAw3.out.below hb)
  have HDw4 := Lib.hid (HDw3.out.below hb HDw3.out.lt)
  obtain ⟨c0, c1, c2⟩ := HDw4.out.cells
  clear hb
  have HB5 := Lib.hid (HBw4.out.alloc HBw4.out.size (.cells #[.int .i64 (y), .int .i64 (m), .int .i64 (d + 1)] 23))
  have HA5 := Lib.hid (HAw.out.below HB5.out)
  have HD5 := Lib.hid (HDw4.out.alloc (.cells #[.int .i64 (y), .int .i64 (m), .int .i64 (d + 1)] 23))
  have HE5 := Lib.hid (Dt.new w4 (y) (m) (d + 1))
  have lt4 := HDw4.out.lt
  go_wp2_with fail
  clear lt4
  refine (K3.out _ HA5.out).mono ?_
  rintro e w6 ⟨rfl, hb⟩
  have HBw6 := Lib.hid (HB5.out.trans (hb.mono HB5.out.size))
  have HAw6 := Lib.hid (HA5.out.below hb)
  have HDw6 := Lib.hid (HD5.out.below hb HD5.out.lt)
  have HEw6 := Lib.hid (HE5.out.below hb HE5.out.lt)
  obtain ⟨c0, c1, c2⟩ := HDw6.out.cells
  obtain ⟨x0, x1, x2⟩ := HEw6.out.cells
  clear hb
  go_wp2_with fail
  refine (weekday_any (D + 1) _ F2.out).mono ?_
  rintro e w' ⟨rfl, rfl⟩
  have E7 := Lib.hid (show (D + 1 + 4) % 7 = (D + 4 + 1) % 7 by omega)
  rw [E7.out]
  go_wp2_with fail
  refine (weekday_any D _ F1.out).mono ?_
  rintro e w' ⟨rfl, rfl⟩
  go_wp2_with fail
  have ne := bw_ne w6
  have C0 := bw_cell c0
  have C1 := bw_cell c1
  have C2 := bw_cell c2
  have X0 := bw_cell x0
  have X1 := bw_cell x1
  have X2 := bw_cell x2
  refine wp_region_bw (by kernel_rfl) (by kernel_rfl) ?_
  repeat (go_big_quiet_step (first
    | (go_at_call 23; exact calls_bw (K5.out _))
    | (go_at_call 14; exact calls_bw (awake_any _ (HAw6.out.below (Subtype.property _)) ((HPw.out.below HBw6.out).below (Subtype.property _))))))
  refine wpQuiet_nil ?_
  intro w9 hw9
  obtain ⟨⟨w8, hb8⟩, e8⟩ := hw9
  have e9 : w9 = w8 := e8
  subst e9
  go_wp2_with fail
  go_ret
  exact ⟨rfl, HBw6.out.trans (hb8.mono HBw6.out.size)⟩
set_option maxHeartbeats 4000000 in
theorem walk_a2 (y m d : Int) (w : World) (hA : Ahead w) (hP : Pow w) (h : Valid y m d) (hd : d < dim y m) (hf : (m == 12) = false) :
    Calls Tryd.prog 6 #[.int .i64 (num y m d)] w (One w) := by
  have hq := next_a h hd
  have K4 : Hid (∀ w, Ahead w → Calls Tryd.prog 18 #[.int .i64 (num y m d + 1)] w fun e w' => e = .returned (.tuple #[.agg #[.int .i64 (y), .int .i64 (m), .int .i64 (d + 1)], .int .i64 0]) ∧ Below w.heap.size w w') := Lib.hid (fun w hA => by rw [← hq.2]; exact of_ok _ _ _ w hA hq.1)
  have K5 : Hid (∀ w, Calls Tryd.prog 23 #[.agg #[.int .i64 y, .int .i64 m, .int .i64 d]] w fun e w' => e = .returned (.agg #[.int .i64 (y), .int .i64 (m), .int .i64 (d + 1)]) ∧ Below w.heap.size w w') := Lib.hid (fun w => rnext_a y m d w h hd)
  clear hq
  have HAw := Lib.hid hA
  have HPw := Lib.hid hP
  have hb := num_bd h
  obtain ⟨b1, b2⟩ := hb
  have K1 := Lib.hid (fun w (hA : Ahead w) => of_ok y m d w hA h)
  have K2 := Lib.hid (fun w (hA : Ahead w) => days_ok y m d w hA h)
  have K3 := Lib.hid (fun w (hA : Ahead w) => check_ok y m d w hA h)
  have HBw := Lib.hid (Below.refl w.heap.size w)
  skip
  generalize num y m d = D at *
  have F1 := Lib.hid (show Fits D from ⟨by omega, by omega⟩)
  have F2 := Lib.hid (show Fits (D + 1) from ⟨by omega, by omega⟩)
  clear hA hP h
  skip
  go_enter Tryd.func6, Tryd.ntmps6
  go_wp2_with fail
  refine (K1.out _ HAw.out).mono ?_
  rintro e w1 ⟨rfl, hb⟩
  have HBw1 := Lib.hid (HBw.out.trans (hb.mono HBw.out.size))
  have HAw1 := Lib.hid (HAw.out.below hb)
  clear hb
  go_wp2_with fail
  have HB2 := Lib.hid (HBw1.out.alloc HBw1.out.size (.cells #[.int .i64 y, .int .i64 m, .int .i64 d] 23))
  have HA2 := Lib.hid (HAw.out.below HB2.out)
  have HD2 := Lib.hid (Dt.new w1 y m d)
  refine (K2.out _ HA2.out).mono ?_
  rintro e w3 ⟨rfl, hb⟩
  have HBw3 := Lib.hid (HB2.out.trans (hb.mono HB2.out.size))
  have HAw3 := Lib.hid (HA2.out.below hb)
  have HDw3 := Lib.hid (HD2.out.below hb HD2.out.lt)
  obtain ⟨c0, c1, c2⟩ := HDw3.out.cells
  clear hb
  go_wp2_with fail
  refine (K4.out _ HAw3.out).mono ?_
  rintro e w4 ⟨rfl, hb⟩
  have HBw4 := Lib.hid (HBw3.out.trans (hb.mono HBw3.out.size))
  have HAw4 := Lib.hid (HAw3.out.below hb)
  have HDw4 := Lib.hid (HDw3.out.below hb HDw3.out.lt)
  obtain ⟨c0, c1, c2⟩ := HDw4.out.cells
  clear hb
  have HB5 := Lib.hid (HBw4.out.alloc HBw4.out.size (.cells #[.int .i64 (y), .int .i64 (m), .int .i64 (d + 1)] 23))
  have HA5 := Lib.hid (HAw.out.below HB5.out)
  have HD5 := Lib.hid (HDw4.out.alloc (.cells #[.int .i64 (y), .int .i64 (m), .int .i64 (d + 1)] 23))
  have HE5 := Lib.hid (Dt.new w4 (y) (m) (d + 1))
  have lt4 := HDw4.out.lt
  go_wp2_with fail
  clear lt4
  refine (K3.out _ HA5.out).mono ?_
  rintro e w6 ⟨rfl, hb⟩
  have HBw6 := Lib.hid (HB5.out.trans (hb.mono HB5.out.size))
  have HAw6 := Lib.hid (HA5.out.below hb)
  have HDw6 := Lib.hid (HD5.out.below hb HD5.out.lt)
  have HEw6 := Lib.hid (HE5.out.below hb HE5.out.lt)
  obtain ⟨c0, c1, c2⟩ := HDw6.out.cells
  obtain ⟨x0, x1, x2⟩ := HEw6.out.cells
  clear hb
  go_wp2_with fail
  refine (weekday_any (D + 1) _ F2.out).mono ?_
  rintro e w' ⟨rfl, rfl⟩
  have E7 := Lib.hid (show (D + 1 + 4) % 7 = (D + 4 + 1) % 7 by omega)
  rw [E7.out]
  go_wp2_with fail
  refine (weekday_any D _ F1.out).mono ?_
  rintro e w' ⟨rfl, rfl⟩
  go_wp2_with fail
  have ne := bw_ne w6
  have C0 := bw_cell c0
  have C1 := bw_cell c1
  have C2 := bw_cell c2
  have X0 := bw_cell x0
  have X1 := bw_cell x1
  have X2 := bw_cell x2
  refine wp_region_bw (by kernel_rfl) (by kernel_rfl) ?_
  repeat (go_big_quiet_step (first
    | (go_at_call 23; exact calls_bw (K5.out _))
    | (go_at_call 14; exact calls_bw (awake_any _ (HAw6.out.below (Subtype.property _)) ((HPw.out.below HBw6.out).below (Subtype.property _))))))
  refine wpQuiet_nil ?_
  intro w9 hw9
  obtain ⟨⟨w8, hb8⟩, e8⟩ := hw9
  have e9 : w9 = w8 := e8
  subst e9
  go_wp2_with fail
  go_ret
  exact ⟨rfl, HBw6.out.trans (hb8.mono HBw6.out.size)⟩
set_option maxHeartbeats 4000000 in
theorem walk_a3 (y m d : Int) (w : World) (hA : Ahead w) (hP : Pow w) (h : Valid y m d) (hd : d < dim y m) (hf : (d == 31) = false) :
    Calls Tryd.prog 6 #[.int .i64 (num y m d)] w (One w) := by
  have hq := next_a h hd
  have K4 : Hid (∀ w, Ahead w → Calls Tryd.prog 18 #[.int .i64 (num y m d + 1)] w fun e w' => e = .returned (.tuple #[.agg #[.int .i64 (y), .int .i64 (m), .int .i64 (d + 1)], .int .i64 0]) ∧ Below w.heap.size w w') := Lib.hid (fun w hA => by rw [← hq.2]; exact of_ok _ _ _ w hA hq.1)
  have K5 : Hid (∀ w, Calls Tryd.prog 23 #[.agg #[.int .i64 y, .int .i64 m, .int .i64 d]] w fun e w' => e = .returned (.agg #[.int .i64 (y), .int .i64 (m), .int .i64 (d + 1)]) ∧ Below w.heap.size w w') := Lib.hid (fun w => rnext_a y m d w h hd)
  clear hq
  have HAw := Lib.hid hA
  have HPw := Lib.hid hP
  have hb := num_bd h
  obtain ⟨b1, b2⟩ := hb
  have K1 := Lib.hid (fun w (hA : Ahead w) => of_ok y m d w hA h)
  have K2 := Lib.hid (fun w (hA : Ahead w) => days_ok y m d w hA h)
  have K3 := Lib.hid (fun w (hA : Ahead w) => check_ok y m d w hA h)
  have HBw := Lib.hid (Below.refl w.heap.size w)
  skip
  generalize num y m d = D at *
  have F1 := Lib.hid (show Fits D from ⟨by omega, by omega⟩)
  have F2 := Lib.hid (show Fits (D + 1) from ⟨by omega, by omega⟩)
  clear hA hP h
  skip
  go_enter Tryd.func6, Tryd.ntmps6
  go_wp2_with fail
  refine (K1.out _ HAw.out).mono ?_
  rintro e w1 ⟨rfl, hb⟩
  have HBw1 := Lib.hid (HBw.out.trans (hb.mono HBw.out.size))
  have HAw1 := Lib.hid (HAw.out.below hb)
  clear hb
  go_wp2_with fail
  have HB2 := Lib.hid (HBw1.out.alloc HBw1.out.size (.cells #[.int .i64 y, .int .i64 m, .int .i64 d] 23))
  have HA2 := Lib.hid (HAw.out.below HB2.out)
  have HD2 := Lib.hid (Dt.new w1 y m d)
  refine (K2.out _ HA2.out).mono ?_
  rintro e w3 ⟨rfl, hb⟩
  have HBw3 := Lib.hid (HB2.out.trans (hb.mono HB2.out.size))
  have HAw3 := Lib.hid (HA2.out.below hb)
  have HDw3 := Lib.hid (HD2.out.below hb HD2.out.lt)
  obtain ⟨c0, c1, c2⟩ := HDw3.out.cells
  clear hb
  go_wp2_with fail
  refine (K4.out _ HAw3.out).mono ?_
  rintro e w4 ⟨rfl, hb⟩
  have HBw4 := Lib.hid (HBw3.out.trans (hb.mono HBw3.out.size))
  have HAw4 := Lib.hid (HAw3.out.below hb)
  have HDw4 := Lib.hid (HDw3.out.below hb HDw3.out.lt)
  obtain ⟨c0, c1, c2⟩ := HDw4.out.cells
  clear hb
  have HB5 := Lib.hid (HBw4.out.alloc HBw4.out.size (.cells #[.int .i64 (y), .int .i64 (m), .int .i64 (d + 1)] 23))
  have HA5 := Lib.hid (HAw.out.below HB5.out)
  have HD5 := Lib.hid (HDw4.out.alloc (.cells #[.int .i64 (y), .int .i64 (m), .int .i64 (d + 1)] 23))
  have HE5 := Lib.hid (Dt.new w4 (y) (m) (d + 1))
  have lt4 := HDw4.out.lt
  go_wp2_with fail
  clear lt4
  refine (K3.out _ HA5.out).mono ?_
  rintro e w6 ⟨rfl, hb⟩
  have HBw6 := Lib.hid (HB5.out.trans (hb.mono HB5.out.size))
  have HAw6 := Lib.hid (HA5.out.below hb)
  have HDw6 := Lib.hid (HD5.out.below hb HD5.out.lt)
  have HEw6 := Lib.hid (HE5.out.below hb HE5.out.lt)
  obtain ⟨c0, c1, c2⟩ := HDw6.out.cells
  obtain ⟨x0, x1, x2⟩ := HEw6.out.cells
  clear hb
  go_wp2_with fail
  refine (weekday_any (D + 1) _ F2.out).mono ?_
  rintro e w' ⟨rfl, rfl⟩
  have E7 := Lib.hid (show (D + 1 + 4) % 7 = (D + 4 + 1) % 7 by omega)
  rw [E7.out]
  go_wp2_with fail
  refine (weekday_any D _ F1.out).mono ?_
  rintro e w' ⟨rfl, rfl⟩
  go_wp2_with fail
  have ne := bw_ne w6
  have C0 := bw_cell c0
  have C1 := bw_cell c1
  have C2 := bw_cell c2
  have X0 := bw_cell x0
  have X1 := bw_cell x1
  have X2 := bw_cell x2
  refine wp_region_bw (by kernel_rfl) (by kernel_rfl) ?_
  repeat (go_big_quiet_step (first
    | (go_at_call 23; exact calls_bw (K5.out _))
    | (go_at_call 14; exact calls_bw (awake_any _ (HAw6.out.below (Subtype.property _)) ((HPw.out.below HBw6.out).below (Subtype.property _))))))
  refine wpQuiet_nil ?_
  intro w9 hw9
  obtain ⟨⟨w8, hb8⟩, e8⟩ := hw9
  have e9 : w9 = w8 := e8
  subst e9
  go_wp2_with fail
  go_ret
  exact ⟨rfl, HBw6.out.trans (hb8.mono HBw6.out.size)⟩
set_option maxHeartbeats 4000000 in
theorem walk_b (y m d : Int) (w : World) (hA : Ahead w) (hP : Pow w) (h : Valid y m d) (hd : d = dim y m) (hm : m < 12) :
    Calls Tryd.prog 6 #[.int .i64 (num y m d)] w (One w) := by
  have HD := Lib.hid hd
  have hf : (m == 12) = false := by simp; omega
  clear hd
  have hq := next_b h HD.out hm
  have K4 : Hid (∀ w, Ahead w → Calls Tryd.prog 18 #[.int .i64 (num y m d + 1)] w fun e w' => e = .returned (.tuple #[.agg #[.int .i64 (y), .int .i64 (m + 1), .int .i64 (1)], .int .i64 0]) ∧ Below w.heap.size w w') := Lib.hid (fun w hA => by rw [← hq.2]; exact of_ok _ _ _ w hA hq.1)
  have K5 : Hid (∀ w, Calls Tryd.prog 23 #[.agg #[.int .i64 y, .int .i64 m, .int .i64 d]] w fun e w' => e = .returned (.agg #[.int .i64 (y), .int .i64 (m + 1), .int .i64 (1)]) ∧ Below w.heap.size w w') := Lib.hid (fun w => rnext_b y m d w h HD.out hm)
  clear hq
  have HAw := Lib.hid hA
  have HPw := Lib.hid hP
  have hb := num_bd h
  obtain ⟨b1, b2⟩ := hb
  have K1 := Lib.hid (fun w (hA : Ahead w) => of_ok y m d w hA h)
  have K2 := Lib.hid (fun w (hA : Ahead w) => days_ok y m d w hA h)
  have K3 := Lib.hid (fun w (hA : Ahead w) => check_ok y m d w hA h)
  have HBw := Lib.hid (Below.refl w.heap.size w)
  skip
  generalize num y m d = D at *
  have F1 := Lib.hid (show Fits D from ⟨by omega, by omega⟩)
  have F2 := Lib.hid (show Fits (D + 1) from ⟨by omega, by omega⟩)
  clear hA hP h
  skip
  go_enter Tryd.func6, Tryd.ntmps6
  go_wp2_with fail
  refine (K1.out _ HAw.out).mono ?_
  rintro e w1 ⟨rfl, hb⟩
  have HBw1 := Lib.hid (HBw.out.trans (hb.mono HBw.out.size))
  have HAw1 := Lib.hid (HAw.out.below hb)
  clear hb
  go_wp2_with fail
  have HB2 := Lib.hid (HBw1.out.alloc HBw1.out.size (.cells #[.int .i64 y, .int .i64 m, .int .i64 d] 23))
  have HA2 := Lib.hid (HAw.out.below HB2.out)
  have HD2 := Lib.hid (Dt.new w1 y m d)
  refine (K2.out _ HA2.out).mono ?_
  rintro e w3 ⟨rfl, hb⟩
  have HBw3 := Lib.hid (HB2.out.trans (hb.mono HB2.out.size))
  have HAw3 := Lib.hid (HA2.out.below hb)
  have HDw3 := Lib.hid (HD2.out.below hb HD2.out.lt)
  obtain ⟨c0, c1, c2⟩ := HDw3.out.cells
  clear hb
  go_wp2_with fail
  refine (K4.out _ HAw3.out).mono ?_
  rintro e w4 ⟨rfl, hb⟩
  have HBw4 := Lib.hid (HBw3.out.trans (hb.mono HBw3.out.size))
  have HAw4 := Lib.hid (HAw3.out.below hb)
  have HDw4 := Lib.hid (HDw3.out.below hb HDw3.out.lt)
  obtain ⟨c0, c1, c2⟩ := HDw4.out.cells
  clear hb
  have HB5 := Lib.hid (HBw4.out.alloc HBw4.out.size (.cells #[.int .i64 (y), .int .i64 (m + 1), .int .i64 (1)] 23))
  have HA5 := Lib.hid (HAw.out.below HB5.out)
  have HD5 := Lib.hid (HDw4.out.alloc (.cells #[.int .i64 (y), .int .i64 (m + 1), .int .i64 (1)] 23))
  have HE5 := Lib.hid (Dt.new w4 (y) (m + 1) (1))
  have lt4 := HDw4.out.lt
  go_wp2_with fail
  clear lt4
  refine (K3.out _ HA5.out).mono ?_
  rintro e w6 ⟨rfl, hb⟩
  have HBw6 := Lib.hid (HB5.out.trans (hb.mono HB5.out.size))
  have HAw6 := Lib.hid (HA5.out.below hb)
  have HDw6 := Lib.hid (HD5.out.below hb HD5.out.lt)
  have HEw6 := Lib.hid (HE5.out.below hb HE5.out.lt)
  obtain ⟨c0, c1, c2⟩ := HDw6.out.cells
  obtain ⟨x0, x1, x2⟩ := HEw6.out.cells
  clear hb
  go_wp2_with fail
  refine (weekday_any (D + 1) _ F2.out).mono ?_
  rintro e w' ⟨rfl, rfl⟩
  have E7 := Lib.hid (show (D + 1 + 4) % 7 = (D + 4 + 1) % 7 by omega)
  rw [E7.out]
  go_wp2_with fail
  refine (weekday_any D _ F1.out).mono ?_
  rintro e w' ⟨rfl, rfl⟩
  go_wp2_with fail
  have ne := bw_ne w6
  have C0 := bw_cell c0
  have C1 := bw_cell c1
  have C2 := bw_cell c2
  have X0 := bw_cell x0
  have X1 := bw_cell x1
  have X2 := bw_cell x2
  refine wp_region_bw (by kernel_rfl) (by kernel_rfl) ?_
  repeat (go_big_quiet_step (first
    | (go_at_call 23; exact calls_bw (K5.out _))
    | (go_at_call 14; exact calls_bw (awake_any _ (HAw6.out.below (Subtype.property _)) ((HPw.out.below HBw6.out).below (Subtype.property _))))))
  refine wpQuiet_nil ?_
  intro w9 hw9
  obtain ⟨⟨w8, hb8⟩, e8⟩ := hw9
  have e9 : w9 = w8 := e8
  subst e9
  go_wp2_with fail
  go_ret
  exact ⟨rfl, HBw6.out.trans (hb8.mono HBw6.out.size)⟩
set_option maxHeartbeats 4000000 in
theorem walk_c (y d : Int) (w : World) (hA : Ahead w) (hP : Pow w) (h : Valid y 12 d) (hd : d = dim y 12) (hy : y < 100000) :
    Calls Tryd.prog 6 #[.int .i64 (num y 12 d)] w (One w) := by
  have HD := Lib.hid hd
  have hf : (y == 100000) = false := by simp; omega
  clear hd
  have hq := next_c h HD.out hy
  have K4 : Hid (∀ w, Ahead w → Calls Tryd.prog 18 #[.int .i64 (num y 12 d + 1)] w fun e w' => e = .returned (.tuple #[.agg #[.int .i64 (y + 1), .int .i64 (1), .int .i64 (1)], .int .i64 0]) ∧ Below w.heap.size w w') := Lib.hid (fun w hA => by rw [← hq.2]; exact of_ok _ _ _ w hA hq.1)
  have K5 : Hid (∀ w, Calls Tryd.prog 23 #[.agg #[.int .i64 y, .int .i64 12, .int .i64 d]] w fun e w' => e = .returned (.agg #[.int .i64 (y + 1), .int .i64 (1), .int .i64 (1)]) ∧ Below w.heap.size w w') := Lib.hid (fun w => rnext_c y d w h HD.out)
  clear hq
  have HAw := Lib.hid hA
  have HPw := Lib.hid hP
  have hb := num_bd h
  obtain ⟨b1, b2⟩ := hb
  have K1 := Lib.hid (fun w (hA : Ahead w) => of_ok y 12 d w hA h)
  have K2 := Lib.hid (fun w (hA : Ahead w) => days_ok y 12 d w hA h)
  have K3 := Lib.hid (fun w (hA : Ahead w) => check_ok y 12 d w hA h)
  have HBw := Lib.hid (Below.refl w.heap.size w)
  skip
  generalize num y 12 d = D at *
  have F1 := Lib.hid (show Fits D from ⟨by omega, by omega⟩)
  have F2 := Lib.hid (show Fits (D + 1) from ⟨by omega, by omega⟩)
  clear hA hP h
  skip
  go_enter Tryd.func6, Tryd.ntmps6
  go_wp2_with fail
  refine (K1.out _ HAw.out).mono ?_
  rintro e w1 ⟨rfl, hb⟩
  have HBw1 := Lib.hid (HBw.out.trans (hb.mono HBw.out.size))
  have HAw1 := Lib.hid (HAw.out.below hb)
  clear hb
  go_wp2_with fail
  have HB2 := Lib.hid (HBw1.out.alloc HBw1.out.size (.cells #[.int .i64 y, .int .i64 12, .int .i64 d] 23))
  have HA2 := Lib.hid (HAw.out.below HB2.out)
  have HD2 := Lib.hid (Dt.new w1 y 12 d)
  refine (K2.out _ HA2.out).mono ?_
  rintro e w3 ⟨rfl, hb⟩
  have HBw3 := Lib.hid (HB2.out.trans (hb.mono HB2.out.size))
  have HAw3 := Lib.hid (HA2.out.below hb)
  have HDw3 := Lib.hid (HD2.out.below hb HD2.out.lt)
  obtain ⟨c0, c1, c2⟩ := HDw3.out.cells
  clear hb
  go_wp2_with fail
  refine (K4.out _ HAw3.out).mono ?_
  rintro e w4 ⟨rfl, hb⟩
  have HBw4 := Lib.hid (HBw3.out.trans (hb.mono HBw3.out.size))
  have HAw4 := Lib.hid (HAw3.out.below hb)
  have HDw4 := Lib.hid (HDw3.out.below hb HDw3.out.lt)
  obtain ⟨c0, c1, c2⟩ := HDw4.out.cells
  clear hb
  have HB5 := Lib.hid (HBw4.out.alloc HBw4.out.size (.cells #[.int .i64 (y + 1), .int .i64 (1), .int .i64 (1)] 23))
  have HA5 := Lib.hid (HAw.out.below HB5.out)
  have HD5 := Lib.hid (HDw4.out.alloc (.cells #[.int .i64 (y + 1), .int .i64 (1), .int .i64 (1)] 23))
  have HE5 := Lib.hid (Dt.new w4 (y + 1) (1) (1))
  have lt4 := HDw4.out.lt
  go_wp2_with fail
  clear lt4
  refine (K3.out _ HA5.out).mono ?_
  rintro e w6 ⟨rfl, hb⟩
  have HBw6 := Lib.hid (HB5.out.trans (hb.mono HB5.out.size))
  have HAw6 := Lib.hid (HA5.out.below hb)
  have HDw6 := Lib.hid (HD5.out.below hb HD5.out.lt)
  have HEw6 := Lib.hid (HE5.out.below hb HE5.out.lt)
  obtain ⟨c0, c1, c2⟩ := HDw6.out.cells
  obtain ⟨x0, x1, x2⟩ := HEw6.out.cells
  clear hb
  go_wp2_with fail
  refine (weekday_any (D + 1) _ F2.out).mono ?_
  rintro e w' ⟨rfl, rfl⟩
  have E7 := Lib.hid (show (D + 1 + 4) % 7 = (D + 4 + 1) % 7 by omega)
  rw [E7.out]
  go_wp2_with fail
  refine (weekday_any D _ F1.out).mono ?_
  rintro e w' ⟨rfl, rfl⟩
  go_wp2_with fail
  have ne := bw_ne w6
  have C0 := bw_cell c0
  have C1 := bw_cell c1
  have C2 := bw_cell c2
  have X0 := bw_cell x0
  have X1 := bw_cell x1
  have X2 := bw_cell x2
  refine wp_region_bw (by kernel_rfl) (by kernel_rfl) ?_
  repeat (go_big_quiet_step (first
    | (go_at_call 23; exact calls_bw (K5.out _))
    | (go_at_call 14; exact calls_bw (awake_any _ (HAw6.out.below (Subtype.property _)) ((HPw.out.below HBw6.out).below (Subtype.property _))))))
  refine wpQuiet_nil ?_
  intro w9 hw9
  obtain ⟨⟨w8, hb8⟩, e8⟩ := hw9
  have e9 : w9 = w8 := e8
  subst e9
  go_wp2_with fail
  go_ret
  exact ⟨rfl, HBw6.out.trans (hb8.mono HBw6.out.size)⟩
set_option maxHeartbeats 4000000 in
theorem walk_no (n : Int) (w : World) (hA : Ahead w) (hP : Pow w) (hF : Fits n) (hn : ¬ (-37243778 ≤ n ∧ n ≤ 35805087)) :
    Calls Tryd.prog 6 #[.int .i64 n] w (One w) := by
  have HAw := Lib.hid hA
  have HPw := Lib.hid hP
  have HF := Lib.hid hF
  have HN := Lib.hid hn
  have HBw := Lib.hid (Below.refl w.heap.size w)
  clear hA hP hF hn
  go_enter Tryd.func6, Tryd.ntmps6
  go_wp2_with fail
  refine (of_no n _ HF.out HN.out).mono ?_
  rintro e w1 ⟨rfl, hb⟩
  have HBw1 := Lib.hid (HBw.out.trans (hb.mono HBw.out.size))
  have HAw1 := Lib.hid (HAw.out.below hb)
  clear hb
  have HB2 := Lib.hid (HBw1.out.alloc HBw1.out.size (.cells #[.int .i64 0, .int .i64 0, .int .i64 0] 23))
  have HA2 := Lib.hid (HAw.out.below HB2.out)
  go_wp2_with fail
  refine (awake_any _ HA2.out (HPw.out.below HB2.out)).mono ?_
  rintro e w8 ⟨rfl, hb⟩
  have HBw8 := Lib.hid (HB2.out.trans (hb.mono HB2.out.size))
  have HAw8 := Lib.hid (HA2.out.below hb)
  clear hb
  go_wp2_with fail
  go_ret
  exact ⟨rfl, HBw8.out⟩
end Go.Proofs.YtokcbnmpdbbehaaDoor.civilBack
