/-
  THE LAW CivilCycles, walked.
-/
import Derived.Test.YtokcbnmpdbbehaaDoorPrintNo
namespace Go.Proofs.YtokcbnmpdbbehaaDoor.civilCycles
open Go Go.RowKit CivM NumM

theorem dim_400 (y m : Int) : dim (y + 400) m = dim y m := by unfold dim; rw [lp_400]
theorem valid_400 {y m d : Int} (h : Valid y m d) (hy : y ≤ 99600) : Valid (y + 400) m d := ⟨by have := h.y1; omega, by omega, h.m1, h.m2, h.d1, by rw [dim_400]; exact h.d2⟩
theorem num_400 (y m d : Int) : num (y + 400) m d = num y m d + 146097 := by unfold num cum; rw [dy_400, lp_400]; omega
set_option maxHeartbeats 4000000 in
theorem walk_no (y m d : Int) (w : World) (hA : Ahead w) (hP : Pow w) (h : ¬ Valid y m d) :
    Calls Tryd.prog 7 #[.agg #[.int .i64 y, .int .i64 m, .int .i64 d]] w (One w) := by
  have HAw := Lib.hid hA
  have HPw := Lib.hid hP
  have HV := Lib.hid h
  clear hA hP h
  go_enter Tryd.func7, Tryd.ntmps7
  have HB0 := Lib.hid ((Below.refl w.heap.size w).alloc (Nat.le_refl _) (.cells #[.int .i64 y, .int .i64 m, .int .i64 d] 23))
  have HA0 := Lib.hid (HAw.out.below HB0.out)
  have HD0 := Lib.hid (Dt.new w y m d)
  go_wp2_with fail
  refine (days_no y m d _ HA0.out HV.out).mono ?_
  rintro e w1 ⟨rfl, hb⟩
  have HBw1 := Lib.hid (HB0.out.trans (hb.mono HB0.out.size))
  have HAw1 := Lib.hid (HA0.out.below hb)
  have HDw1 := Lib.hid (HD0.out.below hb HD0.out.lt)
  obtain ⟨c0, c1, c2⟩ := HDw1.out.cells
  clear hb
  go_wp2_with fail
  refine (awake_any _ HAw1.out (HPw.out.below HBw1.out)).mono ?_
  rintro e w8 ⟨rfl, hb⟩
  have HBw8 := Lib.hid (HBw1.out.trans (hb.mono HBw1.out.size))
  have HAw8 := Lib.hid (HAw1.out.below hb)
  clear hb
  go_wp2_with fail
  go_ret
  exact ⟨rfl, HBw8.out⟩
set_option maxHeartbeats 4000000 in
theorem walk_ok (y m d : Int) (w : World) (hA : Ahead w) (hP : Pow w) (h : Valid y m d) (hy : y ≤ 99600) :
    Calls Tryd.prog 7 #[.agg #[.int .i64 y, .int .i64 m, .int .i64 d]] w (One w) := by
  have HV2 := Lib.hid (valid_400 h hy)
  have y1 := h.y1
  have hb := num_bd h
  obtain ⟨b1, b2⟩ := hb
  have HAw := Lib.hid hA
  have HPw := Lib.hid hP
  have HV := Lib.hid h
  clear hA hP h
  go_enter Tryd.func7, Tryd.ntmps7
  have HB0 := Lib.hid ((Below.refl w.heap.size w).alloc (Nat.le_refl _) (.cells #[.int .i64 y, .int .i64 m, .int .i64 d] 23))
  have HA0 := Lib.hid (HAw.out.below HB0.out)
  have HD0 := Lib.hid (Dt.new w y m d)
  go_wp2_with fail
  refine (days_ok y m d _ HA0.out HV.out).mono ?_
  rintro e w1 ⟨rfl, hb⟩
  have HBw1 := Lib.hid (HB0.out.trans (hb.mono HB0.out.size))
  have HAw1 := Lib.hid (HA0.out.below hb)
  have HDw1 := Lib.hid (HD0.out.below hb HD0.out.lt)
  obtain ⟨c0, c1, c2⟩ := HDw1.out.cells
  clear hb
  have lt1 := HDw1.out.lt
  go_wp2_with (first | refine wpList_load_dt rfl _ rfl (w.heap.size) (by rfl) HDw1.out ?_)
  have HB2 := Lib.hid (HBw1.out.alloc HBw1.out.size (.cells #[.int .i64 (y + 400), .int .i64 m, .int .i64 d] 23))
  have HA2 := Lib.hid (HAw.out.below HB2.out)
  have HD2 := Lib.hid (HDw1.out.alloc (.cells #[.int .i64 (y + 400), .int .i64 m, .int .i64 d] 23))
  refine (days_ok (y + 400) m d _ HA2.out HV2.out).mono ?_
  rintro e w3 ⟨rfl, hb⟩
  have HBw3 := Lib.hid (HB2.out.trans (hb.mono HB2.out.size))
  have HAw3 := Lib.hid (HA2.out.below hb)
  have HDw3 := Lib.hid (HD2.out.below hb HD2.out.lt)
  obtain ⟨c0, c1, c2⟩ := HDw3.out.cells
  clear hb
  have E4 := num_400 y m d
  rw [E4]
  clear E4
  have F1 := Lib.hid (show Fits (num y m d) from ⟨by omega, by omega⟩)
  have F2 := Lib.hid (show Fits (num y m d + 146097) from ⟨by omega, by omega⟩)
  have E5 := Lib.hid (show (num y m d + 146097 + 4) % 7 = (num y m d + 4) % 7 by omega)
  go_wp2_with fail
  refine (weekday_any _ _ F2.out).mono ?_
  rintro e w' ⟨rfl, rfl⟩
  rw [E5.out]
  go_wp2_with fail
  refine (weekday_any _ _ F1.out).mono ?_
  rintro e w' ⟨rfl, rfl⟩
  go_wp2_with fail
  refine (awake_any _ HAw3.out (HPw.out.below HBw3.out)).mono ?_
  rintro e w8 ⟨rfl, hb⟩
  have HBw8 := Lib.hid (HBw3.out.trans (hb.mono HBw3.out.size))
  have HAw8 := Lib.hid (HAw3.out.below hb)
  clear hb
  go_wp2_with fail
  go_ret
  exact ⟨rfl, HBw8.out⟩
set_option maxHeartbeats 4000000 in
theorem walk_far (y m d : Int) (w : World) (hA : Ahead w) (hP : Pow w) (h : Valid y m d) (hy : 99600 < y) :
    Calls Tryd.prog 7 #[.agg #[.int .i64 y, .int .i64 m, .int .i64 d]] w (One w) := by
  have HV2 := Lib.hid (show ¬ Valid (y + 400) m d from fun h => by have := h.y2; omega)
  have y2 := h.y2
  have HAw := Lib.hid hA
  have HPw := Lib.hid hP
  have HV := Lib.hid h
  clear hA hP h
  go_enter Tryd.func7, Tryd.ntmps7
  have HB0 := Lib.hid ((Below.refl w.heap.size w).alloc (Nat.le_refl _) (.cells #[.int .i64 y, .int .i64 m, .int .i64 d] 23))
  have HA0 := Lib.hid (HAw.out.below HB0.out)
  have HD0 := Lib.hid (Dt.new w y m d)
  go_wp2_with fail
  refine (days_ok y m d _ HA0.out HV.out).mono ?_
  rintro e w1 ⟨rfl, hb⟩
  have HBw1 := Lib.hid (HB0.out.trans (hb.mono HB0.out.size))
  have HAw1 := Lib.hid (HA0.out.below hb)
  have HDw1 := Lib.hid (HD0.out.below hb HD0.out.lt)
  obtain ⟨c0, c1, c2⟩ := HDw1.out.cells
  clear hb
  have lt1 := HDw1.out.lt
  go_wp2_with (first | refine wpList_load_dt rfl _ rfl (w.heap.size) (by rfl) HDw1.out ?_)
  have HB2 := Lib.hid (HBw1.out.alloc HBw1.out.size (.cells #[.int .i64 (y + 400), .int .i64 m, .int .i64 d] 23))
  have HA2 := Lib.hid (HAw.out.below HB2.out)
  have HD2 := Lib.hid (HDw1.out.alloc (.cells #[.int .i64 (y + 400), .int .i64 m, .int .i64 d] 23))
  refine (days_no (y + 400) m d _ HA2.out HV2.out).mono ?_
  rintro e w3 ⟨rfl, hb⟩
  have HBw3 := Lib.hid (HB2.out.trans (hb.mono HB2.out.size))
  have HAw3 := Lib.hid (HA2.out.below hb)
  have HDw3 := Lib.hid (HD2.out.below hb HD2.out.lt)
  obtain ⟨c0, c1, c2⟩ := HDw3.out.cells
  clear hb
  go_wp2_with fail
  refine (awake_any _ HAw3.out (HPw.out.below HBw3.out)).mono ?_
  rintro e w8 ⟨rfl, hb⟩
  have HBw8 := Lib.hid (HBw3.out.trans (hb.mono HBw3.out.size))
  have HAw8 := Lib.hid (HAw3.out.below hb)
  clear hb
  go_wp2_with fail
  go_ret
  exact ⟨rfl, HBw8.out⟩
end Go.Proofs.YtokcbnmpdbbehaaDoor.civilCycles
