/-
  THE LAW CivilDays, walked.
-/
import Derived.Test.YtokcbnmpdbbehaaDoorPrintNo
namespace Go.Proofs.YtokcbnmpdbbehaaDoor.civilDays
open Go Go.RowKit CivM NumM

set_option maxHeartbeats 4000000 in
theorem walk_in (y m d a b c : Int) (w : World) (hA : Ahead w) (hP : Pow w) (h2 : Valid a b c) :
    Calls Tryd.prog 4 #[.agg #[.int .i64 y, .int .i64 m, .int .i64 d], .int .i64 (num a b c)] w (One w) := by
  by_cases h : Valid y m d
  ·
    have HAw := Lib.hid hA
    have HPw := Lib.hid hP
    have HV := Lib.hid h
    have HV2 := Lib.hid h2
    clear hA hP h h2
    go_enter Tryd.func4, Tryd.ntmps4
    have HB0 := Lib.hid ((Below.refl w.heap.size w).alloc (Nat.le_refl _) (.cells #[.int .i64 y, .int .i64 m, .int .i64 d] 23))
    have HA0 := Lib.hid (HAw.out.below HB0.out)
    have HD0 := Lib.hid (Dt.new w y m d)
    go_wp2_with fail
    refine (days_ok y m d _ HA0.out HV.out).mono ?_
    rintro e w1 ⟨rfl, hb⟩
    have HBw1 := Lib.hid (HB0.out.trans (hb.mono HB0.out.size))
    have HAw1 := Lib.hid (HA0.out.below hb)
    have HDw1 := Lib.hid (HD0.out.below hb HD0.out.lt)
    obtain ⟨c0, c1, c2⟩ := HDw1.out.cells
    clear hb
    go_wp2_with fail
    refine (right_ok y m d _ HV.out).mono ?_
    rintro e w2 ⟨rfl, hb⟩
    have HBw2 := Lib.hid (HBw1.out.trans (hb.mono HBw1.out.size))
    have HAw2 := Lib.hid (HAw1.out.below hb)
    have HDw2 := Lib.hid (HDw1.out.below hb HDw1.out.lt)
    obtain ⟨c0, c1, c2⟩ := HDw2.out.cells
    clear hb
    go_wp2_with fail
    refine (rdays_ok y m d _ HV.out).mono ?_
    rintro e w3 ⟨rfl, hb⟩
    have HBw3 := Lib.hid (HBw2.out.trans (hb.mono HBw2.out.size))
    have HAw3 := Lib.hid (HAw2.out.below hb)
    have HDw3 := Lib.hid (HDw2.out.below hb HDw2.out.lt)
    obtain ⟨c0, c1, c2⟩ := HDw3.out.cells
    clear hb
    go_wp2_with fail
    refine (of_ok a b c _ HAw3.out HV2.out).mono ?_
    rintro e w4 ⟨rfl, hb⟩
    have HBw4 := Lib.hid (HBw3.out.trans (hb.mono HBw3.out.size))
    have HAw4 := Lib.hid (HAw3.out.below hb)
    clear hb
    go_wp2_with fail
    have HB5 := Lib.hid (HBw4.out.alloc HBw4.out.size (.cells #[.int .i64 (a), .int .i64 (b), .int .i64 (c)] 23))
    have HA5 := Lib.hid (HAw4.out.below ((Below.refl _ _).alloc (Nat.le_refl _) (.cells #[.int .i64 (a), .int .i64 (b), .int .i64 (c)] 23)))
    have HD5 := Lib.hid (Dt.new w4 (a) (b) (c))
    refine (rof_ok a b c _ HV2.out).mono ?_
    rintro e w6 ⟨rfl, hb⟩
    have HBw6 := Lib.hid (HB5.out.trans (hb.mono HB5.out.size))
    have HAw6 := Lib.hid (HA5.out.below hb)
    have HDw6 := Lib.hid (HD5.out.below hb HD5.out.lt)
    obtain ⟨c0, c1, c2⟩ := HDw6.out.cells
    clear hb
    have HB7 := Lib.hid (HBw6.out.alloc HBw6.out.size (.cells #[.int .i64 (a), .int .i64 (b), .int .i64 (c)] 23))
    have HA7 := Lib.hid (HAw6.out.below ((Below.refl _ _).alloc (Nat.le_refl _) (.cells #[.int .i64 (a), .int .i64 (b), .int .i64 (c)] 23)))
    have HD7 := Lib.hid (HDw6.out.alloc (.cells #[.int .i64 (a), .int .i64 (b), .int .i64 (c)] 23))
    have HD8 := Lib.hid (Dt.new w6 (a) (b) (c))
    go_wp2_with (first | refine wpList_load_dt rfl _ rfl (w4.heap.size) (by rfl) HD7.out ?_ | refine wpList_load_dt rfl _ rfl (w6.heap.size) (by rfl) HD8.out ?_)
    refine (awake_any _ HA7.out (HPw.out.below HB7.out)).mono ?_
    rintro e w8 ⟨rfl, hb⟩
    have HBw8 := Lib.hid (HB7.out.trans (hb.mono HB7.out.size))
    have HAw8 := Lib.hid (HA7.out.below hb)
    clear hb
    go_wp2_with fail
    go_ret
    exact ⟨rfl, HBw8.out⟩
  ·
    have HAw := Lib.hid hA
    have HPw := Lib.hid hP
    have HV := Lib.hid h
    have HV2 := Lib.hid h2
    clear hA hP h h2
    go_enter Tryd.func4, Tryd.ntmps4
    have HB0 := Lib.hid ((Below.refl w.heap.size w).alloc (Nat.le_refl _) (.cells #[.int .i64 y, .int .i64 m, .int .i64 d] 23))
    have HA0 := Lib.hid (HAw.out.below HB0.out)
    have HD0 := Lib.hid (Dt.new w y m d)
    go_wp2_with fail
    refine (days_no y m d _ HA0.out HV.out).mono ?_
    rintro e w1 ⟨rfl, hb⟩
    have HBw1 := Lib.hid (HB0.out.trans (hb.mono HB0.out.size))
    have HAw1 := Lib.hid (HA0.out.below hb)
    have HDw1 := Lib.hid (HD0.out.below hb HD0.out.lt)
    obtain ⟨c0, c1, c2⟩ := HDw1.out.cells
    clear hb
    go_wp2_with fail
    refine (right_no y m d _ HV.out).mono ?_
    rintro e w3 ⟨rfl, hb⟩
    have HBw3 := Lib.hid (HBw1.out.trans (hb.mono HBw1.out.size))
    have HAw3 := Lib.hid (HAw1.out.below hb)
    have HDw3 := Lib.hid (HDw1.out.below hb HDw1.out.lt)
    obtain ⟨c0, c1, c2⟩ := HDw3.out.cells
    clear hb
    go_wp2_with fail
    refine (of_ok a b c _ HAw3.out HV2.out).mono ?_
    rintro e w4 ⟨rfl, hb⟩
    have HBw4 := Lib.hid (HBw3.out.trans (hb.mono HBw3.out.size))
    have HAw4 := Lib.hid (HAw3.out.below hb)
    clear hb
    go_wp2_with fail
    have HB5 := Lib.hid (HBw4.out.alloc HBw4.out.size (.cells #[.int .i64 (a), .int .i64 (b), .int .i64 (c)] 23))
    have HA5 := Lib.hid (HAw4.out.below ((Below.refl _ _).alloc (Nat.le_refl _) (.cells #[.int .i64 (a), .int .i64 (b), .int .i64 (c)] 23)))
    have HD5 := Lib.hid (Dt.new w4 (a) (b) (c))
    refine (rof_ok a b c _ HV2.out).mono ?_
    rintro e w6 ⟨rfl, hb⟩
    have HBw6 := Lib.hid (HB5.out.trans (hb.mono HB5.out.size))
    have HAw6 := Lib.hid (HA5.out.below hb)
    have HDw6 := Lib.hid (HD5.out.below hb HD5.out.lt)
    obtain ⟨c0, c1, c2⟩ := HDw6.out.cells
    clear hb
    have HB7 := Lib.hid (HBw6.out.alloc HBw6.out.size (.cells #[.int .i64 (a), .int .i64 (b), .int .i64 (c)] 23))
    have HA7 := Lib.hid (HAw6.out.below ((Below.refl _ _).alloc (Nat.le_refl _) (.cells #[.int .i64 (a), .int .i64 (b), .int .i64 (c)] 23)))
    have HD7 := Lib.hid (HDw6.out.alloc (.cells #[.int .i64 (a), .int .i64 (b), .int .i64 (c)] 23))
    have HD8 := Lib.hid (Dt.new w6 (a) (b) (c))
    go_wp2_with (first | refine wpList_load_dt rfl _ rfl (w4.heap.size) (by rfl) HD7.out ?_ | refine wpList_load_dt rfl _ rfl (w6.heap.size) (by rfl) HD8.out ?_)
    refine (awake_any _ HA7.out (HPw.out.below HB7.out)).mono ?_
    rintro e w8 ⟨rfl, hb⟩
    have HBw8 := Lib.hid (HB7.out.trans (hb.mono HB7.out.size))
    have HAw8 := Lib.hid (HA7.out.below hb)
    clear hb
    go_wp2_with fail
    go_ret
    exact ⟨rfl, HBw8.out⟩
set_option maxHeartbeats 4000000 in
theorem walk_out (y m d n : Int) (w : World) (hA : Ahead w) (hP : Pow w) (hn : Fits n) (h2 : ¬ (-37243778 ≤ n ∧ n ≤ 35805087)) :
    Calls Tryd.prog 4 #[.agg #[.int .i64 y, .int .i64 m, .int .i64 d], .int .i64 n] w (One w) := by
  have HF := Lib.hid hn
  clear hn
  by_cases h : Valid y m d
  ·
    have HAw := Lib.hid hA
    have HPw := Lib.hid hP
    have HV := Lib.hid h
    have HV2 := Lib.hid h2
    clear hA hP h h2
    go_enter Tryd.func4, Tryd.ntmps4
    have HB0 := Lib.hid ((Below.refl w.heap.size w).alloc (Nat.le_refl _) (.cells #[.int .i64 y, .int .i64 m, .int .i64 d] 23))
    have HA0 := Lib.hid (HAw.out.below HB0.out)
    have HD0 := Lib.hid (Dt.new w y m d)
    go_wp2_with fail
    refine (days_ok y m d _ HA0.out HV.out).mono ?_
    rintro e w1 ⟨rfl, hb⟩
    have HBw1 := Lib.hid (HB0.out.trans (hb.mono HB0.out.size))
    have HAw1 := Lib.hid (HA0.out.below hb)
    have HDw1 := Lib.hid (HD0.out.below hb HD0.out.lt)
    obtain ⟨c0, c1, c2⟩ := HDw1.out.cells
    clear hb
    go_wp2_with fail
    refine (right_ok y m d _ HV.out).mono ?_
    rintro e w2 ⟨rfl, hb⟩
    have HBw2 := Lib.hid (HBw1.out.trans (hb.mono HBw1.out.size))
    have HAw2 := Lib.hid (HAw1.out.below hb)
    have HDw2 := Lib.hid (HDw1.out.below hb HDw1.out.lt)
    obtain ⟨c0, c1, c2⟩ := HDw2.out.cells
    clear hb
    go_wp2_with fail
    refine (rdays_ok y m d _ HV.out).mono ?_
    rintro e w3 ⟨rfl, hb⟩
    have HBw3 := Lib.hid (HBw2.out.trans (hb.mono HBw2.out.size))
    have HAw3 := Lib.hid (HAw2.out.below hb)
    have HDw3 := Lib.hid (HDw2.out.below hb HDw2.out.lt)
    obtain ⟨c0, c1, c2⟩ := HDw3.out.cells
    clear hb
    go_wp2_with fail
    refine (of_no n _ HF.out HV2.out).mono ?_
    rintro e w4 ⟨rfl, hb⟩
    have HBw4 := Lib.hid (HBw3.out.trans (hb.mono HBw3.out.size))
    have HAw4 := Lib.hid (HAw3.out.below hb)
    clear hb
    go_wp2_with fail
    have HB5 := Lib.hid (HBw4.out.alloc HBw4.out.size (.cells #[.int .i64 (0), .int .i64 (0), .int .i64 (0)] 23))
    have HA5 := Lib.hid (HAw4.out.below ((Below.refl _ _).alloc (Nat.le_refl _) (.cells #[.int .i64 (0), .int .i64 (0), .int .i64 (0)] 23)))
    have HD5 := Lib.hid (Dt.new w4 (0) (0) (0))
    refine (rof_no n _ HV2.out).mono ?_
    rintro e w6 ⟨rfl, hb⟩
    have HBw6 := Lib.hid (HB5.out.trans (hb.mono HB5.out.size))
    have HAw6 := Lib.hid (HA5.out.below hb)
    have HDw6 := Lib.hid (HD5.out.below hb HD5.out.lt)
    obtain ⟨c0, c1, c2⟩ := HDw6.out.cells
    clear hb
    have HB7 := Lib.hid (HBw6.out.alloc HBw6.out.size (.cells #[.int .i64 (0), .int .i64 (0), .int .i64 (0)] 23))
    have HA7 := Lib.hid (HAw6.out.below ((Below.refl _ _).alloc (Nat.le_refl _) (.cells #[.int .i64 (0), .int .i64 (0), .int .i64 (0)] 23)))
    have HD7 := Lib.hid (HDw6.out.alloc (.cells #[.int .i64 (0), .int .i64 (0), .int .i64 (0)] 23))
    have HD8 := Lib.hid (Dt.new w6 (0) (0) (0))
    go_wp2_with (first | refine wpList_load_dt rfl _ rfl (w4.heap.size) (by rfl) HD7.out ?_ | refine wpList_load_dt rfl _ rfl (w6.heap.size) (by rfl) HD8.out ?_)
    refine (awake_any _ HA7.out (HPw.out.below HB7.out)).mono ?_
    rintro e w8 ⟨rfl, hb⟩
    have HBw8 := Lib.hid (HB7.out.trans (hb.mono HB7.out.size))
    have HAw8 := Lib.hid (HA7.out.below hb)
    clear hb
    go_wp2_with fail
    go_ret
    exact ⟨rfl, HBw8.out⟩
  ·
    have HAw := Lib.hid hA
    have HPw := Lib.hid hP
    have HV := Lib.hid h
    have HV2 := Lib.hid h2
    clear hA hP h h2
    go_enter Tryd.func4, Tryd.ntmps4
    have HB0 := Lib.hid ((Below.refl w.heap.size w).alloc (Nat.le_refl _) (.cells #[.int .i64 y, .int .i64 m, .int .i64 d] 23))
    have HA0 := Lib.hid (HAw.out.below HB0.out)
    have HD0 := Lib.hid (Dt.new w y m d)
    go_wp2_with fail
    refine (days_no y m d _ HA0.out HV.out).mono ?_
    rintro e w1 ⟨rfl, hb⟩
    have HBw1 := Lib.hid (HB0.out.trans (hb.mono HB0.out.size))
    have HAw1 := Lib.hid (HA0.out.below hb)
    have HDw1 := Lib.hid (HD0.out.below hb HD0.out.lt)
    obtain ⟨c0, c1, c2⟩ := HDw1.out.cells
    clear hb
    go_wp2_with fail
    refine (right_no y m d _ HV.out).mono ?_
    rintro e w3 ⟨rfl, hb⟩
    have HBw3 := Lib.hid (HBw1.out.trans (hb.mono HBw1.out.size))
    have HAw3 := Lib.hid (HAw1.out.below hb)
    have HDw3 := Lib.hid (HDw1.out.below hb HDw1.out.lt)
    obtain ⟨c0, c1, c2⟩ := HDw3.out.cells
    clear hb
    go_wp2_with fail
    refine (of_no n _ HF.out HV2.out).mono ?_
    rintro e w4 ⟨rfl, hb⟩
    have HBw4 := Lib.hid (HBw3.out.trans (hb.mono HBw3.out.size))
    have HAw4 := Lib.hid (HAw3.out.below hb)
    clear hb
    go_wp2_with fail
    have HB5 := Lib.hid (HBw4.out.alloc HBw4.out.size (.cells #[.int .i64 (0), .int .i64 (0), .int .i64 (0)] 23))
    have HA5 := Lib.hid (HAw4.out.below ((Below.refl _ _).alloc (Nat.le_refl _) (.cells #[.int .i64 (0), .int .i64 (0), .int .i64 (0)] 23)))
    have HD5 := Lib.hid (Dt.new w4 (0) (0) (0))
    refine (rof_no n _ HV2.out).mono ?_
    rintro e w6 ⟨rfl, hb⟩
    have HBw6 := Lib.hid (HB5.out.trans (hb.mono HB5.out.size))
    have HAw6 := Lib.hid (HA5.out.below hb)
    have HDw6 := Lib.hid (HD5.out.below hb HD5.out.lt)
    obtain ⟨c0, c1, c2⟩ := HDw6.out.cells
    clear hb
    have HB7 := Lib.hid (HBw6.out.alloc HBw6.out.size (.cells #[.int .i64 (0), .int .i64 (0), .int .i64 (0)] 23))
    have HA7 := Lib.hid (HAw6.out.below ((Below.refl _ _).alloc (Nat.le_refl _) (.cells #[.int .i64 (0), .int .i64 (0), .int .i64 (0)] 23)))
    have HD7 := Lib.hid (HDw6.out.alloc (.cells #[.int .i64 (0), .int .i64 (0), .int .i64 (0)] 23))
    have HD8 := Lib.hid (Dt.new w6 (0) (0) (0))
    go_wp2_with (first | refine wpList_load_dt rfl _ rfl (w4.heap.size) (by rfl) HD7.out ?_ | refine wpList_load_dt rfl _ rfl (w6.heap.size) (by rfl) HD8.out ?_)
    refine (awake_any _ HA7.out (HPw.out.below HB7.out)).mono ?_
    rintro e w8 ⟨rfl, hb⟩
    have HBw8 := Lib.hid (HB7.out.trans (hb.mono HB7.out.size))
    have HAw8 := Lib.hid (HA7.out.below hb)
    clear hb
    go_wp2_with fail
    go_ret
    exact ⟨rfl, HBw8.out⟩
end Go.Proofs.YtokcbnmpdbbehaaDoor.civilDays
