/-
  THE LAW CivilWeeks, walked.
-/
import Derived.Test.YtokcbnmpdbbehaaDoorDigits
import Derived.Test.YtokcbnmpdbbehaaDoorPrintNo
namespace Go.Proofs.YtokcbnmpdbbehaaDoor.civilWeeks
open Go Go.RowKit CivM NumM

set_option maxHeartbeats 4000000 in
theorem rprint_ok (y m d : Int) (w : World) (h : Valid y m d) :
    Calls Tryd.prog 22 #[.agg #[.int .i64 y, .int .i64 m, .int .i64 d]] w fun e w' => e = .returned (.string ⟨(dtext y m d).toArray⟩) ∧ Below w.heap.size w w' := by
  obtain ⟨y1, y2, m1, m2, d1, d2⟩ := h
  go_enter Tryd.func22, Tryd.ntmps22
  have HB0 := Lib.hid ((Below.refl w.heap.size w).alloc (Nat.le_refl _) (.cells #[.int .i64 y, .int .i64 m, .int .i64 d] 23))
  have HD0 := Lib.hid (Dt.new w y m d)
  obtain ⟨c0, c1, c2⟩ := HD0.out.cells
  have ne := bw_ne (w.alloc (.cells #[.int .i64 y, .int .i64 m, .int .i64 d] 23))
  have C0 := bw_cell c0
  have C1 := bw_cell c1
  have C2 := bw_cell c2
  have G1 := Lib.hid (fun v => rdigits_any (max y (-y)) 4 v (by omega) (by omega) (by omega) (by omega))
  have G2 := Lib.hid (fun v => rdigits_any m 2 v (by omega) (by omega) (by omega) (by omega))
  have G3 := Lib.hid (fun v => rdigits_any d 2 v (by omega) (by have := dim_bd y m; omega) (by omega) (by omega))
  have l1 := pad_len (max y (-y)) 4 (by omega) (by omega) (by omega)
  have l2 := pad_len m 2 (by omega) (by omega) (by omega)
  have l3 := pad_len d 2 (by omega) (by have := dim_bd y m; omega) (by omega)
  have ED := Lib.hid (show dtext y m d = (if y < 0 then [45] else []) ++ pad (max y (-y)) 4 ++ [45] ++ pad m 2 ++ [45] ++ pad d 2 from rfl)
  generalize pad (max y (-y)) 4 = A at *
  generalize pad m 2 = B at *
  generalize pad d 2 = C at *
  by_cases hy : y < 0
  · rw [show max y (-y) = -y by omega] at G1
    go_wp2_with fail
    refine wp_region_bw (by kernel_rfl) (by kernel_rfl) ?_
    repeat (go_big_quiet_step (fail))
    go_big_quiet_step (exact calls_bw (G1.out _))
    repeat (go_big_quiet_step (fail))
    go_big_quiet_step (exact calls_bw (G2.out _))
    repeat (go_big_quiet_step (fail))
    go_big_quiet_step (exact calls_bw (G3.out _))
    repeat (go_big_quiet_step (fail))
    refine wpQuiet_nil ?_
    intro w9 hw9
    obtain ⟨v, rfl⟩ := hw9
    go_wp2_with fail
    go_ret
    exact ⟨by rw [ED.out]; simp [ba_app, hy], HB0.out.trans (v.2.mono HB0.out.size)⟩
  · rw [show max y (-y) = y by omega] at G1
    go_wp2_with fail
    refine wp_region_bw (by kernel_rfl) (by kernel_rfl) ?_
    repeat (go_big_quiet_step (fail))
    go_big_quiet_step (exact calls_bw (G1.out _))
    repeat (go_big_quiet_step (fail))
    go_big_quiet_step (exact calls_bw (G2.out _))
    repeat (go_big_quiet_step (fail))
    go_big_quiet_step (exact calls_bw (G3.out _))
    repeat (go_big_quiet_step (fail))
    refine wpQuiet_nil ?_
    intro w9 hw9
    obtain ⟨v, rfl⟩ := hw9
    go_wp2_with fail
    go_ret
    exact ⟨by rw [ED.out]; simp [ba_app, hy], HB0.out.trans (v.2.mono HB0.out.size)⟩
theorem wk (n : Int) : (n.tmod 7 + 11) % 7 = (n + 4) % 7 := by have := Int.mul_tdiv_add_tmod n 7; omega
set_option maxHeartbeats 4000000 in
theorem walk_ok (n y m d : Int) (w : World) (hA : Ahead w) (hP : Pow w) (hn : Fits n) (h : Valid y m d) :
    Calls Tryd.prog 5 #[.int .i64 n, .agg #[.int .i64 y, .int .i64 m, .int .i64 d]] w (One w) := by
  have HAw := Lib.hid hA
  have HPw := Lib.hid hP
  have HV := Lib.hid h
  have HF := Lib.hid hn
  have d1 : -7 < n.tmod 7 := Int.lt_tmod_of_pos n (by decide)
  have d2 : n.tmod 7 < 7 := Int.tmod_lt_of_pos n (by decide)
  clear hA hP h hn
  go_enter Tryd.func5, Tryd.ntmps5
  have HB0 := Lib.hid ((Below.refl w.heap.size w).alloc (Nat.le_refl _) (.cells #[.int .i64 y, .int .i64 m, .int .i64 d] 23))
  have HA0 := Lib.hid (HAw.out.below HB0.out)
  have HD0 := Lib.hid (Dt.new w y m d)
  go_wp2_with fail
  refine (print_ok y m d _ HA0.out (HPw.out.below HB0.out) HV.out).mono ?_
  rintro e w1 ⟨rfl, hb⟩
  have HBw1 := Lib.hid (HB0.out.trans (hb.mono HB0.out.size))
  have HAw1 := Lib.hid (HA0.out.below hb)
  have HDw1 := Lib.hid (HD0.out.below hb HD0.out.lt)
  obtain ⟨c0, c1, c2⟩ := HDw1.out.cells
  clear hb
  go_wp2_with fail
  refine (weekday_any n _ HF.out).mono ?_
  rintro e w' ⟨rfl, rfl⟩
  rw [← wk n]
  go_wp2_with fail
  refine (right_ok y m d _ HV.out).mono ?_
  rintro e w2 ⟨rfl, hb⟩
  have HBw2 := Lib.hid (HBw1.out.trans (hb.mono HBw1.out.size))
  have HAw2 := Lib.hid (HAw1.out.below hb)
  have HDw2 := Lib.hid (HDw1.out.below hb HDw1.out.lt)
  obtain ⟨c0, c1, c2⟩ := HDw2.out.cells
  clear hb
  go_wp2_with fail
  refine (rprint_ok y m d _ HV.out).mono ?_
  rintro e w3 ⟨rfl, hb⟩
  have HBw3 := Lib.hid (HBw2.out.trans (hb.mono HBw2.out.size))
  have HAw3 := Lib.hid (HAw2.out.below hb)
  have HDw3 := Lib.hid (HDw2.out.below hb HDw2.out.lt)
  obtain ⟨c0, c1, c2⟩ := HDw3.out.cells
  clear hb
  go_wp2_with fail
  refine (awake_any _ HAw3.out (HPw.out.below HBw3.out)).mono ?_
  rintro e w8 ⟨rfl, hb⟩
  have HBw8 := Lib.hid (HBw3.out.trans (hb.mono HBw3.out.size))
  have HAw8 := Lib.hid (HAw3.out.below hb)
  clear hb
  go_wp2_with fail
  go_ret
  exact ⟨rfl, HBw8.out⟩
set_option maxHeartbeats 4000000 in
theorem walk_no (n y m d : Int) (w : World) (hA : Ahead w) (hP : Pow w) (hn : Fits n) (h : ¬ Valid y m d) :
    Calls Tryd.prog 5 #[.int .i64 n, .agg #[.int .i64 y, .int .i64 m, .int .i64 d]] w (One w) := by
  have HAw := Lib.hid hA
  have HPw := Lib.hid hP
  have HV := Lib.hid h
  have HF := Lib.hid hn
  have d1 : -7 < n.tmod 7 := Int.lt_tmod_of_pos n (by decide)
  have d2 : n.tmod 7 < 7 := Int.tmod_lt_of_pos n (by decide)
  clear hA hP h hn
  go_enter Tryd.func5, Tryd.ntmps5
  have HB0 := Lib.hid ((Below.refl w.heap.size w).alloc (Nat.le_refl _) (.cells #[.int .i64 y, .int .i64 m, .int .i64 d] 23))
  have HA0 := Lib.hid (HAw.out.below HB0.out)
  have HD0 := Lib.hid (Dt.new w y m d)
  go_wp2_with fail
  refine (print_no y m d _ HA0.out HV.out).mono ?_
  rintro e w1 ⟨rfl, hb⟩
  have HBw1 := Lib.hid (HB0.out.trans (hb.mono HB0.out.size))
  have HAw1 := Lib.hid (HA0.out.below hb)
  have HDw1 := Lib.hid (HD0.out.below hb HD0.out.lt)
  obtain ⟨c0, c1, c2⟩ := HDw1.out.cells
  clear hb
  go_wp2_with fail
  refine (weekday_any n _ HF.out).mono ?_
  rintro e w' ⟨rfl, rfl⟩
  rw [← wk n]
  go_wp2_with fail
  refine (right_no y m d _ HV.out).mono ?_
  rintro e w2 ⟨rfl, hb⟩
  have HBw2 := Lib.hid (HBw1.out.trans (hb.mono HBw1.out.size))
  have HAw2 := Lib.hid (HAw1.out.below hb)
  have HDw2 := Lib.hid (HDw1.out.below hb HDw1.out.lt)
  obtain ⟨c0, c1, c2⟩ := HDw2.out.cells
  clear hb
  go_wp2_with fail
  refine (awake_any _ HAw2.out (HPw.out.below HBw2.out)).mono ?_
  rintro e w8 ⟨rfl, hb⟩
  have HBw8 := Lib.hid (HBw2.out.trans (hb.mono HBw2.out.size))
  have HAw8 := Lib.hid (HAw2.out.below hb)
  clear hb
  go_wp2_with fail
  go_ret
  exact ⟨rfl, HBw8.out⟩
end Go.Proofs.YtokcbnmpdbbehaaDoor.civilWeeks
